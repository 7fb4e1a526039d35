/- The trees of functions that may panic. (Printed by a tool; the kernel agrees.) -/
import Derived.Carry
import Derived.ChangeArms
import Derived.HandedShaped
import Derived.JoinedOf
import Derived.LaidMore
import Derived.OpenShut
import Derived.ProofKit
import Derived.Stop.Joined
import Derived.Test.YtfmlbimokklmgaaGreatDoorRows
import GoSem.ClaimJoined
import Derived.Test.YtfmlbimokklmgaaGreatDoorB15
set_option linter.all false
noncomputable section
set_option maxRecDepth 100000
namespace Go.Proofs
open Go Go.Am
variable [jC]
def nG (f:Nat):Bool:=bG f [29,41,42,43,46,47,48,57,58,59,60,68,69,73,75,89,90,91,96,110,112,117,135,151,161,168,180,181,187]
abbrev sG(E:fA)(f:Nat)(T:T)(m:Tr vA)(Q:fA):Prop:=oA yA.base (kF yA F gC nG E) (JqE yA F E f) T m Q
abbrev tK(E:fA)(f:Nat)(a:List zA)(m:Tr vA)(Q:fA):Prop:=dK yA F E f a m Q
abbrev xJ(E:fA)(f i:Nat)(a:List zA)(m:Tr vA)(Q:fA):Prop:=JqE yA F E f i a m Q
theorem pQ(f:Nat)(h:(gC f&&Nat.blt f yo)=true:=by kernel_rfl){E:fA}(a:List zA)(m:Tr vA)(R:fA):kF yA F gC nG E f a m R=xD (fB yA F f a m) fun v=>R v m:=yab h
theorem pW(f:Nat)(h:(gC f&&Nat.blt f yo)=false:=by kernel_rfl)(h1:Nat.beq f pn=false:=by kernel_rfl)(h2:(nG f&&Nat.blt f pn)=false:=by kernel_rfl){E:fA}(a:List zA)(m:Tr vA)(R:fA):kF yA F gC nG E f a m R=Wc yA F f a m R:=by unfold kF;rw[h,h1,h2];simp
theorem pE(f:Nat)(h:(gC f&&Nat.blt f yo)=false:=by kernel_rfl)(h1:Nat.beq f pn=false:=by kernel_rfl)(h2:(nG f&&Nat.blt f pn)=true:=by kernel_rfl){E:fA}(a:List zA)(m:Tr vA)(R:fA):kF yA F gC nG E f a m R=dK yA F E f a m R:=by unfold kF;rw[h,h1,h2];simp
theorem pX{E:fA}(v:zA)(m:Tr vA)(R:fA)(h:E v m):kF yA F gC nG E pn [v] m R:=by unfold kF;rw[show(gC pn&&Nat.blt pn yo)=false by kernel_rfl,show Nat.beq pn pn=true by kernel_rfl];simp[h]
def t41 (p0:zA):T:=
 .call 42 [p0] fun a0=>
 .asG [(.int .u8 0),(.str []),(.int .u8 0),(.bool false),.nilslice,(.bool false),.nilslice,(.int .i64 0),.nilslice] a0 fun X1=>
 .ite (cB zA.one [(.int .u8 (X1.i 0)),(.str (X1.s 1)),(.int .u8 (X1.i 2)),(.bool (X1.b 3)),(X1.v 4),(.bool (X1.b 5)),(X1.v 6),(.int .i64 (X1.i 7)),(X1.v 8)]) (.call 43 [p0] fun a2=>
 .ite (cB zA.one [(.int .u8 (X1.i 0)),(.str (X1.s 1)),(.int .u8 (X1.i 2)),(.bool (X1.b 3)),(X1.v 4),(.bool (X1.b 5)),(X1.v 6),(.int .i64 (X1.i 7)),(X1.v 8)]) (.ret (.agg [(.int .u8 (X1.i 0)),(.str (X1.s 1)),(.int .u8 (X1.i 2)),(.bool (X1.b 3)),(X1.v 4),(.bool (X1.b 5)),(X1.v 6),(.int .i64 (X1.i 7)),(X1.v 8)])) .fail) .fail
theorem e41(p0:zA):dI yA (fo 41) (ko 41) 41 (ao 41) [p0]=t41 p0:=by kernel_rfl
theorem w41(p0:zA){E:fA}{m:Tr vA}{Q:fA}(h:sG E 41 (t41 p0) m Q):tK E 41 [p0] m Q:=gJ (vG (by kernel_rfl)) wG (dF 41) (.inr (by kernel_rfl)) (by kernel_rfl) (by rw[e41];exact h)
def t42 (p0:zA):T:=
 .ite true (.heavy (oD yA 161 1 [(0,(.agg [(.str [111,114]),(.int .u8 16)]))]) fun a0=>
 .call 68 [p0,(.func (.func 69) [p0] []),a0] fun a1=>
 .asG [(.int .u8 0),(.str []),(.int .u8 0),(.bool false),.nilslice,(.bool false),.nilslice,(.int .i64 0),.nilslice] a1 fun X2=>
 .ite (cB zA.one [(.int .u8 (X2.i 0)),(.str (X2.s 1)),(.int .u8 (X2.i 2)),(.bool (X2.b 3)),(X2.v 4),(.bool (X2.b 5)),(X2.v 6),(.int .i64 (X2.i 7)),(X2.v 8)]) (.ret (.agg [(.int .u8 (X2.i 0)),(.str (X2.s 1)),(.int .u8 (X2.i 2)),(.bool (X2.b 3)),(X2.v 4),(.bool (X2.b 5)),(X2.v 6),(.int .i64 (X2.i 7)),(X2.v 8)])) .fail) .fail
theorem e42(p0:zA):dI yA (fo 42) (ko 42) 42 (ao 42) [p0]=t42 p0:=by kernel_rfl
theorem w42(p0:zA){E:fA}{m:Tr vA}{Q:fA}(h:sG E 42 (t42 p0) m Q):tK E 42 [p0] m Q:=gJ (vG (by kernel_rfl)) wG (dF 42) (.inr (by kernel_rfl)) (by kernel_rfl) (by rw[e42];exact h)
def t43 (p0:zA):T:=
 .call 59 [p0,(.int .u8 5)] fun a0=>
 .asG [(.int .u8 0),(.str []),(.int .i64 0),(.int .i64 0)] a0 fun X1=>
 .opt (kL p0) fun a2=>.opt (tD yA 121 1 a2) fun a3=>.light (fun m=>iA yA 3 ⟨0,m⟩ a3) fun a4=>.asI .i64 a4 fun n5=>.opt (kL p0) fun a6=>.opt (tD yA 121 0 a6) fun a7=>.light (fun m=>iA yA 66 ⟨0,m⟩ a7) fun a8=>.opt (mC a8) fun a9=>.asI .i64 a9 fun n10=>.ite (yC n5 n10)
 (.call 48 [p0,(.int .i64 120)] fun a11=>
 .ret (.tup []))
 (.ret (.tup []))
theorem e43(p0:zA):dI yA (fo 43) (ko 43) 43 (ao 43) [p0]=t43 p0:=by kernel_rfl
theorem w43(p0:zA){E:fA}{m:Tr vA}{Q:fA}(h:sG E 43 (t43 p0) m Q):tK E 43 [p0] m Q:=gJ (vG (by kernel_rfl)) wG (dF 43) (.inr (by kernel_rfl)) (by kernel_rfl) (by rw[e43];exact h)
def t47 (p0:zA):T:=
 .call 71 [p0] fun a0=>
 .asG [(.int .u8 0),(.str []),(.int .i64 0),(.int .i64 0)] a0 fun X1=>
 .ite true (.call 72 [p0,(.str [116,114,117,101])] fun a2=>
 .asB a2 fun b3=>.ite b3
 (.ite true (.ite true (.ret (.tup [(.agg [(.int .u8 1),(.bool false),.nilslice,(.bool false),.nilslice,(.int .i64 1)]),(.bool true)])) .fail) .fail)
 (.call 72 [p0,(.str [102,97,108,115,101])] fun a4=>
 .asB a4 fun b5=>.ite b5
 (.ite true (.ite true (.ret (.tup [(.agg [(.int .u8 1),(.bool false),.nilslice,(.bool false),.nilslice,(.int .i64 0)]),(.bool true)])) .fail) .fail)
 (.ite (tC (X1.i 0) 3)
 (.call 73 [p0] fun a6=>
 .asI .i64 a6 fun n7=>.ite true (.ite true (.ret (.tup [(.agg [(.int .u8 4),(.bool false),.nilslice,(.bool false),.nilslice,(.int .i64 n7)]),(.bool true)])) .fail) .fail)
 (.call 72 [p0,(.str [109,111,110,101,121])] fun a8=>
 .asB a8 fun b9=>.ite b9
 (.call 72 [p0,(.str [109,105,110,117,115])] fun a10=>
 .asB a10 fun b11=>.call 59 [p0,(.int .u8 2)] fun a12=>
 .asG [(.int .u8 0),(.str []),(.int .i64 0),(.int .i64 0)] a12 fun X13=>
 .call 74 [(.str (X13.s 1)),(.bool b11)] fun a14=>
 .asG [(.bool false),.nilslice,(.bool false),.nilslice] a14 fun X15=>
 .ite true (.ite (cB zA.one [(.int .u8 3),(.bool (X15.b 0)),(X15.v 1),(.bool (X15.b 2)),(X15.v 3),(.int .i64 0)]) (.ret (.tup [(.agg [(.int .u8 3),(.bool (X15.b 0)),(X15.v 1),(.bool (X15.b 2)),(X15.v 3),(.int .i64 0)]),(.bool true)])) .fail) .fail)
 (.call 72 [p0,(.str [109,105,110,117,115])] fun a16=>
 .asB a16 fun b17=>.ite b17
 (.call 75 [p0,(.bool true)] fun a18=>
 .asG [(.int .u8 0),(.bool false),.nilslice,(.bool false),.nilslice,(.int .i64 0)] a18 fun X19=>
 .ite (cB zA.one [(.int .u8 (X19.i 0)),(.bool (X19.b 1)),(X19.v 2),(.bool (X19.b 3)),(X19.v 4),(.int .i64 (X19.i 5))]) (.ret (.tup [(.agg [(.int .u8 (X19.i 0)),(.bool (X19.b 1)),(X19.v 2),(.bool (X19.b 3)),(X19.v 4),(.int .i64 (X19.i 5))]),(.bool true)])) .fail)
 (.ite (tC (X1.i 0) 2)
 (.call 75 [p0,(.bool false)] fun a20=>
 .asG [(.int .u8 0),(.bool false),.nilslice,(.bool false),.nilslice,(.int .i64 0)] a20 fun X21=>
 .ite (cB zA.one [(.int .u8 (X21.i 0)),(.bool (X21.b 1)),(X21.v 2),(.bool (X21.b 3)),(X21.v 4),(.int .i64 (X21.i 5))]) (.ret (.tup [(.agg [(.int .u8 (X21.i 0)),(.bool (X21.b 1)),(X21.v 2),(.bool (X21.b 3)),(X21.v 4),(.int .i64 (X21.i 5))]),(.bool true)])) .fail)
 (.ite true (.ite true (.ret (.tup [(.agg [(.int .u8 0),(.bool false),.nilslice,(.bool false),.nilslice,(.int .i64 0)]),(.bool false)])) .fail) .fail))))))) .fail
theorem e47(p0:zA):dI yA (fo 47) (ko 47) 47 (ao 47) [p0]=t47 p0:=by kernel_rfl
theorem w47(p0:zA){E:fA}{m:Tr vA}{Q:fA}(h:sG E 47 (t47 p0) m Q):tK E 47 [p0] m Q:=gJ (vG (by kernel_rfl)) wG (dF 47) (.inr (by kernel_rfl)) (by kernel_rfl) (by rw[e47];exact h)
def t48 (p0:zA)(p1:Int):T:=
 .call 71 [p0] fun a0=>
 .asG [(.int .u8 0),(.str []),(.int .i64 0),(.int .i64 0)] a0 fun X1=>
 .ite true (.call pn [(.iface 123 (.agg [(.int .i64 (X1.i 2)),(.int .i64 (X1.i 3)),(.int .i64 p1)]))] fun a2=>
 .ret (.tup [])) .fail
theorem e48(p0:zA)(p1:Int):dI yA (fo 48) (ko 48) 48 (ao 48) [p0,(.int .i64 p1)]=t48 p0 p1:=by kernel_rfl
theorem w48(p0:zA)(p1:Int){E:fA}{m:Tr vA}{Q:fA}(h:sG E 48 (t48 p0 p1) m Q):tK E 48 [p0,(.int .i64 p1)] m Q:=gJ (vG (by kernel_rfl)) wG (dF 48) (.inr (by kernel_rfl)) (by kernel_rfl) (by rw[e48];exact h)
def t57 (p0:zA)(p1:zA):T:=
 .opt (mC p1) fun a0=>.asI .i64 a0 fun n1=>.jump 2 [p0,p1,(.int .i64 n1),(.int .i64 0)]
theorem e57(p0:zA)(p1:zA):dI yA (fo 57) (ko 57) 57 (ao 57) [p0,p1]=t57 p0 p1:=by kernel_rfl
theorem w57(p0:zA)(p1:zA){E:fA}{m:Tr vA}{Q:fA}(h:sG E 57 (t57 p0 p1) m Q):tK E 57 [p0,p1] m Q:=gJ (vG (by kernel_rfl)) wG (dF 57) (.inr (by kernel_rfl)) (by kernel_rfl) (by rw[e57];exact h)
def Ms(v0:zA)(v6:zA)(v7:Int)(v8:Int):T:=
 .ite (yC v8 v7)
 (.opt (aB yA 93 v6 (.int .i64 v8)) fun a0=>.light (fun m=>iA yA 9 ⟨0,m⟩ a0) fun a1=>.asS a1 fun s2=>.call 72 [v0,(.str s2)] fun a3=>
 .asB a3 fun b4=>.ite (!b4)
 (.call 48 [v0,(.int .i64 120)] fun a5=>
 .jump 2 [v0,v6,(.int .i64 v7),(.int .i64 (lA .i64 (v8+1)))])
 (.jump 2 [v0,v6,(.int .i64 v7),(.int .i64 (lA .i64 (v8+1)))]))
 (.ret (.tup []))
theorem e57_2(v0:zA)(v6:zA)(v7:Int)(v8:Int):zL (pM yA (fo 57) (ko 57) 57 (ao 57)) 2 [v0,v6,(.int .i64 v7),(.int .i64 v8)]=[Ms v0 v6 v7 v8]:=by kernel_rfl
theorem j57_2(v0:zA)(v6:zA)(v7:Int)(v8:Int){E:fA}{m:Tr vA}{Q:fA}(h:sG E 57 (Ms v0 v6 v7 v8) m Q):xJ E 57 2 [v0,v6,(.int .i64 v7),(.int .i64 v8)] m Q:=mP (vG (by kernel_rfl)) wG (dF 57) (.inr (by kernel_rfl)) (e57_2 v0 v6 v7 v8) h
def t58 (p0:zA):T:=
 .call 88 [p0] fun a0=>
 .asB a0 fun b1=>.ite (!b1)
 (.call 48 [p0,(.int .i64 120)] fun a2=>
 .call 59 [p0,(.int .u8 1)] fun a3=>
 .asG [(.int .u8 0),(.str []),(.int .i64 0),(.int .i64 0)] a3 fun X4=>
 .ret (.str (X4.s 1)))
 (.call 59 [p0,(.int .u8 1)] fun a5=>
 .asG [(.int .u8 0),(.str []),(.int .i64 0),(.int .i64 0)] a5 fun X6=>
 .ret (.str (X6.s 1)))
theorem e58(p0:zA):dI yA (fo 58) (ko 58) 58 (ao 58) [p0]=t58 p0:=by kernel_rfl
theorem w58(p0:zA){E:fA}{m:Tr vA}{Q:fA}(h:sG E 58 (t58 p0) m Q):tK E 58 [p0] m Q:=gJ (vG (by kernel_rfl)) wG (dF 58) (.inr (by kernel_rfl)) (by kernel_rfl) (by rw[e58];exact h)
def t59 (p0:zA)(p1:Int):T:=
 .call 71 [p0] fun a0=>
 .asG [(.int .u8 0),(.str []),(.int .i64 0),(.int .i64 0)] a0 fun X1=>
 .ite true (.ite (!tC (X1.i 0) p1)
 (.call 48 [p0,(.int .i64 120)] fun a2=>
 .jump 9 [p0,(.int .u8 0),(.str []),(.int .i64 0),(.int .i64 0),(.int .u8 (X1.i 0)),(.str (X1.s 1)),(.int .i64 (X1.i 2)),(.int .i64 (X1.i 3))])
 (.jump 9 [p0,(.int .u8 0),(.str []),(.int .i64 0),(.int .i64 0),(.int .u8 (X1.i 0)),(.str (X1.s 1)),(.int .i64 (X1.i 2)),(.int .i64 (X1.i 3))])) .fail
theorem e59(p0:zA)(p1:Int):dI yA (fo 59) (ko 59) 59 (ao 59) [p0,(.int .u8 p1)]=t59 p0 p1:=by kernel_rfl
theorem w59(p0:zA)(p1:Int){E:fA}{m:Tr vA}{Q:fA}(h:sG E 59 (t59 p0 p1) m Q):tK E 59 [p0,(.int .u8 p1)] m Q:=gJ (vG (by kernel_rfl)) wG (dF 59) (.inr (by kernel_rfl)) (by kernel_rfl) (by rw[e59];exact h)
def Sv(v0:zA)(c4_0:Int)(c4_1:List Nat)(c4_2:Int)(c4_3:Int)(c5_0:Int)(c5_1:List Nat)(c5_2:Int)(c5_3:Int):T:=
 .opt (kL v0) fun a0=>.opt (tD yA 121 1 a0) fun a1=>.light (fun m=>iA yA 3 ⟨0,m⟩ a1) fun a2=>.asI .i64 a2 fun n3=>.opt (kL v0) fun a4=>.opt (tD yA 121 1 a4) fun a5=>.heavy (uC yA 3 a5 (.int .i64 (lA .i64 (n3+1)))) fun _=>
 .ite true (.ret (.agg [(.int .u8 c5_0),(.str c5_1),(.int .i64 c5_2),(.int .i64 c5_3)])) .fail
theorem e59_9(v0:zA)(c4_0:Int)(c4_1:List Nat)(c4_2:Int)(c4_3:Int)(c5_0:Int)(c5_1:List Nat)(c5_2:Int)(c5_3:Int):zL (pM yA (fo 59) (ko 59) 59 (ao 59)) 9 [v0,(.int .u8 c4_0),(.str c4_1),(.int .i64 c4_2),(.int .i64 c4_3),(.int .u8 c5_0),(.str c5_1),(.int .i64 c5_2),(.int .i64 c5_3)]=[Sv v0 c4_0 c4_1 c4_2 c4_3 c5_0 c5_1 c5_2 c5_3]:=by kernel_rfl
theorem j59_9(v0:zA)(c4_0:Int)(c4_1:List Nat)(c4_2:Int)(c4_3:Int)(c5_0:Int)(c5_1:List Nat)(c5_2:Int)(c5_3:Int){E:fA}{m:Tr vA}{Q:fA}(h:sG E 59 (Sv v0 c4_0 c4_1 c4_2 c4_3 c5_0 c5_1 c5_2 c5_3) m Q):xJ E 59 9 [v0,(.int .u8 c4_0),(.str c4_1),(.int .i64 c4_2),(.int .i64 c4_3),(.int .u8 c5_0),(.str c5_1),(.int .i64 c5_2),(.int .i64 c5_3)] m Q:=mP (vG (by kernel_rfl)) wG (dF 59) (.inr (by kernel_rfl)) (e59_9 v0 c4_0 c4_1 c4_2 c4_3 c5_0 c5_1 c5_2 c5_3) h
def t68 (p0:zA)(p1:zA)(p2:zA):T:=
 .callv p1 [] fun a0=>
 .asG [(.int .u8 0),(.str []),(.int .u8 0),(.bool false),.nilslice,(.bool false),.nilslice,(.int .i64 0),.nilslice] a0 fun X1=>
 .ite (cB zA.one [(.int .u8 (X1.i 0)),(.str (X1.s 1)),(.int .u8 (X1.i 2)),(.bool (X1.b 3)),(X1.v 4),(.bool (X1.b 5)),(X1.v 6),(.int .i64 (X1.i 7)),(X1.v 8)]) (.jump 2 [p0,p1,p2,(.int .u8 0),(.str []),(.int .u8 0),(.bool false),.nilslice,(.bool false),.nilslice,(.int .i64 0),.nilslice,(.int .u8 (X1.i 0)),(.str (X1.s 1)),(.int .u8 (X1.i 2)),(.bool (X1.b 3)),(X1.v 4),(.bool (X1.b 5)),(X1.v 6),(.int .i64 (X1.i 7)),(X1.v 8)]) .fail
theorem e68(p0:zA)(p1:zA)(p2:zA):dI yA (fo 68) (ko 68) 68 (ao 68) [p0,p1,p2]=t68 p0 p1 p2:=by kernel_rfl
theorem w68(p0:zA)(p1:zA)(p2:zA){E:fA}{m:Tr vA}{Q:fA}(h:sG E 68 (t68 p0 p1 p2) m Q):tK E 68 [p0,p1,p2] m Q:=gJ (vG (by kernel_rfl)) wG (dF 68) (.inr (by kernel_rfl)) (by kernel_rfl) (by rw[e68];exact h)
def Mq(v0:zA)(v1:zA)(v2:zA)(c6_0:Int)(c6_1:List Nat)(c6_2:Int)(c6_3:Bool)(c6_4:zA)(c6_5:Bool)(c6_6:zA)(c6_7:Int)(c6_8:zA)(c7_0:Int)(c7_1:List Nat)(c7_2:Int)(c7_3:Bool)(c7_4:zA)(c7_5:Bool)(c7_6:zA)(c7_7:Int)(c7_8:zA):T:=
 .call 95 [v0,v2] fun a0=>
 .opt (wH 0 a0) fun a1=>.asI .u8 a1 fun n2=>.opt (wH 1 a0) fun a3=>.asB a3 fun b4=>.ite (!b4)
 (.ite (cB zA.one [(.int .u8 c7_0),(.str c7_1),(.int .u8 c7_2),(.bool c7_3),c7_4,(.bool c7_5),c7_6,(.int .i64 c7_7),c7_8]) (.ret (.agg [(.int .u8 c7_0),(.str c7_1),(.int .u8 c7_2),(.bool c7_3),c7_4,(.bool c7_5),c7_6,(.int .i64 c7_7),c7_8])) .fail)
 (.callv v1 [] fun a5=>
 .asG [(.int .u8 0),(.str []),(.int .u8 0),(.bool false),.nilslice,(.bool false),.nilslice,(.int .i64 0),.nilslice] a5 fun X6=>
 .ite (cB zA.one [(.int .u8 (X6.i 0)),(.str (X6.s 1)),(.int .u8 (X6.i 2)),(.bool (X6.b 3)),(X6.v 4),(.bool (X6.b 5)),(X6.v 6),(.int .i64 (X6.i 7)),(X6.v 8)]) (.heavy (oD yA 48 2 [(0,(.agg [(.int .u8 c7_0),(.str c7_1),(.int .u8 c7_2),(.bool c7_3),c7_4,(.bool c7_5),c7_6,(.int .i64 c7_7),c7_8])),(1,(.agg [(.int .u8 (X6.i 0)),(.str (X6.s 1)),(.int .u8 (X6.i 2)),(.bool (X6.b 3)),(X6.v 4),(.bool (X6.b 5)),(X6.v 6),(.int .i64 (X6.i 7)),(X6.v 8)]))]) fun a7=>
 .ite (cB zA.one [(.int .u8 n2),a7]) (.ite (cB zA.one [(.int .u8 n2),(.str []),(.int .u8 0),(.bool false),.nilslice,(.bool false),.nilslice,(.int .i64 0),a7]) (.jump 2 [v0,v1,v2,(.int .u8 c6_0),(.str c6_1),(.int .u8 c6_2),(.bool c6_3),c6_4,(.bool c6_5),c6_6,(.int .i64 c6_7),c6_8,(.int .u8 n2),(.str []),(.int .u8 0),(.bool false),.nilslice,(.bool false),.nilslice,(.int .i64 0),a7]) .fail) .fail) .fail)
theorem e68_2(v0:zA)(v1:zA)(v2:zA)(c6_0:Int)(c6_1:List Nat)(c6_2:Int)(c6_3:Bool)(c6_4:zA)(c6_5:Bool)(c6_6:zA)(c6_7:Int)(c6_8:zA)(c7_0:Int)(c7_1:List Nat)(c7_2:Int)(c7_3:Bool)(c7_4:zA)(c7_5:Bool)(c7_6:zA)(c7_7:Int)(c7_8:zA):zL (pM yA (fo 68) (ko 68) 68 (ao 68)) 2 [v0,v1,v2,(.int .u8 c6_0),(.str c6_1),(.int .u8 c6_2),(.bool c6_3),c6_4,(.bool c6_5),c6_6,(.int .i64 c6_7),c6_8,(.int .u8 c7_0),(.str c7_1),(.int .u8 c7_2),(.bool c7_3),c7_4,(.bool c7_5),c7_6,(.int .i64 c7_7),c7_8]=[Mq v0 v1 v2 c6_0 c6_1 c6_2 c6_3 c6_4 c6_5 c6_6 c6_7 c6_8 c7_0 c7_1 c7_2 c7_3 c7_4 c7_5 c7_6 c7_7 c7_8]:=by kernel_rfl
theorem j68_2(v0:zA)(v1:zA)(v2:zA)(c6_0:Int)(c6_1:List Nat)(c6_2:Int)(c6_3:Bool)(c6_4:zA)(c6_5:Bool)(c6_6:zA)(c6_7:Int)(c6_8:zA)(c7_0:Int)(c7_1:List Nat)(c7_2:Int)(c7_3:Bool)(c7_4:zA)(c7_5:Bool)(c7_6:zA)(c7_7:Int)(c7_8:zA){E:fA}{m:Tr vA}{Q:fA}(h:sG E 68 (Mq v0 v1 v2 c6_0 c6_1 c6_2 c6_3 c6_4 c6_5 c6_6 c6_7 c6_8 c7_0 c7_1 c7_2 c7_3 c7_4 c7_5 c7_6 c7_7 c7_8) m Q):xJ E 68 2 [v0,v1,v2,(.int .u8 c6_0),(.str c6_1),(.int .u8 c6_2),(.bool c6_3),c6_4,(.bool c6_5),c6_6,(.int .i64 c6_7),c6_8,(.int .u8 c7_0),(.str c7_1),(.int .u8 c7_2),(.bool c7_3),c7_4,(.bool c7_5),c7_6,(.int .i64 c7_7),c7_8] m Q:=mP (vG (by kernel_rfl)) wG (dF 68) (.inr (by kernel_rfl)) (e68_2 v0 v1 v2 c6_0 c6_1 c6_2 c6_3 c6_4 c6_5 c6_6 c6_7 c6_8 c7_0 c7_1 c7_2 c7_3 c7_4 c7_5 c7_6 c7_7 c7_8) h
def t69 (p0:zA):T:=
 .ite true (.heavy (oD yA 161 1 [(0,(.agg [(.str [97,110,100]),(.int .u8 15)]))]) fun a0=>
 .call 68 [p0,(.func (.func 96) [p0] []),a0] fun a1=>
 .asG [(.int .u8 0),(.str []),(.int .u8 0),(.bool false),.nilslice,(.bool false),.nilslice,(.int .i64 0),.nilslice] a1 fun X2=>
 .ite (cB zA.one [(.int .u8 (X2.i 0)),(.str (X2.s 1)),(.int .u8 (X2.i 2)),(.bool (X2.b 3)),(X2.v 4),(.bool (X2.b 5)),(X2.v 6),(.int .i64 (X2.i 7)),(X2.v 8)]) (.ret (.agg [(.int .u8 (X2.i 0)),(.str (X2.s 1)),(.int .u8 (X2.i 2)),(.bool (X2.b 3)),(X2.v 4),(.bool (X2.b 5)),(X2.v 6),(.int .i64 (X2.i 7)),(X2.v 8)])) .fail) .fail
theorem e69(p0:zA):dI yA (fo 69) (ko 69) 69 (ao 69) [p0]=t69 p0:=by kernel_rfl
theorem w69(p0:zA){E:fA}{m:Tr vA}{Q:fA}(h:sG E 69 (t69 p0) m Q):tK E 69 [p0] m Q:=gJ (vG (by kernel_rfl)) wG (dF 69) (.inr (by kernel_rfl)) (by kernel_rfl) (by rw[e69];exact h)
def t73 (p0:zA):T:=
 .call 59 [p0,(.int .u8 3)] fun a0=>
 .asG [(.int .u8 0),(.str []),(.int .i64 0),(.int .i64 0)] a0 fun X1=>
 .call 97 [(.str (X1.s 1))] fun a2=>
 .opt (wH 0 a2) fun a3=>.asI .i64 a3 fun n4=>.opt (wH 1 a2) fun a5=>.asI .i64 a5 fun n6=>.ret (.int .i64 n4)
theorem e73(p0:zA):dI yA (fo 73) (ko 73) 73 (ao 73) [p0]=t73 p0:=by kernel_rfl
theorem w73(p0:zA){E:fA}{m:Tr vA}{Q:fA}(h:sG E 73 (t73 p0) m Q):tK E 73 [p0] m Q:=gJ (vG (by kernel_rfl)) wG (dF 73) (.inr (by kernel_rfl)) (by kernel_rfl) (by rw[e73];exact h)
def t75 (p0:zA)(p1:Bool):T:=
 .opt (kL p0) fun a0=>.opt (tD yA 121 1 a0) fun a1=>.light (fun m=>iA yA 3 ⟨0,m⟩ a1) fun a2=>.asI .i64 a2 fun n3=>.call 59 [p0,(.int .u8 2)] fun a4=>
 .asG [(.int .u8 0),(.str []),(.int .i64 0),(.int .i64 0)] a4 fun X5=>
 .ite true (.opt (kL p0) fun a6=>.opt (tD yA 121 1 a6) fun a7=>.light (fun m=>iA yA 3 ⟨0,m⟩ a7) fun a8=>.asI .i64 a8 fun n9=>.call 72 [p0,(.str [100,97,121,115])] fun a10=>
 .asB a10 fun b11=>.ite b11
 (.jump 21 [p0,(.bool p1),(.int .i64 n3),(.int .u8 5),(.int .i64 n9),(.int .u8 0),(.bool false),.nilslice,(.bool false),.nilslice,(.int .i64 0),(.int .u8 (X5.i 0)),(.str (X5.s 1)),(.int .i64 (X5.i 2)),(.int .i64 (X5.i 3))])
 (.call 72 [p0,(.str [109,111,110,116,104,115])] fun a12=>
 .asB a12 fun b13=>.ite b13
 (.jump 21 [p0,(.bool p1),(.int .i64 n3),(.int .u8 6),(.int .i64 n9),(.int .u8 0),(.bool false),.nilslice,(.bool false),.nilslice,(.int .i64 0),(.int .u8 (X5.i 0)),(.str (X5.s 1)),(.int .i64 (X5.i 2)),(.int .i64 (X5.i 3))])
 (.call 74 [(.str (X5.s 1)),(.bool p1)] fun a14=>
 .asG [(.bool false),.nilslice,(.bool false),.nilslice] a14 fun X15=>
 .ite true (.ite (cB zA.one [(.int .u8 2),(.bool (X15.b 0)),(X15.v 1),(.bool (X15.b 2)),(X15.v 3),(.int .i64 0)]) (.ret (.agg [(.int .u8 2),(.bool (X15.b 0)),(X15.v 1),(.bool (X15.b 2)),(X15.v 3),(.int .i64 0)])) .fail) .fail))) .fail
theorem e75(p0:zA)(p1:Bool):dI yA (fo 75) (ko 75) 75 (ao 75) [p0,(.bool p1)]=t75 p0 p1:=by kernel_rfl
theorem w75(p0:zA)(p1:Bool){E:fA}{m:Tr vA}{Q:fA}(h:sG E 75 (t75 p0 p1) m Q):tK E 75 [p0,(.bool p1)] m Q:=gJ (vG (by kernel_rfl)) wG (dF 75) (.inr (by kernel_rfl)) (by kernel_rfl) (by rw[e75];exact h)
def Su(v0:zA)(v1:Bool)(v5:Int)(v7:Int)(v8:Int)(c4_0:Int)(c4_1:Bool)(c4_2:zA)(c4_3:Bool)(c4_4:zA)(c4_5:Int)(c6_0:Int)(c6_1:List Nat)(c6_2:Int)(c6_3:Int):T:=
 .call 66 [(.str c6_1),(.str [47])] fun a0=>
 .asB a0 fun b1=>.ite b1
 (.opt (kL v0) fun a2=>.opt (tD yA 121 1 a2) fun a3=>.heavy (uC yA 3 a3 (.int .i64 v8)) fun _=>
 .call 48 [v0,(.int .i64 120)] fun a4=>
 .jump 27 [v0,(.bool v1),(.int .i64 v5),(.int .u8 v7),(.int .u8 c4_0),(.bool c4_1),c4_2,(.bool c4_3),c4_4,(.int .i64 c4_5),(.int .u8 c6_0),(.str c6_1),(.int .i64 c6_2),(.int .i64 c6_3)])
 (.jump 27 [v0,(.bool v1),(.int .i64 v5),(.int .u8 v7),(.int .u8 c4_0),(.bool c4_1),c4_2,(.bool c4_3),c4_4,(.int .i64 c4_5),(.int .u8 c6_0),(.str c6_1),(.int .i64 c6_2),(.int .i64 c6_3)])
theorem e75_21(v0:zA)(v1:Bool)(v5:Int)(v7:Int)(v8:Int)(c4_0:Int)(c4_1:Bool)(c4_2:zA)(c4_3:Bool)(c4_4:zA)(c4_5:Int)(c6_0:Int)(c6_1:List Nat)(c6_2:Int)(c6_3:Int):zL (pM yA (fo 75) (ko 75) 75 (ao 75)) 21 [v0,(.bool v1),(.int .i64 v5),(.int .u8 v7),(.int .i64 v8),(.int .u8 c4_0),(.bool c4_1),c4_2,(.bool c4_3),c4_4,(.int .i64 c4_5),(.int .u8 c6_0),(.str c6_1),(.int .i64 c6_2),(.int .i64 c6_3)]=[Su v0 v1 v5 v7 v8 c4_0 c4_1 c4_2 c4_3 c4_4 c4_5 c6_0 c6_1 c6_2 c6_3]:=by kernel_rfl
theorem j75_21(v0:zA)(v1:Bool)(v5:Int)(v7:Int)(v8:Int)(c4_0:Int)(c4_1:Bool)(c4_2:zA)(c4_3:Bool)(c4_4:zA)(c4_5:Int)(c6_0:Int)(c6_1:List Nat)(c6_2:Int)(c6_3:Int){E:fA}{m:Tr vA}{Q:fA}(h:sG E 75 (Su v0 v1 v5 v7 v8 c4_0 c4_1 c4_2 c4_3 c4_4 c4_5 c6_0 c6_1 c6_2 c6_3) m Q):xJ E 75 21 [v0,(.bool v1),(.int .i64 v5),(.int .u8 v7),(.int .i64 v8),(.int .u8 c4_0),(.bool c4_1),c4_2,(.bool c4_3),c4_4,(.int .i64 c4_5),(.int .u8 c6_0),(.str c6_1),(.int .i64 c6_2),(.int .i64 c6_3)] m Q:=mP (vG (by kernel_rfl)) wG (dF 75) (.inr (by kernel_rfl)) (e75_21 v0 v1 v5 v7 v8 c4_0 c4_1 c4_2 c4_3 c4_4 c4_5 c6_0 c6_1 c6_2 c6_3) h
def Ss(v0:zA)(v1:Bool)(v5:Int)(v7:Int)(c4_0:Int)(c4_1:Bool)(c4_2:zA)(c4_3:Bool)(c4_4:zA)(c4_5:Int)(c6_0:Int)(c6_1:List Nat)(c6_2:Int)(c6_3:Int):T:=
 .call 102 [(.str c6_1),(.bool v1),(.int .i64 (-1048576)),(.int .i64 1048576)] fun a0=>
 .opt (wH 0 a0) fun a1=>.asI .i64 a1 fun n2=>.opt (wH 1 a0) fun a3=>.asB a3 fun b4=>.ite (!b4)
 (.opt (kL v0) fun a5=>.opt (tD yA 121 1 a5) fun a6=>.heavy (uC yA 3 a6 (.int .i64 v5)) fun _=>
 .call 48 [v0,(.int .i64 121)] fun a7=>
 .ite true (.ite true (.ret (.agg [(.int .u8 v7),(.bool false),.nilslice,(.bool false),.nilslice,(.int .i64 n2)])) .fail) .fail)
 (.ite true (.ite true (.ret (.agg [(.int .u8 v7),(.bool false),.nilslice,(.bool false),.nilslice,(.int .i64 n2)])) .fail) .fail)
theorem e75_27(v0:zA)(v1:Bool)(v5:Int)(v7:Int)(c4_0:Int)(c4_1:Bool)(c4_2:zA)(c4_3:Bool)(c4_4:zA)(c4_5:Int)(c6_0:Int)(c6_1:List Nat)(c6_2:Int)(c6_3:Int):zL (pM yA (fo 75) (ko 75) 75 (ao 75)) 27 [v0,(.bool v1),(.int .i64 v5),(.int .u8 v7),(.int .u8 c4_0),(.bool c4_1),c4_2,(.bool c4_3),c4_4,(.int .i64 c4_5),(.int .u8 c6_0),(.str c6_1),(.int .i64 c6_2),(.int .i64 c6_3)]=[Ss v0 v1 v5 v7 c4_0 c4_1 c4_2 c4_3 c4_4 c4_5 c6_0 c6_1 c6_2 c6_3]:=by kernel_rfl
theorem j75_27(v0:zA)(v1:Bool)(v5:Int)(v7:Int)(c4_0:Int)(c4_1:Bool)(c4_2:zA)(c4_3:Bool)(c4_4:zA)(c4_5:Int)(c6_0:Int)(c6_1:List Nat)(c6_2:Int)(c6_3:Int){E:fA}{m:Tr vA}{Q:fA}(h:sG E 75 (Ss v0 v1 v5 v7 c4_0 c4_1 c4_2 c4_3 c4_4 c4_5 c6_0 c6_1 c6_2 c6_3) m Q):xJ E 75 27 [v0,(.bool v1),(.int .i64 v5),(.int .u8 v7),(.int .u8 c4_0),(.bool c4_1),c4_2,(.bool c4_3),c4_4,(.int .i64 c4_5),(.int .u8 c6_0),(.str c6_1),(.int .i64 c6_2),(.int .i64 c6_3)] m Q:=mP (vG (by kernel_rfl)) wG (dF 75) (.inr (by kernel_rfl)) (e75_27 v0 v1 v5 v7 c4_0 c4_1 c4_2 c4_3 c4_4 c4_5 c6_0 c6_1 c6_2 c6_3) h
def t96 (p0:zA):T:=
 .jump 2 [p0,(.int .i64 0),(.int .u8 0),(.str []),(.int .u8 0),(.bool false),.nilslice,(.bool false),.nilslice,(.int .i64 0),.nilslice]
theorem e96(p0:zA):dI yA (fo 96) (ko 96) 96 (ao 96) [p0]=t96 p0:=by kernel_rfl
theorem w96(p0:zA){E:fA}{m:Tr vA}{Q:fA}(h:sG E 96 (t96 p0) m Q):tK E 96 [p0] m Q:=gJ (vG (by kernel_rfl)) wG (dF 96) (.inr (by kernel_rfl)) (by kernel_rfl) (by rw[e96];exact h)
def Mp(v0:zA)(v3:Int)(c2_0:Int)(c2_1:List Nat)(c2_2:Int)(c2_3:Bool)(c2_4:zA)(c2_5:Bool)(c2_6:zA)(c2_7:Int)(c2_8:zA):T:=
 .call 72 [v0,(.str [110,111,116])] fun a0=>
 .asB a0 fun b1=>.ite b1
 (.jump 2 [v0,(.int .i64 (lA .i64 (v3+1))),(.int .u8 c2_0),(.str c2_1),(.int .u8 c2_2),(.bool c2_3),c2_4,(.bool c2_5),c2_6,(.int .i64 c2_7),c2_8])
 (.call 117 [v0] fun a2=>
 .asG [(.int .u8 0),(.str []),(.int .u8 0),(.bool false),.nilslice,(.bool false),.nilslice,(.int .i64 0),.nilslice] a2 fun X3=>
 .ite (cB zA.one [(.int .u8 (X3.i 0)),(.str (X3.s 1)),(.int .u8 (X3.i 2)),(.bool (X3.b 3)),(X3.v 4),(.bool (X3.b 5)),(X3.v 6),(.int .i64 (X3.i 7)),(X3.v 8)]) (.jump 6 [(.int .i64 v3),(.int .u8 c2_0),(.str c2_1),(.int .u8 c2_2),(.bool c2_3),c2_4,(.bool c2_5),c2_6,(.int .i64 c2_7),c2_8,(.int .u8 (X3.i 0)),(.str (X3.s 1)),(.int .u8 (X3.i 2)),(.bool (X3.b 3)),(X3.v 4),(.bool (X3.b 5)),(X3.v 6),(.int .i64 (X3.i 7)),(X3.v 8)]) .fail)
theorem e96_2(v0:zA)(v3:Int)(c2_0:Int)(c2_1:List Nat)(c2_2:Int)(c2_3:Bool)(c2_4:zA)(c2_5:Bool)(c2_6:zA)(c2_7:Int)(c2_8:zA):zL (pM yA (fo 96) (ko 96) 96 (ao 96)) 2 [v0,(.int .i64 v3),(.int .u8 c2_0),(.str c2_1),(.int .u8 c2_2),(.bool c2_3),c2_4,(.bool c2_5),c2_6,(.int .i64 c2_7),c2_8]=[Mp v0 v3 c2_0 c2_1 c2_2 c2_3 c2_4 c2_5 c2_6 c2_7 c2_8]:=by kernel_rfl
theorem j96_2(v0:zA)(v3:Int)(c2_0:Int)(c2_1:List Nat)(c2_2:Int)(c2_3:Bool)(c2_4:zA)(c2_5:Bool)(c2_6:zA)(c2_7:Int)(c2_8:zA){E:fA}{m:Tr vA}{Q:fA}(h:sG E 96 (Mp v0 v3 c2_0 c2_1 c2_2 c2_3 c2_4 c2_5 c2_6 c2_7 c2_8) m Q):xJ E 96 2 [v0,(.int .i64 v3),(.int .u8 c2_0),(.str c2_1),(.int .u8 c2_2),(.bool c2_3),c2_4,(.bool c2_5),c2_6,(.int .i64 c2_7),c2_8] m Q:=mP (vG (by kernel_rfl)) wG (dF 96) (.inr (by kernel_rfl)) (e96_2 v0 v3 c2_0 c2_1 c2_2 c2_3 c2_4 c2_5 c2_6 c2_7 c2_8) h
def Mo(v3:Int)(c2_0:Int)(c2_1:List Nat)(c2_2:Int)(c2_3:Bool)(c2_4:zA)(c2_5:Bool)(c2_6:zA)(c2_7:Int)(c2_8:zA)(c4_0:Int)(c4_1:List Nat)(c4_2:Int)(c4_3:Bool)(c4_4:zA)(c4_5:Bool)(c4_6:zA)(c4_7:Int)(c4_8:zA):T:=
 .ite (yC 0 v3)
 (.heavy (oD yA 48 1 [(0,(.agg [(.int .u8 c4_0),(.str c4_1),(.int .u8 c4_2),(.bool c4_3),c4_4,(.bool c4_5),c4_6,(.int .i64 c4_7),c4_8]))]) fun a0=>
 .ite (cB zA.one [(.int .u8 17),a0]) (.ite (cB zA.one [(.int .u8 17),(.str []),(.int .u8 0),(.bool false),.nilslice,(.bool false),.nilslice,(.int .i64 0),a0]) (.jump 6 [(.int .i64 (lA .i64 (v3-1))),(.int .u8 c2_0),(.str c2_1),(.int .u8 c2_2),(.bool c2_3),c2_4,(.bool c2_5),c2_6,(.int .i64 c2_7),c2_8,(.int .u8 17),(.str []),(.int .u8 0),(.bool false),.nilslice,(.bool false),.nilslice,(.int .i64 0),a0]) .fail) .fail)
 (.ite (cB zA.one [(.int .u8 c4_0),(.str c4_1),(.int .u8 c4_2),(.bool c4_3),c4_4,(.bool c4_5),c4_6,(.int .i64 c4_7),c4_8]) (.ret (.agg [(.int .u8 c4_0),(.str c4_1),(.int .u8 c4_2),(.bool c4_3),c4_4,(.bool c4_5),c4_6,(.int .i64 c4_7),c4_8])) .fail)
theorem e96_6(v3:Int)(c2_0:Int)(c2_1:List Nat)(c2_2:Int)(c2_3:Bool)(c2_4:zA)(c2_5:Bool)(c2_6:zA)(c2_7:Int)(c2_8:zA)(c4_0:Int)(c4_1:List Nat)(c4_2:Int)(c4_3:Bool)(c4_4:zA)(c4_5:Bool)(c4_6:zA)(c4_7:Int)(c4_8:zA):zL (pM yA (fo 96) (ko 96) 96 (ao 96)) 6 [(.int .i64 v3),(.int .u8 c2_0),(.str c2_1),(.int .u8 c2_2),(.bool c2_3),c2_4,(.bool c2_5),c2_6,(.int .i64 c2_7),c2_8,(.int .u8 c4_0),(.str c4_1),(.int .u8 c4_2),(.bool c4_3),c4_4,(.bool c4_5),c4_6,(.int .i64 c4_7),c4_8]=[Mo v3 c2_0 c2_1 c2_2 c2_3 c2_4 c2_5 c2_6 c2_7 c2_8 c4_0 c4_1 c4_2 c4_3 c4_4 c4_5 c4_6 c4_7 c4_8]:=by kernel_rfl
theorem j96_6(v3:Int)(c2_0:Int)(c2_1:List Nat)(c2_2:Int)(c2_3:Bool)(c2_4:zA)(c2_5:Bool)(c2_6:zA)(c2_7:Int)(c2_8:zA)(c4_0:Int)(c4_1:List Nat)(c4_2:Int)(c4_3:Bool)(c4_4:zA)(c4_5:Bool)(c4_6:zA)(c4_7:Int)(c4_8:zA){E:fA}{m:Tr vA}{Q:fA}(h:sG E 96 (Mo v3 c2_0 c2_1 c2_2 c2_3 c2_4 c2_5 c2_6 c2_7 c2_8 c4_0 c4_1 c4_2 c4_3 c4_4 c4_5 c4_6 c4_7 c4_8) m Q):xJ E 96 6 [(.int .i64 v3),(.int .u8 c2_0),(.str c2_1),(.int .u8 c2_2),(.bool c2_3),c2_4,(.bool c2_5),c2_6,(.int .i64 c2_7),c2_8,(.int .u8 c4_0),(.str c4_1),(.int .u8 c4_2),(.bool c4_3),c4_4,(.bool c4_5),c4_6,(.int .i64 c4_7),c4_8] m Q:=mP (vG (by kernel_rfl)) wG (dF 96) (.inr (by kernel_rfl)) (e96_6 v3 c2_0 c2_1 c2_2 c2_3 c2_4 c2_5 c2_6 c2_7 c2_8 c4_0 c4_1 c4_2 c4_3 c4_4 c4_5 c4_6 c4_7 c4_8) h
def t110 (p0:zA)(p1:Int)(p2:Int)(p3:zA):T:=
 .jump 2 [p0,(.int .u8 p2),p3,(.int .u8 p1)]
theorem e110(p0:zA)(p1:Int)(p2:Int)(p3:zA):dI yA (fo 110) (ko 110) 110 (ao 110) [p0,(.int .u8 p1),(.int .u8 p2),p3]=t110 p0 p1 p2 p3:=by kernel_rfl
theorem w110(p0:zA)(p1:Int)(p2:Int)(p3:zA){E:fA}{m:Tr vA}{Q:fA}(h:sG E 110 (t110 p0 p1 p2 p3) m Q):tK E 110 [p0,(.int .u8 p1),(.int .u8 p2),p3] m Q:=gJ (vG (by kernel_rfl)) wG (dF 110) (.inr (by kernel_rfl)) (by kernel_rfl) (by rw[e110];exact h)
def Mz(v0:zA)(v2:Int)(v3:zA)(v9:Int):T:=
 .ite (aF v9 v2)
 (.callv v3 [(.int .u8 v9)] fun a0=>
 .asS a0 fun s1=>.call 72 [v0,(.str s1)] fun a2=>
 .asB a2 fun b3=>.ite b3
 (.ret (.int .u8 v9))
 (.jump 2 [v0,(.int .u8 v2),v3,(.int .u8 (lA .u8 (v9+1)))]))
 (.call 48 [v0,(.int .i64 120)] fun a4=>
 .ret (.int .u8 0))
theorem e110_2(v0:zA)(v2:Int)(v3:zA)(v9:Int):zL (pM yA (fo 110) (ko 110) 110 (ao 110)) 2 [v0,(.int .u8 v2),v3,(.int .u8 v9)]=[Mz v0 v2 v3 v9]:=by kernel_rfl
theorem IC(v0:zA)(v2:Int)(v3:zA)(v9:Int){E:fA}{m:Tr vA}{Q:fA}(h:sG E 110 (Mz v0 v2 v3 v9) m Q):xJ E 110 2 [v0,(.int .u8 v2),v3,(.int .u8 v9)] m Q:=mP (vG (by kernel_rfl)) wG (dF 110) (.inr (by kernel_rfl)) (e110_2 v0 v2 v3 v9) h
def t117 (p0:zA):T:=
 .call 135 [p0] fun a0=>
 .asG [(.int .u8 0),(.str []),(.int .u8 0),(.bool false),.nilslice,(.bool false),.nilslice,(.int .i64 0),.nilslice] a0 fun X1=>
 .ite (cB zA.one [(.int .u8 (X1.i 0)),(.str (X1.s 1)),(.int .u8 (X1.i 2)),(.bool (X1.b 3)),(X1.v 4),(.bool (X1.b 5)),(X1.v 6),(.int .i64 (X1.i 7)),(X1.v 8)]) (.ite true (.ite true (.heavy (oD yA 161 2 [(0,(.agg [(.str [60]),(.int .u8 13)])),(1,(.agg [(.str [61]),(.int .u8 14)]))]) fun a2=>
 .call 95 [p0,a2] fun a3=>
 .opt (wH 0 a3) fun a4=>.asI .u8 a4 fun n5=>.opt (wH 1 a3) fun a6=>.asB a6 fun b7=>.ite (!b7)
 (.ite (cB zA.one [(.int .u8 (X1.i 0)),(.str (X1.s 1)),(.int .u8 (X1.i 2)),(.bool (X1.b 3)),(X1.v 4),(.bool (X1.b 5)),(X1.v 6),(.int .i64 (X1.i 7)),(X1.v 8)]) (.ret (.agg [(.int .u8 (X1.i 0)),(.str (X1.s 1)),(.int .u8 (X1.i 2)),(.bool (X1.b 3)),(X1.v 4),(.bool (X1.b 5)),(X1.v 6),(.int .i64 (X1.i 7)),(X1.v 8)])) .fail)
 (.call 135 [p0] fun a8=>
 .asG [(.int .u8 0),(.str []),(.int .u8 0),(.bool false),.nilslice,(.bool false),.nilslice,(.int .i64 0),.nilslice] a8 fun X9=>
 .ite (cB zA.one [(.int .u8 (X9.i 0)),(.str (X9.s 1)),(.int .u8 (X9.i 2)),(.bool (X9.b 3)),(X9.v 4),(.bool (X9.b 5)),(X9.v 6),(.int .i64 (X9.i 7)),(X9.v 8)]) (.heavy (oD yA 48 2 [(0,(.agg [(.int .u8 (X1.i 0)),(.str (X1.s 1)),(.int .u8 (X1.i 2)),(.bool (X1.b 3)),(X1.v 4),(.bool (X1.b 5)),(X1.v 6),(.int .i64 (X1.i 7)),(X1.v 8)])),(1,(.agg [(.int .u8 (X9.i 0)),(.str (X9.s 1)),(.int .u8 (X9.i 2)),(.bool (X9.b 3)),(X9.v 4),(.bool (X9.b 5)),(X9.v 6),(.int .i64 (X9.i 7)),(X9.v 8)]))]) fun a10=>
 .ite (cB zA.one [(.int .u8 n5),a10]) (.ite (cB zA.one [(.int .u8 n5),(.str []),(.int .u8 0),(.bool false),.nilslice,(.bool false),.nilslice,(.int .i64 0),a10]) (.ret (.agg [(.int .u8 n5),(.str []),(.int .u8 0),(.bool false),.nilslice,(.bool false),.nilslice,(.int .i64 0),a10])) .fail) .fail) .fail)) .fail) .fail) .fail
theorem e117(p0:zA):dI yA (fo 117) (ko 117) 117 (ao 117) [p0]=t117 p0:=by kernel_rfl
theorem w117(p0:zA){E:fA}{m:Tr vA}{Q:fA}(h:sG E 117 (t117 p0) m Q):tK E 117 [p0] m Q:=gJ (vG (by kernel_rfl)) wG (dF 117) (.inr (by kernel_rfl)) (by kernel_rfl) (by rw[e117];exact h)
def t135 (p0:zA):T:=
 .ite true (.ite true (.heavy (oD yA 161 2 [(0,(.agg [(.str [43]),(.int .u8 7)])),(1,(.agg [(.str [45]),(.int .u8 8)]))]) fun a0=>
 .call 68 [p0,(.func (.func 151) [p0] []),a0] fun a1=>
 .asG [(.int .u8 0),(.str []),(.int .u8 0),(.bool false),.nilslice,(.bool false),.nilslice,(.int .i64 0),.nilslice] a1 fun X2=>
 .ite (cB zA.one [(.int .u8 (X2.i 0)),(.str (X2.s 1)),(.int .u8 (X2.i 2)),(.bool (X2.b 3)),(X2.v 4),(.bool (X2.b 5)),(X2.v 6),(.int .i64 (X2.i 7)),(X2.v 8)]) (.ret (.agg [(.int .u8 (X2.i 0)),(.str (X2.s 1)),(.int .u8 (X2.i 2)),(.bool (X2.b 3)),(X2.v 4),(.bool (X2.b 5)),(X2.v 6),(.int .i64 (X2.i 7)),(X2.v 8)])) .fail) .fail) .fail
theorem e135(p0:zA):dI yA (fo 135) (ko 135) 135 (ao 135) [p0]=t135 p0:=by kernel_rfl
theorem w135(p0:zA){E:fA}{m:Tr vA}{Q:fA}(h:sG E 135 (t135 p0) m Q):tK E 135 [p0] m Q:=gJ (vG (by kernel_rfl)) wG (dF 135) (.inr (by kernel_rfl)) (by kernel_rfl) (by rw[e135];exact h)
def t151 (p0:zA):T:=
 .ite true (.ite true (.heavy (oD yA 161 2 [(0,(.agg [(.str [42]),(.int .u8 9)])),(1,(.agg [(.str [47]),(.int .u8 10)]))]) fun a0=>
 .call 68 [p0,(.func (.func 161) [p0] []),a0] fun a1=>
 .asG [(.int .u8 0),(.str []),(.int .u8 0),(.bool false),.nilslice,(.bool false),.nilslice,(.int .i64 0),.nilslice] a1 fun X2=>
 .ite (cB zA.one [(.int .u8 (X2.i 0)),(.str (X2.s 1)),(.int .u8 (X2.i 2)),(.bool (X2.b 3)),(X2.v 4),(.bool (X2.b 5)),(X2.v 6),(.int .i64 (X2.i 7)),(X2.v 8)]) (.ret (.agg [(.int .u8 (X2.i 0)),(.str (X2.s 1)),(.int .u8 (X2.i 2)),(.bool (X2.b 3)),(X2.v 4),(.bool (X2.b 5)),(X2.v 6),(.int .i64 (X2.i 7)),(X2.v 8)])) .fail) .fail) .fail
theorem e151(p0:zA):dI yA (fo 151) (ko 151) 151 (ao 151) [p0]=t151 p0:=by kernel_rfl
theorem w151(p0:zA){E:fA}{m:Tr vA}{Q:fA}(h:sG E 151 (t151 p0) m Q):tK E 151 [p0] m Q:=gJ (vG (by kernel_rfl)) wG (dF 151) (.inr (by kernel_rfl)) (by kernel_rfl) (by rw[e151];exact h)
def t161 (p0:zA):T:=
 .opt (kL p0) fun a0=>.opt (tD yA 121 2 a0) fun a1=>.light (fun m=>iA yA 3 ⟨0,m⟩ a1) fun a2=>.asI .i64 a2 fun n3=>.ite (yC 100 n3)
 (.call 48 [p0,(.int .i64 122)] fun a4=>
 .jump 7 [p0,(.int .u8 0),(.str []),(.int .u8 0),(.bool false),.nilslice,(.bool false),.nilslice,(.int .i64 0),.nilslice])
 (.jump 7 [p0,(.int .u8 0),(.str []),(.int .u8 0),(.bool false),.nilslice,(.bool false),.nilslice,(.int .i64 0),.nilslice])
theorem e161(p0:zA):dI yA (fo 161) (ko 161) 161 (ao 161) [p0]=t161 p0:=by kernel_rfl
theorem w161(p0:zA){E:fA}{m:Tr vA}{Q:fA}(h:sG E 161 (t161 p0) m Q):tK E 161 [p0] m Q:=gJ (vG (by kernel_rfl)) wG (dF 161) (.inr (by kernel_rfl)) (by kernel_rfl) (by rw[e161];exact h)
def Tp(v0:zA)(c2_0:Int)(c2_1:List Nat)(c2_2:Int)(c2_3:Bool)(c2_4:zA)(c2_5:Bool)(c2_6:zA)(c2_7:Int)(c2_8:zA):T:=
 .opt (kL v0) fun a0=>.opt (tD yA 121 2 a0) fun a1=>.light (fun m=>iA yA 3 ⟨0,m⟩ a1) fun a2=>.asI .i64 a2 fun n3=>.opt (kL v0) fun a4=>.opt (tD yA 121 2 a4) fun a5=>.heavy (uC yA 3 a5 (.int .i64 (lA .i64 (n3+1)))) fun _=>
 .call 168 [v0] fun a6=>
 .asG [(.int .u8 0),(.str []),(.int .u8 0),(.bool false),.nilslice,(.bool false),.nilslice,(.int .i64 0),.nilslice] a6 fun X7=>
 .ite (cB zA.one [(.int .u8 (X7.i 0)),(.str (X7.s 1)),(.int .u8 (X7.i 2)),(.bool (X7.b 3)),(X7.v 4),(.bool (X7.b 5)),(X7.v 6),(.int .i64 (X7.i 7)),(X7.v 8)]) (.opt (kL v0) fun a8=>.opt (tD yA 121 2 a8) fun a9=>.light (fun m=>iA yA 3 ⟨0,m⟩ a9) fun a10=>.asI .i64 a10 fun n11=>.opt (kL v0) fun a12=>.opt (tD yA 121 2 a12) fun a13=>.heavy (uC yA 3 a13 (.int .i64 (lA .i64 (n11-1)))) fun _=>
 .ite (cB zA.one [(.int .u8 (X7.i 0)),(.str (X7.s 1)),(.int .u8 (X7.i 2)),(.bool (X7.b 3)),(X7.v 4),(.bool (X7.b 5)),(X7.v 6),(.int .i64 (X7.i 7)),(X7.v 8)]) (.ret (.agg [(.int .u8 (X7.i 0)),(.str (X7.s 1)),(.int .u8 (X7.i 2)),(.bool (X7.b 3)),(X7.v 4),(.bool (X7.b 5)),(X7.v 6),(.int .i64 (X7.i 7)),(X7.v 8)])) .fail) .fail
theorem e161_7(v0:zA)(c2_0:Int)(c2_1:List Nat)(c2_2:Int)(c2_3:Bool)(c2_4:zA)(c2_5:Bool)(c2_6:zA)(c2_7:Int)(c2_8:zA):zL (pM yA (fo 161) (ko 161) 161 (ao 161)) 7 [v0,(.int .u8 c2_0),(.str c2_1),(.int .u8 c2_2),(.bool c2_3),c2_4,(.bool c2_5),c2_6,(.int .i64 c2_7),c2_8]=[Tp v0 c2_0 c2_1 c2_2 c2_3 c2_4 c2_5 c2_6 c2_7 c2_8]:=by kernel_rfl
theorem j161_7(v0:zA)(c2_0:Int)(c2_1:List Nat)(c2_2:Int)(c2_3:Bool)(c2_4:zA)(c2_5:Bool)(c2_6:zA)(c2_7:Int)(c2_8:zA){E:fA}{m:Tr vA}{Q:fA}(h:sG E 161 (Tp v0 c2_0 c2_1 c2_2 c2_3 c2_4 c2_5 c2_6 c2_7 c2_8) m Q):xJ E 161 7 [v0,(.int .u8 c2_0),(.str c2_1),(.int .u8 c2_2),(.bool c2_3),c2_4,(.bool c2_5),c2_6,(.int .i64 c2_7),c2_8] m Q:=mP (vG (by kernel_rfl)) wG (dF 161) (.inr (by kernel_rfl)) (e161_7 v0 c2_0 c2_1 c2_2 c2_3 c2_4 c2_5 c2_6 c2_7 c2_8) h
def t168 (p0:zA):T:=
 .call 47 [p0] fun a0=>
 .opt (wH 0 a0) fun a1=>.asG [(.int .u8 0),(.bool false),.nilslice,(.bool false),.nilslice,(.int .i64 0)] a1 fun X2=>
 .opt (wH 1 a0) fun a3=>.asB a3 fun b4=>.ite (cB zA.one [(.int .u8 (X2.i 0)),(.bool (X2.b 1)),(X2.v 2),(.bool (X2.b 3)),(X2.v 4),(.int .i64 (X2.i 5))]) (.ite b4
 (.ite true (.ite (cB zA.one [(.int .u8 1),(.str []),(.int .u8 (X2.i 0)),(.bool (X2.b 1)),(X2.v 2),(.bool (X2.b 3)),(X2.v 4),(.int .i64 (X2.i 5)),.nilslice]) (.ret (.agg [(.int .u8 1),(.str []),(.int .u8 (X2.i 0)),(.bool (X2.b 1)),(X2.v 2),(.bool (X2.b 3)),(X2.v 4),(.int .i64 (X2.i 5)),.nilslice])) .fail) .fail)
 (.call 72 [p0,(.str [40])] fun a5=>
 .asB a5 fun b6=>.ite b6
 (.call 42 [p0] fun a7=>
 .asG [(.int .u8 0),(.str []),(.int .u8 0),(.bool false),.nilslice,(.bool false),.nilslice,(.int .i64 0),.nilslice] a7 fun X8=>
 .ite (cB zA.one [(.int .u8 (X8.i 0)),(.str (X8.s 1)),(.int .u8 (X8.i 2)),(.bool (X8.b 3)),(X8.v 4),(.bool (X8.b 5)),(X8.v 6),(.int .i64 (X8.i 7)),(X8.v 8)]) (.heavy (oD yA 93 1 [(0,(.str [41]))]) fun a9=>
 .call 57 [p0,a9] fun a10=>
 .ite (cB zA.one [(.int .u8 (X8.i 0)),(.str (X8.s 1)),(.int .u8 (X8.i 2)),(.bool (X8.b 3)),(X8.v 4),(.bool (X8.b 5)),(X8.v 6),(.int .i64 (X8.i 7)),(X8.v 8)]) (.ret (.agg [(.int .u8 (X8.i 0)),(.str (X8.s 1)),(.int .u8 (X8.i 2)),(.bool (X8.b 3)),(X8.v 4),(.bool (X8.b 5)),(X8.v 6),(.int .i64 (X8.i 7)),(X8.v 8)])) .fail) .fail)
 (.call 72 [p0,(.str [116,111,100,97,121])] fun a11=>
 .asB a11 fun b12=>.ite b12
 (.ite true (.ite true (.ret (.agg [(.int .u8 2),(.str []),(.int .u8 0),(.bool false),.nilslice,(.bool false),.nilslice,(.int .i64 0),.nilslice])) .fail) .fail)
 (.call 72 [p0,(.str [102,97,99,116])] fun a13=>
 .asB a13 fun b14=>.ite b14
 (.call 180 [p0,(.int .u8 3)] fun a15=>
 .asG [(.int .u8 0),(.str []),(.int .u8 0),(.bool false),.nilslice,(.bool false),.nilslice,(.int .i64 0),.nilslice] a15 fun X16=>
 .ite (cB zA.one [(.int .u8 (X16.i 0)),(.str (X16.s 1)),(.int .u8 (X16.i 2)),(.bool (X16.b 3)),(X16.v 4),(.bool (X16.b 5)),(X16.v 6),(.int .i64 (X16.i 7)),(X16.v 8)]) (.ret (.agg [(.int .u8 (X16.i 0)),(.str (X16.s 1)),(.int .u8 (X16.i 2)),(.bool (X16.b 3)),(X16.v 4),(.bool (X16.b 5)),(X16.v 6),(.int .i64 (X16.i 7)),(X16.v 8)])) .fail)
 (.call 72 [p0,(.str [104,97,115])] fun a17=>
 .asB a17 fun b18=>.ite b18
 (.call 180 [p0,(.int .u8 4)] fun a19=>
 .asG [(.int .u8 0),(.str []),(.int .u8 0),(.bool false),.nilslice,(.bool false),.nilslice,(.int .i64 0),.nilslice] a19 fun X20=>
 .ite (cB zA.one [(.int .u8 (X20.i 0)),(.str (X20.s 1)),(.int .u8 (X20.i 2)),(.bool (X20.b 3)),(X20.v 4),(.bool (X20.b 5)),(X20.v 6),(.int .i64 (X20.i 7)),(X20.v 8)]) (.ret (.agg [(.int .u8 (X20.i 0)),(.str (X20.s 1)),(.int .u8 (X20.i 2)),(.bool (X20.b 3)),(X20.v 4),(.bool (X20.b 5)),(X20.v 6),(.int .i64 (X20.i 7)),(X20.v 8)])) .fail)
 (.call 88 [p0] fun a21=>
 .asB a21 fun b22=>.ite b22
 (.call 180 [p0,(.int .u8 5)] fun a23=>
 .asG [(.int .u8 0),(.str []),(.int .u8 0),(.bool false),.nilslice,(.bool false),.nilslice,(.int .i64 0),.nilslice] a23 fun X24=>
 .ite (cB zA.one [(.int .u8 (X24.i 0)),(.str (X24.s 1)),(.int .u8 (X24.i 2)),(.bool (X24.b 3)),(X24.v 4),(.bool (X24.b 5)),(X24.v 6),(.int .i64 (X24.i 7)),(X24.v 8)]) (.ret (.agg [(.int .u8 (X24.i 0)),(.str (X24.s 1)),(.int .u8 (X24.i 2)),(.bool (X24.b 3)),(X24.v 4),(.bool (X24.b 5)),(X24.v 6),(.int .i64 (X24.i 7)),(X24.v 8)])) .fail)
 (.call 181 [p0] fun a25=>
 .asG [(.int .u8 0),(.str []),(.int .u8 0),(.bool false),.nilslice,(.bool false),.nilslice,(.int .i64 0),.nilslice] a25 fun X26=>
 .ite (cB zA.one [(.int .u8 (X26.i 0)),(.str (X26.s 1)),(.int .u8 (X26.i 2)),(.bool (X26.b 3)),(X26.v 4),(.bool (X26.b 5)),(X26.v 6),(.int .i64 (X26.i 7)),(X26.v 8)]) (.ret (.agg [(.int .u8 (X26.i 0)),(.str (X26.s 1)),(.int .u8 (X26.i 2)),(.bool (X26.b 3)),(X26.v 4),(.bool (X26.b 5)),(X26.v 6),(.int .i64 (X26.i 7)),(X26.v 8)])) .fail))))))) .fail
theorem e168(p0:zA):dI yA (fo 168) (ko 168) 168 (ao 168) [p0]=t168 p0:=by kernel_rfl
theorem w168(p0:zA){E:fA}{m:Tr vA}{Q:fA}(h:sG E 168 (t168 p0) m Q):tK E 168 [p0] m Q:=gJ (vG (by kernel_rfl)) wG (dF 168) (.inr (by kernel_rfl)) (by kernel_rfl) (by rw[e168];exact h)
def t180 (p0:zA)(p1:Int):T:=
 .call 58 [p0] fun a0=>
 .asS a0 fun s1=>.heavy (oD yA 93 1 [(0,(.str [97,116]))]) fun a2=>
 .call 57 [p0,a2] fun a3=>
 .call 161 [p0] fun a4=>
 .asG [(.int .u8 0),(.str []),(.int .u8 0),(.bool false),.nilslice,(.bool false),.nilslice,(.int .i64 0),.nilslice] a4 fun X5=>
 .heavy (oD yA 48 1 [(0,(.agg [(.int .u8 (X5.i 0)),(.str (X5.s 1)),(.int .u8 (X5.i 2)),(.bool (X5.b 3)),(X5.v 4),(.bool (X5.b 5)),(X5.v 6),(.int .i64 (X5.i 7)),(X5.v 8)]))]) fun a6=>
 .ite (cB zA.one [(.int .u8 p1),(.str s1),a6]) (.ite (cB zA.one [(.int .u8 p1),(.str s1),(.int .u8 0),(.bool false),.nilslice,(.bool false),.nilslice,(.int .i64 0),a6]) (.ret (.agg [(.int .u8 p1),(.str s1),(.int .u8 0),(.bool false),.nilslice,(.bool false),.nilslice,(.int .i64 0),a6])) .fail) .fail
theorem e180(p0:zA)(p1:Int):dI yA (fo 180) (ko 180) 180 (ao 180) [p0,(.int .u8 p1)]=t180 p0 p1:=by kernel_rfl
theorem w180(p0:zA)(p1:Int){E:fA}{m:Tr vA}{Q:fA}(h:sG E 180 (t180 p0 p1) m Q):tK E 180 [p0,(.int .u8 p1)] m Q:=gJ (vG (by kernel_rfl)) wG (dF 180) (.inr (by kernel_rfl)) (by kernel_rfl) (by rw[e180];exact h)
def t181 (p0:zA):T:=
 .heavy (jL p0) fun a0=>
 .ite true (.ite true (.ite true (.ite true (.ite true (.ite true (.ite true (.ite true (.ite true (.ite true (.ite true (.ite true (.ite true (.heavy (sJ yA 250) fun a1=>
 .heavy (uC yA 250 a1 (.agg [(.str [108,111,111,107]),(.int .u8 6),(.bool true),(.int .i64 1),(.int .i64 2),(.str [109,105,110]),(.int .u8 11),(.bool false),(.int .i64 2),(.int .i64 2),(.str [109,97,120]),(.int .u8 12),(.bool false),(.int .i64 2),(.int .i64 2),(.str [98,101,116,119,101,101,110]),(.int .u8 20),(.bool false),(.int .i64 2),(.int .i64 2),(.str [105,102]),(.int .u8 18),(.bool false),(.int .i64 3),(.int .i64 3),(.str [114,111,117,110,100]),(.int .u8 19),(.bool false),(.int .i64 2),(.int .i64 2),(.str [115,101,114,118,105,99,101]),(.int .u8 21),(.bool true),(.int .i64 2),(.int .i64 2),(.str [103,114,111,119]),(.int .u8 23),(.bool true),(.int .i64 2),(.int .i64 2),(.str [98,101,115,116]),(.int .u8 22),(.bool true),(.int .i64 3),(.int .i64 3),(.str [109,111,110,116,104,115]),(.int .u8 24),(.bool false),(.int .i64 1),(.int .i64 1),(.str [110,117,109,98,101,114]),(.int .u8 25),(.bool false),(.int .i64 1),(.int .i64 1),(.str [115,116,97,114,116]),(.int .u8 26),(.bool false),(.int .i64 1),(.int .i64 1)])) fun _=>
 .callv (.func (.func 187) [] [a1,a0]) [] fun a2=>
 .asG [(.str []),(.int .u8 0),(.bool false),(.int .i64 0),(.int .i64 0)] a2 fun X3=>
 .ite true (.ite true (.ite true (.light (fun m=>iA yA 84 ⟨0,m⟩ a0) fun a4=>.heavy (oD yA 93 1 [(0,(.str [40]))]) fun a5=>
 .call 57 [a4,a5] fun a6=>
 .ite (X3.b 2)
 (.light (fun m=>iA yA 84 ⟨0,m⟩ a0) fun a7=>.call 58 [a7] fun a8=>
 .asS a8 fun s9=>.ite true (.light (fun m=>iA yA 84 ⟨0,m⟩ a0) fun a10=>.heavy (oD yA 93 1 [(0,(.str [44]))]) fun a11=>
 .call 57 [a10,a11] fun a12=>
 .jump 19 [a0,(.int .u8 0),(.str []),(.int .u8 0),(.bool false),.nilslice,(.bool false),.nilslice,(.int .i64 0),.nilslice,(.str (X3.s 0)),(.int .u8 (X3.i 1)),(.bool (X3.b 2)),(.int .i64 (X3.i 3)),(.int .i64 (X3.i 4)),(.int .u8 (X3.i 1)),(.str s9),(.int .u8 0),(.bool false),.nilslice,(.bool false),.nilslice,(.int .i64 0),.nilslice]) .fail)
 (.jump 19 [a0,(.int .u8 0),(.str []),(.int .u8 0),(.bool false),.nilslice,(.bool false),.nilslice,(.int .i64 0),.nilslice,(.str (X3.s 0)),(.int .u8 (X3.i 1)),(.bool (X3.b 2)),(.int .i64 (X3.i 3)),(.int .i64 (X3.i 4)),(.int .u8 (X3.i 1)),(.str []),(.int .u8 0),(.bool false),.nilslice,(.bool false),.nilslice,(.int .i64 0),.nilslice])) .fail) .fail) .fail) .fail) .fail) .fail) .fail) .fail) .fail) .fail) .fail) .fail) .fail) .fail) .fail) .fail
theorem e181(p0:zA):dI yA (fo 181) (ko 181) 181 (ao 181) [p0]=t181 p0:=by kernel_rfl
theorem w181(p0:zA){E:fA}{m:Tr vA}{Q:fA}(h:sG E 181 (t181 p0) m Q):tK E 181 [p0] m Q:=gJ (vG (by kernel_rfl)) wG (dF 181) (.inr (by kernel_rfl)) (by kernel_rfl) (by rw[e181];exact h)
def Tc(v1:zA)(c2_0:Int)(c2_1:List Nat)(c2_2:Int)(c2_3:Bool)(c2_4:zA)(c2_5:Bool)(c2_6:zA)(c2_7:Int)(c2_8:zA)(c5_0:List Nat)(c5_1:Int)(c5_2:Bool)(c5_3:Int)(c5_4:Int)(c6_0:Int)(c6_1:List Nat)(c6_2:Int)(c6_3:Bool)(c6_4:zA)(c6_5:Bool)(c6_6:zA)(c6_7:Int)(c6_8:zA):T:=
 .light (fun m=>iA yA 84 ⟨0,m⟩ v1) fun a0=>.call 42 [a0] fun a1=>
 .asG [(.int .u8 0),(.str []),(.int .u8 0),(.bool false),.nilslice,(.bool false),.nilslice,(.int .i64 0),.nilslice] a1 fun X2=>
 .ite (same 10 c6_8 c6_8) (.heavy (oD yA 48 1 [(0,(.agg [(.int .u8 (X2.i 0)),(.str (X2.s 1)),(.int .u8 (X2.i 2)),(.bool (X2.b 3)),(X2.v 4),(.bool (X2.b 5)),(X2.v 6),(.int .i64 (X2.i 7)),(X2.v 8)]))]) fun a3=>
 .ite (same 10 c6_8 c6_8) (.heavy (yJ yA 48 48 c6_8 a3) fun a4=>
 .ite (cB zA.one [a4]) (.jump 2 [v1,(.int .u8 c2_0),(.str c2_1),(.int .u8 c2_2),(.bool c2_3),c2_4,(.bool c2_5),c2_6,(.int .i64 c2_7),c2_8,(.str c5_0),(.int .u8 c5_1),(.bool c5_2),(.int .i64 c5_3),(.int .i64 c5_4),(.int .u8 c6_0),(.str c6_1),(.int .u8 c6_2),(.bool c6_3),c6_4,(.bool c6_5),c6_6,(.int .i64 c6_7),a4]) .fail) .fail) .fail
theorem zdq(v1:zA)(c2_0:Int)(c2_1:List Nat)(c2_2:Int)(c2_3:Bool)(c2_4:zA)(c2_5:Bool)(c2_6:zA)(c2_7:Int)(c2_8:zA)(c5_0:List Nat)(c5_1:Int)(c5_2:Bool)(c5_3:Int)(c5_4:Int)(c6_0:Int)(c6_1:List Nat)(c6_2:Int)(c6_3:Bool)(c6_4:zA)(c6_5:Bool)(c6_6:zA)(c6_7:Int)(c6_8:zA):zL (pM yA (fo 181) (ko 181) 181 (ao 181)) 19 [v1,(.int .u8 c2_0),(.str c2_1),(.int .u8 c2_2),(.bool c2_3),c2_4,(.bool c2_5),c2_6,(.int .i64 c2_7),c2_8,(.str c5_0),(.int .u8 c5_1),(.bool c5_2),(.int .i64 c5_3),(.int .i64 c5_4),(.int .u8 c6_0),(.str c6_1),(.int .u8 c6_2),(.bool c6_3),c6_4,(.bool c6_5),c6_6,(.int .i64 c6_7),c6_8]=[Tc v1 c2_0 c2_1 c2_2 c2_3 c2_4 c2_5 c2_6 c2_7 c2_8 c5_0 c5_1 c5_2 c5_3 c5_4 c6_0 c6_1 c6_2 c6_3 c6_4 c6_5 c6_6 c6_7 c6_8]:=by kernel_rfl
theorem zcv(v1:zA)(c2_0:Int)(c2_1:List Nat)(c2_2:Int)(c2_3:Bool)(c2_4:zA)(c2_5:Bool)(c2_6:zA)(c2_7:Int)(c2_8:zA)(c5_0:List Nat)(c5_1:Int)(c5_2:Bool)(c5_3:Int)(c5_4:Int)(c6_0:Int)(c6_1:List Nat)(c6_2:Int)(c6_3:Bool)(c6_4:zA)(c6_5:Bool)(c6_6:zA)(c6_7:Int)(c6_8:zA){E:fA}{m:Tr vA}{Q:fA}(h:sG E 181 (Tc v1 c2_0 c2_1 c2_2 c2_3 c2_4 c2_5 c2_6 c2_7 c2_8 c5_0 c5_1 c5_2 c5_3 c5_4 c6_0 c6_1 c6_2 c6_3 c6_4 c6_5 c6_6 c6_7 c6_8) m Q):xJ E 181 19 [v1,(.int .u8 c2_0),(.str c2_1),(.int .u8 c2_2),(.bool c2_3),c2_4,(.bool c2_5),c2_6,(.int .i64 c2_7),c2_8,(.str c5_0),(.int .u8 c5_1),(.bool c5_2),(.int .i64 c5_3),(.int .i64 c5_4),(.int .u8 c6_0),(.str c6_1),(.int .u8 c6_2),(.bool c6_3),c6_4,(.bool c6_5),c6_6,(.int .i64 c6_7),c6_8] m Q:=mP (vG (by kernel_rfl)) wG (dF 181) (.inr (by kernel_rfl)) (zdq v1 c2_0 c2_1 c2_2 c2_3 c2_4 c2_5 c2_6 c2_7 c2_8 c5_0 c5_1 c5_2 c5_3 c5_4 c6_0 c6_1 c6_2 c6_3 c6_4 c6_5 c6_6 c6_7 c6_8) h
def Mx(v1:zA)(c2_0:Int)(c2_1:List Nat)(c2_2:Int)(c2_3:Bool)(c2_4:zA)(c2_5:Bool)(c2_6:zA)(c2_7:Int)(c2_8:zA)(c5_0:List Nat)(c5_1:Int)(c5_2:Bool)(c5_3:Int)(c5_4:Int)(c6_0:Int)(c6_1:List Nat)(c6_2:Int)(c6_3:Bool)(c6_4:zA)(c6_5:Bool)(c6_6:zA)(c6_7:Int)(c6_8:zA):T:=
 .opt (mC c6_8) fun a0=>.asI .i64 a0 fun n1=>.ite (yC n1 c5_3)
 (.light (fun m=>iA yA 84 ⟨0,m⟩ v1) fun a2=>.heavy (oD yA 93 1 [(0,(.str [44]))]) fun a3=>
 .call 57 [a2,a3] fun a4=>
 .light (fun m=>iA yA 84 ⟨0,m⟩ v1) fun a5=>.call 42 [a5] fun a6=>
 .asG [(.int .u8 0),(.str []),(.int .u8 0),(.bool false),.nilslice,(.bool false),.nilslice,(.int .i64 0),.nilslice] a6 fun X7=>
 .ite (same 10 c6_8 c6_8) (.heavy (oD yA 48 1 [(0,(.agg [(.int .u8 (X7.i 0)),(.str (X7.s 1)),(.int .u8 (X7.i 2)),(.bool (X7.b 3)),(X7.v 4),(.bool (X7.b 5)),(X7.v 6),(.int .i64 (X7.i 7)),(X7.v 8)]))]) fun a8=>
 .ite (same 10 c6_8 c6_8) (.heavy (yJ yA 48 48 c6_8 a8) fun a9=>
 .ite (cB zA.one [a9]) (.jump 2 [v1,(.int .u8 c2_0),(.str c2_1),(.int .u8 c2_2),(.bool c2_3),c2_4,(.bool c2_5),c2_6,(.int .i64 c2_7),c2_8,(.str c5_0),(.int .u8 c5_1),(.bool c5_2),(.int .i64 c5_3),(.int .i64 c5_4),(.int .u8 c6_0),(.str c6_1),(.int .u8 c6_2),(.bool c6_3),c6_4,(.bool c6_5),c6_6,(.int .i64 c6_7),a9]) .fail) .fail) .fail)
 (.jump 6 [v1,(.int .u8 c2_0),(.str c2_1),(.int .u8 c2_2),(.bool c2_3),c2_4,(.bool c2_5),c2_6,(.int .i64 c2_7),c2_8,(.str c5_0),(.int .u8 c5_1),(.bool c5_2),(.int .i64 c5_3),(.int .i64 c5_4),(.int .u8 c6_0),(.str c6_1),(.int .u8 c6_2),(.bool c6_3),c6_4,(.bool c6_5),c6_6,(.int .i64 c6_7),c6_8])
theorem e181_2(v1:zA)(c2_0:Int)(c2_1:List Nat)(c2_2:Int)(c2_3:Bool)(c2_4:zA)(c2_5:Bool)(c2_6:zA)(c2_7:Int)(c2_8:zA)(c5_0:List Nat)(c5_1:Int)(c5_2:Bool)(c5_3:Int)(c5_4:Int)(c6_0:Int)(c6_1:List Nat)(c6_2:Int)(c6_3:Bool)(c6_4:zA)(c6_5:Bool)(c6_6:zA)(c6_7:Int)(c6_8:zA):zL (pM yA (fo 181) (ko 181) 181 (ao 181)) 2 [v1,(.int .u8 c2_0),(.str c2_1),(.int .u8 c2_2),(.bool c2_3),c2_4,(.bool c2_5),c2_6,(.int .i64 c2_7),c2_8,(.str c5_0),(.int .u8 c5_1),(.bool c5_2),(.int .i64 c5_3),(.int .i64 c5_4),(.int .u8 c6_0),(.str c6_1),(.int .u8 c6_2),(.bool c6_3),c6_4,(.bool c6_5),c6_6,(.int .i64 c6_7),c6_8]=[Mx v1 c2_0 c2_1 c2_2 c2_3 c2_4 c2_5 c2_6 c2_7 c2_8 c5_0 c5_1 c5_2 c5_3 c5_4 c6_0 c6_1 c6_2 c6_3 c6_4 c6_5 c6_6 c6_7 c6_8]:=by kernel_rfl
theorem HI(v1:zA)(c2_0:Int)(c2_1:List Nat)(c2_2:Int)(c2_3:Bool)(c2_4:zA)(c2_5:Bool)(c2_6:zA)(c2_7:Int)(c2_8:zA)(c5_0:List Nat)(c5_1:Int)(c5_2:Bool)(c5_3:Int)(c5_4:Int)(c6_0:Int)(c6_1:List Nat)(c6_2:Int)(c6_3:Bool)(c6_4:zA)(c6_5:Bool)(c6_6:zA)(c6_7:Int)(c6_8:zA){E:fA}{m:Tr vA}{Q:fA}(h:sG E 181 (Mx v1 c2_0 c2_1 c2_2 c2_3 c2_4 c2_5 c2_6 c2_7 c2_8 c5_0 c5_1 c5_2 c5_3 c5_4 c6_0 c6_1 c6_2 c6_3 c6_4 c6_5 c6_6 c6_7 c6_8) m Q):xJ E 181 2 [v1,(.int .u8 c2_0),(.str c2_1),(.int .u8 c2_2),(.bool c2_3),c2_4,(.bool c2_5),c2_6,(.int .i64 c2_7),c2_8,(.str c5_0),(.int .u8 c5_1),(.bool c5_2),(.int .i64 c5_3),(.int .i64 c5_4),(.int .u8 c6_0),(.str c6_1),(.int .u8 c6_2),(.bool c6_3),c6_4,(.bool c6_5),c6_6,(.int .i64 c6_7),c6_8] m Q:=mP (vG (by kernel_rfl)) wG (dF 181) (.inr (by kernel_rfl)) (e181_2 v1 c2_0 c2_1 c2_2 c2_3 c2_4 c2_5 c2_6 c2_7 c2_8 c5_0 c5_1 c5_2 c5_3 c5_4 c6_0 c6_1 c6_2 c6_3 c6_4 c6_5 c6_6 c6_7 c6_8) h
def Mw(v1:zA)(c2_0:Int)(c2_1:List Nat)(c2_2:Int)(c2_3:Bool)(c2_4:zA)(c2_5:Bool)(c2_6:zA)(c2_7:Int)(c2_8:zA)(c5_0:List Nat)(c5_1:Int)(c5_2:Bool)(c5_3:Int)(c5_4:Int)(c6_0:Int)(c6_1:List Nat)(c6_2:Int)(c6_3:Bool)(c6_4:zA)(c6_5:Bool)(c6_6:zA)(c6_7:Int)(c6_8:zA):T:=
 .opt (mC c6_8) fun a0=>.asI .i64 a0 fun n1=>.ite (yC n1 c5_4)
 (.light (fun m=>iA yA 84 ⟨0,m⟩ v1) fun a2=>.call 72 [a2,(.str [44])] fun a3=>
 .asB a3 fun b4=>.ite b4
 (.light (fun m=>iA yA 84 ⟨0,m⟩ v1) fun a5=>.call 42 [a5] fun a6=>
 .asG [(.int .u8 0),(.str []),(.int .u8 0),(.bool false),.nilslice,(.bool false),.nilslice,(.int .i64 0),.nilslice] a6 fun X7=>
 .ite (same 10 c6_8 c6_8) (.heavy (oD yA 48 1 [(0,(.agg [(.int .u8 (X7.i 0)),(.str (X7.s 1)),(.int .u8 (X7.i 2)),(.bool (X7.b 3)),(X7.v 4),(.bool (X7.b 5)),(X7.v 6),(.int .i64 (X7.i 7)),(X7.v 8)]))]) fun a8=>
 .ite (same 10 c6_8 c6_8) (.heavy (yJ yA 48 48 c6_8 a8) fun a9=>
 .ite (cB zA.one [a9]) (.jump 6 [v1,(.int .u8 c2_0),(.str c2_1),(.int .u8 c2_2),(.bool c2_3),c2_4,(.bool c2_5),c2_6,(.int .i64 c2_7),c2_8,(.str c5_0),(.int .u8 c5_1),(.bool c5_2),(.int .i64 c5_3),(.int .i64 c5_4),(.int .u8 c6_0),(.str c6_1),(.int .u8 c6_2),(.bool c6_3),c6_4,(.bool c6_5),c6_6,(.int .i64 c6_7),a9]) .fail) .fail) .fail)
 (.ite (tC c5_1 19)
 (.light (fun m=>iA yA 84 ⟨0,m⟩ v1) fun a10=>.heavy (oD yA 93 1 [(0,(.str [44]))]) fun a11=>
 .call 57 [a10,a11] fun a12=>
 .light (fun m=>iA yA 84 ⟨0,m⟩ v1) fun a13=>.call 110 [a13,(.int .u8 1),(.int .u8 6),(.func (.func 188) [] [])] fun a14=>
 .asI .u8 a14 fun n15=>.ite true (.jump 37 [v1,(.int .u8 c2_0),(.str c2_1),(.int .u8 c2_2),(.bool c2_3),c2_4,(.bool c2_5),c2_6,(.int .i64 c2_7),c2_8,(.int .u8 c6_0),(.str c6_1),(.int .u8 c6_2),(.bool c6_3),c6_4,(.bool c6_5),c6_6,(.int .i64 (lA .i64 n15)),c6_8]) .fail)
 (.jump 37 [v1,(.int .u8 c2_0),(.str c2_1),(.int .u8 c2_2),(.bool c2_3),c2_4,(.bool c2_5),c2_6,(.int .i64 c2_7),c2_8,(.int .u8 c6_0),(.str c6_1),(.int .u8 c6_2),(.bool c6_3),c6_4,(.bool c6_5),c6_6,(.int .i64 c6_7),c6_8])))
 (.ite (tC c5_1 19)
 (.light (fun m=>iA yA 84 ⟨0,m⟩ v1) fun a16=>.heavy (oD yA 93 1 [(0,(.str [44]))]) fun a17=>
 .call 57 [a16,a17] fun a18=>
 .light (fun m=>iA yA 84 ⟨0,m⟩ v1) fun a19=>.call 110 [a19,(.int .u8 1),(.int .u8 6),(.func (.func 188) [] [])] fun a20=>
 .asI .u8 a20 fun n21=>.ite true (.jump 37 [v1,(.int .u8 c2_0),(.str c2_1),(.int .u8 c2_2),(.bool c2_3),c2_4,(.bool c2_5),c2_6,(.int .i64 c2_7),c2_8,(.int .u8 c6_0),(.str c6_1),(.int .u8 c6_2),(.bool c6_3),c6_4,(.bool c6_5),c6_6,(.int .i64 (lA .i64 n21)),c6_8]) .fail)
 (.jump 37 [v1,(.int .u8 c2_0),(.str c2_1),(.int .u8 c2_2),(.bool c2_3),c2_4,(.bool c2_5),c2_6,(.int .i64 c2_7),c2_8,(.int .u8 c6_0),(.str c6_1),(.int .u8 c6_2),(.bool c6_3),c6_4,(.bool c6_5),c6_6,(.int .i64 c6_7),c6_8]))
theorem e181_6(v1:zA)(c2_0:Int)(c2_1:List Nat)(c2_2:Int)(c2_3:Bool)(c2_4:zA)(c2_5:Bool)(c2_6:zA)(c2_7:Int)(c2_8:zA)(c5_0:List Nat)(c5_1:Int)(c5_2:Bool)(c5_3:Int)(c5_4:Int)(c6_0:Int)(c6_1:List Nat)(c6_2:Int)(c6_3:Bool)(c6_4:zA)(c6_5:Bool)(c6_6:zA)(c6_7:Int)(c6_8:zA):zL (pM yA (fo 181) (ko 181) 181 (ao 181)) 6 [v1,(.int .u8 c2_0),(.str c2_1),(.int .u8 c2_2),(.bool c2_3),c2_4,(.bool c2_5),c2_6,(.int .i64 c2_7),c2_8,(.str c5_0),(.int .u8 c5_1),(.bool c5_2),(.int .i64 c5_3),(.int .i64 c5_4),(.int .u8 c6_0),(.str c6_1),(.int .u8 c6_2),(.bool c6_3),c6_4,(.bool c6_5),c6_6,(.int .i64 c6_7),c6_8]=[Mw v1 c2_0 c2_1 c2_2 c2_3 c2_4 c2_5 c2_6 c2_7 c2_8 c5_0 c5_1 c5_2 c5_3 c5_4 c6_0 c6_1 c6_2 c6_3 c6_4 c6_5 c6_6 c6_7 c6_8]:=by kernel_rfl
theorem HH(v1:zA)(c2_0:Int)(c2_1:List Nat)(c2_2:Int)(c2_3:Bool)(c2_4:zA)(c2_5:Bool)(c2_6:zA)(c2_7:Int)(c2_8:zA)(c5_0:List Nat)(c5_1:Int)(c5_2:Bool)(c5_3:Int)(c5_4:Int)(c6_0:Int)(c6_1:List Nat)(c6_2:Int)(c6_3:Bool)(c6_4:zA)(c6_5:Bool)(c6_6:zA)(c6_7:Int)(c6_8:zA){E:fA}{m:Tr vA}{Q:fA}(h:sG E 181 (Mw v1 c2_0 c2_1 c2_2 c2_3 c2_4 c2_5 c2_6 c2_7 c2_8 c5_0 c5_1 c5_2 c5_3 c5_4 c6_0 c6_1 c6_2 c6_3 c6_4 c6_5 c6_6 c6_7 c6_8) m Q):xJ E 181 6 [v1,(.int .u8 c2_0),(.str c2_1),(.int .u8 c2_2),(.bool c2_3),c2_4,(.bool c2_5),c2_6,(.int .i64 c2_7),c2_8,(.str c5_0),(.int .u8 c5_1),(.bool c5_2),(.int .i64 c5_3),(.int .i64 c5_4),(.int .u8 c6_0),(.str c6_1),(.int .u8 c6_2),(.bool c6_3),c6_4,(.bool c6_5),c6_6,(.int .i64 c6_7),c6_8] m Q:=mP (vG (by kernel_rfl)) wG (dF 181) (.inr (by kernel_rfl)) (e181_6 v1 c2_0 c2_1 c2_2 c2_3 c2_4 c2_5 c2_6 c2_7 c2_8 c5_0 c5_1 c5_2 c5_3 c5_4 c6_0 c6_1 c6_2 c6_3 c6_4 c6_5 c6_6 c6_7 c6_8) h
def Tb(v1:zA)(c2_0:Int)(c2_1:List Nat)(c2_2:Int)(c2_3:Bool)(c2_4:zA)(c2_5:Bool)(c2_6:zA)(c2_7:Int)(c2_8:zA)(c6_0:Int)(c6_1:List Nat)(c6_2:Int)(c6_3:Bool)(c6_4:zA)(c6_5:Bool)(c6_6:zA)(c6_7:Int)(c6_8:zA):T:=
 .light (fun m=>iA yA 84 ⟨0,m⟩ v1) fun a0=>.heavy (oD yA 93 1 [(0,(.str [41]))]) fun a1=>
 .call 57 [a0,a1] fun a2=>
 .ite (cB zA.one [(.int .u8 c6_0),(.str c6_1),(.int .u8 c6_2),(.bool c6_3),c6_4,(.bool c6_5),c6_6,(.int .i64 c6_7),c6_8]) (.ret (.agg [(.int .u8 c6_0),(.str c6_1),(.int .u8 c6_2),(.bool c6_3),c6_4,(.bool c6_5),c6_6,(.int .i64 c6_7),c6_8])) .fail
theorem zdp(v1:zA)(c2_0:Int)(c2_1:List Nat)(c2_2:Int)(c2_3:Bool)(c2_4:zA)(c2_5:Bool)(c2_6:zA)(c2_7:Int)(c2_8:zA)(c6_0:Int)(c6_1:List Nat)(c6_2:Int)(c6_3:Bool)(c6_4:zA)(c6_5:Bool)(c6_6:zA)(c6_7:Int)(c6_8:zA):zL (pM yA (fo 181) (ko 181) 181 (ao 181)) 37 [v1,(.int .u8 c2_0),(.str c2_1),(.int .u8 c2_2),(.bool c2_3),c2_4,(.bool c2_5),c2_6,(.int .i64 c2_7),c2_8,(.int .u8 c6_0),(.str c6_1),(.int .u8 c6_2),(.bool c6_3),c6_4,(.bool c6_5),c6_6,(.int .i64 c6_7),c6_8]=[Tb v1 c2_0 c2_1 c2_2 c2_3 c2_4 c2_5 c2_6 c2_7 c2_8 c6_0 c6_1 c6_2 c6_3 c6_4 c6_5 c6_6 c6_7 c6_8]:=by kernel_rfl
theorem zcu(v1:zA)(c2_0:Int)(c2_1:List Nat)(c2_2:Int)(c2_3:Bool)(c2_4:zA)(c2_5:Bool)(c2_6:zA)(c2_7:Int)(c2_8:zA)(c6_0:Int)(c6_1:List Nat)(c6_2:Int)(c6_3:Bool)(c6_4:zA)(c6_5:Bool)(c6_6:zA)(c6_7:Int)(c6_8:zA){E:fA}{m:Tr vA}{Q:fA}(h:sG E 181 (Tb v1 c2_0 c2_1 c2_2 c2_3 c2_4 c2_5 c2_6 c2_7 c2_8 c6_0 c6_1 c6_2 c6_3 c6_4 c6_5 c6_6 c6_7 c6_8) m Q):xJ E 181 37 [v1,(.int .u8 c2_0),(.str c2_1),(.int .u8 c2_2),(.bool c2_3),c2_4,(.bool c2_5),c2_6,(.int .i64 c2_7),c2_8,(.int .u8 c6_0),(.str c6_1),(.int .u8 c6_2),(.bool c6_3),c6_4,(.bool c6_5),c6_6,(.int .i64 c6_7),c6_8] m Q:=mP (vG (by kernel_rfl)) wG (dF 181) (.inr (by kernel_rfl)) (zdp v1 c2_0 c2_1 c2_2 c2_3 c2_4 c2_5 c2_6 c2_7 c2_8 c6_0 c6_1 c6_2 c6_3 c6_4 c6_5 c6_6 c6_7 c6_8) h
def t187 (w0:zA)(w1:zA):T:=
 .light (fun m=>iA yA 250 ⟨0,m⟩ w0) fun a0=>.jump 2 [w1,a0,(.int .i64 0),(.str []),(.int .u8 0),(.bool false),(.int .i64 0),(.int .i64 0)]
theorem e187(w0:zA)(w1:zA):dI yA (fo 187) (ko 187) 187 (ao 187) [w0,w1]=t187 w0 w1:=by kernel_rfl
theorem w187(w0:zA)(w1:zA){E:fA}{m:Tr vA}{Q:fA}(h:sG E 187 (t187 w0 w1) m Q):tK E 187 [w0,w1] m Q:=gJ (vG (by kernel_rfl)) wG (dF 187) (.inr (by kernel_rfl)) (by kernel_rfl) (by rw[e187];exact h)
def Mv(v1:zA)(v5:zA)(v6:Int)(c2_0:List Nat)(c2_1:Int)(c2_2:Bool)(c2_3:Int)(c2_4:Int):T:=
 .ite (yC v6 12)
 (.opt (qH yA 250 v5 (.int .i64 v6)) fun a0=>.asG [(.str []),(.int .u8 0),(.bool false),(.int .i64 0),(.int .i64 0)] a0 fun X1=>
 .ite true (.light (fun m=>iA yA 84 ⟨0,m⟩ v1) fun a2=>.call 72 [a2,(.str (X1.s 0))] fun a3=>
 .asB a3 fun b4=>.ite b4
 (.ite true (.ret (.agg [(.str (X1.s 0)),(.int .u8 (X1.i 1)),(.bool (X1.b 2)),(.int .i64 (X1.i 3)),(.int .i64 (X1.i 4))])) .fail)
 (.jump 2 [v1,v5,(.int .i64 (lA .i64 (v6+1))),(.str c2_0),(.int .u8 c2_1),(.bool c2_2),(.int .i64 c2_3),(.int .i64 c2_4)])) .fail)
 (.light (fun m=>iA yA 84 ⟨0,m⟩ v1) fun a5=>.call 48 [a5,(.int .i64 120)] fun a6=>
 .ite true (.ite true (.ret (.agg [(.str []),(.int .u8 0),(.bool false),(.int .i64 0),(.int .i64 0)])) .fail) .fail)
theorem e187_2(v1:zA)(v5:zA)(v6:Int)(c2_0:List Nat)(c2_1:Int)(c2_2:Bool)(c2_3:Int)(c2_4:Int):zL (pM yA (fo 187) (ko 187) 187 (ao 187)) 2 [v1,v5,(.int .i64 v6),(.str c2_0),(.int .u8 c2_1),(.bool c2_2),(.int .i64 c2_3),(.int .i64 c2_4)]=[Mv v1 v5 v6 c2_0 c2_1 c2_2 c2_3 c2_4]:=by kernel_rfl
theorem HF(v1:zA)(v5:zA)(v6:Int)(c2_0:List Nat)(c2_1:Int)(c2_2:Bool)(c2_3:Int)(c2_4:Int){E:fA}{m:Tr vA}{Q:fA}(h:sG E 187 (Mv v1 v5 v6 c2_0 c2_1 c2_2 c2_3 c2_4) m Q):xJ E 187 2 [v1,v5,(.int .i64 v6),(.str c2_0),(.int .u8 c2_1),(.bool c2_2),(.int .i64 c2_3),(.int .i64 c2_4)] m Q:=mP (vG (by kernel_rfl)) wG (dF 187) (.inr (by kernel_rfl)) (e187_2 v1 v5 v6 c2_0 c2_1 c2_2 c2_3 c2_4) h
end Go.Proofs
namespace Go.Am
open Go Go.RowKit
section
variable {base:Nat}{W J:pF}{t:Tr vA}{Q:fA}
theorem pA{b:Bool}{x y:T}(h:b=true)(k:oA base W J x t Q):oA base W J (.ite b x y) t Q:=by
 show if b=true then _ else _;simp_all
theorem qB{b:Bool}{x y:T}(h:b≠true)(k:oA base W J y t Q):oA base W J (.ite b x y) t Q:=by
 show if b=true then _ else _;simp_all
theorem mA{x:Option zA}{K:zA->T}{v:zA}(h:x=some v)(k:oA base W J (K v) t Q):oA base W J (.opt x K) t Q:=by
 show xD x _;simp_all
theorem wC{x:Tr vA->Option zA}{K:zA->T}{v:zA}(h:x t=some v)(k:oA base W J (K v) t Q):oA base W J (.light x K) t Q:=by
 show xD (x t) _;simp_all
theorem tB{f:Nat}{a:List zA}{K:zA->T}(k:W f a t (fun v t'=>oA base W J (K v) t' Q)):oA base W J (.call f a K) t Q:=k
theorem oB{n:Int}{i:IntKind}{K:Int->T}(k:oA base W J (K n) t Q):oA base W J (.asI i (.int i n) K) t Q:=by
 show xD (Fa i (.int i n)) _;rw[bB];exact k
theorem vE{b:Bool}{K:Bool->T}(k:oA base W J (K b) t Q):oA base W J (.asB (.bool b) K) t Q:=k
theorem oE{s:List Nat}{K:List Nat->T}(k:oA base W J (K s) t Q):oA base W J (.asS (.str s) K) t Q:=k
theorem eC{zs:List zA}{a:zA}{K:jI->T}{X:jI}(h:vK zs a=some X)(k:oA base W J (K X) t Q):oA base W J (.asG zs a K) t Q:=by
 show xD (vK zs a) _;simp_all
theorem pC{x:xA->Option (zA × xA)}{K:zA->T}(k:∀b,t.get b=none->base<=b->∃v H,x ⟨b,t⟩=some (v,H)/\oA base W J (K v) H.t Q):oA base W J (.heavy x K) t Q:=by
 intro b h1 h2;obtain⟨v,H,h3,h4⟩:=k b h1 h2
 simp_all
theorem iC{i:Nat}{a:List zA}(k:J i a t Q):oA base W J (.jump i a) t Q:=k
end
section
variable {t:Tr vA}{C:rA}
theorem sK.mid{T el sz:Nat}{agg:Bool}(h:sK C T el sz agg){l:List D}{v:zA}(hr:aA t sz l v){k:Nat}{d:D}(hk:l[k]?=some d) :
  ∃v',sF C T ⟨0,t⟩ v (some (.int .i64 (k:Int))) (some (.int .i64 ((k+1:Nat):Int)))=some v'/\aA t sz [d] v':=by
 obtain⟨⟨y,hy1,hy2⟩,⟨z,hz1,hz2,hz3⟩⟩:=h
 obtain⟨cl,he,hd⟩:=hr
 have hlen:=hd.length
 have hlt:=(ybc.1 hk).1
 obtain⟨cs,hc,hrd⟩:=hd.get hk
 unfold sF;rw[hy1,qA];have hb:∀(y n:Nat),eU y (.int .i64 (n:Int))=yB (Nat.ble n y) (some n):=fun y n=>rfl
 rcases he with⟨rfl,rfl⟩ | ⟨b,off,cap,rfl,hcap,⟨c,n,lo,hg,hlo⟩,he⟩
 ·grind
 ·refine⟨.slice b (off+k*sz) 1 (cap-k),?_,[cs],.inr ⟨b,off+k*sz,cap-k,rfl,by grind,⟨c,n,lo,hg,hlo⟩,fun i q hi=>?_⟩,iF.2 ⟨cs,[],rfl,hrd,rH.2 rfl⟩⟩
  ·unfold rM
   simp only[zA.asStr,zA.asSlice];rw[hy2,qA];unfold jO;rw[hz1,qA];unfold pP dY;simp only[hb];rw[qE.2 (show k+1<=cap by omega)]
   simp only[mE,qA];rw[qE.2 (show k<=k+1 by omega)]
   simp only[mE,qA];have hne:Nat.beq cap k=false:=by
    grind [sC]
   have he2:sM ⟨0,t⟩ b z.size cap k false=false:=by
    grind [sM]
   rw[he2,yay,cond_false];have hf:wN ⟨0,t⟩ b z.size cap k false=true:=by
    unfold wN bD;rw[hg,qA];simp only[vA.asCells];rcases hlo with rfl | ⟨x,rfl,hx⟩
    all_goals simp_all
   rw[qE.2 (show k+1<=cap by omega),hf,hne,hz2]
   simp only[Bool.and_self,mE,cond_false];rw[show k+1-k=1 by omega]
  grind
end
end Go.Am
namespace Go.Am
open Go Go.RowKit
section
variable {t tf:Tr vA}{C:rA}
theorem JN{sz:Nat}{z c1 c2:List zA}(hz:z.length=sz)(h1:c1.length=sz)(h2:c2.length=sz):yK (fun i=>some (i*sz,sz)) [(0,.agg c1),(1,.agg c2)] (pH z 2)=some [c1,c2].flatten:=by
 have e:pH z 2=z++z:=by
  show qD z (qD z [])=_;rw[xG,xG,ycd]
 rw[e];have o1:aS (z++z) (0*sz) sz (.agg c1)=some (c1++z):=by
  unfold aS;have e1:(zA.agg c1).cells=c1:=rfl
  simp only[e1,sD,h1,Nat.zero_mul,ybw,rR,xP,xG,List.take_zero,yah];rw[sC.2 rfl,qE.2 (by grind)]
  simp only[Bool.and_self,mE];rw[<- hz,List.drop_left]
 have o2:aS (c1++z) (1*sz) sz (.agg c2)=some (c1++c2):=by
  unfold aS;have e1:(zA.agg c2).cells=c2:=rfl
  simp only[e1,sD,h2,Nat.one_mul,rR,xP,xG];rw[sC.2 rfl,qE.2 (by grind)]
  simp only[Bool.and_self,mE];rw[<- h1,List.take_left,ybt (by grind),ycd]
 grind [yK,qA]
end
end Go.Am
namespace Go.Am
open Go Go.RowKit
section
variable {t tf:Tr vA}{C:rA}{base:Nat}
theorem PS{α:Type}{A B:List α}{x y:α}{n:Nat}(h:A.length=n):(A++x::B).set n y=A++y::B:=by
 subst h;rw[List.set_append_right _ _ (ybk _),Nat.sub_self,List.set_cons_zero]
theorem cA.newCel{A B:List jE}{n:Nat}{t':Tr vA}{lo:Option Lo}{cs:List zA}(h:cA base tf t (A++B))(hn:t.get n=none)(hb:base<=n)(hc:vD t' n lo cs)(ht:zB t t')(ho:nF n t t'):cA base tf t' (A++lC n lo cs::B):=
 cA.add (o':=lC n lo cs) h (fun k hk=>ho k (fun e=>hk (by simp[lC,e]))) (fun k hk=>by
  grind [lC]) hc (by simp[lC]) (h.tle.trans ht)
theorem cA.cel{A B:List jE}{n:Nat}{lo:Option Lo}{cs:List zA}(h:cA base tf t (A++lC n lo cs::B)):vD t n lo cs:=h.ok (lC n lo cs) (by simp)
theorem cA.setCel{A B:List jE}{n j T:Nat}{lo:Option Lo}{cs:List zA}{y:rC}{v:zA}(h:cA C.base tf t (A++lC n lo cs::B))(hT:C.tys.get T=some y)(hl:v.cells.length=y.size)(hj:j+v.cells.length<=cs.length)(hone:cB zA.one v.cells=true) :
  ∃t',(∀q,uC C T (.ptr n j) v ⟨q,t⟩=some (rD,⟨q,t'⟩))/\cA C.base tf t' (A++lC n lo (oM cs j v.cells)::B):=by
 have hlow:=h.low n (by simp[lC])
 obtain⟨t',s1,s2,s3⟩:=h.cel.store (C:=C) hlow.1 (j:=j) (v:=v) hT hl hj hone
 exact⟨t',s1,cA.upd (o:=lC n lo cs) (o':=lC n lo (oM cs j v.cells)) h (fun k h1 _=>s3 k (fun e=>h1 (by simp[lC,e]))) (fun k hk=>.inl hk) s2 (by simp[lC]) (h.tle.off hlow.2 s3)⟩
end
end Go.Am
namespace Go.Proofs
open Go Go.Am
variable [jC]
def cC.d(t:cC):D:=.st [.int .u8 (t.kind:Int),.str t.text,.int .i64 (t.line:Int),.int .i64 (t.col:Int)]
def cC.cs(t:cC):List zA:=[.int .u8 (t.kind:Int),.str t.text,.int .i64 (t.line:Int),.int .i64 (t.col:Int)]
theorem rd_tok{t:Tr vA}{x:cC}{cs:List zA}(h:RD t x.d cs):cs=x.cs:=by
 grind [cC.d,cC.cs,uO,iF,rH,wT,vT]
structure bK where
 tk:List cC
 bp:Nat
 ts:zA
 el:Nat
 ec:Nat
 L:List jE
abbrev kV(P:bK)(n d:Nat):jE:=lC P.bp none [P.ts,.int .i64 (n:Int),.int .i64 (d:Int),.int .i64 (P.el:Int),.int .i64 (P.ec:Int)]
def rK(t:Tr vA):Prop:=At t 1 0 ((List.range 7).map fun i=>.str (kindN i))/\At t 4 0 ((List.range 7).map fun i=>.str (Aa i))/\At t 2 0 (Jm.map fun(n:Nat)=>.int .i64 (n:Int))
theorem rK.mono{t t':Tr vA}(h:rK t)(hl:zB t t'):rK t':=⟨h.1.mono hl,h.2.1.mono hl,h.2.2.mono hl⟩
structure St (P:bK) (tf t:Tr vA) (n d:Nat):Prop where
 ts:aA tf 4 (P.tk.map cC.d) P.ts
 ob:cA yA.base tf t (kV P n d::P.L)
 len:P.tk.length<1000000
 le:n<=P.tk.length
 good:∀x∈P.tk,Dt x
 glob:rK tf
def vH(P:bK)(i:Nat):cC:=(P.tk[i]?).getD ⟨0,[],P.el,P.ec⟩
def zdi(P:bK)(e i:Nat):zA:=.iface 123 (.agg [.int .i64 ((vH P i).line:Int),.int .i64 ((vH P i).col:Int),.int .i64 (e:Int)])
def Ok {α:Type}(P:bK)(rd:Tr vA->α->zA->Prop)(d:Nat)(tf:Tr vA)(r:PR α)(Q E:fA):Prop:=
 match r with
 | .ok a n=>∀tf' t' v,zB tf tf'->St P tf' t' n d->rd tf' a v->Q v t'
 | .er e i=>∀tf' t' n' d',zB tf tf'->St P tf' t' n' d'->E (zdi P e i) t'
section
variable {P:bK}{tf t:Tr vA}{n d:Nat}{Q E:fA}
theorem Ok.mono{α:Type}{rd:Tr vA->α->zA->Prop}{r:PR α}(h:Ok P rd d tf r Q E){tf':Tr vA}(hl:zB tf tf'):Ok P rd d tf' r Q E:=by
 cases r with
 | ok a n=>exact fun tf2 t' v k1 k2 k3=>h tf2 t' v (hl.trans k1) k2 k3
 | er e i=>exact fun tf2 t' n' d' k1 k2=>h tf2 t' n' d' (hl.trans k1) k2
theorem Ok.bind{α β:Type}{rd1:Tr vA->α->zA->Prop}{rd:Tr vA->β->zA->Prop}{r:PR α}{f:α->Nat->PR β}{Q1:fA}(h:Ok P rd d tf (r.bind f) Q E)
  (k:∀a n1 tf1 t1 v,r=.ok a n1->zB tf tf1->St P tf1 t1 n1 d->rd1 tf1 a v->Ok P rd d tf1 (f a n1) Q E->Q1 v t1):Ok P rd1 d tf r Q1 E:=by
 cases r with
 | ok a n=>exact fun tf' t' v h1 h2 h3=>k a n tf' t' v rfl h1 h2 h3 (Ok.mono h h1)
 | er e i=>exact h
theorem Ok.now{α:Type}{rd:Tr vA->α->zA->Prop}{a:α}{v:zA}(h:Ok P rd d tf (.ok a n) Q E)(hst:St P tf t n d)(hr:rd tf a v):Q v t:=h tf t v (zB.refl _) hst hr
theorem Ok.err{α:Type}{rd:Tr vA->α->zA->Prop}{e i:Nat}(h:Ok P rd d tf (.er e i) Q E){n' d':Nat}(hst:St P tf t n' d'):E (zdi P e i) t:=h tf t n' d' (zB.refl _) hst
theorem St.cel(h:St P tf t n d):vD t P.bp none [P.ts,.int .i64 (n:Int),.int .i64 (d:Int),.int .i64 (P.el:Int),.int .i64 (P.ec:Int)]:=h.ob.cel (A:=[])
theorem nl{b o:Nat}:kL (.ptr b o)=some (.ptr b o):=rfl
theorem f0{b:Nat}:tD yA 121 0 (.ptr b 0)=some (.ptr b 0):=by kernel_rfl
theorem f1{b:Nat}:tD yA 121 1 (.ptr b 0)=some (.ptr b 1):=by kernel_rfl
theorem f2{b:Nat}:tD yA 121 2 (.ptr b 0)=some (.ptr b 2):=by kernel_rfl
theorem f3{b:Nat}:tD yA 121 3 (.ptr b 0)=some (.ptr b 3):=by kernel_rfl
theorem St.l0(h:St P tf t n d):iA yA 66 ⟨0,t⟩ (.ptr P.bp 0)=some P.ts:=h.cel.load1 aQ rfl rfl
theorem St.l1(h:St P tf t n d):iA yA 3 ⟨0,t⟩ (.ptr P.bp 1)=some (.int .i64 (n:Int)):=h.cel.load1 tM rfl rfl
theorem St.l2(h:St P tf t n d):iA yA 3 ⟨0,t⟩ (.ptr P.bp 2)=some (.int .i64 (d:Int)):=h.cel.load1 tM rfl rfl
theorem St.l3(h:St P tf t n d):iA yA 29 ⟨0,t⟩ (.ptr P.bp 3)=some (.agg [.int .i64 (P.el:Int),.int .i64 (P.ec:Int)]):=by
 have:=h.cel.at.load (j:=3) (n:=2) kT rfl rfl (by simp)
 simpa using this
theorem St.tsr(h:St P tf t n d):aA t 4 (P.tk.map cC.d) P.ts:=h.ts.mono h.ob.tle
theorem St.len'(h:St P tf t n d):mC P.ts=some (.int .i64 (P.tk.length:Int)):=by
 have:=h.ts.len
 rwa [ybf]at this
theorem agT(x:cC):vK Dj (.agg x.cs)=some (cellsOf x.cs):=iQ rfl
theorem cT0(x:cC):(cellsOf x.cs).i 0=(x.kind:Int):=rfl
theorem cT1(x:cC):(cellsOf x.cs).s 1=x.text:=rfl
theorem cT2(x:cC):(cellsOf x.cs).i 2=(x.line:Int):=rfl
theorem cT3(x:cC):(cellsOf x.cs).i 3=(x.col:Int):=rfl
theorem Ir(h:St P tf t n d):fB yA F 71 [.ptr P.bp 0] t=some (.agg (vH P n).cs):=by
 refine tE.2 (w71 ?_)
 simp only[jH,uI,uG,uZ,uY,uA10,t71,oA,nl,f0,f1,f3,h.l0,h.l1,h.len',sA,bB,bF];by_cases hn:n<P.tk.length
 ·rw[yab (by omega)]
  have hx:P.tk[n]?=some P.tk[n]:=ybd hn
  have hd:(P.tk.map cC.d)[n]?=some P.tk[n].d:=by rw[ybu,hx];rfl
  obtain⟨b,o,cs,h1,h2,_,_,h3⟩:=sl66.at (fun h=>by cases h) h.tsr hd
  rw[h1,sA,h2,sA];have e:=rd_tok h3
  subst e;show xD (vK Dj (.agg P.tk[n].cs)) _
  rw[agT,sA];simp only[if_true,cT0,cT1,cT2,cT3];unfold vH;rw[hx];exact⟨rfl,trivial⟩
 ·rw[yaa (by omega),h.l3,sA]
  have hx:P.tk[n]?=none:=List.getElem?_eq_none (by omega)
  show xD (some (cellsOf _)) _
  rw[sA];simp only[if_true];unfold vH;rw[hx];exact⟨rfl,trivial⟩
theorem zee{w:List Nat}:jB P.tk w n=((decide ((vH P n).kind=1)||decide ((vH P n).kind=4))&&bC (vH P n).text w):=by
 unfold jB vH
 cases P.tk[n]? with
 | none=>rfl
 | some x=>rfl
theorem Pe{k:Nat}(hk:0<k):fL P.tk k n=decide ((vH P n).kind=k):=by
 unfold fL vH
 cases P.tk[n]? with
 | none=>simp;omega
 | some x=>rfl
theorem Zw:eP P.tk n=(vH P n).text:=by
 unfold eP vH
 cases P.tk[n]? with
 | none=>rfl
 | some x=>rfl
theorem St.set1(h:St P tf t n d){n':Nat}(hn:n'<=P.tk.length):∃t',(∀q,uC yA 3 (.ptr P.bp 1) (.int .i64 (n':Int)) ⟨q,t⟩=some (rD,⟨q,t'⟩))/\St P tf t' n' d:=by
 obtain⟨t',h1,h2⟩:=cA.setCel (A:=[]) (j:=1) (v:=.int .i64 (n':Int)) h.ob tM rfl (by show 1+1<=5;omega) rfl
 exact⟨t',h1,h.ts,h2,h.len,hn,h.good,h.glob⟩
theorem St.set2(h:St P tf t n d){d':Nat}:∃t',(∀q,uC yA 3 (.ptr P.bp 2) (.int .i64 (d':Int)) ⟨q,t⟩=some (rD,⟨q,t'⟩))/\St P tf t' n d':=by
 obtain⟨t',h1,h2⟩:=cA.setCel (A:=[]) (j:=2) (v:=.int .i64 (d':Int)) h.ob tM rfl (by show 2+1<=5;omega) rfl
 exact⟨t',h1,h.ts,h2,h.len,h.le,h.good,h.glob⟩
theorem Lb{w:List Nat}(h:jB P.tk w n=true):n<P.tk.length:=by
 unfold jB at h
 cases hx:P.tk[n]? with
 | none=>rw[hx]at h;cases h
 | some x=>exact(ybc.1 hx).1
theorem Qy{w:List Nat}(h:St P tf t n d)(hQ:∀t',St P tf t' (if jB P.tk w n then n+1 else n) d->Q (.bool (jB P.tk w n)) t'):Wc yA F 72 [.ptr P.bp 0,.str w] t Q:=by
 refine w72 ?_
 simp only[uG,uQ7,jH,uI,zD,t72,oA];rw[q71,Ir h,sA,agT,sA];have ha:=zee (P:=P) (n:=n) (w:=w)
 simp only[if_true,cT0,cT1,nl,f1,sA,oN];have step:bC (vH P n).text w=true->(decide ((vH P n).kind=1)||decide ((vH P n).kind=4))=true->xD (iA yA 3 ⟨0,t⟩ (.ptr P.bp 1)) (fun v=>xD (Fa .i64 v) fun n'=>∀b,t.get b=none->yA.base<=b->xD (uC yA 3 (.ptr P.bp 1) (nD n') ⟨b,t⟩) fun p=>Q (.bool (bC (vH P n).text w)) p.2.t):=by
  intro h1 h2;rw[h1,h2]at ha;have ha:jB P.tk w n=true:=ha
  rw[h.l1,sA,bB,sA];intro b _ _;have hlt:=Lb ha
  have hl:=h.len
  obtain⟨t',k1,k2⟩:=h.set1 (n':=n+1) (by omega)
  have e:nD (n:Int)=.int .i64 ((n+1:Nat):Int):=by
   show zA.int .i64 (lA .i64 ((n:Int)+1))=_
   rw[oC (by omega) (by omega)];rfl
  rw[e,k1,sA,h1];rw[ha]at hQ;exact hQ t' k2
 by_cases hk:(vH P n).kind=1
 ·rw[yab (by omega)]
  cases he:bC (vH P n).text w with
  | true=>rw[yab rfl];rw[<- he];exact step he (by simp[hk])
  | false=>
   rw[yaa (by simp)]
   rw[he,yay]at ha;rw[ha]at hQ;exact hQ t h
 ·rw[yaa (by omega)]
  by_cases hk4:(vH P n).kind=4
  ·rw[yab (by omega)]
   cases he:bC (vH P n).text w with
   | true=>rw[yab rfl];rw[<- he];exact step he (by simp[hk4])
   | false=>
    rw[yaa (by simp)]
    rw[he,yay]at ha;rw[ha]at hQ;exact hQ t h
  ·rw[yaa (by omega)]
   have ha:jB P.tk w n=false:=by rw[ha];simp[hk,hk4]
   rw[ha]at hQ;exact hQ t h
theorem IH(h:St P tf t n d):fB yA F 88 [.ptr P.bp 0] t=some (.bool (eV P.tk n)):=by
 refine tE.2 (w88 ?_)
 simp only[uG,uB,zD,t88,oA];rw[q71,Ir h,sA,agT,sA];simp only[if_true,cT0,cT1,oN,q13,Vy,sA,zA.asBool];unfold eV;rw[Pe (by omega),Zw]
 by_cases hk:(vH P n).kind=1
 ·rw[yab (by omega)];simp[hk]
 ·rw[yaa (by omega)];simp[hk]
theorem zdh{e:Nat}(h:St P tf t n d)(hE:E (zdi P e n) t):dK yA F E 48 [.ptr P.bp 0,.int .i64 (e:Int)] t Q:=by
 refine w48 _ _ ?_
 unfold t48;refine tB ?_
 rw[pQ 71,Ir h,sA];refine eC (agT _) (pA rfl ?_)
 refine tB (pX _ _ _ ?_)
 exact hE
theorem Ok.fail{α:Type}{rd:Tr vA->α->zA->Prop}{e:Nat}(h:St P tf t n d)(hk:Ok P rd d tf (.er e n) Q E){Q':fA}:kF yA F gC nG E 48 [.ptr P.bp 0,.int .i64 (e:Int)] t Q':=by
 rw[pE 48];exact zdh h (hk.err h)
def rdStr(_:Tr vA)(s:List Nat)(v:zA):Prop:=v=.str s
def rdU (_:Tr vA)(_:Unit)(v:zA):Prop:=v=.tup []
def rdInt(_:Tr vA)(s:Int)(v:zA):Prop:=v=.int .i64 s
def rdU8 (_:Tr vA)(s:Nat)(v:zA):Prop:=v=.int .u8 (s:Int)
def rdTok(k:Nat)(_:Tr vA)(s:List Nat)(v:zA):Prop:=∃x:cC,x.kind=k/\x.text=s/\v=.agg x.cs
theorem Hp{k:Nat}(hk0:0<k)(h:St P tf t n d)(hk:Ok P (rdTok k) d tf (dP P.tk k n) Q E):dK yA F E 59 [.ptr P.bp 0,.int .u8 (k:Int)] t Q:=by
 refine w59 _ _ ?_
 unfold t59;refine tB ?_
 rw[pQ 71,Ir h,sA];refine eC (agT _) (pA rfl ?_)
 unfold dP at hk;rw[Pe hk0]at hk;by_cases hx:(vH P n).kind=k
 ·rw[decide_eq_true hx,yab rfl]at hk
  refine qB (by rw[cT0,hx];simp[sE]) (iC (j59_9 _ _ _ _ _ _ _ _ _ ?_))
  unfold Sv;refine mA nl (mA f1 (wC h.l1 (oB (mA nl (mA f1 (pC fun b _ _=>?_))))))
  have hlt:n<P.tk.length:=by
   unfold vH at hx
   cases hy:P.tk[n]? with
   | none=>rw[hy]at hx;simp at hx;omega
   | some x=>exact(ybc.1 hy).1
  have hl:=h.len
  obtain⟨t',k1,k2⟩:=h.set1 (n':=n+1) (by omega)
  have e:lA .i64 ((n:Int)+1)=((n+1:Nat):Int):=by
   rw[oC (by omega) (by omega)];rfl
  rw[e];refine⟨_,_,k1 b,pA rfl ?_⟩
  exact Ok.now hk k2 ⟨vH P n,hx,by rw[Zw],rfl⟩
 ·rw[decide_eq_false hx,yaa (by simp)]at hk
  refine pA (by rw[cT0];simp[sE];omega) (tB (Ok.fail h hk))
theorem zcc(h:St P tf t n d)(hk:Ok P rdU d tf (Cg P.tk n) Q E):dK yA F E 43 [.ptr P.bp 0] t Q:=by
 refine w43 _ ?_
 unfold t43;refine tB ?_
 rw[pE 59];unfold Cg at hk;refine Hp (k:=5) (by omega) h (hk.bind fun a n1 tf1 t1 v hr hl hst hrd hk1=>?_)
 obtain⟨x,_,_,rfl⟩:=hrd
 refine eC (agT _) (mA nl (mA f1 (wC hst.l1 (oB (mA nl (mA f0 (wC hst.l0 (mA hst.len' (oB ?_)))))))))
 by_cases hn:n1<P.tk.length
 ·rw[yab hn]at hk1
  exact pA (by rw[qC];simp;omega) (tB (Ok.fail hst hk1))
 ·rw[yaa hn]at hk1
  exact qB (by rw[qC];simp;omega) (Ok.now hk1 hst rfl)
theorem ET(h:St P tf t n d)(hk:Ok P rdStr d tf (jV P.tk n) Q E):dK yA F E 58 [.ptr P.bp 0] t Q:=by
 refine w58 _ ?_
 unfold t58;refine tB ?_
 rw[pQ 88,IH h,sA];refine vE ?_
 unfold jV at hk
 cases hx:eV P.tk n with
 | false=>
  rw[hx,yaa (by simp)]at hk
  exact pA rfl (tB (Ok.fail h hk))
 | true=>
  rw[hx,yab rfl]at hk;refine qB (by simp) (tB ?_)
  rw[pE 59];refine Hp (k:=1) (by omega) h ?_
  have hkd:fL P.tk 1 n=true:=by unfold eV at hx;simp only[ybb]at hx;exact hx.1
  unfold dP;rw[hkd,yab rfl];intro tf' t' v k1 k2 ⟨x,_,e,k3⟩
  subst k3;refine eC (agT _) ?_
  exact hk tf' t' _ k1 k2 (by show zA.str x.text=.str _;rw[e])
end
end Go.Proofs
namespace Go.Am
open Go Go.RowKit
def bZ{α:Type}(f:Nat->Option α):Nat->Tr α
 | 0=>.leaf
 | n+1=>match f n with
  | some v=>(bZ f n).set n v
  | none=>bZ f n
theorem Ak{α:Type}(f:Nat->Option α):∀(n a:Nat),(bZ f n).get a=if a<n then f a else none:=by
 intro n;induction n with
 | zero=>intro a;rw[yaa (by omega)];exact Tr.get_leaf _
 | succ n ih=>
  grind [bZ,Tr.get_set]
def Df (N:Nat):Value->Option zA
 | .bool b=>some (.bool b)
 | .int k n=>some (.int k n)
 | .string s=>some (.str (aE s))
 | .slice none 0 0=>some .nilslice
 | .slice (some _) 0 0=>some (.slice 0 0 0 0)
 | .slice (some ⟨b,off,none⟩) len cap=>if b<N then some (.slice (256+b) off len cap)else none
 | _=>none
def absB (N:Nat):Obj->Option vA
 | .cells cs _ _=>some (.cells (bZ (fun j=>(cs[j]?).bind (Df N)) cs.size) cs.size none)
 | _=>none
def vO (w:World):Tr vA:=bZ (fun a=>if a<256 then(w.heap[a]?).bind (absB w.heap.size)else(w.heap[a-256]?).bind (absB w.heap.size)) (256+w.heap.size)
def muW (w:World):Mu:=⟨fun a=>if a<256 then some ⟨a,true,0,0,true⟩else if a<256+w.heap.size then some ⟨a-256,true,0,0,true⟩else none,fun _=>none⟩
section
variable {w:World}
theorem za9{v:Value}{a:zA}(h:Df w.heap.size v=some a):uA (muW w) a v:=by
 unfold Df at h;split at h
 ·cases h;rw[uA]
 ·cases h;rw[uA]
 ·grind [uA]
 ·cases h;rw[uA]
 ·grind [uA]
 ·split at h
  ·rename_i hb
   cases h;rename_i b off len cap _;rw[uA];refine .inl ⟨⟨b,true,0,0,true⟩,cap,?_,rfl,ybk _,fun _=>rfl,fun h=>by cases h⟩
   show(if 256+b<256 then some (⟨256+b,true,0,0,true⟩:BI)else if 256+b<256+w.heap.size then some ⟨256+b-256,true,0,0,true⟩else none)=_
   rw[yaa (by omega),yab (by omega),show 256+b-256=b by omega]
  ·cases h
 ·cases h
theorem LW{o:Obj}{x:vA}(h:absB w.heap.size o=some x)(b:Nat):yI (muW w) ⟨b,true,0,0,true⟩ x o/\x.asLoop=none/\x.asDeferred=none:=by
 cases o<;>first | (cases h;done) | skip
 rename_i cs elem fr
 cases h;refine⟨⟨cs,elem,fr,rfl,ybk _,.inl rfl,fun j v hv=>?_,rfl⟩,rfl,rfl⟩
 grind [Ak,za9]
theorem hrelW:wB (256+w.heap.size) w.heap.size (muW w) ⟨256+w.heap.size,vO w⟩ w:=by
 have hget:∀a x,(vO w).get a=some x->∃b o,b<w.heap.size/\w.heap[b]?=some o/\absB w.heap.size o=some x/\a<256+w.heap.size/\b=(if a<256 then a else a-256):=by
  grind [vO,Ak]
 have hmu:∀a,(muW w) a=if a<256 then some ⟨a,true,0,0,true⟩else if a<256+w.heap.size then some ⟨a-256,true,0,0,true⟩else none:=fun _=>rfl
 have big:∀a,256+w.heap.size<=a->(muW w) a=none:=fun a h=>by rw[hmu,yaa (by omega),yaa (by omega)]
 have same:∀a x i,(vO w).get a=some x->(muW w) a=some i->∃o,w.heap[i.b]?=some o/\i.b<w.heap.size/\absB w.heap.size o=some x/\i=⟨i.b,true,0,0,true⟩:=by
  grind
 refine⟨by omega,fun g hg=>by rw[hmu,yab hg],fun a x i _ hx hi=>?_,ybk _,ybk _,fun a ha=>⟨big a ha,?_⟩,fun a x i hx hi=>?_,fun a i ha hi=>?_,fun a b x y i j hx _ hi _ ha _ _=>?_,fun a x t h=>by cases h⟩
 ·obtain⟨o,_,h2,h3,_⟩:=same a x i hx hi
  exact⟨h2,(LW h3 0).2⟩
 all_goals grind [vO,Ak,LW]
end
end Go.Am
namespace Go.Am
open Go Go.RowKit
def tiles(P:Program):Nat->List Field->Nat->Bool
 | off,[],n=>off == n
 | off,f::fs,n=>f.offset == off&&tiles P (off+P.cellsOf f.type) fs n
structure Plain (P:Program) (S:TypeId->Prop):Prop where
 part:∀t,S t->match P.underlying t with
  | some .bool=>True
  | some (.int _)=>True
  | some .string=>True
  | some (.slice e)=>S e/\0<P.cellsOf e
  | some (.struct fs)=>(∀f∈fs.toList,S f.type)/\tiles P 0 fs.toList (P.cellsOf t)=true
  | _=>False
end Go.Am
namespace Go.Am
open Go Go.RowKit
structure zbq (P:Program) where
 (b i u8 u16 s limbs whole frac val expr exprs row rows table tables dfn dfns clause clauses plan:TypeId)
 hb:P.underlying b=some .bool
 hi:P.underlying i=some (.int .i64)
 hu8:P.underlying u8=some (.int .u8)
 hu16:P.underlying u16=some (.int .u16)
 hs:P.underlying s=some .string
 hlimbs:P.underlying limbs=some (.slice u16)
 hexprs:P.underlying exprs=some (.slice expr)
 hrows:P.underlying rows=some (.slice row)
 htables:P.underlying tables=some (.slice table)
 hdfns:P.underlying dfns=some (.slice dfn)
 hclauses:P.underlying clauses=some (.slice clause)
 hwhole:∃fs,P.underlying whole=some (.struct fs)/\fs.toList.map (·.type)=[b,limbs]
 hfrac:∃fs,P.underlying frac=some (.struct fs)/\fs.toList.map (·.type)=[whole,whole]
 hval:∃fs,P.underlying val=some (.struct fs)/\fs.toList.map (·.type)=[u8,frac,i]
 hexpr:∃fs,P.underlying expr=some (.struct fs)/\fs.toList.map (·.type)=[u8,s,val,exprs]
 hrow:∃fs,P.underlying row=some (.struct fs)/\fs.toList.map (·.type)=[i,i,i,frac]
 htable:∃fs,P.underlying table=some (.struct fs)/\fs.toList.map (·.type)=[s,b,rows]
 hdfn:∃fs,P.underlying dfn=some (.struct fs)/\fs.toList.map (·.type)=[s,u8,b]
 hclause:∃fs,P.underlying clause=some (.struct fs)/\fs.toList.map (·.type)=[s,s,i,i,i,b,expr,expr]
 hplan:∃fs,P.underlying plan=some (.struct fs)/\fs.toList.map (·.type)=[s,dfns,tables,clauses]
 cu16:P.cellsOf u16=1
 cexpr:P.cellsOf expr=9
 crow:P.cellsOf row=7
 ctable:P.cellsOf table=3
 cdfn:P.cellsOf dfn=3
 cclause:P.cellsOf clause=24
 bytes:1<=P.bytesOf u16/\1<=P.bytesOf expr/\1<=P.bytesOf row/\1<=P.bytesOf table/\1<=P.bytesOf dfn/\1<=P.bytesOf clause
namespace zbq
end zbq
end Go.Am
namespace Go.Am
open Go Go.RowKit Go.Proofs
theorem RW[jC](B N:Nat)(hb:B<=256+jC.n):Lf Tryz.prog yA B N qL:=by
 intro f g hg args H v H' hv μ w args' hH hI hl;have hg:Vh.get f=some g:=hg
 unfold Vh at hg;rcases dT hg with⟨rfl,rfl⟩ | hg
 ·exact tX hv hH fun hv=>DO hv hl
 rcases dT hg with⟨rfl,rfl⟩ | hg
 ·exact tX hv hH fun hv=>DM hv hl
 rcases dT hg with⟨rfl,rfl⟩ | hg
 ·exact tX hv hH fun hv=>DN hI hv hl
 rcases dT hg with⟨rfl,rfl⟩ | hg
 ·exact tX hv hH fun hv=>DP hI hv hl
 rcases dT hg with⟨rfl,rfl⟩ | hg
 ·exact .inr (RX hb hH hv hl)
 rcases dT hg with⟨rfl,rfl⟩ | hg
 ·exact .inr (RY hb hH hv hl)
 rcases dT hg with⟨rfl,rfl⟩ | hg
 ·exact tX hv hH fun hv=>RZ hI hv hl
 ·rw[Tr.get_leaf]at hg;cases hg
theorem sim30[jC](hN:5<=jC.n):vJ Tryz.prog yA (256+jC.n) jC.n qL:=
 ⟨Zp rfl,Xl rfl,RW _ _ (ybk _),ybk _,by kernel_rfl,fun _ _ hb h=>h.below hN hb⟩
section
variable {w:World}
theorem zcj{b:Nat}{y:vA}(h:(vO w).get b=some y):b<256+w.heap.size:=by
 grind [vO,Ak]
theorem NM(hL:qL w)(f:Nat)(args:List zA)(args':Array Value)(hp:∀ [jC],yA.prims.get f=none)(hl:rB (muW w) args args'.toList)
  (h:∀ [jC],∃Q:fA,Wc yA F f args (vO w) Q/\∀v t,Q v t->v=.bool true) (hf:Nat.blt f yo=true:=by rfl) :
  Calls Tryz.prog f args' w fun e w'=>e=.returned (.bool true)/\Below w.heap.size w w':=by
 letI:jC:=⟨w.heap.size⟩
 obtain⟨Q,h1,h2⟩:=h
 refine(YH (H:=⟨256+w.heap.size,vO w⟩) (sim30 hL.size) hL zd2 hp (ybk _) (fun b y hb=>zcj hb) hrelW hl h1 hf).mono fun e w' ⟨v,v',t',μ',g1,g2,g3,g4,g5⟩=>?_
 have:=h2 v t' g4
 subst this;rw[uA]at g3;exact⟨by rw[g1,g3],g5⟩
theorem BF{g:Nat}{l:List (List UInt8)}{tg:TypeId}(hg:g<256)(h:w.heap[g]?=some (.cells (wR l).toArray tg (0,0)))[jC]:At (vO w) g 0 (l.map fun b=>.str (b.map UInt8.toNat)):=by
 have hb:=(ybe.1 h).1
 have e:(vO w).get g=some (.cells (bZ (fun j=>((wR l).toArray[j]?).bind (Df w.heap.size)) (wR l).toArray.size) (wR l).toArray.size none):=by
  unfold vO;rw[Ak,yab (by omega),yab (by omega),h]
  rfl
 refine⟨_,_,_,e,fun j a ha=>?_⟩
 rw[Ak,ybw];rw[ybu]at ha
 cases hbt:l[j]? with
 | none=>rw[hbt]at ha;cases ha
 | some b=>
  rw[hbt]at ha;obtain rfl:=yci ha
  have hj:=(ybc.1 hbt).1
  rw[yab (by simpa[wR]using hj)]
  simp only[wR,List.getElem?_toArray,ybu,hbt,Option.map_some,yai,Df];rfl
theorem zc5{g:Nat}{l:List Int}{tg:TypeId}(hg:g<256)(h:w.heap[g]?=some (.cells (dV l).toArray tg (0,0)))[jC]:At (vO w) g 0 (l.map fun n=>.int .i64 n):=by
 have hb:=(ybe.1 h).1
 have e:(vO w).get g=some (.cells (bZ (fun j=>((dV l).toArray[j]?).bind (Df w.heap.size)) (dV l).toArray.size) (dV l).toArray.size none):=by
  unfold vO;rw[Ak,yab (by omega),yab (by omega),h]
  rfl
 refine⟨_,_,_,e,fun j a ha=>?_⟩
 rw[Ak,ybw];rw[ybu]at ha
 cases hbt:l[j]? with
 | none=>rw[hbt]at ha;cases ha
 | some b=>
  rw[hbt]at ha;obtain rfl:=yci ha
  have hj:=(ybc.1 hbt).1
  rw[yab (by simpa[dV]using hj)]
  simp only[dV,List.getElem?_toArray,ybu,hbt,Option.map_some,yai,Df]
theorem zc9(h:qL w):∀ [jC],rK (vO w):=by
 intro _;obtain⟨t1,h1⟩:=h.kinds
 obtain⟨t2,h2⟩:=h.modes
 obtain⟨t3,h3⟩:=h.lens
 exact⟨BF (by decide) h1,BF (by decide) h2,zc5 (by decide) h3⟩
end
end Go.Am
namespace Go.Am
open Go Go.RowKit Go.ChangeShapes Go.WideShapes Go.ChangeAt
section
variable {H:Type}{enc:TypeId × Value->H}{P:Program}
theorem Zs(hl:laidOutB P=true){W W':World}(hb:Below W.heap.size W W'):∀ {ts:List TypeId} {vs:List Value} {ds:List (DataW H)} {ps:List MemPlace},(∀t∈ts,P.readableRec t=true/\t<P.types.size) →
  DataW.TrodAll enc P W 0 (fun _=>true) true ts vs ds ps->(∀x∈ps,x.block<W.heap.size)->DataW.TrodAll enc P W' 0 (fun b=>decide (b<W.heap.size)) true ts vs ds ps
 | [],[],[],_,_,h,_=>h
 | t::ts,_::_,_::_,_,ht,⟨p,q,h1,h2,e⟩,hs=>by
  subst e;exact⟨p,q,Below.trod hl (ht t (by simp)).1 (ht t (by simp)).2 h1 hb fun x hx=>hs x (ydc _ hx),
   Zs hl hb (fun t ht'=>ht t (ybr _ ht')) h2 fun x hx=>hs x (ycf _ hx),rfl⟩
 | [],_::_,_,_,_,h,_=>by simp[DataW.TrodAll]at h
 | [],[],_::_,_,_,h,_=>by simp[DataW.TrodAll]at h
 | _::_,[],_,_,_,h,_=>by simp[DataW.TrodAll]at h
 | _::_,_::_,[],_,_,h,_=>by simp[DataW.TrodAll]at h
theorem law_post(hl:laidOutB P=true){f:Func}{s:ChangeSpec}{tb:TypeId}(hp:∀t∈f.params.toList,P.readableRec t=true/\t<P.types.size)(hv:s.vars=[])(hres:f.resultTypes = #[tb])(htb:P.underlying tb=some .bool)
  {W W':World} {args:Array Value} {ds gs:List (DataW H)} {before:List MemPlace} (hfn:s.fn H ds={ results:=[.lit (.bool true)],args:=ds })
  (hW:DataW.Whole enc P f.params.toList s.vars false W args.toList ds gs before) (hb:Below W.heap.size W W') :
  s.post enc P f false true false false W args (.bool true) W':=by
 have hW0:=hW
 obtain⟨p,q,hA,hV,rfl,hfz,hnd⟩:=hW
 rw[hv]at hV;obtain⟨rfl,rfl⟩:=trodVars_none hV
 refine⟨ds,[],p++[],[],p,[],hW0,?_,?_,?_,hb.frame _,fun h=>by cases h⟩
 ·rw[ycd,hfn,hres]
  exact trodAll_mk1 (shut_bool htb _)
 ·rw[ycd,hfn]
  exact Zs hl hb hp hA fun x hx=>hW0.lt x (by simp_all)
 ·rw[ycd,hfn,hv]
  exact rfl
theorem ZZ{a:Assume}{C:Checked}{os:Os}{f:FuncId}{fn:Func}{s:ChangeSpec}{conds:List PathCond}{apart fresh handsOn again:Bool}{X:World->Array Value->Prop}
  (hX:∀(w w':World) (args:Array Value),w.heap=w'.heap->X w args->X w' args)
  (own:ownKnob C.prog.godebug=none) (started:os.Started) (noInit:C.prog.inits.idxOf? f=none) (hfn:C.prog.funcs[f]?=some fn)
  (witness:∃(w:World) (tape:Tape) (i:Input),w.os=os/\(w.forCall tape i).Shaped C.prog/\i.vars=[]/\Input.okWide C.prog (w.forCall tape i) .any w.heap.size f i ∧
   ((s.pre enc C.prog fn conds apart (w.forCall tape i).memory i.args/\X (w.forCall tape i).memory i.args)/\sizedMet enc C.prog fn (OpenSpec.ofChange s) apart (w.forCall tape i).memory i.args)/\a.holds C.prog (lone (Frame.enter C.prog f i.args .normal) [] (w.forCall tape i)))
  (contract:∀(W:World) (base:Nat) (args:Array Value) (ds gs:List (DataW H)) (before:List MemPlace),
   (∀(j:Nat) t v,fn.params[j]?=some t->args[j]?=some v->Value.okWide C.prog W .any base t v) →
   DataW.Whole enc C.prog fn.params.toList s.vars apart W args.toList ds gs before →
   (DataW.weightsEach C.prog (fn.params.toList++s.plain.varTypes C.prog) (ds++gs)).all (· <= reachBytes)=true->X W args->W.ShapedOpen C.prog →
   Calls C.prog f args W fun e W'=>∃v,e=.returned v/\s.post enc C.prog fn apart fresh handsOn again W args v W') :
  ReturnsInHanded a C os f .any (fun w args=>(s.pre enc C.prog fn conds apart w args/\X w args)/\sizedMet enc C.prog fn (OpenSpec.ofChange s) apart w args) (s.post enc C.prog fn apart fresh handsOn again):=by
 refine returnsInHanded_of_calls own started noInit witness ?_
 intro w tape i _ hsh _ hok hpre _;obtain⟨_,_,_,fn',hfn',_,_,_,_,hval⟩:=hok
 have e:fn'=fn:=yci (hfn'.symm.trans hfn)
 subst e;obtain⟨⟨⟨ds,gs,before,hw,hc⟩,hx⟩,hz⟩:=hpre
 have hw':=DataW.Whole.of_heap (w':=w.forCall tape i) (by rfl) hw
 refine(contract (w.forCall tape i) w.heap.size i.args ds gs before hval hw' (hz.weights hw) (hX _ _ _ (by rfl) hx) hsh).mono fun e W' ⟨v,he,hp⟩=>?_
 grind [ChangeSpec.post_blind]
variable {w:World}{base:Nat}{spare:Nat->Bool}{held:Bool}{fuel:Nat}{t e:TypeId}{cs:List Value}{ps:List MemPlace}
theorem Yu{α:Type}{g:α->DataW H}{u:α->Value}{l:List α}{n:Nat}(ht:P.underlying t=some (.array n e))(hc:P.cellsOf e=1)(hn:P.cellsOf t=n)
  (h1:∀(m:Nat) (c:List Value) (x:DataW H × List MemPlace) (a:α),DataW.trod enc P w base spare held m e c=some x->x.1=g a->c=[u a])
  (h:DataW.trod enc P w base spare held fuel t cs=some (.agg (l.map g),ps)):cs=l.map u:=by
 obtain⟨xs,m,_,hx,hlen,hxs,hel⟩:=DataW.trod_array ht h
 simp only[Prod.mk.injEq,DataW.agg.injEq]at hx;have hl:l.length=n:=by have:=congrArg List.length hx.1;grind
 rw[hn]at hlen;refine List.ext_getElem (by rw[hlen,ybf,hl]) fun i hi1 hi2=>?_
 have hi:i<n:=by omega
 have:=hel i hi
 rw[hc]at this;have hc1:((cs.drop (i*1)).take 1)=[cs[i]]:=by
  grind [List.drop_eq_getElem_cons]
 rw[hc1,ybd (by omega)]at this
 have hxi:xs[i].1=g (l[i]'(by omega)):=by
  have:=congrArg (fun z=>z[i]?) hx.1
  grind
 grind
theorem BH(he:P.underlying e=some .string)(m:Nat)(c:List Value)(x:DataW H × List MemPlace)(b:List UInt8)(h:DataW.trod enc P w base spare held m e c=some x)(hx:x.1=.lit (.string b)):c=[.string ⟨b.toArray⟩]:=by
 obtain⟨s,rfl,rfl,_⟩:=DataW.trod_string he h
 simp at hx;rw[<- hx]
theorem UW(he:P.underlying e=some (.int .i64))(m:Nat)(c:List Value)(x:DataW H × List MemPlace)(n:Int)(h:DataW.trod enc P w base spare held m e c=some x)(hx:x.1=.lit (.int .i64 n)):c=[.int .i64 n]:=by
 obtain⟨k,rfl,rfl,_⟩:=DataW.trod_int he h
 simp at hx;rw[hx]
end
theorem joined_of{P:Program}{f:FuncId}{fn:Func}{s:ChangeSpec}{c:OpenClaim}
  (A:(c.wf (OpenSpec.ofChange s)&&laidOutB P&&mapsRowed P&&fn.params.all (P.readableRec ·)&&namedTie P c.named s.vars&&(c.stops == [])&&(P.stops == [])&&(c.knobs == [])&&(P.stopKnobs == []))=true)
  (h1:(c.inPlace == P.inPlace f)=true) (h2:(c.unfollowed == P.unfollowed f)=true) (h3:(c.recurses == P.recurses f)=true) (h4:(c.named == P.varsNamed f)=true)
  (E:((c.maps == (fn.params.toList++s.plain.varTypes P).any (P.mapsRec ·))&&(c.ifaces == (fn.params.toList++s.plain.varTypes P).any (P.ifacesRec ·))&&(c.mapsOut == P.mapsAmong fn.resultTypes.toList) &&
   (c.loops == (fn.params.toList++s.plain.varTypes P).any (P.loopsFrom ·))&&(c.wideKeys == (fn.params.toList++s.plain.varTypes P++fn.resultTypes.toList).any (P.wideKeysFrom ·)) &&
   s.vars.all (P.varReadable ·)&&fn.resultTypes.all (fun t=>P.readableRec t&&decide (t<P.types.size))&&(c.ifacesOut == fn.resultTypes.toList.any (P.ifacesRec ·))&&(c.loopsOut == fn.resultTypes.toList.any (P.loopsFrom ·))&&c.shortTexts.isNone)=true)
  (h5:(c.plainKeys == P.plainKeys)=true) (h6:P.stopsHeard=true) (h7:P.mayEnter=true) (h8:(c.lifted == P.liftsFinal)=true)
  (R:((P.make == some c.make)&&(c.kinds == (if c.domain.isEmpty then []else fn.params.toList.map fun t=>match P.underlying t with | some (.int k)=>some k | _=>none))&&(c.pinned == c.pinnedBy) &&
   (c.veiled == (fn.params.toList++s.plain.varTypes P++fn.resultTypes.toList).any (P.veiledRec ·))&&c.veiledFits P fn.params.toList (fn.params.toList++s.plain.varTypes P++fn.resultTypes.toList))=true) :
  joinedFacts P f fn s c=true:=by
 unfold joinedFacts;simp only[ybb]at A E R ⊢
 grind
end Go.Am
namespace Go.Proofs.YtfmlbimokklmgaaGreatDoor
open Go Go.Am Go.RowKit Go.ChangeShapes Go.WideShapes Go.ChangeAt
theorem own:ownKnob Tryz.prog.godebug=none:=by kernel_rfl
theorem laidOut:laidOutB Tryz.prog=true:=by kernel_rfl
theorem gLens : Tryz.prog.globalNamed "annuitant/calendar.lengths" = some 2 := by kernel_rfl
theorem gKinds : Tryz.prog.globalNamed "annuitant/parse.kindWords" = some 1 := by kernel_rfl
theorem gModes : Tryz.prog.globalNamed "annuitant/parse.modeWords" = some 4 := by kernel_rfl
theorem tLens:(Tryz.prog.globals[2]?).map (·.type)=some 219:=by kernel_rfl
theorem tKinds:(Tryz.prog.globals[1]?).map (·.type)=some 201:=by kernel_rfl
theorem tModes:(Tryz.prog.globals[4]?).map (·.type)=some 201:=by kernel_rfl
def laid3 : List (String × DataW Unit) := [("annuitant/calendar.lengths", Rows.laid_annuitant_calendar_lengths), ("annuitant/parse.kindWords", Rows.laid_annuitant_parse_kindWords), ("annuitant/parse.modeWords", Rows.laid_annuitant_parse_modeWords)]
theorem door_met(os:Os)(args:Array Value):laidMetH Tryz.prog laid3 ((World.doorLaid Tryz.prog 24 os).forCall (fun _ _=>0) ⟨#[],args,[]⟩).memory:=
 laidMetH_of_parts3 (fuel:=8) (laidMet_of_run' 8 (by kernel_rfl) (by kernel_rfl)) (by kernel_rfl) (by kernel_rfl)
theorem Rm{W:World}{n:String}{g:Nat}{cs:Array Value}(hg:Tryz.prog.globalNamed n=some g)(hv:W.var? Tryz.prog n=some cs)(hc:∃c t,W.heap[g]?=some (.cells c t (0,0))):∃t,W.heap[g]?=some (.cells cs t (0,0)):=by
 obtain⟨c,t,hc⟩:=hc
 unfold World.var? at hv
 rw[hg]at hv;simp only[yai,hc,Option.some.injEq]at hv;subst hv;exact⟨t,hc⟩
theorem Uq{g n:Nat}{p q:List MemPlace}(h:0<n):MemPlace.cell g 0∈MemPlace.row ⟨g,0,none⟩ n++p++q:=
 ydc _ (ydc _ (yaq.2 ⟨0,List.mem_range.2 h,rfl⟩))
theorem laid_of{W:World}(h:laidMetH Tryz.prog laid3 W)(hsh:W.ShapedOpen Tryz.prog):qL W:=by
 rw[MakeChecks.laidMetH_plain _ _ _ (by kernel_rfl)]at h
 obtain⟨ps,⟨g0,t0,cs0,f0,p0,q0,hg0,ht0,hv0,hd0,⟨g1,t1,cs1,f1,p1,q1,hg1,ht1,hv1,hd1,⟨g2,t2,cs2,f2,p2,q2,hg2,ht2,hv2,hd2,_,hp2⟩,hp1⟩,hp0⟩,_,hcell⟩:=h
 obtain rfl:=yci (gLens.symm.trans hg0)
 obtain rfl:=yci (gKinds.symm.trans hg1)
 obtain rfl:=yci (gModes.symm.trans hg2)
 obtain rfl:=yci (tLens.symm.trans ht0)
 obtain rfl:=yci (tKinds.symm.trans ht1)
 obtain rfl:=yci (tModes.symm.trans ht2)
 have c3:Tryz.prog.cellsOf 3=1:=by kernel_rfl
 have c9:Tryz.prog.cellsOf 9=1:=by kernel_rfl
 have c201:Tryz.prog.cellsOf 201=7:=by kernel_rfl
 have c219:Tryz.prog.cellsOf 219=12:=by kernel_rfl
 have e0:cs0.toList=dV iX:=Yu (l:=iX) (g:=fun n=>.lit (.int .i64 n)) (u:=fun n=>.int .i64 n) Tryz.underlying219 c3 c219 (fun m c x a=>UW Tryz.underlying3 m c x a) hd0
 have e1:cs1.toList=wR cX:=Yu (l:=cX) (g:=fun b=>.lit (.string b)) (u:=fun b=>.string ⟨b.toArray⟩) Tryz.underlying201 c9 c201 (fun m c x a=>BH Tryz.underlying9 m c x a) hd1
 have e2:cs2.toList=wR nX:=Yu (l:=nX) (g:=fun b=>.lit (.string b)) (u:=fun b=>.string ⟨b.toArray⟩) Tryz.underlying201 c9 c201 (fun m c x a=>BH Tryz.underlying9 m c x a) hd2
 have s0:cs0=(dV iX).toArray:=by rw[<- e0]
 have s1:cs1=(wR cX).toArray:=by rw[<- e1]
 have s2:cs2=(wR nX).toArray:=by rw[<- e2]
 subst s0 s1 s2
 have m0:MemPlace.cell 2 0∈ps:=by rw[hp0];exact Uq (by decide)
 have m1:MemPlace.cell 1 0∈ps:=by rw[hp0,hp1];exact ycf _ (Uq (by decide))
 have m2:MemPlace.cell 4 0∈ps:=by rw[hp0,hp1,hp2];exact ycf _ (ycf _ (Uq (by decide)))
 exact⟨Rm hg1 hv1 (hcell 1 0 m1).1,Rm hg2 hv2 (hcell 4 0 m2).1,Rm hg0 hv0 (hcell 2 0 m0).1,Tryz.laysM144.s1_3 W hsh⟩
theorem stopsHeard:Tryz.prog.stopsHeard=true:=by kernel_rfl
theorem mayEnter:Tryz.prog.mayEnter=true:=by kernel_rfl
theorem bool4:Tryz.prog.underlying 4=some .bool:=Tryz.underlying4
theorem open_two{W:World}{base:Nat}{t e:TypeId}{v:Value}(hu:∃n,Tryz.prog.underlying t=some (.array n e))(hc:Tryz.prog.cellsOf t=2)(hts:Tryz.prog.cellTypes Tryz.prog.depth t=some [e,e])(h:Value.okWide Tryz.prog W .any base t v):∃a b,v=.agg #[a,b]/\Cell.okWide Tryz.prog W .any base e a/\Cell.okWide Tryz.prog W .any base e b:=by
 obtain⟨n,hu⟩:=hu
 unfold Value.okWide at h;rw[hu]at h;obtain⟨cs,rfl,h2,ts,h3,_,h4⟩:=h
 rw[hts]at h3
 cases h3;obtain⟨a,b,rfl⟩:∃a b,cs = #[a,b]:=by
  obtain⟨l⟩:=cs
  rw[hc]at h2;match l,h2 with
  | [a,b],_=>exact⟨a,b,rfl⟩
 obtain⟨u,k1,k2⟩:=h4 0 a rfl
 obtain⟨u',k3,k4⟩:=h4 1 b rfl
 cases k1
 cases k3
 exact⟨a,b,rfl,k2,k4⟩
theorem cell_int{W:World}{base:Nat}{e:TypeId}{k:IntKind}{v:Value}(hu:Tryz.prog.underlying e=some (.int k))(h:Cell.okWide Tryz.prog W .any base e v):∃n,v=.int k n/\k.has n:=by
 unfold Cell.okWide at h;rw[hu]at h;have h:Cell.ok Tryz.prog W .any base e v:=h
 unfold Cell.ok at h;rw[hu]at h
 cases v<;>first | (exact⟨_,by rw[h.1],h.2⟩) | exact h.elim
theorem cell_str{W:World}{base:Nat}{e:TypeId}{v:Value}(hu:Tryz.prog.underlying e=some .string)(h:Cell.okWide Tryz.prog W .any base e v):∃s,v=.string s:=by
 unfold Cell.okWide at h;rw[hu]at h;have h:Cell.ok Tryz.prog W .any base e v:=h
 unfold Cell.ok at h;rw[hu]at h
 cases v<;>first | exact⟨_,rfl⟩ | exact h.elim
end Go.Proofs.YtfmlbimokklmgaaGreatDoor
namespace Go.Am
open Go Go.RowKit
theorem Tr.pick(p:Nat->Bool)(t:Tr vA):∀n:Nat,∃t':Tr vA,∀b,t'.get b=if b<n/\p b=true then none else t.get b:=by
 intro n;induction n with
 | zero=>exact⟨t,fun b=>by simp⟩
 | succ n ih=>
  obtain⟨t',h⟩:=ih
  cases hp:p n with
  | false=>exact⟨t',fun b=>by rw[h];by_cases hb:b=n<;>grind⟩
  | true=>exact⟨t'.del n,fun b=>by rw[Tr.get_del,h];by_cases hb:b=n<;>grind⟩
section
variable {C:rA}{F:Tr kD}{f:Nat}{args:List zA}{tf t:Tr vA}{Q:fA}
theorem Wc.under(h:Wc C F f args tf Q)(hle:zB tf t):Wc C F f args t fun v t'=>∃tf',Q v tf'/\zB tf' t'/\∀b y,t.get b=some y->tf.get b=none->t'.get b=some y/\tf'.get b=none:=by
 intro X HA ho;have hX:Ov C.base tf (fun b=>match tf.get b with | some _=>none | none=>match t.get b with | some y=>some y | none=>X b) HA:=by
  refine⟨ho.base,fun b hb=>?_,fun b y hb=>?_,fun b y hb=>ho.lt _ _ (hle _ _ hb)⟩
  ·cases h1:tf.get b with
   | some y=>rw[ho.up (hle _ _ h1)]
   | none=>
    simp only[h1]at hb
    cases h2:t.get b with
    | some y=>simp[h2]at hb
    | none=>simp only[h2]at hb;rw[ho.same b hb,h2]
  ·cases h1:tf.get b with
   | some y=>simp[h1]at hb
   | none=>
    simp only[h1]at hb
    cases h2:t.get b with
    | some z=>simp only[h2]at hb;cases hb;exact⟨ho.up h2,rfl,ho.lt _ _ h2⟩
    | none=>simp only[h2]at hb;obtain⟨e1,e2,e3⟩:=ho.ext _ _ hb;exact⟨e1,rfl,e3⟩
 obtain⟨v,tf',HA',X',h1,h2,h3,h4⟩:=hO.1 (h _ _ hX)
 have hk:∀b y,t.get b=some y->tf.get b=none->X' b=some y:=fun b y g1 g2=>h3 b y (by simp only[g2,g1])
 obtain⟨t',ht'⟩:=Tr.pick (fun b=>(X' b).isSome && !(tf.get b).isNone.not && !((t.get b).isSome&&(tf.get b).isNone)) HA'.t HA'.next
 have hbase:=h2.base
 refine hO.2 ⟨v,t',HA',fun b=>if ((X' b).isSome && !(tf.get b).isNone.not && !((t.get b).isSome&&(tf.get b).isNone))=true then X' b else none,h1,⟨h2.base,fun b hb=>?_,fun b y hb=>?_,fun b y hb=>?_⟩,?_,tf',h4,?_,?_⟩
 ·rw[ht']
  split
  ·rename_i hc;rw[yab hc.2]at hb;rw[hb]at hc;simp at hc
  ·rfl
 ·split at hb
  ·rename_i hc
   obtain⟨e1,e2,e3⟩:=h2.ext b y hb
   exact⟨e1,by rw[ht',yab ⟨e3,hc⟩],e3⟩
  ·cases hb
 ·rw[ht']at hb
  split at hb
  ·cases hb
  ·cases hx:X' b with
   | some z=>exact(h2.ext b z hx).2.2
   | none=>rw[h2.same b hx]at hb;exact h2.lt b y hb
 ·intro b y hb
  have g1:t.get b=none:=(ho.ext b y hb).2.1
  have g2:tf.get b=none:=by
   cases hx:tf.get b with
   | none=>rfl
   | some z=>rw[hle _ _ hx]at g1;cases g1
  have g3:X' b=some y:=h3 b y (by simp only[g2,g1,hb])
  simp[g1,g2,g3]
 ·intro b y hb
  rw[ht'];split
  ·rename_i hc
   cases hx:X' b with
   | none=>rw[hx]at hc;simp at hc
   | some z=>rw[(h2.ext b z hx).2.1]at hb;cases hb
  ·exact h2.up hb
 ·intro b y g1 g2
  have g3:=hk b y g1 g2
  refine⟨?_,(h2.ext b y g3).2.1⟩
  rw[ht',yaa]
  ·exact(h2.ext b y g3).1
  ·simp[g1,g2]
theorem Wc.objs{R:zA->Tr vA->Prop}{L:List jE}(h:Wc C F f args tf fun v tf'=>zB tf tf'/\R v tf')(ho:cA C.base tf t L)(hQ:∀v tf' t',zB tf tf'->cA C.base tf' t' L->R v tf'->Q v t'):Wc C F f args t Q:=by
 refine(Wc.under h ho.tle).mono fun v t' ⟨tf',⟨k1,k2⟩,k3,k4⟩=>hQ v tf' t' k1 ?_ k2
 refine ho.keep k1 k3 fun k hk=>?_
 obtain⟨y,hy⟩:=ho.live hk
 obtain⟨e1,e2⟩:=k4 k y hy (ho.low k hk).2
 exact⟨by rw[e1,hy],e2⟩
end
end Go.Am
namespace Go.Proofs
open Go Go.Am
variable [jC]
theorem el189:Rf yA 189 56 1:=⟨⟨_,aK,rfl,rfl⟩,⟨_,fG,rfl,rfl,by decide,by decide⟩⟩
def gN (l:List Nat):List zA:=l.map fun(n:Nat)=>zA.int .u32 (n:Int)
theorem Zo(l:List Nat):(gN l).length=l.length:=by simp[gN]
theorem vD.words{t:Tr vA}{b n cap:Nat}{l:List Nat}(h:vD t b none (gN l))(hn:n<=l.length)(hc:n<=cap):aA t 1 (xC .u32 (l.take n)) (.slice b 0 n cap):=by
 obtain⟨c,h1,h2⟩:=h
 refine⟨(l.take n).map fun(x:Nat)=>[zA.int .u32 (x:Int)],.inr ⟨b,0,cap,?_,by simp;omega,⟨c,_,_,h1,.inl rfl⟩,fun i cs hi=>?_⟩,?_⟩
 ·simp;omega
 ·rw[ybu]at hi
  cases hx:(l.take n)[i]? with
  | none=>rw[hx]at hi;cases hi
  | some x=>
   rw[hx]at hi;cases hi;refine⟨rfl,c,_,_,h1,fun j a hj=>?_⟩
   match j,hj with
   | 0,hj=>
    cases hj;rw[show 0+i*1+0=i by omega];refine h2 i _ ?_
    have:=(ybc.1 hx).1
    rw[ydf]at hx;unfold gN;rw[ybu];grind
 ·induction l.take n with
  | nil=>exact rH.2 rfl
  | cons x r ih=>exact iF.2 ⟨_,_,rfl,vT.2 rfl,ih⟩
theorem vD.le{tf t:Tr vA}{b:Nat}{lo:Option Lo}{cs:List zA}(h:vD tf b lo cs)(hl:zB tf t):vD t b lo cs:=by
 obtain⟨c,h1,h2⟩:=h
 exact⟨c,hl _ _ h1,h2⟩
theorem iT{base:Nat}{W J:pF}{t:Tr vA}{Q:fA}{f:zA}{args:List zA}{K:zA->T}{g:Nat}{a:List zA}(h:wK f args=some (g,a))(k:W g a t (fun v t'=>oA base W J (K v) t' Q)):oA base W J (.callv f args K) t Q:=by
 show xD (wK f args) _
 rw[h];exact k
section
variable {t t0:Tr vA}{Q:fA}
abbrev Ao(a3 b a1 a0:Nat)(row:List Nat)(k cap:Nat)(c:Nat):List jE:=[lC a3 none [.slice b 0 k cap],lC b none (gN row),lC a1 none [.int .u64 (c:Int)],lC a0 none [.ptr a3 0]]
theorem zbf{a3 b a1 a0 k cap c s:Nat}{row:List Nat}(h:cA yA.base t0 t (Ao a3 b a1 a0 row k cap c))(hk:k<cap)(hcap:cap=row.length)(hs:s+c<18446744073709551616)
  (hQ:∀t',cA yA.base t0 t' (Ao a3 b a1 a0 (row.set k ((s+c)%4294967296)) (k+1) cap ((s+c) / 4294967296))->Q (.tup []) t'):Wc yA F 154 [.int .u64 (s:Int),.ptr a1 0,.ptr a0 0] t Q:=by
 have l1:∀ {t},cA yA.base t0 t (Ao a3 b a1 a0 row k cap c)->iA yA 207 ⟨0,t⟩ (.ptr a1 0)=some (.int .u64 (c:Int)):=fun h=>(cA.cel (A:=[_,_]) h).load1 nO rfl rfl
 have l2:∀ {t},cA yA.base t0 t (Ao a3 b a1 a0 row k cap c)->iA yA 206 ⟨0,t⟩ (.ptr a0 0)=some (.ptr a3 0):=fun h=>(cA.cel (A:=[_,_,_]) h).load1 ty206 rfl rfl
 have l3:∀ {t},cA yA.base t0 t (Ao a3 b a1 a0 row k cap c)->iA yA 189 ⟨0,t⟩ (.ptr a3 0)=some (.slice b 0 k cap):=fun h=>(cA.cel (A:=[]) h).load1 aK rfl rfl
 have nl:∀b o,kL (.ptr b o)=some (.ptr b o):=fun _ _=>rfl
 refine w154 ?_
 unfold t154 uE;have e1:lA .u64 ((s:Int)+(c:Int))=((s+c:Nat):Int):=by rw[xF (by omega) (by omega)];omega
 have e2:lA .u32 ((s+c:Nat):Int)=(((s+c)%4294967296:Nat):Int):=by rw[xS];omega
 have e3:Int.fdiv ((s+c:Nat):Int) 4294967296=(((s+c) / 4294967296:Nat):Int):=by rw[Int.fdiv_eq_ediv_of_nonneg _ (by omega)];omega
 refine wC (l1 h) (oB ?_)
 rw[e1,e2,e3];refine wC (l2 h) (wC (l2 h) (mA (nl _ _) (wC (l3 h) (pC fun n hn hnb=>?_))))
 obtain⟨t1,g1,g2,g3,g4⟩:=Jl (C:=yA) (T:=189) (ps:=[(0,.int .u32 (((s+c)%4294967296:Nat):Int))]) (cl:=[[.int .u32 (((s+c)%4294967296:Nat):Int)]]) (n:=1) (sz:=1) aK rfl fG rfl rfl (by omega) (by
   have e:pH [zA.int .u32 0] 1=[.int .u32 0]:=rfl
   show yK _ _ (pH [zA.int .u32 0] 1)=_
   rw[e];rfl) (by intro i cs hi;match i,hi with | 0,hi=>cases hi;rfl) rfl hn
 have h1:=h.junk hn g4
 have sm:∀b o,same 10 (.ptr b o) (.ptr b o)=true:=fun b o=>by simp[same,Nat.beq_refl]
 refine⟨_,_,g1,wC (l2 h1) (pA (sm _ _) (wC (l2 h1) (pA (sm _ _) (wC (l3 h1) (pA CG (pC fun n2 _ _=>?_))))))⟩
 have hlow:=h1.low b (by simp[lC])
 obtain⟨t2,k1,k2,k3⟩:=ZF (C:=yA) (n:=n2) (k:=k) (m:=1) (cap:=cap) el189 (cA.cel (A:=[_]) h1) hlow.1 g2 rfl (by omega) (by omega) (by rw[Zo];omega) (by intro a ha;simp at ha;subst ha;rfl)
 have e4:oM (gN row) k [[zA.int .u32 (((s+c)%4294967296:Nat):Int)]].flatten=gN (row.set k ((s+c)%4294967296)):=by
  apply List.ext_getElem?
  intro i;have q1:(gN (row.set k ((s+c)%4294967296)))[i]?=((row.set k ((s+c)%4294967296))[i]?).map fun(n:Nat)=>zA.int .u32 (n:Int):=ybu
  have q2:(gN row)[i]?=(row[i]?).map fun(n:Nat)=>zA.int .u32 (n:Int):=ybu
  rw[Nu (by rw[Zo];show k+1<=_;omega),q1,q2,ycw]
  show(if k<=i/\i<k+1 then [zA.int .u32 (((s+c)%4294967296:Nat):Int)][i-k]? else _)=_
  by_cases hi:i=k
  ·subst hi
   rw[yab ⟨ybk _,by omega⟩,yab rfl,yab (by omega),Nat.sub_self];rfl
  ·rw[yaa (by omega),yaa (fun e=>hi e.symm)]
 rw[e4]at k2;have h2:cA yA.base t0 t2 (Ao a3 b a1 a0 (row.set k ((s+c)%4294967296)) k cap c):=cA.upd (A:=[_]) (o:=lC b none (gN row)) h1 (fun q hq _=>k3 q (fun e=>hq (by simp[lC,e]))) (fun q hq=>.inl hq) k2 (by simp[lC]) (h1.tle.off hlow.2 k3)
 refine⟨_,_,k1,?_⟩
 have l2':iA yA 206 ⟨0,t2⟩ (.ptr a0 0)=some (.ptr a3 0):=(cA.cel (A:=[_,_,_]) h2).load1 ty206 rfl rfl
 refine wC l2' (pA (sm _ _) (mA (nl _ _) (pC fun n3 _ _=>?_)))
 obtain⟨t3,m1,m2⟩:=cA.setCel (A:=[]) (j:=0) (v:=.slice b 0 (k+1) cap) h2 aK rfl (by show 0+1<=1;omega) rfl
 refine⟨_,_,m1 n3,pC fun n4 _ _=>?_⟩
 obtain⟨t4,p1,p2⟩:=cA.setCel (A:=[_,_]) (j:=0) (v:=.int .u64 (((s+c) / 4294967296:Nat):Int)) m2 nO rfl (by show 0+1<=1;omega) rfl
 exact⟨_,_,p1 n4,hQ t4 p2⟩
theorem XS{a3 b k cap:Nat}{row:List Nat}(h:cA yA.base t0 t [lC a3 none [.slice b 0 k cap],lC b none (gN row)])(hQ:∀t' a1 a0,cA yA.base t0 t' (Ao a3 b a1 a0 row k cap 0)->Q (.func (.func 154) [] [.ptr a1 0,.ptr a0 0]) t'):Wc yA F 139 [.ptr a3 0] t Q:=by
 refine w139 ?_
 unfold t139;refine pC fun a0 h0 hb0=>?_
 obtain⟨t1,e1,e2,e3,e4⟩:=Qm (v:=.ptr a3 0) h0
 have o1:=cA.newCel (A:=[_,_]) (B:=[]) h h0 hb0 e2 e3 e4
 refine⟨_,_,e1,pC fun a1 h1 hb1=>?_⟩
 obtain⟨t2,f1,f2,f3,f4⟩:=bR (C:=yA) nO h1
 have o2:=cA.newCel (A:=[_,_]) (B:=[_]) o1 h1 hb1 f2 f3 f4
 refine⟨_,_,f1,pC fun n _ _=>?_⟩
 obtain⟨t3,m1,m2⟩:=cA.setCel (A:=[_,_]) (j:=0) (v:=.int .u64 0) o2 nO rfl (by show 0+1<=1;omega) rfl
 exact⟨_,_,m1 n,hQ t3 a1 a0 m2⟩
theorem NT{l:List Nat}{v:zA}{f p:Nat}(hv:aA t 1 (xC .u32 l) v)(hl:l.length<100000)(hlt:mB 4294967296 l)(hf:f<4294967296)(hp:p<4294967296)
  (hQ:∀t' r rv,zB t t'->aA t' 1 (xC .u32 r) rv->mB 4294967296 r->norm r->val 4294967296 r=val 4294967296 l*f+p->r.length<=l.length+1->Q rv t'):Wc yA F 121 [v,.int .u32 (f:Int),.int .u32 (p:Int)] t Q:=by
 have hlen:=hv.len
 rw[aH]at hlen;have ho:cA yA.base t t []:=⟨zB.refl _,by simp,by simp,by simp⟩
 refine w121 ?_
 unfold t121 uI;have e0:nD (l.length:Int)=.int .i64 ((l.length+1:Nat):Int):=by
  show zA.int .i64 (lA .i64 ((l.length:Int)+1))=_
  rw[oC (by omega) (by omega)];rfl
 refine mA hlen (oB (pC fun b hb hbb=>?_))
 rw[e0];obtain⟨t1,g1,g2,g3,g4⟩:=TN (C:=yA) (T:=189) (el:=56) (k:=.u32) (cap:=l.length+1) aK rfl fG rfl rfl (by decide) (by omega) hb
 have hrow:List.replicate (l.length+1) (zA.int .u32 0)=gN (List.replicate (l.length+1) 0):=by
  unfold gN;rw[List.map_replicate];rfl
 rw[hrow]at g2;have o1:=cA.newCel (A:=[]) (B:=[]) ho hb hbb g2 g3 g4
 refine⟨_,_,g1,pC fun a3 h3 hb3=>?_⟩
 obtain⟨t2,f1,f2,f3,f4⟩:=bR (C:=yA) aK h3
 have o2:=cA.newCel (A:=[]) (B:=[_]) o1 h3 hb3 f2 f3 f4
 refine⟨_,_,f1,pC fun n _ _=>?_⟩
 obtain⟨t3,m1,m2⟩:=cA.setCel (A:=[]) (j:=0) (v:=.slice b 0 0 (l.length+1)) o2 aK rfl (by show 0+1<=1;omega) rfl
 refine⟨_,_,m1 n,tB ?_⟩
 rw[q139];refine XS m2 fun t4 a1 a0 o4=>?_
 have e5:lA .u64 (p:Int)=(p:Int):=xF (by omega) (by omega)
 refine mA hlen (oB (iC ?_))
 rw[e5];have hfn:∀s:Int,wK (.func (.func 154) [] [.ptr a1 0,.ptr a0 0]) [.int .u64 s]=some (154,[.int .u64 s,.ptr a1 0,.ptr a0 0]):=fun s=>rfl
 have loop:∀(k i x c:Nat) (row:List Nat) (t5:Tr vA),i+k=l.length->row.length=l.length+1->mB 4294967296 (row.take i)->x+c<4294967296->val 4294967296 (row.take i)+4294967296^i*(x+c)=val 4294967296 (l.take i)*f+p →
   cA yA.base t t5 (Ao a3 b a1 a0 row i (l.length+1) c)->jp 121 2 [.int .u32 (f:Int),.ptr a3 0,.func (.func 154) [] [.ptr a1 0,.ptr a0 0],.int .u64 (x:Int),v,.int .i64 (l.length:Int),.int .i64 (i:Int)] t5 Q:=by
  intro k;induction k with
  | zero=>
   intro i x c row t5 hi hrl hra hxc hval o5;have hi:i=l.length:=by omega
   subst hi;refine HY ?_
   unfold Tv;refine qB (by simp[qC]) (iT (hfn _) ?_)
   rw[q154];refine zbf o5 (by omega) hrl.symm (by omega) fun t6 o6=>?_
   have hd0:(x+c) / 4294967296=0:=Nat.div_eq_of_lt hxc
   have hm0:(x+c)%4294967296=x+c:=Nat.mod_eq_of_lt hxc
   rw[hm0]at o6;have lv:iA yA 189 ⟨0,t6⟩ (.ptr a3 0)=some (.slice b 0 (l.length+1) (l.length+1)):=(cA.cel (A:=[]) o6).load1 aK rfl rfl
   refine wC lv (tB ?_)
   obtain⟨c0,y1,y2⟩:=cA.cel (A:=[_]) o6
   have od:=cA.drop (A:=[_]) o6
   have hni:=cA.notin (A:=[_]) (o:=lC b none (gN (row.set l.length (x+c)))) o6 (k:=b) (by simp[lC])
   obtain⟨r1,r2⟩:=od.froze hni y1 (o6.low b (by simp[lC])).2
   have hw:vD (t.set b (.cells c0 (gN (row.set l.length (x+c))).length none)) b none (gN (row.set l.length (x+c))):=⟨c0,by rw[Tr.get_set,yab rfl],y2⟩
   have hR:=vD.words (vD.le hw r1.tle) (n:=l.length+1) (cap:=l.length+1) (by simp[hrl]) (ybk _)
   have hrow:(row.set l.length (x+c)).take (l.length+1)=row.take l.length++[x+c]:=by
    rw[mO (x:=x+c) (by rw[ycw];simp[hrl])]
    rw[List.take_set_of_le (ybk _)]
   rw[hrow]at hR;obtain⟨v',h1,h2⟩:=pZ (by simp;omega) hR
   rw[Cf,h1,sA];have hlen2:(row.take l.length).length=l.length:=by rw[yda];omega
   refine hQ t6 _ _ (r2.trans r1.tle) h2 (aR (mW hra hxc)) (zU _) ?_ ?_
   ·rw[mT,uM,hlen2,hval,List.take_length]
   ·have:=Hu (row.take l.length++[x+c])
    rw[ybg,hlen2]at this;simpa using this
  | succ k ih=>
   intro i x c row t5 hi hrl hra hxc hval o5;have hx:l[i]?=some l[i]:=ybd (by omega)
   refine HY ?_
   unfold Tv uL;obtain⟨b',o',cs,h1,h2,_,_,h3⟩:=fF.at (fun _=>rfl) (hv.mono o5.tle) (KE hx)
   have e:=vT.1 h3
   subst e;have hw:l[i]<4294967296:=hlt _ (ycj _)
   have hm:l[i]*f<=4294967295*4294967295:=ydb (by omega) (by omega)
   have e1:lA .u64 (lA .u64 (lA .u64 (l[i]:Int)*lA .u64 (f:Int))+(x:Int))=((l[i]*f+x:Nat):Int):=by
    rw[xF (n:=(l[i]:Int)) (by omega) (by omega),xF (n:=(f:Int)) (by omega) (by omega),<- Int.natCast_mul,xF (n:=((l[i]*f:Nat):Int)) (by omega) (by omega),xF (by omega) (by omega)]
    omega
   refine pA (by rw[qC];exact decide_eq_true (by omega)) (mA h1 (wC h2 (oB ?_)))
   rw[e1];refine iT (hfn _) ?_
   rw[q154];refine zbf o5 (by omega) hrl.symm (by omega) fun t6 o6=>?_
   have e2:nD (i:Int)=.int .i64 ((i+1:Nat):Int):=by
    show zA.int .i64 (lA .i64 ((i:Int)+1))=_
    rw[oC (by omega) (by omega)];rfl
   refine iC ?_
   rw[e2];have hrow:(row.set i ((l[i]*f+x+c)%4294967296)).take (i+1)=row.take i++[(l[i]*f+x+c)%4294967296]:=by
    rw[mO (x:=(l[i]*f+x+c)%4294967296) (by rw[ycw];simp;omega)]
    rw[List.take_set_of_le (ybk _)]
   have hlen2:(row.take i).length=i:=by rw[yda];omega
   refine ih (i+1) 0 ((l[i]*f+x+c) / 4294967296) _ t6 (by omega) (by simp[hrl]) ?_ (by omega) ?_ o6
   ·rw[hrow];exact mW hra (by omega)
   ·rw[hrow,uM,hlen2,mO hx,uM,yda,Nat.min_eq_left (by omega),ybo,yag,ybw]
    have key:4294967296*((l[i]*f+x+c) / 4294967296)+(l[i]*f+x+c)%4294967296=l[i]*f+x+c:=ych _ _
    calc val 4294967296 (row.take i)+4294967296^i*((l[i]*f+x+c)%4294967296)+4294967296^i*4294967296*((l[i]*f+x+c) / 4294967296)
      = val 4294967296 (row.take i)+4294967296^i*(4294967296*((l[i]*f+x+c) / 4294967296)+(l[i]*f+x+c)%4294967296):=by grind
     _=(val 4294967296 (row.take i)+4294967296^i*(x+c))+4294967296^i*(l[i]*f):=by rw[key];grind
     _=_:=by rw[hval];grind
 refine loop l.length 0 p 0 _ t4 (by omega) (by simp) (fun x hx=>by simp at hx) (by omega) (by simp[val]) o4
end
end Go.Proofs
namespace Go.Am
open Go Go.RowKit
inductive E where
 | pl (d:D)
 | sl (sz:Nat) (l:List E) (m:List D)
 | st (l:List E)
section
variable {t t' tf:Tr vA}{C:rA}
end
end Go.Am
namespace Go.Am
open Go Go.RowKit
def limbMs:List D:=(List.range 12).map fun i=>D.int .u16 (((8000024+i)%65536:Nat):Int)
def aI.e(w:aI):E:=.st [.pl (.bool w.neg),.sl 1 ((cD w.limbs).map E.pl) limbMs]
section
variable {t:Tr vA}
theorem Oi{w:aI}{u:zA}(hu:aA t 1 (cD w.limbs) u):RD t w.d [.bool w.neg,u]:=by
 unfold aI.d;rw[uO];refine⟨[[.bool w.neg],[u]],rfl,?_⟩
 grind [iF,rH,Rd,Bb]
theorem Ol{f:zI}{u v:zA}(hu:aA t 1 (cD f.n.limbs) u)(hv:aA t 1 (cD f.d.limbs) v):RD t f.dd [.bool f.n.neg,u,.bool f.d.neg,v]:=by
 unfold zI.dd;rw[uO];refine⟨[[.bool f.n.neg,u],[.bool f.d.neg,v]],rfl,?_⟩
 grind [iF,Oi,rH]
theorem Wa{x:iJ}{u v:zA}(hu:aA t 1 (cD x.f.n.limbs) u)(hv:aA t 1 (cD x.f.d.limbs) v):RD t x.d [.int .u8 x.kind,.bool x.f.n.neg,u,.bool x.f.d.neg,v,.int .i64 x.i]:=by
 unfold iJ.d;rw[uO];refine⟨[[.int .u8 x.kind],[.bool x.f.n.neg,u,.bool x.f.d.neg,v],[.int .i64 x.i]],rfl,?_⟩
 grind [iF,vT,Ol,rH]
theorem Ji{op:Nat}{name:List Nat}{v:iJ}{args:List vB}{a b c:zA}(ha:aA t 1 (cD v.f.n.limbs) a)(hb:aA t 1 (cD v.f.d.limbs) b)(hc:aA t 9 (args.map vB.d) c):RD t (vB.mk op name v args).d (cExpr (.mk op name v args) a b c):=by
 unfold vB.d cExpr;rw[uO,vB.ds_eq];refine⟨[[.int .u8 op],[.str name],[.int .u8 v.kind,.bool v.f.n.neg,a,.bool v.f.d.neg,b,.int .i64 v.i],[c]],rfl,?_⟩
 rw[iF];refine⟨_,_,rfl,rfl,?_⟩
 rw[iF];refine⟨_,_,rfl,rfl,?_⟩
 grind [iF,Wa,Bb,rH]
theorem vR{sz:Nat}:aA t sz [] .nilslice:=⟨[],.inl ⟨rfl,rfl⟩,rH.2 rfl⟩
end
end Go.Am
