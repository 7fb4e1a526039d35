/- The trees of functions that may panic. (Printed by a tool; the kernel agrees.) -/
import Derived.Carry
import Derived.ChangeArms
import Derived.HandedShaped
import Derived.JoinedOf
import Derived.LaidMore
import Derived.OpenShut
import Derived.ProofKit
import Derived.Stop.Joined
import Derived.Test.YtefajchlhjcgpaaGreatDoorRows
import GoSem.ClaimJoined
import Derived.Test.YtefajchlhjcgpaaGreatDoorA21
set_option linter.all false
noncomputable section
set_option maxRecDepth 100000
namespace Go.Proofs
open Go Go.Am
variable {f kf:Nat}{fn:Func}{A:xE}{x:List zA}{U:T}
variable [nC]
def mG (f:Nat):Bool:=dH f [47,30,31,32,37,38,39,95,96,68,97,66,67,79,81,152,153,154,129,201,202,181,231,266,287,299,313,314,319]
abbrev oG(E:mB)(f:Nat)(T:T)(m:Tr tA)(Q:mB):Prop:=oA yA.base (rG yA F jC mG E) (JqE yA F E f) T m Q
abbrev dK(E:mB)(f:Nat)(a:List zA)(m:Tr tA)(Q:mB):Prop:=sM yA F E f a m Q
abbrev zK(E:mB)(f i:Nat)(a:List zA)(m:Tr tA)(Q:mB):Prop:=JqE yA F E f i a m Q
def pQ(f:Nat)(h:(jC f&&Nat.blt f yo)=true:=by kernel_rfl){E:mB}(a:List zA)(m:Tr tA)(R:mB):rG yA F jC mG E f a m R=oD (kB yA F f a m) fun v=>R v m:=yab h
def pW(f:Nat)(h:(jC f&&Nat.blt f yo)=false:=by kernel_rfl)(h1:Nat.beq f pn=false:=by kernel_rfl)(h2:(mG f&&Nat.blt f pn)=false:=by kernel_rfl){E:mB}(a:List zA)(m:Tr tA)(R:mB):rG yA F jC mG E f a m R=Wc yA F f a m R:=by unfold rG;rw[h,h1,h2];simp
def pE(f:Nat)(h:(jC f&&Nat.blt f yo)=false:=by kernel_rfl)(h1:Nat.beq f pn=false:=by kernel_rfl)(h2:(mG f&&Nat.blt f pn)=true:=by kernel_rfl){E:mB}(a:List zA)(m:Tr tA)(R:mB):rG yA F jC mG E f a m R=sM yA F E f a m R:=by unfold rG;rw[h,h1,h2];simp
def pX{E:mB}(v:zA)(m:Tr tA)(R:mB)(h:E v m):rG yA F jC mG E pn [v] m R:=by unfold rG;rw[show(jC pn&&Nat.blt pn yo)=false by kernel_rfl,show Nat.beq pn pn=true by kernel_rfl];simp[h]
variable {E:mB}{m:Tr tA}{Q:mB}
def gA     (h:cM yA F f fn kf A)(k:oG E f U m Q)(h0:mK A.code=[]:=by kernel_rfl)(h1:(Nat.ble (yB x) kf&&Nat.ble (yB x) fn.ntmps)=true:=by kernel_rfl)(h2:entT yA fn kf f A x=U:=by kernel_rfl):dK E f x m Q:=zm2 (EC (by kernel_rfl)) EA h (.inr h0) h1 (by rw[h2];exact k)
def gJ{i:Nat}    (h:cM yA F f fn kf A)(k:oG E f U m Q)(h0:mK A.code=[]:=by kernel_rfl)(h2:Gy (ptsT yA fn kf f A) i x=[U]:=by kernel_rfl):zK E f i x m Q:=zfy (EC (by kernel_rfl)) EA h (.inr h0) h2 k
def uR0 (i1:Int)(n:Int):T :=.ite true (.ret (.agg [(uY i1),(.bool false),.nilslice,(.bool false),.nilslice,(uZ n)])) .fail
def uR2 (x0:zA):T :=.call 39 [x0,(uZ 120)] fun a=>.ret (.tup [])
variable (i0 i1 i2 i3 i4 i5 i6 i7 i8 i9 j0 j1 j2 j3 j4 j5 j6 j7:Int)(l0 l1 l2 l3 l4 l5 l6 l7:List Nat)(x0 x1 x2 x3 x4 x5 x6 x7 x8 x9 y0 y1 y2:zA)(g0 g1 g2 g3 g4 g5 g6 g7 g8 g9:Bool)
def t30:T:=.call 31 [x0]<|uG [(uY 0),(.str []),(uY 0),(.bool false),.nilslice,(.bool false),.nilslice,(uZ 0),.nilslice] fun X=>.ite (jB (lF X)) (.call 32 [x0] fun a=>.ite (jB (lF X)) (.ret (nE X)) .fail) .fail
def t31:T:=.ite true (.heavy (tE yA 201 1 [(0,(.agg [(.str [111,114]),(uY 16)]))]) fun a=>.call 66 [x0,(.func (.func 67) [x0] []),a]<|uG [(uY 0),(.str []),(uY 0),(.bool false),.nilslice,(.bool false),.nilslice,(uZ 0),.nilslice] fun X=>.ite (jB (lF X)) (.ret (nE X)) .fail) .fail
def t32:T:=.call 68 [x0,(uY 5)]<|uG [(uY 0),(.str []),(uZ 0),(uZ 0)] fun X=>.opt (sC x0) fun a=>.opt (tC yA 141 1 a) fun a=>.light (fun m=>cA yA 3 ⟨0,m⟩ a)<|uI fun n5=>.opt (sC x0) fun a=>.opt (tC yA 141 0 a) fun a=>.light (fun m=>cA yA 136 ⟨0,m⟩ a) fun a=>.opt (pC a)<|uI fun n=>.ite (fB n5 n) (uR2 x0) (.ret (.tup []))
def t37:T:=.call 38 [x0] fun a=>.opt (uX 0 a)<|uG [(uY 0),(.bool false),.nilslice,(.bool false),.nilslice,(uZ 0)] fun X=>.opt (uX 1 a)<|uB fun b=>.ite (jB (dP X)) (.ite (!b) (.call 39 [x0,(uZ 120)] fun a=>.call 32 [x0] fun a=>.ite (jB (dP X)) (.ret (uA9 X)) .fail) (.call 32 [x0] fun a=>.ite (jB (dP X)) (.ret (uA9 X)) .fail)) .fail
def t38:T:=.call 77 [x0]<|uG [(uY 0),(.str []),(uZ 0),(uZ 0)] fun X1=>.ite true (.call 78 [x0,(.str [116,114,117,101])]<|uB fun b=>.ite b (.ite true (.ite true (.ret (.tup [(.agg [(uY 1),(.bool false),.nilslice,(.bool false),.nilslice,(uZ 1)]),(.bool true)])) .fail) .fail) (.call 78 [x0,(.str [102,97,108,115,101])]<|uB fun b=>.ite b (.ite true (.ite true (.ret (.tup [(.agg [(uY 1),(.bool false),.nilslice,(.bool false),.nilslice,(uZ 0)]),(.bool true)])) .fail) .fail) (.ite (lB (X1.i 0) 3) (.call 79 [x0]<|uI fun n=>.ite true (.ite true (.ret (.tup [(.agg [(uY 4),(.bool false),.nilslice,(.bool false),.nilslice,(uZ n)]),(.bool true)])) .fail) .fail) (.call 78 [x0,(.str [109,111,110,101,121])]<|uB fun b=>.ite b (.call 78 [x0,(.str [109,105,110,117,115])]<|uB fun b=>.call 68 [x0,(uY 2)]<|uG [(uY 0),(.str []),(uZ 0),(uZ 0)] fun X=>.call 80 [(.str (X.s 1)),(.bool b)]<|uG [(.bool false),.nilslice,(.bool false),.nilslice] fun X=>.ite true (.ite (jB [(uY 3),(.bool (X.b 0)),(X.v 1),(.bool (X.b 2)),(X.v 3),(uZ 0)]) (.ret (.tup [(.agg [(uY 3),(.bool (X.b 0)),(X.v 1),(.bool (X.b 2)),(X.v 3),(uZ 0)]),(.bool true)])) .fail) .fail) (.call 78 [x0,(.str [109,105,110,117,115])]<|uB fun b=>.ite b (.call 81 [x0,(.bool true)]<|uG [(uY 0),(.bool false),.nilslice,(.bool false),.nilslice,(uZ 0)] fun X=>.ite (jB (dP X)) (.ret (.tup [(uA9 X),(.bool true)])) .fail) (.ite (lB (X1.i 0) 2) (.call 81 [x0,(.bool false)]<|uG [(uY 0),(.bool false),.nilslice,(.bool false),.nilslice,(uZ 0)] fun X=>.ite (jB (dP X)) (.ret (.tup [(uA9 X),(.bool true)])) .fail) (.ite true (.ite true (.ret (.tup [(.agg [(uY 0),(.bool false),.nilslice,(.bool false),.nilslice,(uZ 0)]),(.bool false)])) .fail) .fail))))))) .fail
def t39:T:=.call 77 [x0]<|uG [(uY 0),(.str []),(uZ 0),(uZ 0)] fun X=>.ite true (.call pn [(.iface 143 (.agg [(uZ (X.i 2)),(uZ (X.i 3)),(uZ i0)]))] fun a=>.ret (.tup [])) .fail
def t66:T:=.callv x1 []<|uG [(uY 0),(.str []),(uY 0),(.bool false),.nilslice,(.bool false),.nilslice,(uZ 0),.nilslice] fun X=>.ite (jB (lF X)) (.jump 2 [x0,x1,x2,(uY 0),(.str []),(uY 0),(.bool false),.nilslice,(.bool false),.nilslice,(uZ 0),.nilslice,(uY (X.i 0)),(.str (X.s 1)),(uY (X.i 2)),(.bool (X.b 3)),(X.v 4),(.bool (X.b 5)),(X.v 6),(uZ (X.i 7)),(X.v 8)]) .fail
def zn2:T:=.call 128 [x0,x2] fun a=>.opt (uX 0 a)<|uU fun n=>.opt (uX 1 a)<|uB fun b=>.ite (!b) (.ite (jB [(uY i3),(.str l1),(uY i4),(.bool g2),x6,(.bool g3),x7,(uZ i5),x8]) (.ret (.agg [(uY i3),(.str l1),(uY i4),(.bool g2),x6,(.bool g3),x7,(uZ i5),x8])) .fail) (.callv x1 []<|uG [(uY 0),(.str []),(uY 0),(.bool false),.nilslice,(.bool false),.nilslice,(uZ 0),.nilslice] fun X=>.ite (jB (lF X)) (.heavy (tE yA 29 2 [(0,(.agg [(uY i3),(.str l1),(uY i4),(.bool g2),x6,(.bool g3),x7,(uZ i5),x8])),(1,(nE X))]) fun a=>.ite (jB [(uY n),a]) (.ite (jB [(uY n),(.str []),(uY 0),(.bool false),.nilslice,(.bool false),.nilslice,(uZ 0),a]) (.jump 2 [x0,x1,x2,(uY i0),(.str l0),(uY i1),(.bool g0),x3,(.bool g1),x4,(uZ i2),x5,(uY n),(.str []),(uY 0),(.bool false),.nilslice,(.bool false),.nilslice,(uZ 0),a]) .fail) .fail) .fail)
def t67:T:=.ite true (.heavy (tE yA 201 1 [(0,(.agg [(.str [97,110,100]),(uY 15)]))]) fun a=>.call 66 [x0,(.func (.func 129) [x0] []),a]<|uG [(uY 0),(.str []),(uY 0),(.bool false),.nilslice,(.bool false),.nilslice,(uZ 0),.nilslice] fun X=>.ite (jB (lF X)) (.ret (nE X)) .fail) .fail
def t68:T:=.call 77 [x0]<|uG [(uY 0),(.str []),(uZ 0),(uZ 0)] fun X=>.ite true (.ite (!lB (X.i 0) i0) (.call 39 [x0,(uZ 120)] fun a=>.jump 9 [x0,(uY 0),(.str []),(uZ 0),(uZ 0),(uY (X.i 0)),(.str (X.s 1)),(uZ (X.i 2)),(uZ (X.i 3))]) (.jump 9 [x0,(uY 0),(.str []),(uZ 0),(uZ 0),(uY (X.i 0)),(.str (X.s 1)),(uZ (X.i 2)),(uZ (X.i 3))])) .fail
def t68_9:T:=.opt (sC x0) fun a=>.opt (tC yA 141 1 a) fun a=>.light (fun m=>cA yA 3 ⟨0,m⟩ a)<|uI fun n=>.opt (sC x0) fun a=>.opt (tC yA 141 1 a) fun a=>.heavy (mC yA 3 a (kC n)) fun _=>.ite true (.ret (.agg [(uY i3),(.str l1),(uZ i4),(uZ i5)])) .fail
def t79:T:=.call 68 [x0,(uY 3)]<|uG [(uY 0),(.str []),(uZ 0),(uZ 0)] fun X=>.call 138 [(.str (X.s 1))] fun a=>.opt (uX 0 a)<|uI fun n4=>.opt (uX 1 a)<|uI fun n=>.ret (uZ n4)
def t81:T:=.opt (sC x0) fun a=>.opt (tC yA 141 1 a) fun a=>.light (fun m=>cA yA 3 ⟨0,m⟩ a)<|uI fun n3=>.call 68 [x0,(uY 2)]<|uG [(uY 0),(.str []),(uZ 0),(uZ 0)] fun X=>.ite true (.opt (sC x0) fun a=>.opt (tC yA 141 1 a) fun a=>.light (fun m=>cA yA 3 ⟨0,m⟩ a)<|uI fun n=>.call 78 [x0,(.str [100,97,121,115])]<|uB fun b=>.ite b (.jump 21 [x0,(.bool g0),(uZ n3),(uY 5),(uZ n),(uY 0),(.bool false),.nilslice,(.bool false),.nilslice,(uZ 0),(uY (X.i 0)),(.str (X.s 1)),(uZ (X.i 2)),(uZ (X.i 3))]) (.call 78 [x0,(.str [109,111,110,116,104,115])]<|uB fun b=>.ite b (.jump 21 [x0,(.bool g0),(uZ n3),(uY 6),(uZ n),(uY 0),(.bool false),.nilslice,(.bool false),.nilslice,(uZ 0),(uY (X.i 0)),(.str (X.s 1)),(uZ (X.i 2)),(uZ (X.i 3))]) (.call 80 [(.str (X.s 1)),(.bool g0)]<|uG [(.bool false),.nilslice,(.bool false),.nilslice] fun X=>.ite true (.ite (jB [(uY 2),(.bool (X.b 0)),(X.v 1),(.bool (X.b 2)),(X.v 3),(uZ 0)]) (.ret (.agg [(uY 2),(.bool (X.b 0)),(X.v 1),(.bool (X.b 2)),(X.v 3),(uZ 0)])) .fail) .fail))) .fail
def zkp:T:=.call 143 [(.str l0),(.str [47])]<|uB fun b=>.ite b (.opt (sC x0) fun a=>.opt (tC yA 141 1 a) fun a=>.heavy (mC yA 3 a (uZ i2)) fun _=>.call 39 [x0,(uZ 120)] fun a=>.jump 27 [x0,(.bool g0),(uZ i0),(uY i1),(uY i3),(.bool g1),x1,(.bool g2),x2,(uZ i4),(uY i5),(.str l0),(uZ i6),(uZ i7)]) (.jump 27 [x0,(.bool g0),(uZ i0),(uY i1),(uY i3),(.bool g1),x1,(.bool g2),x2,(uZ i4),(uY i5),(.str l0),(uZ i6),(uZ i7)])
def zko:T:=.call 144 [(.str l0),(.bool g0),(uZ (-1048576)),(uZ 1048576)] fun a=>.opt (uX 0 a)<|uI fun n=>.opt (uX 1 a)<|uB fun b=>.ite (!b) (.opt (sC x0) fun a=>.opt (tC yA 141 1 a) fun a=>.heavy (mC yA 3 a (uZ i0)) fun _=>.call 39 [x0,(uZ 121)] fun a=>.ite true (uR0 i1 n) .fail) (.ite true (uR0 i1 n) .fail)
def t95:T:=.opt (pC x1)<|uI fun n=>.jump 2 [x0,x1,(uZ n),(uZ 0)]
def zn1:T:=.ite (fB i1 i0) (.opt (uC yA 62 x1 (uZ i1)) fun a=>.light (fun m=>cA yA 9 ⟨0,m⟩ a)<|uS fun s=>.call 78 [x0,(.str s)]<|uB fun b=>.ite (!b) (.call 39 [x0,(uZ 120)] fun a=>.jump 2 [x0,x1,(uZ i0),(kC i1)]) (.jump 2 [x0,x1,(uZ i0),(kC i1)])) (.ret (.tup []))
def t96:T:=.call 151 [x0]<|uB fun b=>.ite (!b) (.call 39 [x0,(uZ 120)] fun a=>.call 68 [x0,(uY 1)]<|uG [(uY 0),(.str []),(uZ 0),(uZ 0)] fun X=>.ret (.str (X.s 1))) (.call 68 [x0,(uY 1)]<|uG [(uY 0),(.str []),(uZ 0),(uZ 0)] fun X=>.ret (.str (X.s 1)))
def t129:T:=.jump 2 [x0,(uZ 0),(uY 0),(.str []),(uY 0),(.bool false),.nilslice,(.bool false),.nilslice,(uZ 0),.nilslice]
def Yk:T:=.call 78 [x0,(.str [110,111,116])]<|uB fun b=>.ite b (.jump 2 [x0,(kC i0),(uY i1),(.str l0),(uY i2),(.bool g0),x1,(.bool g1),x2,(uZ i3),x3]) (.call 181 [x0]<|uG [(uY 0),(.str []),(uY 0),(.bool false),.nilslice,(.bool false),.nilslice,(uZ 0),.nilslice] fun X=>.ite (jB (lF X)) (.jump 6 [(uZ i0),(uY i1),(.str l0),(uY i2),(.bool g0),x1,(.bool g1),x2,(uZ i3),x3,(uY (X.i 0)),(.str (X.s 1)),(uY (X.i 2)),(.bool (X.b 3)),(X.v 4),(.bool (X.b 5)),(X.v 6),(uZ (X.i 7)),(X.v 8)]) .fail)
def Yj:T:=.ite (fB 0 i0) (.heavy (tE yA 29 1 [(0,(.agg [(uY i4),(.str l1),(uY i5),(.bool g2),x3,(.bool g3),x4,(uZ i6),x5]))]) fun a=>.ite (jB [(uY 17),a]) (.ite (jB [(uY 17),(.str []),(uY 0),(.bool false),.nilslice,(.bool false),.nilslice,(uZ 0),a]) (.jump 6 [(uZ (uW (i0-1))),(uY i1),(.str l0),(uY i2),(.bool g0),x0,(.bool g1),x1,(uZ i3),x2,(uY 17),(.str []),(uY 0),(.bool false),.nilslice,(.bool false),.nilslice,(uZ 0),a]) .fail) .fail) (.ite (jB [(uY i4),(.str l1),(uY i5),(.bool g2),x3,(.bool g3),x4,(uZ i6),x5]) (.ret (.agg [(uY i4),(.str l1),(uY i5),(.bool g2),x3,(.bool g3),x4,(uZ i6),x5])) .fail)
def t181:T:=.call 231 [x0]<|uG [(uY 0),(.str []),(uY 0),(.bool false),.nilslice,(.bool false),.nilslice,(uZ 0),.nilslice] fun X1=>.ite (jB (lF X1)) (.ite true (.ite true (.heavy (tE yA 201 2 [(0,(.agg [(.str [60]),(uY 13)])),(1,(.agg [(.str [61]),(uY 14)]))]) fun a=>.call 128 [x0,a] fun a=>.opt (uX 0 a)<|uU fun n=>.opt (uX 1 a)<|uB fun b=>.ite (!b) (.ite (jB (lF X1)) (.ret (nE X1)) .fail) (.call 231 [x0]<|uG [(uY 0),(.str []),(uY 0),(.bool false),.nilslice,(.bool false),.nilslice,(uZ 0),.nilslice] fun X=>.ite (jB (lF X)) (.heavy (tE yA 29 2 [(0,(nE X1)),(1,(nE X))]) fun a=>.ite (jB [(uY n),a]) (.ite (jB [(uY n),(.str []),(uY 0),(.bool false),.nilslice,(.bool false),.nilslice,(uZ 0),a]) (.ret (.agg [(uY n),(.str []),(uY 0),(.bool false),.nilslice,(.bool false),.nilslice,(uZ 0),a])) .fail) .fail) .fail)) .fail) .fail) .fail
def t201:T:=.jump 2 [x0,(uY i1),x1,(uY i0)]
def Xx:T:=.ite (gE i1 i0) (.callv x1 [(uY i1)]<|uS fun s=>.call 78 [x0,(.str s)]<|uB fun b=>.ite b (.ret (uY i1)) (.jump 2 [x0,(uY i0),x1,(uY (fA .u8 (i1+1)))])) (.call 39 [x0,(uZ 120)] fun a=>.ret (uY 0))
def t231:T:=.ite true (.ite true (.heavy (tE yA 201 2 [(0,(.agg [(.str [43]),(uY 7)])),(1,(.agg [(.str [45]),(uY 8)]))]) fun a=>.call 66 [x0,(.func (.func 266) [x0] []),a]<|uG [(uY 0),(.str []),(uY 0),(.bool false),.nilslice,(.bool false),.nilslice,(uZ 0),.nilslice] fun X=>.ite (jB (lF X)) (.ret (nE X)) .fail) .fail) .fail
def t266:T:=.ite true (.ite true (.heavy (tE yA 201 2 [(0,(.agg [(.str [42]),(uY 9)])),(1,(.agg [(.str [47]),(uY 10)]))]) fun a=>.call 66 [x0,(.func (.func 287) [x0] []),a]<|uG [(uY 0),(.str []),(uY 0),(.bool false),.nilslice,(.bool false),.nilslice,(uZ 0),.nilslice] fun X=>.ite (jB (lF X)) (.ret (nE X)) .fail) .fail) .fail
def t287:T:=.opt (sC x0) fun a=>.opt (tC yA 141 2 a) fun a=>.light (fun m=>cA yA 3 ⟨0,m⟩ a)<|uI fun n=>.ite (fB 100 n) (.call 39 [x0,(uZ 122)] fun a=>.jump 7 [x0,(uY 0),(.str []),(uY 0),(.bool false),.nilslice,(.bool false),.nilslice,(uZ 0),.nilslice]) (.jump 7 [x0,(uY 0),(.str []),(uY 0),(.bool false),.nilslice,(.bool false),.nilslice,(uZ 0),.nilslice])
def zkv:T:=.opt (sC x0) fun a=>.opt (tC yA 141 2 a) fun a=>.light (fun m=>cA yA 3 ⟨0,m⟩ a)<|uI fun n=>.opt (sC x0) fun a=>.opt (tC yA 141 2 a) fun a=>.heavy (mC yA 3 a (kC n)) fun _=>.call 299 [x0]<|uG [(uY 0),(.str []),(uY 0),(.bool false),.nilslice,(.bool false),.nilslice,(uZ 0),.nilslice] fun X=>.ite (jB (lF X)) (.opt (sC x0) fun a=>.opt (tC yA 141 2 a) fun a=>.light (fun m=>cA yA 3 ⟨0,m⟩ a)<|uI fun n=>.opt (sC x0) fun a=>.opt (tC yA 141 2 a) fun a=>.heavy (mC yA 3 a (uZ (uW (n-1)))) fun _=>.ite (jB (lF X)) (.ret (nE X)) .fail) .fail
def t299:T:=.call 38 [x0] fun a=>.opt (uX 0 a)<|uG [(uY 0),(.bool false),.nilslice,(.bool false),.nilslice,(uZ 0)] fun X=>.opt (uX 1 a)<|uB fun b=>.ite (jB (dP X)) (.ite b (.ite true (.ite (jB [(uY 1),(.str []),(uY (X.i 0)),(.bool (X.b 1)),(X.v 2),(.bool (X.b 3)),(X.v 4),(uZ (X.i 5)),.nilslice]) (.ret (.agg [(uY 1),(.str []),(uY (X.i 0)),(.bool (X.b 1)),(X.v 2),(.bool (X.b 3)),(X.v 4),(uZ (X.i 5)),.nilslice])) .fail) .fail) (.call 78 [x0,(.str [40])]<|uB fun b=>.ite b (.call 31 [x0]<|uG [(uY 0),(.str []),(uY 0),(.bool false),.nilslice,(.bool false),.nilslice,(uZ 0),.nilslice] fun X=>.ite (jB (lF X)) (.heavy (tE yA 62 1 [(0,(.str [41]))]) fun a=>.call 95 [x0,a] fun a=>.ite (jB (lF X)) (.ret (nE X)) .fail) .fail) (.call 78 [x0,(.str [116,111,100,97,121])]<|uB fun b=>.ite b (.ite true (.ite true (.ret (.agg [(uY 2),(.str []),(uY 0),(.bool false),.nilslice,(.bool false),.nilslice,(uZ 0),.nilslice])) .fail) .fail) (.call 78 [x0,(.str [102,97,99,116])]<|uB fun b=>.ite b (.call 313 [x0,(uY 3)]<|uG [(uY 0),(.str []),(uY 0),(.bool false),.nilslice,(.bool false),.nilslice,(uZ 0),.nilslice] fun X=>.ite (jB (lF X)) (.ret (nE X)) .fail) (.call 78 [x0,(.str [104,97,115])]<|uB fun b=>.ite b (.call 313 [x0,(uY 4)]<|uG [(uY 0),(.str []),(uY 0),(.bool false),.nilslice,(.bool false),.nilslice,(uZ 0),.nilslice] fun X=>.ite (jB (lF X)) (.ret (nE X)) .fail) (.call 151 [x0]<|uB fun b=>.ite b (.call 313 [x0,(uY 5)]<|uG [(uY 0),(.str []),(uY 0),(.bool false),.nilslice,(.bool false),.nilslice,(uZ 0),.nilslice] fun X=>.ite (jB (lF X)) (.ret (nE X)) .fail) (.call 314 [x0]<|uG [(uY 0),(.str []),(uY 0),(.bool false),.nilslice,(.bool false),.nilslice,(uZ 0),.nilslice] fun X=>.ite (jB (lF X)) (.ret (nE X)) .fail))))))) .fail
def t313:T:=.call 96 [x0]<|uS fun s=>.heavy (tE yA 62 1 [(0,(.str [97,116]))]) fun a=>.call 95 [x0,a] fun a=>.call 287 [x0]<|uG [(uY 0),(.str []),(uY 0),(.bool false),.nilslice,(.bool false),.nilslice,(uZ 0),.nilslice] fun X=>.heavy (tE yA 29 1 [(0,(nE X))]) fun a=>.ite (jB [(uY i0),(.str s),a]) (.ite (jB [(uY i0),(.str s),(uY 0),(.bool false),.nilslice,(.bool false),.nilslice,(uZ 0),a]) (.ret (.agg [(uY i0),(.str s),(uY 0),(.bool false),.nilslice,(.bool false),.nilslice,(uZ 0),a])) .fail) .fail
def t314:T:=.heavy (jL x0) fun a0=>.ite true (.ite true (.ite true (.ite true (.ite true (.ite true (.ite true (.ite true (.ite true (.ite true (.ite true (.ite true (.ite true (.heavy (iL yA 340) fun a=>.heavy (mC yA 340 a (.agg [(.str [108,111,111,107]),(uY 6),(.bool true),(uZ 1),(uZ 2),(.str [109,105,110]),(uY 11),(.bool false),(uZ 2),(uZ 2),(.str [109,97,120]),(uY 12),(.bool false),(uZ 2),(uZ 2),(.str [98,101,116,119,101,101,110]),(uY 20),(.bool false),(uZ 2),(uZ 2),(.str [105,102]),(uY 18),(.bool false),(uZ 3),(uZ 3),(.str [114,111,117,110,100]),(uY 19),(.bool false),(uZ 2),(uZ 2),(.str [115,101,114,118,105,99,101]),(uY 21),(.bool true),(uZ 2),(uZ 2),(.str [103,114,111,119]),(uY 23),(.bool true),(uZ 2),(uZ 2),(.str [98,101,115,116]),(uY 22),(.bool true),(uZ 3),(uZ 3),(.str [109,111,110,116,104,115]),(uY 24),(.bool false),(uZ 1),(uZ 1),(.str [110,117,109,98,101,114]),(uY 25),(.bool false),(uZ 1),(uZ 1),(.str [115,116,97,114,116]),(uY 26),(.bool false),(uZ 1),(uZ 1)])) fun _=>.callv (.func (.func 319) [] [a,a0]) []<|uG [(.str []),(uY 0),(.bool false),(uZ 0),(uZ 0)] fun X=>.ite true (.ite true (.ite true (.light (fun m=>cA yA 76 ⟨0,m⟩ a0) fun a4=>.heavy (tE yA 62 1 [(0,(.str [40]))]) fun a=>.call 95 [a4,a] fun a=>.ite (X.b 2) (.light (fun m=>cA yA 76 ⟨0,m⟩ a0) fun a=>.call 96 [a]<|uS fun s=>.ite true (.light (fun m=>cA yA 76 ⟨0,m⟩ a0) fun a10=>.heavy (tE yA 62 1 [(0,(.str [44]))]) fun a=>.call 95 [a10,a] fun a=>.jump 19 [a0,(uY 0),(.str []),(uY 0),(.bool false),.nilslice,(.bool false),.nilslice,(uZ 0),.nilslice,(.str (X.s 0)),(uY (X.i 1)),(.bool (X.b 2)),(uZ (X.i 3)),(uZ (X.i 4)),(uY (X.i 1)),(.str s),(uY 0),(.bool false),.nilslice,(.bool false),.nilslice,(uZ 0),.nilslice]) .fail) (.jump 19 [a0,(uY 0),(.str []),(uY 0),(.bool false),.nilslice,(.bool false),.nilslice,(uZ 0),.nilslice,(.str (X.s 0)),(uY (X.i 1)),(.bool (X.b 2)),(uZ (X.i 3)),(uZ (X.i 4)),(uY (X.i 1)),(.str []),(uY 0),(.bool false),.nilslice,(.bool false),.nilslice,(uZ 0),.nilslice])) .fail) .fail) .fail) .fail) .fail) .fail) .fail) .fail) .fail) .fail) .fail) .fail) .fail) .fail) .fail) .fail
def za1:T:=.light (fun m=>cA yA 76 ⟨0,m⟩ x0) fun a=>.call 31 [a]<|uG [(uY 0),(.str []),(uY 0),(.bool false),.nilslice,(.bool false),.nilslice,(uZ 0),.nilslice] fun X=>.ite (same 10 x6 x6) (.heavy (tE yA 29 1 [(0,(nE X))]) fun a=>.ite (same 10 x6 x6) (.heavy (sH yA 29 29 x6 a) fun a=>.ite (jB [a]) (.jump 2 [x0,(uY i0),(.str l0),(uY i1),(.bool g0),x1,(.bool g1),x2,(uZ i2),x3,(.str l1),(uY i3),(.bool g2),(uZ i4),(uZ i5),(uY i6),(.str l2),(uY i7),(.bool g3),x4,(.bool g4),x5,(uZ i8),a]) .fail) .fail) .fail
def Xf:T:=.opt (pC x6)<|uI fun n=>.ite (fB n i4) (.light (fun m=>cA yA 76 ⟨0,m⟩ x0) fun a2=>.heavy (tE yA 62 1 [(0,(.str [44]))]) fun a=>.call 95 [a2,a] fun a=>.light (fun m=>cA yA 76 ⟨0,m⟩ x0) fun a=>.call 31 [a]<|uG [(uY 0),(.str []),(uY 0),(.bool false),.nilslice,(.bool false),.nilslice,(uZ 0),.nilslice] fun X=>.ite (same 10 x6 x6) (.heavy (tE yA 29 1 [(0,(nE X))]) fun a=>.ite (same 10 x6 x6) (.heavy (sH yA 29 29 x6 a) fun a=>.ite (jB [a]) (.jump 2 [x0,(uY i0),(.str l0),(uY i1),(.bool g0),x1,(.bool g1),x2,(uZ i2),x3,(.str l1),(uY i3),(.bool g2),(uZ i4),(uZ i5),(uY i6),(.str l2),(uY i7),(.bool g3),x4,(.bool g4),x5,(uZ i8),a]) .fail) .fail) .fail) (.jump 6 [x0,(uY i0),(.str l0),(uY i1),(.bool g0),x1,(.bool g1),x2,(uZ i2),x3,(.str l1),(uY i3),(.bool g2),(uZ i4),(uZ i5),(uY i6),(.str l2),(uY i7),(.bool g3),x4,(.bool g4),x5,(uZ i8),x6])
def Xe:T:=.opt (pC x6)<|uI fun n=>.ite (fB n i5) (.light (fun m=>cA yA 76 ⟨0,m⟩ x0) fun a=>.call 78 [a,(.str [44])]<|uB fun b=>.ite b (.light (fun m=>cA yA 76 ⟨0,m⟩ x0) fun a=>.call 31 [a]<|uG [(uY 0),(.str []),(uY 0),(.bool false),.nilslice,(.bool false),.nilslice,(uZ 0),.nilslice] fun X=>.ite (same 10 x6 x6) (.heavy (tE yA 29 1 [(0,(nE X))]) fun a=>.ite (same 10 x6 x6) (.heavy (sH yA 29 29 x6 a) fun a=>.ite (jB [a]) (.jump 6 [x0,(uY i0),(.str l0),(uY i1),(.bool g0),x1,(.bool g1),x2,(uZ i2),x3,(.str l1),(uY i3),(.bool g2),(uZ i4),(uZ i5),(uY i6),(.str l2),(uY i7),(.bool g3),x4,(.bool g4),x5,(uZ i8),a]) .fail) .fail) .fail) (.ite (lB i3 19) (.light (fun m=>cA yA 76 ⟨0,m⟩ x0) fun a10=>.heavy (tE yA 62 1 [(0,(.str [44]))]) fun a=>.call 95 [a10,a] fun a=>.light (fun m=>cA yA 76 ⟨0,m⟩ x0) fun a=>.call 201 [a,(uY 1),(uY 6),(.func (.func 170) [] [])]<|uU fun n=>.ite true (.jump 37 [x0,(uY i0),(.str l0),(uY i1),(.bool g0),x1,(.bool g1),x2,(uZ i2),x3,(uY i6),(.str l2),(uY i7),(.bool g3),x4,(.bool g4),x5,(uZ (uW n)),x6]) .fail) (.jump 37 [x0,(uY i0),(.str l0),(uY i1),(.bool g0),x1,(.bool g1),x2,(uZ i2),x3,(uY i6),(.str l2),(uY i7),(.bool g3),x4,(.bool g4),x5,(uZ i8),x6]))) (.ite (lB i3 19) (.light (fun m=>cA yA 76 ⟨0,m⟩ x0) fun a16=>.heavy (tE yA 62 1 [(0,(.str [44]))]) fun a=>.call 95 [a16,a] fun a=>.light (fun m=>cA yA 76 ⟨0,m⟩ x0) fun a=>.call 201 [a,(uY 1),(uY 6),(.func (.func 170) [] [])]<|uU fun n=>.ite true (.jump 37 [x0,(uY i0),(.str l0),(uY i1),(.bool g0),x1,(.bool g1),x2,(uZ i2),x3,(uY i6),(.str l2),(uY i7),(.bool g3),x4,(.bool g4),x5,(uZ (uW n)),x6]) .fail) (.jump 37 [x0,(uY i0),(.str l0),(uY i1),(.bool g0),x1,(.bool g1),x2,(uZ i2),x3,(uY i6),(.str l2),(uY i7),(.bool g3),x4,(.bool g4),x5,(uZ i8),x6]))
def za0:T:=.light (fun m=>cA yA 76 ⟨0,m⟩ x0) fun a0=>.heavy (tE yA 62 1 [(0,(.str [41]))]) fun a=>.call 95 [a0,a] fun a=>.ite (jB [(uY i3),(.str l1),(uY i4),(.bool g2),x4,(.bool g3),x5,(uZ i5),x6]) (.ret (.agg [(uY i3),(.str l1),(uY i4),(.bool g2),x4,(.bool g3),x5,(uZ i5),x6])) .fail
def t319:T:=.light (fun m=>cA yA 340 ⟨0,m⟩ x0) fun a=>.jump 2 [x1,a,(uZ 0),(.str []),(uY 0),(.bool false),(uZ 0),(uZ 0)]
def Xc:T:=.ite (fB i0 12) (.opt (rI yA 340 x1 (uZ i0))<|uG [(.str []),(uY 0),(.bool false),(uZ 0),(uZ 0)] fun X=>.ite true (.light (fun m=>cA yA 76 ⟨0,m⟩ x0) fun a=>.call 78 [a,(.str (X.s 0))]<|uB fun b=>.ite b (.ite true (.ret (.agg [.str (X.s 0),uY (X.i 1),.bool (X.b 2),uZ (X.i 3),uZ (X.i 4)])) .fail) (.jump 2 [x0,x1,(kC i0),(.str l0),(uY i1),(.bool g0),(uZ i2),(uZ i3)])) .fail) (.light (fun m=>cA yA 76 ⟨0,m⟩ x0) fun a=>.call 39 [a,(uZ 120)] fun a=>.ite true (.ite true (.ret (.agg [(.str []),(uY 0),(.bool false),(uZ 0),(uZ 0)])) .fail) .fail)
variable {i0 i1 i2 i3 i4 i5 i6 i7 i8 i9 j0 j1 j2 j3 j4 j5 j6 j7}{l0 l1 l2 l3 l4 l5 l6 l7}{x0 x1 x2 x3 x4 x5 x6 x7 x8 x9 y0 y1 y2}{g0 g1 g2 g3 g4 g5 g6 g7 g8 g9}
def w30(h:oG E 30 (t30 x0) m Q):dK E 30 [x0] m Q:=gA (sG 30) h
def w31(h:oG E 31 (t31 x0) m Q):dK E 31 [x0] m Q:=gA (sG 31) h
def w32(h:oG E 32 (t32 x0) m Q):dK E 32 [x0] m Q:=gA (sG 32) h
def w37(h:oG E 37 (t37 x0) m Q):dK E 37 [x0] m Q:=gA (sG 37) h
def w38(h:oG E 38 (t38 x0) m Q):dK E 38 [x0] m Q:=gA (sG 38) h
def w39(h:oG E 39 (t39 i0 x0) m Q):dK E 39 [x0,(uZ i0)] m Q:=gA (sG 39) h
def w66(h:oG E 66 (t66 x0 x1 x2) m Q):dK E 66 [x0,x1,x2] m Q:=gA (sG 66) h
def j66_2(h:oG E 66 (zn2 i0 i1 i2 i3 i4 i5 l0 l1 x0 x1 x2 x3 x4 x5 x6 x7 x8 g0 g1 g2 g3) m Q):zK E 66 2 [x0,x1,x2,(uY i0),(.str l0),(uY i1),(.bool g0),x3,(.bool g1),x4,(uZ i2),x5,(uY i3),(.str l1),(uY i4),(.bool g2),x6,(.bool g3),x7,(uZ i5),x8] m Q:=gJ (sG 66) h
def w67(h:oG E 67 (t67 x0) m Q):dK E 67 [x0] m Q:=gA (sG 67) h
def w68(h:oG E 68 (t68 i0 x0) m Q):dK E 68 [x0,(uY i0)] m Q:=gA (sG 68) h
def j68_9(h:oG E 68 (t68_9 i3 i4 i5 l1 x0) m Q):zK E 68 9 [x0,(uY i0),(.str l0),(uZ i1),(uZ i2),(uY i3),(.str l1),(uZ i4),(uZ i5)] m Q:=gJ (sG 68) h
def w79(h:oG E 79 (t79 x0) m Q):dK E 79 [x0] m Q:=gA (sG 79) h
def w81(h:oG E 81 (t81 x0 g0) m Q):dK E 81 [x0,(.bool g0)] m Q:=gA (sG 81) h
def j81_21(h:oG E 81 (zkp i0 i1 i2 i3 i4 i5 i6 i7 l0 x0 x1 x2 g0 g1 g2) m Q):zK E 81 21 [x0,(.bool g0),(uZ i0),(uY i1),(uZ i2),(uY i3),(.bool g1),x1,(.bool g2),x2,(uZ i4),(uY i5),(.str l0),(uZ i6),(uZ i7)] m Q:=gJ (sG 81) h
def j81_27(h:oG E 81 (zko i0 i1 l0 x0 g0) m Q):zK E 81 27 [x0,(.bool g0),(uZ i0),(uY i1),(uY i2),(.bool g1),x1,(.bool g2),x2,(uZ i3),(uY i4),(.str l0),(uZ i5),(uZ i6)] m Q:=gJ (sG 81) h
def w95(h:oG E 95 (t95 x0 x1) m Q):dK E 95 [x0,x1] m Q:=gA (sG 95) h
def j95_2(h:oG E 95 (zn1 i0 i1 x0 x1) m Q):zK E 95 2 [x0,x1,(uZ i0),(uZ i1)] m Q:=gJ (sG 95) h
def w96(h:oG E 96 (t96 x0) m Q):dK E 96 [x0] m Q:=gA (sG 96) h
def w129(h:oG E 129 (t129 x0) m Q):dK E 129 [x0] m Q:=gA (sG 129) h
def zme(h:oG E 129 (Yk i0 i1 i2 i3 l0 x0 x1 x2 x3 g0 g1) m Q):zK E 129 2 [x0,(uZ i0),(uY i1),(.str l0),(uY i2),(.bool g0),x1,(.bool g1),x2,(uZ i3),x3] m Q:=gJ (sG 129) h
def zmd(h:oG E 129 (Yj i0 i1 i2 i3 i4 i5 i6 l0 l1 x0 x1 x2 x3 x4 x5 g0 g1 g2 g3) m Q):zK E 129 6 [(uZ i0),(uY i1),(.str l0),(uY i2),(.bool g0),x0,(.bool g1),x1,(uZ i3),x2,(uY i4),(.str l1),(uY i5),(.bool g2),x3,(.bool g3),x4,(uZ i6),x5] m Q:=gJ (sG 129) h
def w181(h:oG E 181 (t181 x0) m Q):dK E 181 [x0] m Q:=gA (sG 181) h
def w201(h:oG E 201 (t201 i0 i1 x0 x1) m Q):dK E 201 [x0,(uY i0),(uY i1),x1] m Q:=gA (sG 201) h
def zl3(h:oG E 201 (Xx i0 i1 x0 x1) m Q):zK E 201 2 [x0,(uY i0),x1,(uY i1)] m Q:=gJ (sG 201) h
def w231(h:oG E 231 (t231 x0) m Q):dK E 231 [x0] m Q:=gA (sG 231) h
def w266(h:oG E 266 (t266 x0) m Q):dK E 266 [x0] m Q:=gA (sG 266) h
def w287(h:oG E 287 (t287 x0) m Q):dK E 287 [x0] m Q:=gA (sG 287) h
def j287_7(h:oG E 287 (zkv x0) m Q):zK E 287 7 [x0,(uY i0),(.str l0),(uY i1),(.bool g0),x1,(.bool g1),x2,(uZ i2),x3] m Q:=gJ (sG 287) h
def w299(h:oG E 299 (t299 x0) m Q):dK E 299 [x0] m Q:=gA (sG 299) h
def w313(h:oG E 313 (t313 i0 x0) m Q):dK E 313 [x0,(uY i0)] m Q:=gA (sG 313) h
def w314(h:oG E 314 (t314 x0) m Q):dK E 314 [x0] m Q:=gA (sG 314) h
def zpe(h:oG E 314 (za1 i0 i1 i2 i3 i4 i5 i6 i7 i8 l0 l1 l2 x0 x1 x2 x3 x4 x5 x6 g0 g1 g2 g3 g4) m Q):zK E 314 19 [x0,(uY i0),(.str l0),(uY i1),(.bool g0),x1,(.bool g1),x2,(uZ i2),x3,(.str l1),(uY i3),(.bool g2),(uZ i4),(uZ i5),(uY i6),(.str l2),(uY i7),(.bool g3),x4,(.bool g4),x5,(uZ i8),x6] m Q:=gJ (sG 314) h
def zlo(h:oG E 314 (Xf i0 i1 i2 i3 i4 i5 i6 i7 i8 l0 l1 l2 x0 x1 x2 x3 x4 x5 x6 g0 g1 g2 g3 g4) m Q):zK E 314 2 [x0,(uY i0),(.str l0),(uY i1),(.bool g0),x1,(.bool g1),x2,(uZ i2),x3,(.str l1),(uY i3),(.bool g2),(uZ i4),(uZ i5),(uY i6),(.str l2),(uY i7),(.bool g3),x4,(.bool g4),x5,(uZ i8),x6] m Q:=gJ (sG 314) h
def zln(h:oG E 314 (Xe i0 i1 i2 i3 i4 i5 i6 i7 i8 l0 l1 l2 x0 x1 x2 x3 x4 x5 x6 g0 g1 g2 g3 g4) m Q):zK E 314 6 [x0,(uY i0),(.str l0),(uY i1),(.bool g0),x1,(.bool g1),x2,(uZ i2),x3,(.str l1),(uY i3),(.bool g2),(uZ i4),(uZ i5),(uY i6),(.str l2),(uY i7),(.bool g3),x4,(.bool g4),x5,(uZ i8),x6] m Q:=gJ (sG 314) h
def zpd(h:oG E 314 (za0 i3 i4 i5 l1 x0 x4 x5 x6 g2 g3) m Q):zK E 314 37 [x0,(uY i0),(.str l0),(uY i1),(.bool g0),x1,(.bool g1),x2,(uZ i2),x3,(uY i3),(.str l1),(uY i4),(.bool g2),x4,(.bool g3),x5,(uZ i5),x6] m Q:=gJ (sG 314) h
def w319(h:oG E 319 (t319 x0 x1) m Q):dK E 319 [x0,x1] m Q:=gA (sG 319) h
def zll(h:oG E 319 (Xc i0 i1 i2 i3 l0 x0 x1 g0) m Q):zK E 319 2 [x0,x1,(uZ i0),(.str l0),(uY i1),(.bool g0),(uZ i2),(uZ i3)] m Q:=gJ (sG 319) h
end Go.Proofs
namespace Go.Am
open Go Go.RowKit
section
variable {t tf:Tr tA}{C:iA}
theorem NS{sz:Nat}{z c1 c2:List zA}(hz:z.length=sz)(h1:c1.length=sz)(h2:c2.length=sz):vM (fun i=>some (i*sz,sz)) [(0,.agg c1),(1,.agg c2)] (oI z 2)=some [c1,c2].flatten:=by
 have e:oI z 2=z++z:=by
  show fD z (fD z [])=_;rw[aG,aG,ycd]
 rw[e];have o1:nW (z++z) (0*sz) sz (.agg c1)=some (c1++z):=by
  unfold nW;have e1:(zA.agg c1).cells=c1:=rfl
  simp only[e1,kD,h1,Nat.zero_mul,ybw,xT,vR,aG,List.take_zero,yah];rw[gC.2 rfl,aE.2 (by grind)]
  simp only[Bool.and_self,cD];rw[<- hz,List.drop_left]
 have o2:nW (c1++z) (1*sz) sz (.agg c2)=some (c1++c2):=by
  unfold nW;have e1:(zA.agg c2).cells=c2:=rfl
  simp only[e1,kD,h2,Nat.one_mul,xT,vR,aG];rw[gC.2 rfl,aE.2 (by grind)]
  simp only[Bool.and_self,cD];rw[<- h1,List.take_left,ybt (by grind),ycd]
 grind [vM,pA]
end
end Go.Am
namespace Go.Am
open Go Go.RowKit
variable {A B:List iF}{n:Nat}{lo:Option Lo}{cs:List zA}
section
variable {t tf:Tr tA}{C:iA}{base:Nat}
theorem xB.newCel  {t':Tr tA}  (h:xB base tf t (A++B))(hn:t.get n=none)(hb:base<=n)(hc:lC t' n lo cs)(ht:zB t t')(ho:wF n t t'):xB base tf t' (A++wD n lo cs::B):=
 xB.add (o':=wD n lo cs) h (fun k hk=>ho k (fun e=>hk (by simp[wD,e]))) (fun k hk=>by
  grind [wD]) hc (by simp[wD]) (h.tle.trans ht)
def xB.cel    (h:xB base tf t (A++wD n lo cs::B)):lC t n lo cs:=h.ok (wD n lo cs) (by simp)
def xB.setCel {j T:Nat}  {y:lD}{v:zA}(h:xB C.base tf t (A++wD n lo cs::B))(hT:C.tys.get T=some y)(hl:v.cells.length=y.size)(hj:j+v.cells.length<=cs.length)(hone:sD zA.one v.cells=true) :
  ∃t',(∀q,mC C T (.ptr n j) v ⟨q,t⟩=some (pD,⟨q,t'⟩))/\xB C.base tf t' (A++wD n lo (oM cs j v.cells)::B):=by
 have hlow:=h.low n (by simp[wD])
 obtain⟨t',s1,s2,s3⟩:=h.cel.store (C:=C) hlow.1 (j:=j) (v:=v) hT hl hj hone
 exact⟨t',s1,xB.upd (o:=wD n lo cs) (o':=wD n lo (oM cs j v.cells)) h (fun k h1 _=>s3 k (fun e=>h1 (by simp[wD,e]))) (fun k hk=>.inl hk) s2 (by simp[wD]) (h.tle.off hlow.2 s3)⟩
end
end Go.Am
namespace Go.Proofs
open Go Go.Am
variable {α:Type}{b d' e k n':Nat}{w:List Nat}
variable [nC]
def bC.d(t:bC):D:=.st [.int .u8 (t.kind:Int),.str t.text,.int .i64 (t.line:Int),.int .i64 (t.col:Int)]
def bC.cs(t:bC):List zA:=[.int .u8 (t.kind:Int),.str t.text,.int .i64 (t.line:Int),.int .i64 (t.col:Int)]
theorem rd_tok{t:Tr tA}{x:bC}{cs:List zA}(h:RD t x.d cs):cs=x.cs:=by
 grind [bC.d,bC.cs,eO,vH,cH,Ag,Ah]
structure dM where
 tk:List bC
 bp:Nat
 ts:zA
 el:Nat
 ec:Nat
 L:List iF
abbrev pZ(P:dM)(n d:Nat):iF:=wD P.bp none [P.ts,.int .i64 (n:Int),.int .i64 (d:Int),.int .i64 (P.el:Int),.int .i64 (P.ec:Int)]
def dJ(t:Tr tA):Prop:=At t 0 0 ((List.range 7).map fun i=>.str (kindN i))/\At t 1 0 ((List.range 7).map fun i=>.str (lM i))/\At t 3 0 (Ox.map fun(n:Nat)=>.int .i64 (n:Int))
theorem dJ.mono{t t':Tr tA}(h:dJ t)(hl:zB t t'):dJ t':=⟨h.1.mono hl,h.2.1.mono hl,h.2.2.mono hl⟩
structure St (P:dM) (tf t:Tr tA) (n d:Nat):Prop where
 ts:aA tf 4 (P.tk.map bC.d) P.ts
 ob:xB yA.base tf t (pZ P n d::P.L)
 len:P.tk.length<300000
 le:n<=P.tk.length
 good:∀x∈P.tk,Ao x
 glob:dJ tf
def dI(P:dM)(i:Nat):bC:=(P.tk[i]?).getD ⟨0,[],P.el,P.ec⟩
def zp3(P:dM)(e i:Nat):zA:=.iface 143 (.agg [.int .i64 ((dI P i).line:Int),.int .i64 ((dI P i).col:Int),.int .i64 (e:Int)])
def Ok {α:Type}(P:dM)(rd:Tr tA->α->zA->Prop)(d:Nat)(tf:Tr tA)(r:PR α)(Q E:mB):Prop:=
 match r with
 | .ok a n=>∀tf' t' v,zB tf tf'->St P tf' t' n d->rd tf' a v->Q v t'
 | .er e i=>∀tf' t' n' d',zB tf tf'->St P tf' t' n' d'->E (zp3 P e i) t'
section
variable {P:dM}{tf t:Tr tA}{n d:Nat}{Q E:mB}
theorem Ok.mono {rd:Tr tA->α->zA->Prop}{r:PR α}(h:Ok P rd d tf r Q E){tf':Tr tA}(hl:zB tf tf'):Ok P rd d tf' r Q E:=by
 cases r with
 | ok a n=>exact fun tf2 t' v k1 k2 k3=>h tf2 t' v (hl.trans k1) k2 k3
 | er e i=>exact fun tf2 t' n' d' k1 k2=>h tf2 t' n' d' (hl.trans k1) k2
theorem Ok.bind{β:Type}{rd1:Tr tA->α->zA->Prop}{rd:Tr tA->β->zA->Prop}{r:PR α}{f:α->Nat->PR β}{Q1:mB}(h:Ok P rd d tf (r.bind f) Q E)
  (k:∀a n1 tf1 t1 v,r=.ok a n1->zB tf tf1->St P tf1 t1 n1 d->rd1 tf1 a v->Ok P rd d tf1 (f a n1) Q E->Q1 v t1):Ok P rd1 d tf r Q1 E:=by
 cases r with
 | ok a n=>exact fun tf' t' v h1 h2 h3=>k a n tf' t' v rfl h1 h2 h3 (Ok.mono h h1)
 | er e i=>exact h
def Ok.now {rd:Tr tA->α->zA->Prop}{a:α}{v:zA}(h:Ok P rd d tf (.ok a n) Q E)(hst:St P tf t n d)(hr:rd tf a v):Q v t:=h tf t v (zB.refl _) hst hr
def Ok.err {rd:Tr tA->α->zA->Prop}{i:Nat}(h:Ok P rd d tf (.er e i) Q E) (hst:St P tf t n' d'):E (zp3 P e i) t:=h tf t n' d' (zB.refl _) hst
def St.cel(h:St P tf t n d):lC t P.bp none [P.ts,.int .i64 (n:Int),.int .i64 (d:Int),.int .i64 (P.el:Int),.int .i64 (P.ec:Int)]:=h.ob.cel (A:=[])
def nl{o:Nat}:Dl (.ptr b o)=some (.ptr b o):=rfl
def f0  : tC yA 141 0 (.ptr b 0)=some (.ptr b 0):=by kernel_rfl
def f1  : tC yA 141 1 (.ptr b 0)=some (.ptr b 1):=by kernel_rfl
def f2  : tC yA 141 2 (.ptr b 0)=some (.ptr b 2):=by kernel_rfl
def f3  : tC yA 141 3 (.ptr b 0)=some (.ptr b 3):=by kernel_rfl
def St.l0(h:St P tf t n d):cA yA 136 ⟨0,t⟩ (.ptr P.bp 0)=some P.ts:=h.cel.load1 qU rfl rfl
def St.l1(h:St P tf t n d):cA yA 3 ⟨0,t⟩ (.ptr P.bp 1)=some (.int .i64 (n:Int)):=h.cel.load1 aJ rfl rfl
def St.l2(h:St P tf t n d):cA yA 3 ⟨0,t⟩ (.ptr P.bp 2)=some (.int .i64 (d:Int)):=h.cel.load1 aJ rfl rfl
theorem St.l3(h:St P tf t n d):cA yA 39 ⟨0,t⟩ (.ptr P.bp 3)=some (.agg [.int .i64 (P.el:Int),.int .i64 (P.ec:Int)]):=by
 have:=h.cel.at.load (j:=3) (n:=2) yX rfl rfl (by simp)
 simp_all
def St.tsr(h:St P tf t n d):aA t 4 (P.tk.map bC.d) P.ts:=h.ts.mono h.ob.tle
def St.len'(h:St P tf t n d):pC P.ts=some (.int .i64 (P.tk.length:Int)):=by
 have:=h.ts.len
 rwa [ybf]at this
def agT(x:bC):eK Iv (.agg x.cs)=some (cellsOf x.cs):=zO rfl
theorem cT0(x:bC):(cellsOf x.cs).i 0=(x.kind:Int):=rfl
def cT1(x:bC):(cellsOf x.cs).s 1=x.text:=rfl
def cT2(x:bC):(cellsOf x.cs).i 2=(x.line:Int):=rfl
def cT3(x:bC):(cellsOf x.cs).i 3=(x.col:Int):=rfl
theorem Nw(h:St P tf t n d):kB yA F 77 [.ptr P.bp 0] t=some (.agg (dI P n).cs):=by
 refine iC.2 (w77 ?_)
 simp only[uI,uG,sC,uZ,uY,uA11,t77,oA,nl,f0,f1,f3,h.l0,h.l1,h.len',uA,aB,bE];by_cases hn:n<P.tk.length
 ·rw[yab (by omega)]
  have hx:P.tk[n]?=some P.tk[n]:=ybd hn
  have hd:(P.tk.map bC.d)[n]?=some P.tk[n].d:=by simp_all
  obtain⟨b,o,cs,h1,h2,_,_,h3⟩:=sl136.at (fun h=>by cases h) h.tsr hd
  rw[h1,uA,h2,uA];have e:=rd_tok h3
  subst e;show oD (eK Iv (.agg P.tk[n].cs)) _
  rw[agT,uA];simp only[if_true,cT0,cT1,cT2,cT3];unfold dI;rw[hx];exact⟨rfl,trivial⟩
 ·rw[yaa (by omega),h.l3,uA]
  have hx:P.tk[n]?=none:=List.getElem?_eq_none (by omega)
  show oD (some (cellsOf _)) _
  rw[uA];simp only[if_true];unfold dI;rw[hx];exact⟨rfl,trivial⟩
theorem zqz  : acc P.tk w n=((decide ((dI P n).kind=1)||decide ((dI P n).kind=4))&&qF (dI P n).text w):=by
 grind [acc,dI]
theorem Tq (hk:0<k):jM P.tk k n=decide ((dI P n).kind=k):=by
 grind [jM,dI]
theorem FI:aP P.tk n=(dI P n).text:=by
 grind [aP,dI]
theorem St.set1(h:St P tf t n d) (hn:n'<=P.tk.length):∃t',(∀q,mC yA 3 (.ptr P.bp 1) (.int .i64 (n':Int)) ⟨q,t⟩=some (pD,⟨q,t'⟩))/\St P tf t' n' d:=by
 obtain⟨t',h1,h2⟩:=xB.setCel (A:=[]) (j:=1) (v:=.int .i64 (n':Int)) h.ob aJ rfl (by show 1+1<=5;omega) rfl
 exact⟨t',h1,h.ts,h2,h.len,hn,h.good,h.glob⟩
theorem St.set2(h:St P tf t n d)  : ∃t',(∀q,mC yA 3 (.ptr P.bp 2) (.int .i64 (d':Int)) ⟨q,t⟩=some (pD,⟨q,t'⟩))/\St P tf t' n d':=by
 obtain⟨t',h1,h2⟩:=xB.setCel (A:=[]) (j:=2) (v:=.int .i64 (d':Int)) h.ob aJ rfl (by show 2+1<=5;omega) rfl
 exact⟨t',h1,h.ts,h2,h.len,h.le,h.good,h.glob⟩
theorem Vx (h:acc P.tk w n=true):n<P.tk.length:=by
 grind [acc]
theorem Vw (h:St P tf t n d)(hQ:∀t',St P tf t' (if acc P.tk w n then n+1 else n) d->Q (.bool (acc P.tk w n)) t'):Wc yA F 78 [.ptr P.bp 0,.str w] t Q:=by
 refine w78 ?_
 simp only[uQ7,uI,uG,wC,sC,t78,oA];rw[q77,Nw h,uA,agT,uA];have ha:=zqz (P:=P) (n:=n) (w:=w)
 simp only[if_true,cT0,cT1,nl,f1,uA,kJ];have step:qF (dI P n).text w=true->(decide ((dI P n).kind=1)||decide ((dI P n).kind=4))=true->oD (cA yA 3 ⟨0,t⟩ (.ptr P.bp 1)) (fun v=>oD (intK .i64 v) fun n'=>∀b,t.get b=none->yA.base<=b->oD (mC yA 3 (.ptr P.bp 1) (kC n') ⟨b,t⟩) fun p=>Q (.bool (qF (dI P n).text w)) p.2.t):=by
  intro h1 h2;rw[h1,h2]at ha;have ha:acc P.tk w n=true:=ha
  rw[h.l1,uA,aB,uA];intro b _ _;have hlt:=Vx ha
  have hl:=h.len
  obtain⟨t',k1,k2⟩:=h.set1 (n':=n+1) (by omega)
  grind [wrap_i64,uA]
 grind
theorem MB(h:St P tf t n d):kB yA F 151 [.ptr P.bp 0] t=some (.bool (nT P.tk n)):=by
 refine iC.2 (w151 ?_)
 simp only[uB,uG,wC,t151,oA];rw[q77,Nw h,uA,agT,uA];simp only[if_true,cT0,cT1,kJ,q60,zcn,uA,zA.asBool];unfold nT;rw[Tq (by omega),FI]
 by_cases hk:(dI P n).kind=1
 all_goals grind
def zp2 (h:St P tf t n d)(hE:E (zp3 P e n) t):sM yA F E 39 [.ptr P.bp 0,.int .i64 (e:Int)] t Q:=by
 refine w39 ?_
 unfold t39 uG uZ uY;refine wB ?_
 rw[pQ 77,Nw h,uA];refine dC (agT _) (mA rfl ?_)
 refine wB (pX _ _ _ ?_)
 exact hE
theorem Ok.fail {rd:Tr tA->α->zA->Prop} (h:St P tf t n d)(hk:Ok P rd d tf (.er e n) Q E){Q':mB}:rG yA F jC mG E 39 [.ptr P.bp 0,.int .i64 (e:Int)] t Q':=by
 rw[pE 39];exact zp2 h (hk.err h)
def rdStr(_:Tr tA)(s:List Nat)(v:zA):Prop:=v=.str s
def rdU (_:Tr tA)(_:Unit)(v:zA):Prop:=v=.tup []
def rdInt(_:Tr tA)(s:Int)(v:zA):Prop:=v=.int .i64 s
def rdU8 (_:Tr tA)(s:Nat)(v:zA):Prop:=v=.int .u8 (s:Int)
def rdTok(k:Nat)(_:Tr tA)(s:List Nat)(v:zA):Prop:=∃x:bC,x.kind=k/\x.text=s/\v=.agg x.cs
theorem Nc (hk0:0<k)(h:St P tf t n d)(hk:Ok P (rdTok k) d tf (lS P.tk k n) Q E):sM yA F E 68 [.ptr P.bp 0,.int .u8 (k:Int)] t Q:=by
 refine w68 ?_
 unfold t68 uG uZ uY;refine wB ?_
 rw[pQ 77,Nw h,uA];refine dC (agT _) (mA rfl ?_)
 unfold lS at hk;rw[Tq hk0]at hk;by_cases hx:(dI P n).kind=k
 ·rw[decide_eq_true hx,yab rfl]at hk
  refine vB (by grind [cT0,fE]) (fC (j68_9 ?_))
  unfold t68_9 uI kC sC uZ uY;refine rA nl (rA f1 (yC h.l1 (qB (rA nl (rA f1 (eC fun b _ _=>?_))))))
  have hlt:n<P.tk.length:=by
   grind [dI]
  have hl:=h.len
  obtain⟨t',k1,k2⟩:=h.set1 (n':=n+1) (by omega)
  have e:fA .i64 ((n:Int)+1)=((n+1:Nat):Int):=by
   grind [wrap_i64]
  rw[e];refine⟨_,_,k1 b,mA rfl ?_⟩
  exact Ok.now hk k2 ⟨dI P n,hx,by rw[FI],rfl⟩
 ·rw[decide_eq_false hx,yaa (by simp)]at hk
  refine mA (by grind [cT0,fE]) (wB (Ok.fail h hk))
theorem zcb(h:St P tf t n d)(hk:Ok P rdU d tf (Eh P.tk n) Q E):sM yA F E 32 [.ptr P.bp 0] t Q:=by
 refine w32 ?_
 unfold t32 uR2 uI uG sC uZ uY;refine wB ?_
 rw[pE 68];unfold Eh at hk;refine Nc (k:=5) (by omega) h (hk.bind fun a n1 tf1 t1 v hr hl hst hrd hk1=>?_)
 obtain⟨x,_,_,rfl⟩:=hrd
 refine dC (agT _) (rA nl (rA f1 (yC hst.l1 (qB (rA nl (rA f0 (yC hst.l0 (rA hst.len' (qB ?_)))))))))
 by_cases hn:n1<P.tk.length
 ·rw[yab hn]at hk1
  exact mA (by grind [aC]) (wB (Ok.fail hst hk1))
 ·rw[yaa hn]at hk1
  exact vB (by grind [aC]) (Ok.now hk1 hst rfl)
theorem JX(h:St P tf t n d)(hk:Ok P rdStr d tf (kU P.tk n) Q E):sM yA F E 96 [.ptr P.bp 0] t Q:=by
 refine w96 ?_
 unfold t96 uB uG uZ uY;refine wB ?_
 rw[pQ 151,MB h,uA];refine iD ?_
 unfold kU at hk
 cases hx:nT P.tk n with
 | false=>
  rw[hx,yaa (by simp)]at hk
  exact mA rfl (wB (Ok.fail h hk))
 | true=>
  rw[hx,yab rfl]at hk;refine vB (by simp) (wB ?_)
  rw[pE 68];refine Nc (k:=1) (by omega) h ?_
  have hkd:jM P.tk 1 n=true:=by grind [nT]
  unfold lS;rw[hkd,yab rfl];intro tf' t' v k1 k2 ⟨x,_,e,k3⟩
  subst k3;refine dC (agT _) ?_
  exact hk tf' t' _ k1 k2 (by show zA.str x.text=.str _;rw[e])
end
end Go.Proofs
namespace Go.Proofs
open Go Go.Am
def BF:List (List Nat):=[[],[116,114,117,116,104],[110,117,109,98,101,114],[109,111,110,101,121],[100,97,116,101],[100,97,121,115],[109,111,110,116,104,115]]
def GlobK(t:Tr tA):Prop:=At t 0 0 (BF.map zA.str)
end Go.Proofs
namespace Go.Am
open Go Go.RowKit
def qZ{α:Type}(f:Nat->Option α):Nat->Tr α
 | 0=>.leaf
 | n+1=>match f n with
  | some v=>(qZ f n).set n v
  | none=>qZ f n
theorem bU{α:Type}(f:Nat->Option α):∀(n a:Nat),(qZ f n).get a=if a<n then f a else none:=by
 intro n;induction n with
 | zero=>intro a;rw[yaa (by omega)];exact Tr.get_leaf _
 | succ n ih=>
  grind [qZ,Tr.get_set]
def vS (N:Nat):Value->Option zA
 | .bool b=>some (.bool b)
 | .int k n=>some (.int k n)
 | .string s=>some (.str (pF s))
 | .slice none 0 0=>some .nilslice
 | .slice (some _) 0 0=>some (.slice 0 0 0 0)
 | .slice (some ⟨b,off,none⟩) len cap=>if b<N then some (.slice (256+b) off len cap)else none
 | _=>none
def absB (N:Nat):Obj->Option tA
 | .cells cs _ _=>some (.cells (qZ (fun j=>(cs[j]?).bind (vS N)) cs.size) cs.size none)
 | _=>none
def bI (w:World):Tr tA:=qZ (fun a=>if a<256 then(w.heap[a]?).bind (absB w.heap.size)else(w.heap[a-256]?).bind (absB w.heap.size)) (256+w.heap.size)
def muW (w:World):Mu:=⟨fun a=>if a<256 then some ⟨a,true,0,0,true⟩else if a<256+w.heap.size then some ⟨a-256,true,0,0,true⟩else none,fun _=>none⟩
section
variable {w:World}
theorem QW{v:Value}{a:zA}(h:vS w.heap.size v=some a):vA (muW w) a v:=by
 unfold vS at h;split at h
 ·cases h;rw[vA]
 ·cases h;rw[vA]
 ·grind [vA]
 ·cases h;rw[vA]
 ·grind [vA]
 ·split at h
  ·rename_i hb
   cases h;rename_i b off len cap _;rw[vA];refine .inl ⟨⟨b,true,0,0,true⟩,cap,?_,rfl,ybk _,fun _=>rfl,fun h=>by cases h⟩
   show(if 256+b<256 then some (⟨256+b,true,0,0,true⟩:BI)else if 256+b<256+w.heap.size then some ⟨256+b-256,true,0,0,true⟩else none)=_
   rw[yaa (by omega),yab (by omega),show 256+b-256=b by omega]
  ·cases h
 ·cases h
theorem QY{o:Obj}{x:tA}(h:absB w.heap.size o=some x)(b:Nat):uJ (muW w) ⟨b,true,0,0,true⟩ x o/\x.asLoop=none/\x.asDeferred=none:=by
 cases o<;>first | (cases h;done) | skip
 rename_i cs elem fr
 cases h;refine⟨⟨cs,elem,fr,rfl,ybk _,.inl rfl,fun j v hv=>?_,rfl⟩,rfl,rfl⟩
 grind [bU,QW]
theorem hrelW:rB (256+w.heap.size) w.heap.size (muW w) ⟨256+w.heap.size,bI w⟩ w:=by
 have hget:∀a x,(bI w).get a=some x->∃b o,b<w.heap.size/\w.heap[b]?=some o/\absB w.heap.size o=some x/\a<256+w.heap.size/\b=(if a<256 then a else a-256):=by
  grind [bI,bU]
 have hmu:∀a,(muW w) a=if a<256 then some ⟨a,true,0,0,true⟩else if a<256+w.heap.size then some ⟨a-256,true,0,0,true⟩else none:=fun _=>rfl
 have big:∀a,256+w.heap.size<=a->(muW w) a=none:=fun a h=>by rw[hmu,yaa (by omega),yaa (by omega)]
 have same:∀a x i,(bI w).get a=some x->(muW w) a=some i->∃o,w.heap[i.b]?=some o/\i.b<w.heap.size/\absB w.heap.size o=some x/\i=⟨i.b,true,0,0,true⟩:=by
  grind
 refine⟨by omega,fun g hg=>by rw[hmu,yab hg],fun a x i _ hx hi=>?_,ybk _,ybk _,fun a ha=>⟨big a ha,?_⟩,fun a x i hx hi=>?_,fun a i ha hi=>?_,fun a b x y i j hx _ hi _ ha _ _=>?_,fun a x t h=>by cases h⟩
 ·obtain⟨o,_,h2,h3,_⟩:=same a x i hx hi
  exact⟨h2,(QY h3 0).2⟩
 all_goals grind [bI,bU,QY]
end
end Go.Am
namespace Go.Am
open Go Go.RowKit
variable {b n:Nat}{cs:List Value}{c:Array Value}{t:TypeId}{fr:Nat × Nat}
def zI(P:Program):Nat->TypeId->D->Prop
 | 0,_,_=>False
 | f+1,t,x=>match P.underlying t with
  | some .bool=>∃b,x=.bool b
  | some (.int k)=>∃n,x=.int k n/\(Lit.int k n).wf=true
  | some .string=>∃l:List Nat,x=.str l/\l.length<=reachBytes/\∀c∈l,c<256
  | some (.slice e)=>∃l:List D,x=.sl (P.cellsOf e) l/\l.length*P.bytesOf e<=reachBytes/\∀y∈l,zI P f e y
  | some (.struct fs)=>∃l:List D,x=.st l/\xD (fun fd y=>zI P f fd.type y) fs.toList l
  | _=>False
def Jj(P:Program):Nat->List Field->Nat->Bool
 | off,[],n=>off == n
 | off,f::fs,n=>f.offset == off&&Jj P (off+P.cellsOf f.type) fs n
structure Plain (P:Program) (S:TypeId->Prop):Prop where
 part:∀t,S t->match P.underlying t with
  | some .bool=>True
  | some (.int _)=>True
  | some .string=>True
  | some (.slice e)=>S e/\0<P.cellsOf e
  | some (.struct fs)=>(∀f∈fs.toList,S f.type)/\Jj P 0 fs.toList (P.cellsOf t)=true
  | _=>False
def av (N:Nat)(v:Value):zA:=(vS N v).getD .nilptr
def Has (N:Nat)(cs:List Value):Prop:=∀v∈cs,vS N v=some (av N v)
theorem PH{α:Type}{Q:Nat->α->Prop}:∀(n:Nat),(∀i,i<n->∃p,Q i p)->∃l:List α,l.length=n/\∀i p,l[i]?=some p->Q i p:=by
 intro n;induction n with
 | zero=>simp_all
 | succ n ih=>
  intro h;obtain⟨l,hl,hq⟩:=ih fun i hi=>h i (by omega)
  obtain⟨p,hp⟩:=h n (by omega)
  refine⟨l++[p],by simp[hl],fun i q hq'=>?_⟩
  grind
section
variable {H:Type}{enc:TypeId × Value->H}{P:Program}{w:World}
theorem EN{p:Nat->Bool}:∀ {ts:List TypeId} {ds:List (DataW H)},(DataW.weightsEach P ts ds).all p=true->∀ {i:Nat} {t:TypeId} {d:DataW H},ts[i]?=some t->ds[i]?=some d->(DataW.weights P t d).all p=true
 | [],_,_,i,_,_,h1,_=>by simp at h1
 | _::_,[],_,i,_,_,_,h2=>by simp at h2
 | t::ts,d::ds,h,i,u,e,h1,h2=>by
  rw[DataW.weightsEach,ydi,ybb]at h
  cases i with
  | zero=>simp_all
  | succ i=>exact EN h.2 (by simpa using h1) (by simp_all)
theorem EO{p:Nat->Bool}{e:TypeId}:∀ {ds:List (DataW H)},(DataW.weightsAll P e ds).all p=true->∀ {i:Nat} {d:DataW H},ds[i]?=some d->(DataW.weights P e d).all p=true
 | [],_,i,_,h2=>by simp at h2
 | d::ds,h,i,x,h2=>by
  rw[DataW.weightsAll,ydi,ybb]at h
  cases i with
  | zero=>simp_all
  | succ i=>exact EO h.2 (by simpa using h2)
theorem PO{a:Addr}  (h:w.cells? 0 a n=some cs):cs.length=n/\(0<n->a.spot=none/\∃c t fr,w.heap[a.block]?=some (.cells c t fr)/\∀j,j<n->c[a.off+j]?=cs[j]?):=by
 unfold World.cells? at h
 rw[yab (yaw _)]at h
 have hl:=mapM_some_length h
 have hg:=mapM_some_get h
 simp only[List.length_range]at hl;refine⟨hl,fun hn=>?_⟩
 have key:∀j,j<n->w.cell? (a.add j)=cs[j]?:=fun j hj=>hg j j (by simp[hj])
 have h0:=key 0 hn
 have hs0:∃v,cs[0]?=some v:=⟨cs[0]'(by omega),ybd (by omega)⟩
 obtain⟨v0,hv0⟩:=hs0
 rw[hv0]at h0;have e0:a.add 0=a:=by simp[Addr.add]
 rw[e0]at h0;unfold World.cell? at h0
 cases hb:w.heap[a.block]? with
 | none=>simp_all
 | some o=>
  rw[hb]at h0
  cases o with
  | cells c t fr=>
   simp only[]at h0;split at h0
   ·cases h0
   ·rename_i hsp
    refine⟨by simp_all,c,t,fr,rfl,fun j hj=>?_⟩
    grind [World.cell?,Addr.add]
  | _=>cases h0
def QX    (h:w.heap[b]?=some (.cells c t fr)) :
  (bI w).get (256+b)=some (.cells (qZ (fun j=>(c[j]?).bind (vS w.heap.size)) c.size) c.size none):=by
 have hb:=(ybe.1 h).1
 unfold bI;rw[bU,yab (by omega),yaa (by omega),show 256+b-256=b by omega,h]
 rfl
theorem at_old{off:Nat}    (h:w.heap[b]?=some (.cells c t fr))(hl:cs.length=n)(hc:∀j,j<n->c[off+j]?=cs[j]?)(hs:Has w.heap.size cs) :
  At (bI w) (256+b) off (cs.map (av w.heap.size)):=by
 refine⟨_,_,_,QX h,fun j a ha=>?_⟩
 rw[ybu]at ha
 cases hj:cs[j]? with
 | none=>simp_all
 | some v=>
  rw[hj]at ha;have hlt:j<n:=by grind
  have h1:=hc j hlt
  rw[hj]at h1;have hsz:off+j<c.size:=(ybe.1 h1).1
  rw[bU,yab hsz,h1];have ha:av w.heap.size v=a:=by simp_all
  rw[<- ha];exact hs v (ycv hj)
theorem FH{cs:List Value}:∀ {fs:List Field} {off:Nat},Jj P off fs cs.length=true->(fs.map fun f=>(cs.drop f.offset).take (P.cellsOf f.type)).flatten=cs.drop off
 | [],off,h=>by grind [Jj]
 | f::fs,off,h=>by
  rw[Jj,ybb]at h;obtain⟨h1,h2⟩:=h
  have h1:f.offset=off:=by simp_all
  rw[ycm,yas,FH h2,h1,<- List.drop_drop,List.take_append_drop]
theorem zfz{α β:Type}{R:α->β->Prop}:∀ {l:List α} {m:List β},m.length=l.length->(∀(i:Nat) a b,l[i]?=some a->m[i]?=some b->R a b)->xD R l m
 | [],[],_,_=>.nil
 | [],_::_,h,_=>by simp at h
 | _::_,[],h,_=>by simp at h
 | a::l,b::m,h,k=>.cons (k 0 a b (by simp) (by simp)) (zfz (by grind) fun i a b h1 h2=>k (i+1) a b (by simp_all) (by simp_all))
theorem zof{S:TypeId->Prop}(hP:Plain P S)(h0:∃c n lo,(bI w).get 0=some (.cells c n lo)) :
  ∀(fuel:Nat) (t:TypeId) (cs:List Value) (x:DataW H × List MemPlace),S t->DataW.trod enc P w 0 (fun _=>true) true fuel t cs=some x->(DataW.weights P t x.1).all (· <= reachBytes)=true →
   Has w.heap.size cs/\∃d,RD (bI w) d (cs.map (av w.heap.size))/\zI P fuel t d:=by
 intro fuel;induction fuel with
 | zero=>simp_all [DataW.trod]
 | succ n ih=>
  intro t cs x hS h hw;have hp:=hP.part t hS
  have one:∀ {v:Value} {a:zA},vS w.heap.size v=some a->Has w.heap.size [v]/\av w.heap.size v=a:=by
   intro v a hv;have:av w.heap.size v=a:=by grind [av]
   refine⟨fun u hu=>?_,this⟩
   simp at hu;subst hu;rw[hv,this]
  cases hu:P.underlying t with
  | none=>simp_all
  | some dt=>
  cases dt with
  | bool=>
   obtain⟨b,rfl,rfl⟩:=DataW.trod_bool hu h
   obtain⟨h1,h2⟩:=one (v:=.bool b) (a:=.bool b) rfl
   exact⟨h1,.bool b,by simp_all,by grind [zI]⟩
  | int k=>
   obtain⟨m,rfl,rfl,hwf⟩:=DataW.trod_int hu h
   obtain⟨h1,h2⟩:=one (v:=.int k m) (a:=.int k m) rfl
   exact⟨h1,.int k m,by simp_all,by grind [zI]⟩
  | string=>
   obtain⟨s,rfl,rfl,_⟩:=DataW.trod_string hu h
   obtain⟨h1,h2⟩:=one (v:=.string s) (a:=.str (pF s)) rfl
   refine⟨h1,.str (pF s),by simp_all,?_⟩
   grind [zI,DataW.weights,pF,UInt8.toNat_lt]
  | slice e=>
   rw[hu]at hp;obtain⟨hSe,hpos⟩:=hp
   rcases DataW.trod_slice hu h with⟨rfl,rfl⟩ | ⟨a,len,cap,jO,rest,m,hm,rfl,rfl,_,hlc,_,hel,hE,hR,_⟩
   ·obtain⟨h1,h2⟩:=one (v:=.slice none 0 0) (a:=.nilslice) rfl
    refine⟨h1,.sl (P.cellsOf e) [],by rw[fW];exact⟨_,by simp[h2],[],.inl ⟨rfl,rfl⟩,by rw[uD]⟩,?_⟩
    grind [zI]
   ·obtain rfl:n=m:=by omega
    simp only[DataW.weights,hu,ycg,ybb,ydi,decide_eq_true_eq,ybf]at hw;obtain⟨hsz,hwe,hwr⟩:=hw
    by_cases hcap:cap=0
    ·subst hcap
     obtain rfl:len=0:=by omega
     obtain⟨h1,h2⟩:=one (v:=.slice (some a) 0 0) (a:=.slice 0 0 0 0) (by cases a;rfl)
     refine⟨h1,.sl (P.cellsOf e) [],?_,?_⟩
     ·rw[fW,ycm,List.map_nil,h2]
      refine⟨_,rfl,[],.inr ⟨0,0,0,rfl,ybk _,?_,fun i cs hi=>by simp at hi⟩,by rw[uD]⟩
      obtain⟨c,k,lo,hc⟩:=h0
      have:=hc
      unfold bI at this;rw[bU]at this;split at this
      case isFalse=>cases this
      rw[yab (by omega)]at this
      cases ho:w.heap[0]? with
      | none=>simp_all
      | some o=>
       rw[ho]at this
       cases o with
       | cells c' t' fr'=>
        grind [absB]
       | _=>cases this
     grind [zI]
    ·have hr:=(hR rfl).1
     have hRr:=(hR rfl).2
     have hel1:∀i,i<len->∃p:List Value × D,w.cells? 0 (a.add (i*P.cellsOf e)) (P.cellsOf e)=some p.1/\Has w.heap.size p.1/\RD (bI w) p.2 (p.1.map (av w.heap.size))/\zI P n e p.2:=by
      intro i hi;have:=hE i hi
      obtain⟨y,hy⟩:∃y,jO[i]?=some y:=⟨jO[i]'(by omega),ybd (by omega)⟩
      rw[hy]at this;simp only[Option.bind_eq_some_iff]at this;obtain⟨c1,hc1,hy1⟩:=this
      obtain⟨g1,d,g2,g3⟩:=ih e c1 y hSe hy1 (EO hwe (i:=i) (by simp[hy]))
      exact⟨(c1,d),hc1,g1,g2,g3⟩
     obtain⟨l,hl,hq⟩:=PH len hel1
     have hfirst:∃c1,w.cells? 0 a (P.cellsOf e)=some c1:=by
      by_cases hlen:len=0
      ·have:=hRr 0 (by omega)
       grind [Option.bind_eq_some_iff,Addr.add]
      ·obtain⟨p,hp,_⟩:=hel1 0 (by omega)
       grind [Addr.add]
     obtain⟨c1,hc1⟩:=hfirst
     obtain⟨hspot,c,ct,fr,hblk,_⟩:=(PO hc1).2 hpos
     have hb:a.block<w.heap.size:=(ybe.1 hblk).1
     have hav:vS w.heap.size (.slice (some a) len cap)=some (.slice (256+a.block) a.off len cap):=by
      obtain⟨bb,oo,ss⟩:=a
      grind [vS]
     obtain⟨h1,h2⟩:=one hav
     refine⟨h1,.sl (P.cellsOf e) (l.map (·.2)),?_,?_⟩
     ·rw[fW]
      refine⟨_,by rw[ycm,List.map_nil,h2],l.map (fun p=>p.1.map (av w.heap.size)),.inr ⟨256+a.block,a.off,cap,by rw[ybf,hl],by simp_all,⟨_,_,_,QX hblk,.inl rfl⟩,fun i cs hi=>?_⟩,?_⟩
      ·rw[ybu]at hi
       cases hli:l[i]? with
       | none=>simp_all
       | some p=>
        rw[hli]at hi;obtain rfl:p.1.map (av w.heap.size)=cs:=by simp_all
        obtain⟨k1,k2,k3,k4⟩:=hq i p hli
        obtain⟨m1,m2⟩:=PO k1
        obtain⟨_,c',ct',fr',hb',hcc⟩:=m2 hpos
        have eb:(a.add (i*P.cellsOf e)).block=a.block:=by unfold Addr.add;split<;>rfl
        have eo:(a.add (i*P.cellsOf e)).off=a.off+i*P.cellsOf e:=by unfold Addr.add;split<;>simp_all
        rw[eb]at hb'
        rw[hblk]at hb'
        cases hb'
        rw[eo]at hcc;exact⟨by simp_all,at_old hblk m1 hcc k2⟩
      grind [uD.mk]
     grind [zI,List.mem_iff_getElem?]
  | struct fs=>
   rw[hu]at hp;obtain⟨hf,ht⟩:=hp
   obtain⟨xs,m,hm,rfl,hlen,hxs,hel⟩:=DataW.trod_struct hu h
   obtain rfl:n=m:=by omega
   simp only[DataW.weights,hu]at hw;have hel1:∀i,i<fs.toList.length->∃p:D,∀f,fs.toList[i]?=some f->Has w.heap.size ((cs.drop f.offset).take (P.cellsOf f.type))/\RD (bI w) p (((cs.drop f.offset).take (P.cellsOf f.type)).map (av w.heap.size))/\zI P n f.type p:=by
    intro i hi;have hi':i<fs.size:=by omega
    obtain⟨f,hfi⟩:∃f,fs.toList[i]?=some f:=⟨fs.toList[i],ybd hi⟩
    have:=hel i f (by simp_all)
    obtain⟨y,hy⟩:∃y,xs[i]?=some y:=⟨xs[i]'(by omega),ybd (by omega)⟩
    rw[hy]at this;obtain⟨g1,d,g2,g3⟩:=ih f.type _ y (hf f (ycv hfi)) this (EN hw (i:=i) (by simp_all) (by simp_all))
    refine⟨d,fun f' hf'=>?_⟩
    simp_all
   obtain⟨l,hl,hq⟩:=PH fs.toList.length hel1
   have hfl:=FH (cs:=cs) (P:=P) (fs:=fs.toList) (off:=0) (by simp_all)
   rw[ycr]at hfl;refine⟨fun v hv=>?_,.st l,?_,?_⟩
   ·rw[<- hfl]at hv
    obtain⟨part,hpart,hv⟩:=List.mem_flatten.1 hv
    obtain⟨f,hfm,rfl⟩:=yaq.1 hpart
    obtain⟨i,hi⟩:=List.mem_iff_getElem?.1 hfm
    have hi':i<fs.toList.length:=(ybc.1 hi).1
    exact(hq i (l[i]'(by omega)) (ybd (by omega)) f hi).1 v hv
   all_goals grind [eO,uD.mk,zI,zfz]
  | _=>rw[hu]at hp;exact hp.elim
end
end Go.Am
namespace Go.Am
open Go Go.RowKit
structure Wa (P:Program) where
 (b i u8 u16 s limbs whole frac val expr exprs row rows table tables dfn dfns clause clauses plan:TypeId)
 hb:P.underlying b=some .bool
 hi:P.underlying i=some (.int .i64)
 hu8:P.underlying u8=some (.int .u8)
 hu16:P.underlying u16=some (.int .u16)
 hs:P.underlying s=some .string
 hlimbs:P.underlying limbs=some (.slice u16)
 hexprs:P.underlying exprs=some (.slice expr)
 hrows:P.underlying rows=some (.slice row)
 htables:P.underlying tables=some (.slice table)
 hdfns:P.underlying dfns=some (.slice dfn)
 hclauses:P.underlying clauses=some (.slice clause)
 hwhole:∃fs,P.underlying whole=some (.struct fs)/\fs.toList.map (·.type)=[b,limbs]
 hfrac:∃fs,P.underlying frac=some (.struct fs)/\fs.toList.map (·.type)=[whole,whole]
 hval:∃fs,P.underlying val=some (.struct fs)/\fs.toList.map (·.type)=[u8,frac,i]
 hexpr:∃fs,P.underlying expr=some (.struct fs)/\fs.toList.map (·.type)=[u8,s,val,exprs]
 hrow:∃fs,P.underlying row=some (.struct fs)/\fs.toList.map (·.type)=[i,i,i,frac]
 htable:∃fs,P.underlying table=some (.struct fs)/\fs.toList.map (·.type)=[s,b,rows]
 hdfn:∃fs,P.underlying dfn=some (.struct fs)/\fs.toList.map (·.type)=[s,u8,b]
 hclause:∃fs,P.underlying clause=some (.struct fs)/\fs.toList.map (·.type)=[s,s,i,i,i,b,expr,expr]
 hplan:∃fs,P.underlying plan=some (.struct fs)/\fs.toList.map (·.type)=[s,dfns,tables,clauses]
 cu16:P.cellsOf u16=1
 cexpr:P.cellsOf expr=9
 crow:P.cellsOf row=7
 ctable:P.cellsOf table=3
 cdfn:P.cellsOf dfn=3
 cclause:P.cellsOf clause=24
 bytes:1<=P.bytesOf u16/\1<=P.bytesOf expr/\1<=P.bytesOf row/\1<=P.bytesOf table/\1<=P.bytesOf dfn/\1<=P.bytesOf clause
section
variable {P:Program}{f:Nat}{t:TypeId}{x:D}
theorem Mz(h:zI P f t x):∃g,f=g+1:=by
 cases f with
 | zero=>exact h.elim
 | succ g=>simp_all
theorem SJ(ht:P.underlying t=some .bool)(h:zI P f t x):∃b,x=.bool b:=by
 grind [Mz,zI]
theorem Wn{k:IntKind}(ht:P.underlying t=some (.int k))(h:zI P f t x):∃n,x=.int k n/\(Lit.int k n).wf=true:=by
 grind [Mz,zI]
def zap(ht:P.underlying t=some (.int .i64))(h:zI P f t x):∃n,x=.int .i64 n/\i64 n:=by
 obtain⟨n,rfl,hn⟩:=Wn ht h
 simp only[Lit.wf,ybb,decide_eq_true_eq]at hn;have h1:IntKind.i64.min = -9223372036854775808:=rfl
 have h2:IntKind.i64.max=9223372036854775807:=rfl
 rw[h1,h2]at hn;exact⟨n,rfl,hn.1,by omega⟩
def FA(ht:P.underlying t=some (.int .u8))(h:zI P f t x):∃n:Nat,x=.int .u8 (n:Int)/\n<256:=by
 obtain⟨n,rfl,hn⟩:=Wn ht h
 simp only[Lit.wf,ybb,decide_eq_true_eq]at hn;have h1:IntKind.u8.min=0:=rfl
 have h2:IntKind.u8.max=255:=rfl
 rw[h1,h2]at hn;exact⟨n.toNat,by rw[show((n.toNat:Nat):Int)=n by omega],by omega⟩
def zan(ht:P.underlying t=some (.int .u16))(h:zI P f t x):∃n:Nat,x=.int .u16 (n:Int)/\n<65536:=by
 obtain⟨n,rfl,hn⟩:=Wn ht h
 simp only[Lit.wf,ybb,decide_eq_true_eq]at hn;have h1:IntKind.u16.min=0:=rfl
 have h2:IntKind.u16.max=65535:=rfl
 rw[h1,h2]at hn;exact⟨n.toNat,by rw[show((n.toNat:Nat):Int)=n by omega],by omega⟩
theorem zao(ht:P.underlying t=some .string)(h:zI P f t x):∃l:List Nat,x=.str l/\l.length<fG/\∀c∈l,c<256:=by
 grind [Mz,zI,reachBytes,fG]
theorem FB{e:TypeId}{sz:Nat}(ht:P.underlying t=some (.slice e))(hc:P.cellsOf e=sz)(hb:1<=P.bytesOf e)(h:zI P f t x):∃(l:List D) (g:Nat),f=g+1/\x=.sl sz l/\l.length<fG/\∀y∈l,zI P g e y:=by
 obtain⟨g,rfl⟩:=Mz h
 unfold zI at h;rw[ht]at h;obtain⟨l,h1,h2,h3⟩:=h
 have:l.length<=l.length*P.bytesOf e:=Nat.le_mul_of_pos_right _ hb
 grind [reachBytes,fG]
theorem xD.ofMap{α β γ:Type}{k:α->γ}{R:γ->β->Prop}:∀ {l:List α} {m:List β},xD (fun a b=>R (k a) b) l m->xD R (l.map k) m
 | [],_,.nil=>.nil
 | _::_,_::_,.cons h r=>.cons h (xD.ofMap r)
theorem Rs{ts:List TypeId}(ht:∃fs,P.underlying t=some (.struct fs)/\fs.toList.map (·.type)=ts)(h:zI P f t x):∃(l:List D) (g:Nat),f=g+1/\x=.st l/\xD (fun t y=>zI P g t y) ts l:=by
 obtain⟨fs,ht,rfl⟩:=ht
 obtain⟨g,rfl⟩:=Mz h
 grind [zI,xD.ofMap]
theorem xD.cons_inv{α β:Type}{R:α->β->Prop}{a:α}{l:List α}{m:List β}(h:xD R (a::l) m):∃b r,m=b::r/\R a b/\xD R l r:=by
 cases h with
 | cons h1 h2=>grind
def xD.nil_inv{α β:Type}{R:α->β->Prop}{m:List β}(h:xD R ([]:List α) m):m=[]:=by
 cases h;rfl
theorem AP{α β:Type}{g:α->β}{Q:α->Prop}:∀ {l:List β},(∀y∈l,∃a,y=g a/\Q a)->∃m:List α,l=m.map g/\∀a∈m,Q a
 | [],_=>⟨[],rfl,fun _ h=>by cases h⟩
 | y::l,h=>by
  obtain⟨a,h1,h2⟩:=h y (by simp)
  obtain⟨m,h3,h4⟩:=AP (l:=l) fun z hz=>h z (ybr _ hz)
  exact⟨a::m,by grind,fun b hb=>by
   grind⟩
end
namespace Wa
section
variable {P:Program}(A:Wa P){f:Nat}{x:D}
theorem dWhole(h:zI P f A.whole x):∃w:iJ,x=w.d/\w.limbs.length<fG/\oB 65536 w.limbs:=by
 obtain⟨l,g,rfl,rfl,k⟩:=Rs A.hwhole h
 obtain⟨d1,r,rfl,h1,k⟩:=k.cons_inv
 obtain⟨d2,r,rfl,h2,k⟩:=k.cons_inv
 obtain rfl:=k.nil_inv
 obtain⟨b,rfl⟩:=SJ A.hb h1
 obtain⟨l,g,rfl,rfl,hl,hm⟩:=FB A.hlimbs A.cu16 A.bytes.1 h2
 obtain⟨m,rfl,hq⟩:=AP (g:=fun n:Nat=>D.int .u16 (n:Int)) (Q:=fun n=>n<65536) fun y hy=>zan A.hu16 (hm y hy)
 exact⟨⟨b,m⟩,rfl,by simp_all,hq⟩
def dFrac(h:zI P f A.frac x):∃w:zF,x=w.dd/\w.fit:=by
 obtain⟨l,g,rfl,rfl,k⟩:=Rs A.hfrac h
 obtain⟨d1,r,rfl,h1,k⟩:=k.cons_inv
 obtain⟨d2,r,rfl,h2,k⟩:=k.cons_inv
 obtain rfl:=k.nil_inv
 obtain⟨a,rfl,a1,a2⟩:=A.dWhole h1
 obtain⟨b,rfl,b1,b2⟩:=A.dWhole h2
 exact⟨⟨a,b⟩,rfl,⟨a1,b1⟩,a2,b2⟩
def dVal(h:zI P f A.val x):∃w:eD,x=w.d/\w.fit:=by
 obtain⟨l,g,rfl,rfl,k⟩:=Rs A.hval h
 obtain⟨d1,r,rfl,h1,k⟩:=k.cons_inv
 obtain⟨d2,r,rfl,h2,k⟩:=k.cons_inv
 obtain⟨d3,r,rfl,h3,k⟩:=k.cons_inv
 obtain rfl:=k.nil_inv
 obtain⟨kk,rfl,hk⟩:=FA A.hu8 h1
 obtain⟨q,rfl,hq⟩:=A.dFrac h2
 obtain⟨n,rfl,hn⟩:=zap A.hi h3
 exact⟨⟨kk,q,n⟩,rfl,hk,hq,hn.1,hn.2⟩
theorem zec:∀ {l:List lA},(∀x∈l,x.fit)->lA.fits l
 | [],_=>by grind [lA.fits]
 | x::l,h=>by unfold lA.fits;exact⟨h x (by simp),zec fun y hy=>h y (ybr _ hy)⟩
theorem dExpr:∀(f:Nat) (x:D),zI P f A.expr x->∃w:lA,x=w.d/\w.fit:=by
 intro f;induction f using Nat.strongRecOn with
 | _ f ih=>
 intro x h;obtain⟨l,g,rfl,rfl,k⟩:=Rs A.hexpr h
 obtain⟨d1,r,rfl,h1,k⟩:=k.cons_inv
 obtain⟨d2,r,rfl,h2,k⟩:=k.cons_inv
 obtain⟨d3,r,rfl,h3,k⟩:=k.cons_inv
 obtain⟨d4,r,rfl,h4,k⟩:=k.cons_inv
 obtain rfl:=k.nil_inv
 obtain⟨kk,rfl,hk⟩:=FA A.hu8 h1
 obtain⟨n,rfl,hn,hn'⟩:=zao A.hs h2
 obtain⟨v,rfl,hv⟩:=A.dVal h3
 obtain⟨l,g',rfl,rfl,hl,hm⟩:=FB A.hexprs A.cexpr A.bytes.2.1 h4
 obtain⟨m,rfl,hq⟩:=AP (g:=lA.d) (Q:=lA.fit) fun y hy=>ih g' (by omega) y (hm y hy)
 refine⟨.mk kk n v m,?_,?_⟩
 all_goals grind [lA.d,lA.ds_eq,lA.fit,zec]
end
end Wa
end Go.Am
namespace Go.Am
open Go Go.RowKit Go.Proofs
theorem UW[nC](B N:Nat)(hb:B<=256+nC.n):Lw Tryz.prog yA B N tI:=by
 intro f g hg args H v H' hv μ w args' hH hI hl;have hg:Zu.get f=some g:=hg
 unfold Zu at hg;rcases yQ hg with⟨rfl,rfl⟩ | hg
 ·grind [gV,IL]
 rcases yQ hg with⟨rfl,rfl⟩ | hg
 ·grind [gV,IN]
 rcases yQ hg with⟨rfl,rfl⟩ | hg
 ·grind [gV,UY]
 rcases yQ hg with⟨rfl,rfl⟩ | hg
 ·exact gV hv hH fun hv=>IP (rY (fn:=Tryz.f229) Tryz.func229 (by kernel_rfl)) (fun s c=>Tryz.strings_IndexByte s c _) hv hl
 rcases yQ hg with⟨rfl,rfl⟩ | hg
 ·grind [gV,zhk]
 rcases yQ hg with⟨rfl,rfl⟩ | hg
 ·grind [gV,IQ]
 rcases yQ hg with⟨rfl,rfl⟩ | hg
 ·exact .inr (IM hb hH hv hl)
 rcases yQ hg with⟨rfl,rfl⟩ | hg
 ·exact .inr (IR hb hH hv hl)
 rcases yQ hg with⟨rfl,rfl⟩ | hg
 all_goals grind [gV,UZ,Tr.get_leaf]
def sim33[nC](hN:6<=nC.n):uK Tryz.prog yA (256+nC.n) nC.n tI:=
 ⟨Wm rfl,Uh rfl,UW _ _ (ybk _),ybk _,by kernel_rfl,fun _ _ hb h=>h.below hN hb⟩
section
variable {w:World}
theorem zox{b:Nat}{y:tA}(h:(bI w).get b=some y):b<256+w.heap.size:=by
 grind [bI,bU]
def SN(hL:tI w)(f:Nat)(args:List zA)(args':Array Value)(hp:∀ [nC],yA.prims.get f=none)(hl:pB (muW w) args args'.toList)
  (h:∀ [nC],∃Q:mB,Wc yA F f args (bI w) Q/\∀v t,Q v t->v=.bool true) (hf:Nat.blt f yo=true:=by rfl) :
  Calls Tryz.prog f args' w fun e w'=>e=.returned (.bool true)/\Below w.heap.size w w':=by
 letI:nC:=⟨w.heap.size⟩
 obtain⟨Q,h1,h2⟩:=h
 refine(YW (H:=⟨256+w.heap.size,bI w⟩) (sim33 hL.size) hL zql hp (ybk _) (fun b y hb=>zox hb) hrelW hl h1 hf).mono fun e w' ⟨v,v',t',μ',g1,g2,g3,g4,g5⟩=>?_
 have:=h2 v t' g4
 subst this;rw[vA]at g3;exact⟨by rw[g1,g3],g5⟩
theorem zd2(h:tI w):∀ [nC],nN (bI w):=by
 intro _;obtain⟨t,h⟩:=h.lens
 have hb:=(ybe.1 h).1
 have e:(bI w).get 3=some (.cells (qZ (fun j=>((Et uT).toArray[j]?).bind (vS w.heap.size)) (Et uT).toArray.size) (Et uT).toArray.size none):=by
  unfold bI;rw[bU,yab (by omega),yab (by omega),h]
  rfl
 refine⟨_,_,_,e,fun j a ha=>?_⟩
 grind [bU,Hi,uT,Et,vS]
theorem MU(h:tI w):∀ [nC],uV (bI w):=by
 intro _;obtain⟨t,h⟩:=h.modes
 have hb:=(ybe.1 h).1
 have e:(bI w).get 1=some (.cells (qZ (fun j=>((tP zR).toArray[j]?).bind (vS w.heap.size)) (tP zR).toArray.size) (tP zR).toArray.size none):=by
  unfold bI;rw[bU,yab (by omega),yab (by omega),h]
  rfl
 refine⟨_,_,_,e,fun j a ha=>?_⟩
 rw[bU,ybw];have hj:j<oZ.length:=by
  grind
 rw[ybu]at ha;have hL:oZ=zR.map fun b=>b.map UInt8.toNat:=rfl
 rw[hL]at ha hj;rw[ybu]at ha
 cases hbt:zR[j]? with
 | none=>simp_all
 | some b=>
  rw[hbt]at ha;obtain rfl:=yci ha
  rw[yab (by grind [tP])]
  simp only[tP,List.getElem?_toArray,ybu,hbt,Option.map_some,yai,vS];rfl
theorem MV(h:tI w):∀ [nC],GlobK (bI w):=by
 intro _;obtain⟨t,h⟩:=h.kinds
 have hb:=(ybe.1 h).1
 have e:(bI w).get 0=some (.cells (qZ (fun j=>((tP sR).toArray[j]?).bind (vS w.heap.size)) (tP sR).toArray.size) (tP sR).toArray.size none):=by
  unfold bI;rw[bU,yab (by omega),yab (by omega),h]
  rfl
 refine⟨_,_,_,e,fun j a ha=>?_⟩
 rw[bU,ybw];have hj:j<BF.length:=by
  grind
 rw[ybu]at ha;have hL:BF=sR.map fun b=>b.map UInt8.toNat:=rfl
 rw[hL]at ha hj;rw[ybu]at ha
 cases hbt:sR[j]? with
 | none=>simp_all
 | some b=>
  rw[hbt]at ha;obtain rfl:=yci ha
  rw[yab (by grind [tP])]
  simp only[tP,List.getElem?_toArray,ybu,hbt,Option.map_some,yai,vS];rfl
def zd3(h:tI w):∀ [nC],dJ (bI w):=by
 intro _;have h1:=MV h
 have h2:=MU h
 have h3:=zd2 h
 unfold GlobK at h1;unfold uV at h2;unfold nN at h3;exact⟨h1,h2,h3⟩
theorem zps{cs:List Value}(h:Has w.heap.size cs):pB (muW w) (cs.map (av w.heap.size)) cs:=by
 induction cs with
 | nil=>exact .nil
 | cons v l ih=>exact .cons (QW (h v (by simp))) (ih fun u hu=>h u (ybr _ hu))
theorem zhl{cs:Array Value}(h:Has w.heap.size cs.toList):vA (muW w) (.agg (cs.toList.map (av w.heap.size))) (.agg cs):=by
 grind [vA,zps]
end
end Go.Am
namespace Go.Am
open Go Go.RowKit Go.ChangeShapes Go.WideShapes Go.ChangeAt
variable {f:FuncId}{s:ChangeSpec}{fn:Func}
section
variable {H:Type}{enc:TypeId × Value->H}{P:Program}
def FE(hl:laidOutB P=true){W W':World}(hb:Below W.heap.size W W'):∀ {ts:List TypeId} {vs:List Value} {ds:List (DataW H)} {ps:List MemPlace},(∀t∈ts,P.readableRec t=true/\t<P.types.size) →
  DataW.TrodAll enc P W 0 (fun _=>true) true ts vs ds ps->(∀x∈ps,x.block<W.heap.size)->DataW.TrodAll enc P W' 0 (fun b=>decide (b<W.heap.size)) true ts vs ds ps
 | [],[],[],_,_,h,_=>h
 | t::ts,_::_,_::_,_,ht,⟨p,q,h1,h2,e⟩,hs=>by
  subst e;exact⟨p,q,Below.trod hl (ht t (by simp)).1 (ht t (by simp)).2 h1 hb fun x hx=>hs x (ydc _ hx),
   FE hl hb (fun t ht'=>ht t (ybr _ ht')) h2 fun x hx=>hs x (ycf _ hx),rfl⟩
 | [],_::_,_,_,_,h,_=>by simp[DataW.TrodAll]at h
 | [],[],_::_,_,_,h,_=>by simp[DataW.TrodAll]at h
 | _::_,[],_,_,_,h,_=>by simp[DataW.TrodAll]at h
 | _::_,_::_,[],_,_,h,_=>by simp[DataW.TrodAll]at h
theorem law_post(hl:laidOutB P=true){f:Func} {tb:TypeId}(hp:∀t∈f.params.toList,P.readableRec t=true/\t<P.types.size)(hv:s.vars=[])(hres:f.resultTypes = #[tb])(htb:P.underlying tb=some .bool)
  {W W':World} {args:Array Value} {ds gs:List (DataW H)} {before:List MemPlace} (hfn:s.fn H ds={ results:=[.lit (.bool true)],args:=ds })
  (hW:DataW.Whole enc P f.params.toList s.vars false W args.toList ds gs before) (hb:Below W.heap.size W W') :
  s.post enc P f false true false false W args (.bool true) W':=by
 have hW0:=hW
 obtain⟨p,q,hA,hV,rfl,hfz,hnd⟩:=hW
 rw[hv]at hV;obtain⟨rfl,rfl⟩:=trodVars_none hV
 refine⟨ds,[],p++[],[],p,[],hW0,?_,?_,?_,hb.frame _,fun h=>by cases h⟩
 ·rw[ycd,hfn,hres]
  exact trodAll_mk1 (shut_bool htb _)
 ·rw[ycd,hfn]
  exact FE hl hb hp hA fun x hx=>hW0.lt x (by simp_all)
 ·rw[ycd,hfn,hv]
  exact rfl
theorem ZZ{a:Assume}{C:Checked}{os:Os}   {conds:List PathCond}{apart fresh handsOn again:Bool}{X:World->Array Value->Prop}
  (hX:∀(w w':World) (args:Array Value),w.heap=w'.heap->X w args->X w' args)
  (own:ownKnob C.prog.godebug=none) (started:os.Started) (noInit:C.prog.inits.idxOf? f=none) (hfn:C.prog.funcs[f]?=some fn)
  (witness:∃(w:World) (tape:Tape) (i:Input),w.os=os/\(w.forCall tape i).Shaped C.prog/\i.vars=[]/\Input.okWide C.prog (w.forCall tape i) .any w.heap.size f i ∧
   ((s.pre enc C.prog fn conds apart (w.forCall tape i).memory i.args/\X (w.forCall tape i).memory i.args)/\sizedMet enc C.prog fn (OpenSpec.ofChange s) apart (w.forCall tape i).memory i.args)/\a.holds C.prog (lone (Frame.enter C.prog f i.args .normal) [] (w.forCall tape i)))
  (contract:∀(W:World) (base:Nat) (args:Array Value) (ds gs:List (DataW H)) (before:List MemPlace),
   (∀(j:Nat) t v,fn.params[j]?=some t->args[j]?=some v->Value.okWide C.prog W .any base t v) →
   DataW.Whole enc C.prog fn.params.toList s.vars apart W args.toList ds gs before →
   (DataW.weightsEach C.prog (fn.params.toList++s.plain.varTypes C.prog) (ds++gs)).all (· <= reachBytes)=true->X W args->W.ShapedOpen C.prog →
   Calls C.prog f args W fun e W'=>∃v,e=.returned v/\s.post enc C.prog fn apart fresh handsOn again W args v W') :
  ReturnsInHanded a C os f .any (fun w args=>(s.pre enc C.prog fn conds apart w args/\X w args)/\sizedMet enc C.prog fn (OpenSpec.ofChange s) apart w args) (s.post enc C.prog fn apart fresh handsOn again):=by
 refine returnsInHanded_of_calls own started noInit witness ?_
 intro w tape i _ hsh _ hok hpre _;obtain⟨_,_,_,fn',hfn',_,_,_,_,hval⟩:=hok
 have e:fn'=fn:=yci (hfn'.symm.trans hfn)
 subst e;obtain⟨⟨⟨ds,gs,before,hw,hc⟩,hx⟩,hz⟩:=hpre
 have hw':=DataW.Whole.of_heap (w':=w.forCall tape i) (by rfl) hw
 refine(contract (w.forCall tape i) w.heap.size i.args ds gs before hval hw' (hz.weights hw) (hX _ _ _ (by rfl) hx) hsh).mono fun e W' ⟨v,he,hp⟩=>?_
 grind [ChangeSpec.post_blind]
variable {w:World}{base:Nat}{spare:Nat->Bool}{held:Bool}{fuel:Nat}{t e:TypeId}{cs:List Value}{ps:List MemPlace}
theorem Vs{α:Type}{g:α->DataW H}{u:α->Value}{l:List α}{n:Nat}(ht:P.underlying t=some (.array n e))(hc:P.cellsOf e=1)(hn:P.cellsOf t=n)
  (h1:∀(m:Nat) (c:List Value) (x:DataW H × List MemPlace) (a:α),DataW.trod enc P w base spare held m e c=some x->x.1=g a->c=[u a])
  (h:DataW.trod enc P w base spare held fuel t cs=some (.agg (l.map g),ps)):cs=l.map u:=by
 obtain⟨xs,m,_,hx,hlen,hxs,hel⟩:=DataW.trod_array ht h
 simp only[Prod.mk.injEq,DataW.agg.injEq]at hx;have hl:l.length=n:=by have:=congrArg List.length hx.1;grind
 rw[hn]at hlen;refine List.ext_getElem (by rw[hlen,ybf,hl]) fun i hi1 hi2=>?_
 have hi:i<n:=by omega
 have:=hel i hi
 rw[hc]at this;have hc1:((cs.drop (i*1)).take 1)=[cs[i]]:=by
  grind [List.drop_eq_getElem_cons]
 rw[hc1,ybd (by omega)]at this
 have hxi:xs[i].1=g (l[i]'(by omega)):=by
  have:=congrArg (fun z=>z[i]?) hx.1
  grind
 grind
def FY(he:P.underlying e=some .string)(m:Nat)(c:List Value)(x:DataW H × List MemPlace)(b:List UInt8)(h:DataW.trod enc P w base spare held m e c=some x)(hx:x.1=.lit (.string b)):c=[.string ⟨b.toArray⟩]:=by
 obtain⟨s,rfl,rfl,_⟩:=DataW.trod_string he h
 simp at hx;rw[<- hx]
def zio(he:P.underlying e=some (.int .i64))(m:Nat)(c:List Value)(x:DataW H × List MemPlace)(n:Int)(h:DataW.trod enc P w base spare held m e c=some x)(hx:x.1=.lit (.int .i64 n)):c=[.int .i64 n]:=by
 obtain⟨k,rfl,rfl,_⟩:=DataW.trod_int he h
 simp at hx;rw[hx]
end
theorem joined_of{P:Program}   {c:OpenClaim}
  (A:(c.wf (OpenSpec.ofChange s)&&laidOutB P&&mapsRowed P&&fn.params.all (P.readableRec ·)&&namedTie P c.named s.vars&&(c.stops == [])&&(P.stops == [])&&(c.knobs == [])&&(P.stopKnobs == []))=true)
  (h1:(c.inPlace == P.inPlace f)=true) (h2:(c.unfollowed == P.unfollowed f)=true) (h3:(c.recurses == P.recurses f)=true) (h4:(c.named == P.varsNamed f)=true)
  (E:((c.maps == (fn.params.toList++s.plain.varTypes P).any (P.mapsRec ·))&&(c.ifaces == (fn.params.toList++s.plain.varTypes P).any (P.ifacesRec ·))&&(c.mapsOut == P.mapsAmong fn.resultTypes.toList) &&
   (c.loops == (fn.params.toList++s.plain.varTypes P).any (P.loopsFrom ·))&&(c.wideKeys == (fn.params.toList++s.plain.varTypes P++fn.resultTypes.toList).any (P.wideKeysFrom ·)) &&
   s.vars.all (P.varReadable ·)&&fn.resultTypes.all (fun t=>P.readableRec t&&decide (t<P.types.size))&&(c.ifacesOut == fn.resultTypes.toList.any (P.ifacesRec ·))&&(c.loopsOut == fn.resultTypes.toList.any (P.loopsFrom ·))&&c.shortTexts.isNone)=true)
  (h5:(c.plainKeys == P.plainKeys)=true) (h6:P.stopsHeard=true) (h7:P.mayEnter=true) (h8:(c.lifted == P.liftsFinal)=true)
  (R:((P.make == some c.make)&&(c.kinds == (if c.domain.isEmpty then []else fn.params.toList.map fun t=>match P.underlying t with | some (.int k)=>some k | _=>none))&&(c.pinned == c.pinnedBy) &&
   (c.veiled == (fn.params.toList++s.plain.varTypes P++fn.resultTypes.toList).any (P.veiledRec ·))&&c.veiledFits P fn.params.toList (fn.params.toList++s.plain.varTypes P++fn.resultTypes.toList))=true) :
  joinedFacts P f fn s c=true:=by
 unfold joinedFacts;simp only[ybb]at A E R ⊢
 grind
end Go.Am
namespace Go.Proofs.YtefajchlhjcgpaaGreatDoor
open Go Go.Am Go.RowKit Go.ChangeShapes Go.WideShapes Go.ChangeAt
variable {W:World}{base g:Nat}{H:Type}{enc:TypeId × Value->H}
theorem own:ownKnob Tryz.prog.godebug=none:=by kernel_rfl
def laidOut:laidOutB Tryz.prog=true:=by kernel_rfl
def gPow : Tryz.prog.globalNamed "internal/strconv.uint64pow10" = some 5 := by kernel_rfl
def gLens : Tryz.prog.globalNamed "annuitant/calendar.lengths" = some 3 := by kernel_rfl
def gKinds : Tryz.prog.globalNamed "annuitant/parse.kindWords" = some 0 := by kernel_rfl
def gModes : Tryz.prog.globalNamed "annuitant/parse.modeWords" = some 1 := by kernel_rfl
def tPow:(Tryz.prog.globals[5]?).map (·.type)=some 318:=by kernel_rfl
def tLens:(Tryz.prog.globals[3]?).map (·.type)=some 304:=by kernel_rfl
def tKinds:(Tryz.prog.globals[0]?).map (·.type)=some 223:=by kernel_rfl
def tModes:(Tryz.prog.globals[1]?).map (·.type)=some 223:=by kernel_rfl
def laid6 : List (String × DataW Unit) := [("math/bits.deBruijn32tab", Rows.laid_math_bits_deBruijn32tab), ("math/bits.deBruijn64tab", Rows.laid_math_bits_deBruijn64tab), ("internal/strconv.uint64pow10", Rows.laid_internal_strconv_uint64pow10), ("annuitant/calendar.lengths", Rows.laid_annuitant_calendar_lengths), ("annuitant/parse.kindWords", Rows.laid_annuitant_parse_kindWords), ("annuitant/parse.modeWords", Rows.laid_annuitant_parse_modeWords)]
def door_met(os:Os)(args:Array Value):laidMetH Tryz.prog laid6 ((World.doorLaid Tryz.prog 100 os).forCall (fun _ _=>0) ⟨#[],args,[]⟩).memory:=
 laidMetH_of_parts3 (fuel:=8) (laidMet_of_run' 8 (by kernel_rfl) (by kernel_rfl)) (by kernel_rfl) (by kernel_rfl)
def Rj {n:String} {cs:Array Value}(hg:Tryz.prog.globalNamed n=some g)(hv:W.var? Tryz.prog n=some cs)(hc:∃c t,W.heap[g]?=some (.cells c t (0,0))):∃t,W.heap[g]?=some (.cells cs t (0,0)):=by
 grind [World.var?]
def Sj{n:Nat}{p q:List MemPlace}(h:0<n):MemPlace.cell g 0∈MemPlace.row ⟨g,0,none⟩ n++p++q:=
 ydc _ (ydc _ (yaq.2 ⟨0,List.mem_range.2 h,rfl⟩))
def zpa:Rows.laid_internal_strconv_uint64pow10 (H:=Unit)=.agg (Bc.map fun n=>.lit (.int .u64 n)):=by kernel_rfl
def zif:Rows.laid_annuitant_calendar_lengths (H:=Unit)=.agg (uT.map fun n=>.lit (.int .i64 n)):=by kernel_rfl
def zda:Rows.laid_annuitant_parse_kindWords (H:=Unit)=.agg (sR.map fun b=>.lit (.string b)):=by kernel_rfl
def zc9:Rows.laid_annuitant_parse_modeWords (H:=Unit)=.agg (zR.map fun b=>.lit (.string b)):=by kernel_rfl
def zgb  {P:Program}{w:World} {spare:Nat->Bool}{held:Bool}{e:TypeId}(he:P.underlying e=some (.int .u64))(m:Nat)(c:List Value)(x:DataW H × List MemPlace)(n:Int)(h:DataW.trod enc P w base spare held m e c=some x)(hx:x.1=.lit (.int .u64 n)):c=[.int .u64 n]:=by
 obtain⟨k,rfl,rfl,_⟩:=DataW.trod_int he h
 simp at hx;rw[hx]
def laid_of (h:laidMetH Tryz.prog laid6 W)(hsh:W.ShapedOpen Tryz.prog):tI W:=by
 rw[MakeChecks.laidMetH_plain _ _ _ (by kernel_rfl)]at h
 obtain⟨ps,⟨_,_,_,_,_,_,_,_,_,_,⟨_,_,_,_,_,_,_,_,_,_,⟨g0,t0,cs0,f0,p0,q0,hg0,ht0,hv0,hd0,⟨g1,t1,cs1,f1,p1,q1,hg1,ht1,hv1,hd1,⟨g2,t2,cs2,f2,p2,q2,hg2,ht2,hv2,hd2,⟨g3,t3,cs3,f3,p3,q3,hg3,ht3,hv3,hd3,_,hp3⟩,hp2⟩,hp1⟩,hp0⟩,hpb⟩,hpa⟩,_,hcell⟩:=h
 obtain rfl:=yci (gPow.symm.trans hg0)
 obtain rfl:=yci (gLens.symm.trans hg1)
 obtain rfl:=yci (gKinds.symm.trans hg2)
 obtain rfl:=yci (gModes.symm.trans hg3)
 obtain rfl:=yci (tPow.symm.trans ht0)
 obtain rfl:=yci (tLens.symm.trans ht1)
 obtain rfl:=yci (tKinds.symm.trans ht2)
 obtain rfl:=yci (tModes.symm.trans ht3)
 have c3:Tryz.prog.cellsOf 3=1:=by kernel_rfl
 have c9:Tryz.prog.cellsOf 9=1:=by kernel_rfl
 have c209:Tryz.prog.cellsOf 270=1:=by kernel_rfl
 have c267:Tryz.prog.cellsOf 318=20:=by kernel_rfl
 have c257:Tryz.prog.cellsOf 304=12:=by kernel_rfl
 have c194:Tryz.prog.cellsOf 223=7:=by kernel_rfl
 rw[zpa]at hd0;rw[zif]at hd1;rw[zda]at hd2;rw[zc9]at hd3;have e0:cs0.toList=u64s Bc:=Vs (l:=Bc) (g:=fun n=>.lit (.int .u64 n)) (u:=fun n=>.int .u64 n) Tryz.underlying318 c209 c267 (fun m c x a=>zgb Tryz.underlying270 m c x a) hd0
 have e1:cs1.toList=Et uT:=Vs (l:=uT) (g:=fun n=>.lit (.int .i64 n)) (u:=fun n=>.int .i64 n) Tryz.underlying304 c3 c257 (fun m c x a=>zio Tryz.underlying3 m c x a) hd1
 have e2:cs2.toList=tP sR:=Vs (l:=sR) (g:=fun b=>.lit (.string b)) (u:=fun b=>.string ⟨b.toArray⟩) Tryz.underlying223 c9 c194 (fun m c x a=>FY Tryz.underlying9 m c x a) hd2
 have e3:cs3.toList=tP zR:=Vs (l:=zR) (g:=fun b=>.lit (.string b)) (u:=fun b=>.string ⟨b.toArray⟩) Tryz.underlying223 c9 c194 (fun m c x a=>FY Tryz.underlying9 m c x a) hd3
 have s0:cs0=(u64s Bc).toArray:=by rw[<- e0]
 have s1:cs1=(Et uT).toArray:=by rw[<- e1]
 have s2:cs2=(tP sR).toArray:=by rw[<- e2]
 have s3:cs3=(tP zR).toArray:=by rw[<- e3]
 subst s0 s1 s2 s3
 have m0:MemPlace.cell 5 0∈ps:=by
  rw[hpa,hpb,hp0];exact ycf _ (ycf _ (Sj (by decide)))
 have m1:MemPlace.cell 3 0∈ps:=by
  rw[hpa,hpb,hp0,hp1];exact ycf _ (ycf _ (ycf _ (Sj (by decide))))
 have m2:MemPlace.cell 0 0∈ps:=by
  rw[hpa,hpb,hp0,hp1,hp2];exact ycf _ (ycf _ (ycf _ (ycf _ (Sj (by decide)))))
 have m3:MemPlace.cell 1 0∈ps:=by
  rw[hpa,hpb,hp0,hp1,hp2,hp3];exact ycf _ (ycf _ (ycf _ (ycf _ (ycf _ (Sj (by decide))))))
 exact⟨Rj hg2 hv2 (hcell 0 0 m2).1,Rj hg3 hv3 (hcell 1 0 m3).1,Rj hg1 hv1 (hcell 3 0 m1).1,Tryz.laysM144.s1_3 W hsh,Rj hg0 hv0 (hcell 5 0 m0).1⟩
def stopsHeard:Tryz.prog.stopsHeard=true:=by kernel_rfl
def mayEnter:Tryz.prog.mayEnter=true:=by kernel_rfl
def bool4:Tryz.prog.underlying 4=some .bool:=Tryz.underlying4
def api33:Wa Tryz.prog:={
 b:=4,i:=3,u8:=5,u16:=261,s:=9,limbs:=22,whole:=24,frac:=26,val:=28,expr:=31,exprs:=29,row:=94,rows:=90,table:=92,tables:=49,dfn:=89,dfns:=48,clause:=60,clauses:=50,plan:=52,
 hb:=Tryz.underlying4,hi:=Tryz.underlying3,hu8:=Tryz.underlying5,hu16:=Tryz.underlying261,hs:=Tryz.underlying9,hlimbs:=Tryz.underlying22,hexprs:=Tryz.underlying29,hrows:=Tryz.underlying90,htables:=Tryz.underlying49,hdfns:=Tryz.underlying48,hclauses:=Tryz.underlying50,
 hwhole:=⟨_,Tryz.underlying24,rfl⟩,hfrac:=⟨_,Tryz.underlying26,rfl⟩,hval:=⟨_,Tryz.underlying28,rfl⟩,hexpr:=⟨_,Tryz.underlying31,rfl⟩,hrow:=⟨_,Tryz.underlying94,rfl⟩,htable:=⟨_,Tryz.underlying92,rfl⟩,hdfn:=⟨_,Tryz.underlying89,rfl⟩,hclause:=⟨_,Tryz.underlying60,rfl⟩,hplan:=⟨_,Tryz.underlying52,rfl⟩,
 cu16:=by kernel_rfl,cexpr:=by kernel_rfl,crow:=by kernel_rfl,ctable:=by kernel_rfl,cdfn:=by kernel_rfl,cclause:=by kernel_rfl,
 bytes:=⟨of_decide_eq_true (by kernel_rfl),of_decide_eq_true (by kernel_rfl),of_decide_eq_true (by kernel_rfl),of_decide_eq_true (by kernel_rfl),of_decide_eq_true (by kernel_rfl),of_decide_eq_true (by kernel_rfl)⟩ }
def Sq:List Nat:=[4,3,5,261,9,22,24,26,28,31,29,94,90,92,49,89,48,60,50,52]
def partB(t:TypeId):Bool:=match Tryz.prog.underlying t with
 | some .bool=>true
 | some (.int _)=>true
 | some .string=>true
 | some (.slice e)=>Sq.contains e&&Nat.blt 0 (Tryz.prog.cellsOf e)
 | some (.struct fs)=>fs.toList.all (fun f=>Sq.contains f.type)&&Jj Tryz.prog 0 fs.toList (Tryz.prog.cellsOf t)
 | _=>false
def VC:Sq.all partB=true:=by kernel_rfl
def zoi:Plain Tryz.prog (fun t=>t∈Sq):=⟨fun t ht=>by
 have h:=ycb.1 VC t ht
 unfold partB at h
 cases hu:Tryz.prog.underlying t with
 | none=>simp_all
 | some d=>
  rw[hu]at h
  cases d with
  | bool=>trivial
  | int k=>trivial
  | string=>trivial
  | slice e=>
   simp_all
  | struct fs=>
   grind
  | _=>cases h⟩
def open_expr    {v:Value}{d:DataW H}{ps:List MemPlace}(hL:tI W)(hok:Value.okWide Tryz.prog W .any base 31 v)(h:DataW.Trod enc Tryz.prog W 0 (fun _=>true) true 31 v d ps)(hw:(DataW.weights Tryz.prog 31 d).all (· <= reachBytes)=true) :
  ∃(cs:Array Value) (p:lA),v=.agg cs/\p.fit/\Has W.heap.size cs.toList/\RD (bI W) p.d (cs.toList.map (av W.heap.size)):=by
 obtain⟨cs,rfl,_,_⟩:∃cs,v=.agg cs/\cs.size=Tryz.prog.cellsOf 31/\Row.okWide Tryz.prog W .any base 31 cs:=by
  grind [Value.okWide,Tryz.underlying31]
 obtain⟨fuel,h⟩:=h
 obtain⟨c,n,lo,hc,_⟩:=@MV W hL ⟨0⟩
 obtain⟨h1,x,h2,h3⟩:=zof zoi ⟨c,n,lo,hc⟩ fuel 31 cs.toList (d,ps) (by decide) h hw
 obtain⟨p,rfl,hp⟩:=api33.dExpr _ _ h3
 grind
end Go.Proofs.YtefajchlhjcgpaaGreatDoor
namespace Go.Am
open Go Go.RowKit
theorem Tr.pick(p:Nat->Bool)(t:Tr tA):∀n:Nat,∃t':Tr tA,∀b,t'.get b=if b<n/\p b=true then none else t.get b:=by
 intro n;induction n with
 | zero=>exact⟨t,fun b=>by simp⟩
 | succ n ih=>
  obtain⟨t',h⟩:=ih
  cases hp:p n with
  | false=>exact⟨t',fun b=>by rw[h];by_cases hb:b=n<;>grind⟩
  | true=>exact⟨t'.del n,fun b=>by rw[Tr.get_del,h];by_cases hb:b=n<;>grind⟩
section
variable {C:iA}{F:Tr xE}{f:Nat}{args:List zA}{tf t:Tr tA}{Q:mB}
theorem Wc.under(h:Wc C F f args tf Q)(hle:zB tf t):Wc C F f args t fun v t'=>∃tf',Q v tf'/\zB tf' t'/\∀b y,t.get b=some y->tf.get b=none->t'.get b=some y/\tf'.get b=none:=by
 intro X HA ho;have hX:Ov C.base tf (fun b=>match tf.get b with | some _=>none | none=>match t.get b with | some y=>some y | none=>X b) HA:=by
  refine⟨ho.base,fun b hb=>?_,fun b y hb=>?_,fun b y hb=>ho.lt _ _ (hle _ _ hb)⟩
  ·cases h1:tf.get b with
   | some y=>rw[ho.up (hle _ _ h1)]
   | none=>
    simp only[h1]at hb
    cases h2:t.get b with
    | some y=>simp_all
    | none=>simp only[h2]at hb;rw[ho.same b hb,h2]
  ·cases h1:tf.get b with
   | some y=>simp_all
   | none=>
    simp only[h1]at hb
    cases h2:t.get b with
    | some z=>simp only[h2]at hb;cases hb;exact⟨ho.up h2,rfl,ho.lt _ _ h2⟩
    | none=>simp only[h2]at hb;obtain⟨e1,e2,e3⟩:=ho.ext _ _ hb;simp_all
 obtain⟨v,tf',HA',X',h1,h2,h3,h4⟩:=pP.1 (h _ _ hX)
 have hk:∀b y,t.get b=some y->tf.get b=none->X' b=some y:=fun b y g1 g2=>h3 b y (by simp_all)
 obtain⟨t',ht'⟩:=Tr.pick (fun b=>(X' b).isSome && !(tf.get b).isNone.not && !((t.get b).isSome&&(tf.get b).isNone)) HA'.t HA'.next
 have hbase:=h2.base
 refine pP.2 ⟨v,t',HA',fun b=>if ((X' b).isSome && !(tf.get b).isNone.not && !((t.get b).isSome&&(tf.get b).isNone))=true then X' b else none,h1,⟨h2.base,fun b hb=>?_,fun b y hb=>?_,fun b y hb=>?_⟩,?_,tf',h4,?_,?_⟩
 ·grind
 ·split at hb
  ·rename_i hc
   obtain⟨e1,e2,e3⟩:=h2.ext b y hb
   grind
  grind
 ·rw[ht']at hb
  split at hb
  ·cases hb
  ·cases hx:X' b with
   | some z=>exact(h2.ext b z hx).2.2
   | none=>rw[h2.same b hx]at hb;exact h2.lt b y hb
 ·intro b y hb
  have g1:t.get b=none:=(ho.ext b y hb).2.1
  have g2:tf.get b=none:=by
   cases hx:tf.get b with
   | none=>rfl
   | some z=>rw[hle _ _ hx]at g1;cases g1
  have g3:X' b=some y:=h3 b y (by simp_all)
  simp_all
 ·intro b y hb
  rw[ht'];split
  ·rename_i hc
   cases hx:X' b with
   | none=>simp_all
   | some z=>rw[(h2.ext b z hx).2.1]at hb;cases hb
  ·exact h2.up hb
 ·intro b y g1 g2
  have g3:=hk b y g1 g2
  refine⟨?_,(h2.ext b y g3).2.1⟩
  rw[ht',yaa]
  ·exact(h2.ext b y g3).1
  simp_all
theorem Wc.objs{R:zA->Tr tA->Prop}{L:List iF}(h:Wc C F f args tf fun v tf'=>zB tf tf'/\R v tf')(ho:xB C.base tf t L)(hQ:∀v tf' t',zB tf tf'->xB C.base tf' t' L->R v tf'->Q v t'):Wc C F f args t Q:=by
 refine(Wc.under h ho.tle).mono fun v t' ⟨tf',⟨k1,k2⟩,k3,k4⟩=>hQ v tf' t' k1 ?_ k2
 refine ho.keep k1 k3 fun k hk=>?_
 obtain⟨y,hy⟩:=ho.live hk
 obtain⟨e1,e2⟩:=k4 k y hy (ho.low k hk).2
 simp_all
end
end Go.Am
namespace Go.Proofs
open Go Go.Am
variable {a3 b cap k:Nat}{l row:List Nat}
variable [nC]
def el253:Db yA 253 254 1:=⟨⟨_,fL,rfl,rfl⟩,⟨_,yH,rfl,rfl,by decide,by decide⟩⟩
def iQ (l:List Nat):List zA:=l.map fun(n:Nat)=>zA.int .u32 (n:Int)
def zgc(l:List Nat):(iQ l).length=l.length:=by simp[iQ]
theorem lC.words{t:Tr tA}{n:Nat} (h:lC t b none (iQ l))(hn:n<=l.length)(hc:n<=cap):aA t 1 (bB .u32 (l.take n)) (.slice b 0 n cap):=by
 obtain⟨c,h1,h2⟩:=h
 refine⟨(l.take n).map fun(x:Nat)=>[zA.int .u32 (x:Int)],.inr ⟨b,0,cap,?_,by grind,⟨c,_,_,h1,.inl rfl⟩,fun i cs hi=>?_⟩,?_⟩
 ·grind
 ·rw[ybu]at hi
  cases hx:(l.take n)[i]? with
  | none=>simp_all
  | some x=>
   rw[hx]at hi;cases hi;refine⟨rfl,c,_,_,h1,fun j a hj=>?_⟩
   grind [iQ]
 ·induction l.take n with
  | nil=>exact cH.2 rfl
  | cons x r ih=>exact vH.2 ⟨_,_,rfl,Ah.2 rfl,ih⟩
def lC.le{tf t:Tr tA} {lo:Option Lo}{cs:List zA}(h:lC tf b lo cs)(hl:zB tf t):lC t b lo cs:=by
 obtain⟨c,h1,h2⟩:=h
 exact⟨c,hl _ _ h1,h2⟩
theorem wX{base:Nat}{W J:eF}{t:Tr tA}{Q:mB}{f:zA}{args:List zA}{K:zA->T}{g:Nat}{a:List zA}(h:mL f args=some (g,a))(k:W g a t (fun v t'=>oA base W J (K v) t' Q)):oA base W J (.callv f args K) t Q:=by
 show oD (mL f args) _
 simp_all
section
variable {t t0:Tr tA}{Q:mB}
abbrev Ff(a3 b a1 a0:Nat)(row:List Nat)(k cap:Nat)(c:Nat):List iF:=[wD a3 none [.slice b 0 k cap],wD b none (iQ row),wD a1 none [.int .u64 (c:Int)],wD a0 none [.ptr a3 0]]
theorem zmt{a1 a0 c s:Nat} (h:xB yA.base t0 t (Ff a3 b a1 a0 row k cap c))(hk:k<cap)(hcap:cap=row.length)(hs:s+c<18446744073709551616)
  (hQ:∀t',xB yA.base t0 t' (Ff a3 b a1 a0 (row.set k ((s+c)%4294967296)) (k+1) cap ((s+c) / 4294967296))->Q (.tup []) t'):Wc yA F 276 [.int .u64 (s:Int),.ptr a1 0,.ptr a0 0] t Q:=by
 have l1:∀ {t},xB yA.base t0 t (Ff a3 b a1 a0 row k cap c)->cA yA 270 ⟨0,t⟩ (.ptr a1 0)=some (.int .u64 (c:Int)):=fun h=>(xB.cel (A:=[_,_]) h).load1 gQ rfl rfl
 have l2:∀ {t},xB yA.base t0 t (Ff a3 b a1 a0 row k cap c)->cA yA 287 ⟨0,t⟩ (.ptr a0 0)=some (.ptr a3 0):=fun h=>(xB.cel (A:=[_,_,_]) h).load1 ty287 rfl rfl
 have l3:∀ {t},xB yA.base t0 t (Ff a3 b a1 a0 row k cap c)->cA yA 253 ⟨0,t⟩ (.ptr a3 0)=some (.slice b 0 k cap):=fun h=>(xB.cel (A:=[]) h).load1 fL rfl rfl
 have nl:∀b o,Dl (.ptr b o)=some (.ptr b o):=fun _ _=>rfl
 refine w276 ?_
 unfold t276 uE;have e1:fA .u64 ((s:Int)+(c:Int))=((s+c:Nat):Int):=by grind [fF]
 have e2:fA .u32 ((s+c:Nat):Int)=(((s+c)%4294967296:Nat):Int):=by rw[rV];omega
 have e3:Int.fdiv ((s+c:Nat):Int) 4294967296=(((s+c) / 4294967296:Nat):Int):=by grind
 refine yC (l1 h) (qB ?_)
 rw[e1,e2,e3];refine yC (l2 h) (yC (l2 h) (rA (nl _ _) (yC (l3 h) (eC fun n hn hnb=>?_))))
 obtain⟨t1,g1,g2,g3,g4⟩:=Ou (C:=yA) (T:=253) (ps:=[(0,.int .u32 (((s+c)%4294967296:Nat):Int))]) (cl:=[[.int .u32 (((s+c)%4294967296:Nat):Int)]]) (n:=1) (sz:=1) fL rfl yH rfl rfl (by omega) (by
   have e:oI [zA.int .u32 0] 1=[.int .u32 0]:=rfl
   show vM _ _ (oI [zA.int .u32 0] 1)=_
   rw[e];rfl) (by grind) rfl hn
 have h1:=h.junk hn g4
 have sm:∀b o,same 10 (.ptr b o) (.ptr b o)=true:=fun b o=>by simp[same,Nat.beq_refl]
 refine⟨_,_,g1,yC (l2 h1) (mA (sm _ _) (yC (l2 h1) (mA (sm _ _) (yC (l3 h1) (mA HG (eC fun n2 _ _=>?_))))))⟩
 have hlow:=h1.low b (by simp[wD])
 obtain⟨t2,k1,k2,k3⟩:=ZP (C:=yA) (n:=n2) (k:=k) (m:=1) (cap:=cap) el253 (xB.cel (A:=[_]) h1) hlow.1 g2 rfl (by omega) (by omega) (by rw[zgc];omega) (by intro a ha;simp at ha;subst ha;rfl)
 have e4:oM (iQ row) k [[zA.int .u32 (((s+c)%4294967296:Nat):Int)]].flatten=iQ (row.set k ((s+c)%4294967296)):=by
  apply List.ext_getElem?
  grind [iQ,Sw]
 rw[e4]at k2;have h2:xB yA.base t0 t2 (Ff a3 b a1 a0 (row.set k ((s+c)%4294967296)) k cap c):=xB.upd (A:=[_]) (o:=wD b none (iQ row)) h1 (fun q hq _=>k3 q (fun e=>hq (by simp[wD,e]))) (fun q hq=>.inl hq) k2 (by simp[wD]) (h1.tle.off hlow.2 k3)
 refine⟨_,_,k1,?_⟩
 have l2':cA yA 287 ⟨0,t2⟩ (.ptr a0 0)=some (.ptr a3 0):=(xB.cel (A:=[_,_,_]) h2).load1 ty287 rfl rfl
 refine yC l2' (mA (sm _ _) (rA (nl _ _) (eC fun n3 _ _=>?_)))
 obtain⟨t3,m1,m2⟩:=xB.setCel (A:=[]) (j:=0) (v:=.slice b 0 (k+1) cap) h2 fL rfl (by show 0+1<=1;omega) rfl
 refine⟨_,_,m1 n3,eC fun n4 _ _=>?_⟩
 obtain⟨t4,p1,p2⟩:=xB.setCel (A:=[_,_]) (j:=0) (v:=.int .u64 (((s+c) / 4294967296:Nat):Int)) m2 gQ rfl (by show 0+1<=1;omega) rfl
 exact⟨_,_,p1 n4,hQ t4 p2⟩
def YH  (h:xB yA.base t0 t [wD a3 none [.slice b 0 k cap],wD b none (iQ row)])(hQ:∀t' a1 a0,xB yA.base t0 t' (Ff a3 b a1 a0 row k cap 0)->Q (.func (.func 276) [] [.ptr a1 0,.ptr a0 0]) t'):Wc yA F 246 [.ptr a3 0] t Q:=by
 refine w246 ?_
 unfold t246;refine eC fun a0 h0 hb0=>?_
 obtain⟨t1,e1,e2,e3,e4⟩:=Vl (v:=.ptr a3 0) h0
 have o1:=xB.newCel (A:=[_,_]) (B:=[]) h h0 hb0 e2 e3 e4
 refine⟨_,_,e1,eC fun a1 h1 hb1=>?_⟩
 obtain⟨t2,f1,f2,f3,f4⟩:=xS (C:=yA) gQ h1
 have o2:=xB.newCel (A:=[_,_]) (B:=[_]) o1 h1 hb1 f2 f3 f4
 refine⟨_,_,f1,eC fun n _ _=>?_⟩
 obtain⟨t3,m1,m2⟩:=xB.setCel (A:=[_,_]) (j:=0) (v:=.int .u64 0) o2 gQ rfl (by show 0+1<=1;omega) rfl
 exact⟨_,_,m1 n,hQ t3 a1 a0 m2⟩
theorem zgi {v:zA}{f p:Nat}(hv:aA t 1 (bB .u32 l) v)(hl:l.length<100000)(hlt:oB 4294967296 l)(hf:f<4294967296)(hp:p<4294967296)
  (hQ:∀t' r rv,zB t t'->aA t' 1 (bB .u32 r) rv->oB 4294967296 r->norm r->val 4294967296 r=val 4294967296 l*f+p->r.length<=l.length+1->Q rv t'):Wc yA F 194 [v,.int .u32 (f:Int),.int .u32 (p:Int)] t Q:=by
 have hlen:=hv.len
 rw[vG]at hlen;have ho:xB yA.base t t []:=⟨zB.refl _,by simp,by simp,by simp⟩
 refine w194 ?_
 unfold t194 uI;have e0:kC (l.length:Int)=.int .i64 ((l.length+1:Nat):Int):=by
  grind [wrap_i64]
 refine rA hlen (qB (eC fun b hb hbb=>?_))
 rw[e0];obtain⟨t1,g1,g2,g3,g4⟩:=zct (C:=yA) (T:=253) (el:=254) (k:=.u32) (cap:=l.length+1) fL rfl yH rfl rfl (by decide) (by omega) hb
 have hrow:List.replicate (l.length+1) (zA.int .u32 0)=iQ (List.replicate (l.length+1) 0):=by
  grind [iQ,List.map_replicate]
 rw[hrow]at g2;have o1:=xB.newCel (A:=[]) (B:=[]) ho hb hbb g2 g3 g4
 refine⟨_,_,g1,eC fun a3 h3 hb3=>?_⟩
 obtain⟨t2,f1,f2,f3,f4⟩:=xS (C:=yA) fL h3
 have o2:=xB.newCel (A:=[]) (B:=[_]) o1 h3 hb3 f2 f3 f4
 refine⟨_,_,f1,eC fun n _ _=>?_⟩
 obtain⟨t3,m1,m2⟩:=xB.setCel (A:=[]) (j:=0) (v:=.slice b 0 0 (l.length+1)) o2 fL rfl (by show 0+1<=1;omega) rfl
 refine⟨_,_,m1 n,wB ?_⟩
 rw[q246];refine YH m2 fun t4 a1 a0 o4=>?_
 have e5:fA .u64 (p:Int)=(p:Int):=fF (by omega) (by omega)
 refine rA hlen (qB (fC ?_))
 rw[e5];have hfn:∀s:Int,mL (.func (.func 276) [] [.ptr a1 0,.ptr a0 0]) [.int .u64 s]=some (276,[.int .u64 s,.ptr a1 0,.ptr a0 0]):=fun s=>rfl
 have loop:∀(k i x c:Nat) (row:List Nat) (t5:Tr tA),i+k=l.length->row.length=l.length+1->oB 4294967296 (row.take i)->x+c<4294967296->val 4294967296 (row.take i)+4294967296^i*(x+c)=val 4294967296 (l.take i)*f+p →
   xB yA.base t t5 (Ff a3 b a1 a0 row i (l.length+1) c)->jp 194 2 [.int .u32 (f:Int),.ptr a3 0,.func (.func 276) [] [.ptr a1 0,.ptr a0 0],.int .u64 (x:Int),v,.int .i64 (l.length:Int),.int .i64 (i:Int)] t5 Q:=by
  intro k;induction k with
  | zero=>
   intro i x c row t5 hi hrl hra hxc hval o5;have hi:i=l.length:=by omega
   subst hi;refine zl4 ?_
   unfold Xy;refine vB (by simp[aC]) (wX (hfn _) ?_)
   rw[q276];refine zmt o5 (by omega) hrl.symm (by omega) fun t6 o6=>?_
   have hd0:(x+c) / 4294967296=0:=Nat.div_eq_of_lt hxc
   have hm0:(x+c)%4294967296=x+c:=Nat.mod_eq_of_lt hxc
   rw[hm0]at o6;have lv:cA yA 253 ⟨0,t6⟩ (.ptr a3 0)=some (.slice b 0 (l.length+1) (l.length+1)):=(xB.cel (A:=[]) o6).load1 fL rfl rfl
   refine yC lv (wB ?_)
   obtain⟨c0,y1,y2⟩:=xB.cel (A:=[_]) o6
   have od:=xB.drop (A:=[_]) o6
   have hni:=xB.notin (A:=[_]) (o:=wD b none (iQ (row.set l.length (x+c)))) o6 (k:=b) (by simp[wD])
   obtain⟨r1,r2⟩:=od.froze hni y1 (o6.low b (by simp[wD])).2
   have hw:lC (t.set b (.cells c0 (iQ (row.set l.length (x+c))).length none)) b none (iQ (row.set l.length (x+c))):=⟨c0,by rw[Tr.get_set,yab rfl],y2⟩
   have hR:=lC.words (lC.le hw r1.tle) (n:=l.length+1) (cap:=l.length+1) (by simp[hrl]) (ybk _)
   have hrow:(row.set l.length (x+c)).take (l.length+1)=row.take l.length++[x+c]:=by
    rw[fQ (x:=x+c) (by simp_all)]
    rw[List.take_set_of_le (ybk _)]
   rw[hrow]at hR;obtain⟨v',h1,h2⟩:=Dp (by grind) hR
   rw[Gv,h1,uA];have hlen2:(row.take l.length).length=l.length:=by simp_all
   refine hQ t6 _ _ (r2.trans r1.tle) h2 (zU (Ad hra hxc)) (bV _) ?_ ?_
   all_goals grind [mS,tO,Nh]
  | succ k ih=>
   intro i x c row t5 hi hrl hra hxc hval o5;have hx:l[i]?=some l[i]:=ybd (by omega)
   refine zl4 ?_
   unfold Xy uL;obtain⟨b',o',cs,h1,h2,_,_,h3⟩:=iG.at (fun _=>rfl) (hv.mono o5.tle) (OU hx)
   have e:=Ah.1 h3
   subst e;have hw:l[i]<4294967296:=hlt _ (ycj _)
   have hm:l[i]*f<=4294967295*4294967295:=ydb (by omega) (by omega)
   have e1:fA .u64 (fA .u64 (fA .u64 (l[i]:Int)*fA .u64 (f:Int))+(x:Int))=((l[i]*f+x:Nat):Int):=by
    grind [fF]
   refine mA (by grind [aC]) (rA h1 (yC h2 (qB ?_)))
   rw[e1];refine wX (hfn _) ?_
   rw[q276];refine zmt o5 (by omega) hrl.symm (by omega) fun t6 o6=>?_
   have e2:kC (i:Int)=.int .i64 ((i+1:Nat):Int):=by
    grind [wrap_i64]
   refine fC ?_
   rw[e2];have hrow:(row.set i ((l[i]*f+x+c)%4294967296)).take (i+1)=row.take i++[(l[i]*f+x+c)%4294967296]:=by
    rw[fQ (x:=(l[i]*f+x+c)%4294967296) (by grind)]
    rw[List.take_set_of_le (ybk _)]
   have hlen2:(row.take i).length=i:=by grind
   refine ih (i+1) 0 ((l[i]*f+x+c) / 4294967296) _ t6 (by omega) (by simp[hrl]) ?_ (by omega) ?_ o6
   ·grind [Ad]
   ·rw[hrow,tO,hlen2,fQ hx,tO,yda,Nat.min_eq_left (by omega),ybo,yag,ybw]
    grind [Nat.div_add_mod]
 refine loop l.length 0 p 0 _ t4 (by omega) (by simp) (fun x hx=>by simp at hx) (by omega) (by simp[val]) o4
end
end Go.Proofs
namespace Go.Am
open Go Go.RowKit
inductive E where
 | pl (d:D)
 | sl (sz:Nat) (l:List E) (m:List D)
 | st (l:List E)
section
variable {t t' tf:Tr tA}{C:iA}
end
end Go.Am
namespace Go.Am
open Go Go.RowKit
variable {u v:zA}
def limbMs:List D:=(List.range 12).map fun i=>D.int .u16 (((8000024+i)%65536:Nat):Int)
def iJ.e(w:iJ):E:=.st [.pl (.bool w.neg),.sl 1 ((cC w.limbs).map E.pl) limbMs]
section
variable {t:Tr tA}
theorem Ek{w:iJ} (hu:aA t 1 (cC w.limbs) u):RD t w.d [.bool w.neg,u]:=by
 unfold iJ.d;rw[eO];refine⟨[[.bool w.neg],[u]],rfl,?_⟩
 grind [vH,cH,Vy,fW]
theorem Kg{f:zF} (hu:aA t 1 (cC f.n.limbs) u)(hv:aA t 1 (cC f.d.limbs) v):RD t f.dd [.bool f.n.neg,u,.bool f.d.neg,v]:=by
 unfold zF.dd;rw[eO];refine⟨[[.bool f.n.neg,u],[.bool f.d.neg,v]],rfl,?_⟩
 grind [vH,Ek,cH]
theorem He{x:eD} (hu:aA t 1 (cC x.f.n.limbs) u)(hv:aA t 1 (cC x.f.d.limbs) v):RD t x.d [.int .u8 x.kind,.bool x.f.n.neg,u,.bool x.f.d.neg,v,.int .i64 x.i]:=by
 unfold eD.d;rw[eO];refine⟨[[.int .u8 x.kind],[.bool x.f.n.neg,u,.bool x.f.d.neg,v],[.int .i64 x.i]],rfl,?_⟩
 grind [vH,Ah,Kg,cH]
theorem Kh{op:Nat}{name:List Nat}{v:eD}{args:List lA}{a b c:zA}(ha:aA t 1 (cC v.f.n.limbs) a)(hb:aA t 1 (cC v.f.d.limbs) b)(hc:aA t 9 (args.map lA.d) c):RD t (lA.mk op name v args).d (cExpr (.mk op name v args) a b c):=by
 unfold lA.d cExpr;rw[eO,lA.ds_eq];refine⟨[[.int .u8 op],[.str name],[.int .u8 v.kind,.bool v.f.n.neg,a,.bool v.f.d.neg,b,.int .i64 v.i],[c]],rfl,?_⟩
 rw[vH];refine⟨_,_,rfl,rfl,?_⟩
 rw[vH];refine⟨_,_,rfl,rfl,?_⟩
 grind [vH,He,fW,cH]
def xQ{sz:Nat}:aA t sz [] .nilslice:=⟨[],.inl ⟨rfl,rfl⟩,cH.2 rfl⟩
end
end Go.Am
namespace Go.Proofs
open Go Go.Am
variable {b el g op sz:Nat}{y z:lD}{v:zA}{ps:List (Nat × zA)}{cl:List (List zA)}{ds:List D}{x:lA}{c cs cx:List zA}{w:List Nat}{l:List (List Nat × Nat)}
variable [nC]
section
variable {tf t:Tr tA}{C:iA}
theorem Pq {z:List zA} (hz:z.length=sz)(hv:v.cells.length=sz):vM (fun i=>some (i*sz,sz)) [(0,v)] (oI z 1)=some v.cells:=by
 have e:oI z 1=z:=by
  show fD z []=_;rw[aG,ycd]
 rw[e];have o1:nW z (0*sz) sz v=some v.cells:=by
  unfold nW;simp only[kD,hv,Nat.zero_mul,ybw,xT,vR,aG,List.take_zero,yah];rw[gC.2 rfl,aE.2 (by omega)]
  simp only[Bool.and_self,cD];rw[<- hz,List.drop_length,ycd]
 grind [vM,pA]
def litN{T n:Nat}{L:List iF}    (hT:C.tys.get T=some y)(hel:y.desc.asSlice=some el)(hz:C.tys.get el=some z)(hs:z.size=sz)(h0:yB z.zero=sz)(hn:n*sz<1000000)
  (hfill:vM (fun i=>some (i*sz,sz)) ps (oI z.zero n)=some cl.flatten) (hcl:∀(i:Nat) cs,cl[i]?=some cs->cs.length=sz) (hlen:cl.length=n) (hr:uD tf ds cl) (ho:xB C.base tf t L) (hb:t.get b=none) :
  ∃tf' t',tE C T n ps ⟨b,t⟩=some (.slice b 0 n n,⟨b+1,t'⟩)/\zB tf tf'/\xB C.base tf' t' L/\aA tf' sz ds (.slice b 0 n n):=by
 obtain⟨t',h1,h2,h3,h4⟩:=Ou hT hel hz hs h0 hn hfill hcl hlen hb
 have ho':=ho.junk hb h4
 have hfb:=ho.tfn hb
 have hg:t'.get b=some (.cells (Tr.ofList cl.flatten) (yB cl.flatten) none):=by
  have:=h1
  unfold tE at this;rw[hT,pA,hel,pA,hz,pA]at this;rw[sB,hs,hfill,pA]at this;obtain⟨_,h5⟩:=this
  have h5:=(Prod.mk.inj (yci h5)).2
  have h6:t.set b (.cells (Tr.ofList cl.flatten) (yB cl.flatten) none)=t':=(xA.mk.inj h5).2
  rw[<- h6,Tr.get_set,yab rfl]
 obtain⟨k1,k2⟩:=ho'.froze (fun hm=>ho.fresh hb hm) hg hfb
 refine⟨_,t',h1,k2,k1,cl,OI hcl (by rw[Tr.get_set,yab rfl]) (.inl rfl) hlen,uD.mono k2 _ _ hr⟩
end
def OpD (x:List Nat × Nat):D:=.st [.str x.1,.int .u8 (x.2:Int)]
theorem rd_op{t:Tr tA}{x:List Nat × Nat} (h:RD t (OpD x) cs):cs=[.str x.1,.int .u8 (x.2:Int)]:=by
 grind [OpD,eO,vH,cH,Ag,Ah]
theorem zom{t:Tr tA}(x:List Nat × Nat):RD t (OpD x) [.str x.1,.int .u8 (x.2:Int)]:=by
 simp_all [OpD,eO,vH,cH]
def cL (tf:Tr tA)(x:lA)(v:zA):Prop:=∃cs,v=.agg cs/\RD tf x.d cs
def rdXV (tf:Tr tA)(x:eD)(v:zA):Prop:=∃cs,v=.agg cs/\RD tf x.d cs
abbrev zE:List zA:=[.int .u8 0,.str [],.int .u8 0,.bool false,.nilslice,.bool false,.nilslice,.int .i64 0,.nilslice]
abbrev zV:List zA:=[.int .u8 0,.bool false,.nilslice,.bool false,.nilslice,.int .i64 0]
abbrev cE(X:sI):List zA:=[.int .u8 (X.i 0),.str (X.s 1),.int .u8 (X.i 2),.bool (X.b 3),X.v 4,.bool (X.b 5),X.v 6,.int .i64 (X.i 7),X.v 8]
abbrev cV(X:sI):List zA:=[.int .u8 (X.i 0),.bool (X.b 1),X.v 2,.bool (X.b 3),X.v 4,.int .i64 (X.i 5)]
def Ql{tf:Tr tA}  (h:RD tf x.d cs):cE (cellsOf cs)=cs:=by
 obtain⟨a,b,c,rfl,_⟩:=nI h
 rfl
def Qk{tf:Tr tA}{x:eD} (h:RD tf x.d cs):cV (cellsOf cs)=cs:=by
 obtain⟨a,b,rfl,_⟩:=oX h
 rfl
def agE{tf:Tr tA}  (h:RD tf x.d cs):eK zE (.agg cs)=some (cellsOf cs):=iW h (lA.zs _)
def agV{tf:Tr tA}{x:eD} (h:RD tf x.d cs):eK zV (.agg cs)=some (cellsOf cs):=iW h (eD.zs _)
def Hw{tf:Tr tA}  (h:RD tf x.d cs):cs.length=9:=by
 obtain⟨a,b,c,rfl,_⟩:=nI h
 rfl
section
variable {P:dM}{tf t:Tr tA}{n d:Nat}{Q E:mB}{J:eF}
def St.lit{T k:Nat}    (h:St P tf t n d)(hT:yA.tys.get T=some y)(hel:y.desc.asSlice=some el)(hz:yA.tys.get el=some z)(hs:z.size=sz)(h0:yB z.zero=sz)(hn:k*sz<1000000)
  (hfill:vM (fun i=>some (i*sz,sz)) ps (oI z.zero k)=some cl.flatten) (hcl:∀(i:Nat) cs,cl[i]?=some cs->cs.length=sz) (hlen:cl.length=k) (hr:uD tf ds cl) (hb:t.get b=none) :
  ∃tf' t',tE yA T k ps ⟨b,t⟩=some (.slice b 0 k k,⟨b+1,t'⟩)/\zB tf tf'/\St P tf' t' n d/\aA tf' sz ds (.slice b 0 k k):=by
 obtain⟨tf',t',h1,h2,h3,h4⟩:=litN hT hel hz hs h0 hn hfill hcl hlen hr h.ob hb
 exact⟨tf',t',h1,h2,⟨h.ts.mono h2,h3,h.len,h.le,h.good,h.glob.mono h2⟩,h4⟩
theorem Oc  (h:c.length=sz):∀(i:Nat) cs,[c][i]?=some cs->cs.length=sz:=by
 grind
theorem zkg {c':List zA}(h:c.length=sz)(h':c'.length=sz):∀(i:Nat) cs,[c,c'][i]?=some cs->cs.length=sz:=by
 intro i cs hi;match i,hi with
 | 0,hi=>simp_all
 | 1,hi=>simp_all
theorem wS {X Y:T}(h:St P tf t n d)(k1:acc P.tk w n=true->∀t',St P tf t' (n+1) d->oA yA.base (rG yA F jC mG E) J X t' Q)(k2:acc P.tk w n=false->∀t',St P tf t' n d->oA yA.base (rG yA F jC mG E) J Y t' Q) :
  oA yA.base (rG yA F jC mG E) J (.call 78 [.ptr P.bp 0,.str w] fun a=>.asB a fun b=>.ite b X Y) t Q:=by
 refine wB ?_
 rw[pW 78];grind [Vw,iD,mA,vB]
theorem OC  (hv:aA tf 1 [D.str w] v)(h:St P tf t n d)(hk:Ok P rdU d tf (pH P.tk w n) Q E):sM yA F E 95 [.ptr P.bp 0,v] t Q:=by
 refine w95 ?_
 unfold t95 uI uZ;refine rA hv.len (qB (fC (j95_2 ?_)))
 unfold zn1 uB uS kC uZ;obtain⟨b,o,cs,h1,h2,_,_,h3⟩:=sl62.at (fun _=>rfl) (hv.mono h.ob.tle) (i:=0) rfl
 have e:cs=[.str w]:=Ag.1 h3
 subst e;refine mA (by simp[aC]) (rA h1 (yC h2 (dD (wB ?_))))
 rw[pW 78];refine Vw h fun t' h'=>iD ?_
 unfold pH at hk
 cases ha:acc P.tk w n with
 | true=>
  rw[ha]at h' hk
  refine vB (by simp) (fC (j95_2 ?_))
  unfold zn1 uB uS kC uZ;have:(fA .i64 (0+1))=1:=by decide
  rw[this];exact vB (by simp[aC]) (Ok.now hk h' rfl)
 | false=>
  grind [mA,wB,Ok.fail]
def zmn{α:Type}{rd:Tr tA->α->zA->Prop} {f:Unit->Nat->PR α}{K:zA->T}{Q':mB}(h:St P tf t n d)(hk:Ok P rd d tf ((pH P.tk w n).bind f) Q' E)
  (k:∀n1 tf1 t1,zB tf tf1->St P tf1 t1 n1 d->Ok P rd d tf1 (f () n1) Q' E->oA yA.base (rG yA F jC mG E) J (K (.tup [])) t1 Q) :
  oA yA.base (rG yA F jC mG E) J (.heavy (tE yA 62 1 [(0,.str w)]) fun a=>.call 95 [.ptr P.bp 0,a] K) t Q:=by
 refine eC fun b hb _=>?_
 obtain⟨tf1,t1,h1,h2,h3,h4⟩:=h.lit (k:=1) (sz:=1) (ds:=[D.str w]) (cl:=[[.str w]]) ty62 rfl gL rfl rfl (by omega) (Pq (sz:=1) (z:=[.str []]) (v:=.str w) rfl rfl) (Oc rfl) rfl (vH.2 ⟨_,_,rfl,Ag.2 rfl,cH.2 rfl⟩) hb
 refine⟨_,_,h1,wB ?_⟩
 rw[pE 95];exact OC h4 h3 ((hk.mono h2).bind fun a n1 tf2 t2 v hr hl hst hrd hk1=>by cases hrd;exact k n1 tf2 t2 (h2.trans hl) hst hk1)
theorem AB  (hv:aA tf 2 (l.map OpD) v)(hl:l.length<1000)(h:St P tf t n d)
  (hQ:∀t',match aM P.tk l n with | none=>St P tf t' n d->Q (.tup [.int .u8 0,.bool false]) t' | some op=>St P tf t' (n+1) d->Q (.tup [.int .u8 (op:Int),.bool true]) t'):Wc yA F 128 [.ptr P.bp 0,v] t Q:=by
 have loop:∀(k i:Nat) (t:Tr tA),i+k=l.length->St P tf t n d->(∀t',match aM P.tk (l.drop i) n with | none=>St P tf t' n d->Q (.tup [.int .u8 0,.bool false]) t' | some op=>St P tf t' (n+1) d->Q (.tup [.int .u8 (op:Int),.bool true]) t') →
   jp 128 2 [.ptr P.bp 0,v,.int .i64 (l.length:Int),.int .i64 (i:Int)] t Q:=by
  intro k;induction k with
  | zero=>
   intro i t hi h hQ;refine zmf ?_
   unfold Yl;have e:l.drop i=[]:=ybt (by omega)
   rw[e]at hQ;exact vB (by grind [aC]) (hQ t h)
  | succ k ih=>
   intro i t hi h hQ;refine zmf ?_
   unfold Yl uB uG;have hx:l[i]?=some l[i]:=ybd (by omega)
   have hd:(l.map OpD)[i]?=some (OpD l[i]):=by grind
   obtain⟨b,o,cs,h1,h2,_,_,h3⟩:=sl201.at (fun h=>by cases h) (hv.mono h.ob.tle) hd
   have e:=rd_op h3
   subst e;rw[ybl (by omega:i<l.length)]at hQ
   unfold aM at hQ;rw[List.find?_cons]at hQ;refine mA (by grind [aC]) (rA h1 (yC h2 (dC (X:=cellsOf [.str l[i].1,.int .u8 (l[i].2:Int)]) (zO rfl) (mA rfl ?_))))
   refine wB ?_
   rw[q78];refine Vw h fun t' h'=>iD ?_
   have e1:(cellsOf [.str l[i].1,.int .u8 (l[i].2:Int)]).s 0=l[i].1:=rfl
   have e2:(cellsOf [.str l[i].1,.int .u8 (l[i].2:Int)]).i 1=(l[i].2:Int):=rfl
   rw[e1]at h' ⊢
   cases ha:acc P.tk l[i].1 n with
   | true=>
    rw[ha]at h' hQ
    refine mA rfl ?_
    rw[e2];exact hQ t' h'
   | false=>
    rw[ha]at h' hQ
    refine vB (by simp) (fC ?_)
    have:kC (i:Int)=.int .i64 ((i+1:Nat):Int):=by
     grind [wrap_i64]
    rw[this];exact ih (i+1) t' (by omega) h' hQ
 refine w128 ?_
 unfold t128;have hlen:=hv.len
 rw[ybf]at hlen;exact rA hlen (qB (fC (loop l.length 0 t (by omega) h (by simp_all))))
def fI(P:dM)(d:Nat)(o:PM lA)(g:Nat):Prop:=∀(tf t:Tr tA) (n:Nat) (Q E:mB),St P tf t n d->Ok P cL d tf (o n) Q E->sM yA F E g [.ptr P.bp 0] t Q
def Up {α:Type}(o:PM α):Prop:=∀n a n',o n=.ok a n'->n<=n'
theorem zol  (h:aM P.tk l n=some op):n<P.tk.length:=by
 unfold aM at h
 cases hx:l.find? fun o=>acc P.tk o.1 n with
 | none=>simp_all
 | some x=>grind [acc]
def Vo{tf:Tr tA} {y:lA} (h:aA tf 9 [x.d,y.d] v):RD tf (cZ op x y).d [.int .u8 (op:Int),.str [],.int .u8 0,.bool false,.nilslice,.bool false,.nilslice,.int .i64 0,v]:=by
 unfold cZ;exact Kh (v:=nS) xQ xQ h
def un_rd{tf:Tr tA}    (h:aA tf 9 [x.d] v):RD tf (unX op w x).d [.int .u8 (op:Int),.str w,.int .u8 0,.bool false,.nilslice,.bool false,.nilslice,.int .i64 0,v]:=by
 unfold unX;exact Kh (v:=nS) xQ xQ h
theorem zon (h:zA.one v=true){a:zA}(ha:zA.one a=true):sD zA.one [a,v]=true:=by
 grind [mI]
def St.pair {y:lA}{cy:List zA}(h:St P tf t n d)(hx:RD tf x.d cx)(hy:RD tf y.d cy)(hb:t.get b=none) :
  ∃tf' t',tE yA 29 2 [(0,.agg cx),(1,.agg cy)] ⟨b,t⟩=some (.slice b 0 2 2,⟨b+1,t'⟩)/\zB tf tf'/\St P tf' t' n d/\aA tf' 9 [x.d,y.d] (.slice b 0 2 2):=
 h.lit (ds:=[x.d,y.d]) (cl:=[cx,cy]) ty29 rfl ty31 rfl rfl (by omega) (NS rfl (Hw hx) (Hw hy)) (zkg (Hw hx) (Hw hy)) rfl (vH.2 ⟨_,_,rfl,hx,vH.2 ⟨_,_,rfl,hy,cH.2 rfl⟩⟩) hb
def St.sole   (h:St P tf t n d)(hx:RD tf x.d cx)(hb:t.get b=none) :
  ∃tf' t',tE yA 29 1 [(0,.agg cx)] ⟨b,t⟩=some (.slice b 0 1 1,⟨b+1,t'⟩)/\zB tf tf'/\St P tf' t' n d/\aA tf' 9 [x.d] (.slice b 0 1 1):=by
 have hf:vM (fun i=>some (i*9,9)) [(0,.agg cx)] (oI zE 1)=some [cx].flatten:=by
  rw[Pq (sz:=9) (z:=zE) (v:=.agg cx) rfl (Hw hx)];show some cx=_;simp
 exact h.lit (k:=1) (sz:=9) (ds:=[x.d]) (cl:=[cx]) (ps:=[(0,.agg cx)]) ty29 rfl ty31 rfl rfl (by omega) hf (Oc (Hw hx)) rfl (vH.2 ⟨_,_,rfl,hx,cH.2 rfl⟩) hb
def zfh (hg:Nat.blt g pn=true)  : mL (.func (.func g) [v] []) []=some (g,[v]):=by
 unfold mL;simp only[zA.asFunc,pA,hg,cD];rfl
theorem YP{o:PM lA}   (ho:fI P d o g)(hup:Up o)(hg:Nat.blt g pn=true)(hp1:(jC g&&Nat.blt g yo)=false)(hp2:Nat.beq g pn=false)(hp3:(mG g&&Nat.blt g pn)=true)(hl:l.length<1000) :
  ∀(m n:Nat) (x:lA) (cs:List zA) (tf t:Tr tA) (Q E:mB),P.tk.length-n<=m->St P tf t n d->aA tf 2 (l.map OpD) v->RD tf x.d cs->Ok P cL d tf (dT P.tk o l m x n) Q E->zK E 66 2 ([.ptr P.bp 0,.func (.func g) [.ptr P.bp 0] [],v]++zE++cs) t Q:=by
 intro m;induction m with
 | zero=>
  intro n x cs tf t Q E hm h hv hx hk;obtain⟨a,b,c,rfl,_⟩:=nI hx
  refine j66_2 ?_
  unfold zn2 uU uB uG jB uX uZ uY lF nE;refine wB ?_
  rw[pW 128];have hn:aM P.tk l n=none:=by
   cases hx:aM P.tk l n with
   | none=>rfl
   | some op=>have:=zol hx;omega
  refine AB hv hl h fun t'=>?_
  rw[hn];intro h';refine rA rfl (qB (rA rfl (iD (mA rfl (mA hx.all ?_)))))
  exact Ok.now hk h' ⟨_,rfl,hx⟩
 | succ m ih=>
  intro n x cs tf t Q E hm h hv hx hk;obtain⟨a,b,c,rfl,_⟩:=nI hx
  refine j66_2 ?_
  unfold zn2 uU uB uG jB uX uZ uY lF nE;refine wB ?_
  rw[pW 128];refine AB hv hl h fun t'=>?_
  unfold dT at hk
  cases hop:aM P.tk l n with
  | none=>
   rw[hop]at hk;intro h';refine rA rfl (qB (rA rfl (iD (mA rfl (mA hx.all ?_)))))
   exact Ok.now hk h' ⟨_,rfl,hx⟩
  | some op=>
   rw[hop]at hk;intro h';refine rA rfl (qB (rA rfl (iD (vB (by simp) (wX (zfh hg) ?_)))))
   have e:∀a R,rG yA F jC mG E g a t' R=sM yA F E g a t' R:=fun a R=>by grind [rG]
   rw[e];refine ho _ _ _ _ _ h' (hk.bind fun y n1 tf1 t1 vy hr hle hst hrd hk1=>?_)
   obtain⟨cy,rfl,hy⟩:=hrd
   have hn1:=hup _ _ _ hr
   obtain⟨a',b',c',rfl,_⟩:=nI hy
   refine dC (agE hy) (mA hy.all (eC fun b hb _=>?_))
   have hx1:=RD.mono hle _ _ hx
   obtain⟨tf2,t2,k1,k2,k3,k4⟩:=hst.pair hx1 hy hb
   refine⟨_,_,k1,?_⟩
   refine mA (zon rfl rfl) (mA (Vo k4).all (fC ?_))
   exact ih n1 (cZ op x y) _ tf2 t2 Q E (by omega) k3 (hv.mono (hle.trans k2)) (Vo k4) (hk1.mono k2)
end
end Go.Proofs
