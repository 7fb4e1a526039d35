/- The trees of functions. (Printed by a tool; the kernel agrees.) -/
import Derived.Test.YtbgilkcahebbfaaGreatDoorB18
set_option linter.all false
noncomputable section
set_option maxRecDepth 100000
namespace Go.Proofs
open Go Go.Am
variable [zcb]
theorem eqT {b : Nat} {W J : zhn} {x y : T} {m : Tr zak} {Q : zao} (e : x = y) (h : wpT b W J y m Q) : wpT b W J x m Q := e ▸ h
def t4 (p0 : Int) (p1 : Bool) : T :=
 .call 6 [] fun a0 =>
 .asB a0 fun b1 => .ite (!b1)
 (.ret (.bool false))
 (.heavy (za5 C13 22 1 [(0, (.int .u16 1))]) fun a2 =>
 .ite (zd9 zab.one [a2]) (.ite (zd9 zab.one [.bool false, a2]) (.ite true (.heavy (za5 C13 44 1 [(0, (.agg [.str [116], .bool false, .nilslice]))]) fun a3 =>
 .ite (zd9 zab.one [.str [120], a3]) (.ite (zd9 zab.one [.str [120], .nilslice, a3, .nilslice]) (.jump 2 [.bool p1, (.int .i64 (zag .i64 (2300 + (Int.tmod (zag .i64 p0) 101)))), .int .i64 0, .bool false, a2, .str [120], .nilslice, a3, .nilslice]) .fail) .fail) .fail) .fail) .fail)
theorem w4 (p0 : Int) (p1 : Bool) {m : Tr zak} {Q : zao} (h : wp 4 (t4 p0 p1) m Q) : Wf 4 [.int .u8 p0, .bool p1] m Q := zbd ok4 (by kernel_rfl) (eqT (by kernel_rfl) h)
def t4_2 (v1 : Bool) (v6 v8 : Int) (c5_0 : Bool) (c5_1 : zab) (c7_0 : List Nat) (c7_1 c7_2 c7_3 : zab) : T :=
 .ite (iLt v8 v6)
 (.opt (zah C13 44 c7_2 (.int .i64 0)) fun a0 => .opt (za4 C13 53 2 a0) fun a1 => .light (fun m => zau C13 51 ⟨0, m⟩ a1) fun a2 => .ite true (.ite true (.heavy (za5 C13 51 1 [(0, (.agg [.int .i64 1, .int .i64 0, .int .i64 0, .bool c5_0, c5_1, .bool c5_0, c5_1]))]) fun a3 =>
 .ite (same 10 c7_2 c7_2) (.ite (same 10 c7_2 c7_2) (.light (fun m => zau C13 51 ⟨0, m⟩ a1) fun a4 => .ite (same 10 a4 a2) (.heavy (zci C13 51 51 a2 a3) fun a5 =>
 .ite (same 10 c7_2 c7_2) (.opt (zah C13 44 c7_2 (.int .i64 0)) fun a6 => .opt (za4 C13 53 2 a6) fun a7 => .heavy (zbl C13 51 a7 a5) fun _ =>
 .jump 2 [.bool v1, .int .i64 v6, (.int .i64 (zag .i64 (v8 + 1))), .bool c5_0, c5_1, .str c7_0, c7_1, c7_2, c7_3]) .fail) .fail) .fail) .fail) .fail) .fail)
 (.ite v1
 (.ite true (.jump 29 [(.int .i64 (zag .i64 ((zag .i64 (19 + (zag .i64 (28 * v6)))) + 1))), .str [120, 121], c7_1, c7_2, c7_3]) .fail)
 (.jump 29 [(.int .i64 (zag .i64 (19 + (zag .i64 (28 * v6))))), .str c7_0, c7_1, c7_2, c7_3]))
theorem j4_2 (v1 : Bool) (v6 v8 : Int) (c5_0 : Bool) (c5_1 : zab) (c7_0 : List Nat) (c7_1 c7_2 c7_3 : zab) {m : Tr zak} {Q : zao} (h : wp 4 (t4_2 v1 v6 v8 c5_0 c5_1 c7_0 c7_1 c7_2 c7_3) m Q) : jp 4 2 [.bool v1, .int .i64 v6, .int .i64 v8, .bool c5_0, c5_1, .str c7_0, c7_1, c7_2, c7_3] m Q := zbr ok4 (by kernel_rfl) h
def t4_29 (v9 : Int) (c7_0 : List Nat) (c7_1 c7_2 c7_3 : zab) : T :=
 .call 10 [.agg [.str c7_0, c7_1, c7_2, c7_3]] fun a0 =>
 .opt (zar 0 a0) fun a1 => .asS a1 fun s2 => .opt (zar 1 a0) fun a3 => .asI .i64 a3 fun n4 => .ite (iLt 65536 v9)
 (.ite (zes s2 [])
 (.ite (iEq n4 3)
 (.call 11 [.agg [.str c7_0, c7_1, c7_2, c7_3]] fun a5 =>
 .asB a5 fun b6 => .ret (.bool b6))
 (.ret (.bool false)))
 (.ret (.bool false)))
 (.ite (iEq n4 0)
 (.ret (.bool (iEq (Int.ofNat (zbw s2)) v9)))
 (.ret (.bool false)))
theorem j4_29 (v9 : Int) (c7_0 : List Nat) (c7_1 c7_2 c7_3 : zab) {m : Tr zak} {Q : zao} (h : wp 4 (t4_29 v9 c7_0 c7_1 c7_2 c7_3) m Q) : jp 4 29 [.int .i64 v9, .str c7_0, c7_1, c7_2, c7_3] m Q := zbr ok4 (by kernel_rfl) h
def t10 (p0_0 : List Nat) (p0_1 p0_2 p0_3 : zab) : T :=
 .heavy (zjq C13 9) fun a0 =>
 .heavy (zjq C13 35) fun a1 =>
 .call 11 [.agg [.str p0_0, p0_1, p0_2, p0_3]] fun a2 =>
 .asB a2 fun b3 => .ite (!b3)
 (.heavy (zbl C13 9 a0 (.str [])) fun _ =>
 .heavy (zbl C13 35 a1 (.int .i64 2)) fun _ =>
 .light (fun m => zau C13 9 ⟨0, m⟩ a0) fun a4 => .light (fun m => zau C13 35 ⟨0, m⟩ a1) fun a5 => .ret (.tup [a4, a5]))
 (.heavy (zlp C13 77) fun a6 =>
 .call 22 [.agg [.str p0_0, p0_1, p0_2, p0_3]] fun a7 =>
 .range (npC C13) a7 2 1 [a0, a1, a6]
 (.call 25 [a6] fun a8 =>
 .asS a8 fun s9 => .heavy (zbl C13 9 a0 (.str s9)) fun _ =>
 .heavy (zbl C13 35 a1 (.int .i64 0)) fun _ =>
 .light (fun m => zau C13 9 ⟨0, m⟩ a0) fun a10 => .light (fun m => zau C13 35 ⟨0, m⟩ a1) fun a11 => .ret (.tup [a10, a11]))
 (.light (fun m => zau C13 9 ⟨0, m⟩ a0) fun a12 => .light (fun m => zau C13 35 ⟨0, m⟩ a1) fun a13 => .ret (.tup [a12, a13])))
theorem w10 (p0_0 : List Nat) (p0_1 p0_2 p0_3 : zab) {m : Tr zak} {Q : zao} (h : wp 10 (t10 p0_0 p0_1 p0_2 p0_3) m Q) : Wf 10 [.agg [.str p0_0, p0_1, p0_2, p0_3]] m Q := zbd ok10 (by kernel_rfl) (eqT (by kernel_rfl) h)
def t10_2 (v2 v3 v4 : zab) (v11 : List Nat) : T :=
 .call 23 [v4, .str v11] fun a0 =>
 .call 23 [v4, .str [10]] fun a1 =>
 .call 24 [v4] fun a2 =>
 .asI .i64 a2 fun n3 => .ite (iLt 65536 n3)
 (.heavy (zbl C13 9 v2 (.str [])) fun _ =>
 .heavy (zbl C13 35 v3 (.int .i64 3)) fun _ =>
 .ret (.bool false))
 (.ret (.bool true))
theorem j10_2 (v2 v3 v4 : zab) (v11 : List Nat) {m : Tr zak} {Q : zao} (h : wp 10 (t10_2 v2 v3 v4 v11) m Q) : jp 10 2 [v2, v3, v4, .str v11] m Q := zbr ok10 (by kernel_rfl) h
def t11 (p0_0 : List Nat) (p0_1 p0_2 p0_3 : zab) : T :=
 .call 17 [] fun a0 =>
 .asG [.nilptr] a0 fun X1 =>
 .ite (same 10 (.agg [.str p0_0, p0_1, p0_2, p0_3]) (.agg [.str p0_0, p0_1, p0_2, p0_3])) (.call 26 [(.agg [(X1.v 0)]), .agg [.str p0_0, p0_1, p0_2, p0_3]] fun a2 =>
 .asB a2 fun b3 => .ret (.bool b3)) .fail
theorem w11 (p0_0 : List Nat) (p0_1 p0_2 p0_3 : zab) {m : Tr zak} {Q : zao} (h : wp 11 (t11 p0_0 p0_1 p0_2 p0_3) m Q) : Wf 11 [.agg [.str p0_0, p0_1, p0_2, p0_3]] m Q := zbd ok11 (by kernel_rfl) (eqT (by kernel_rfl) h)
def t17  : T :=
 .call 37 [] fun a0 =>
 .ite (zd9 zab.one [a0]) (.ite (zd9 zab.one [a0]) (.ret (.agg [a0])) .fail) .fail
theorem w17  {m : Tr zak} {Q : zao} (h : wp 17 (t17 ) m Q) : Wf 17 [] m Q := zbd ok17 (by kernel_rfl) (eqT (by kernel_rfl) h)
def t18 (p0_0 : zab) (p1_0 : Int) (p1_1 : List Nat) (p1_2 : Int) (p1_3 : Bool) (p1_4 : zab) (p1_5 : Bool) (p1_6 : zab) (p1_7 : Int) (p1_8 : zab) (p2 : Int) : T :=
 .ite (iLt 24 p2)
 (.ret (.bool false))
 (.ite (iLe 27 (zag .i64 p1_0))
 (.ret (.bool false))
 (.opt (z2u p0_0) fun a0 => .opt (zah C13 147 a0 (.int .u8 p1_0)) fun a1 => .opt (z2u a1) fun a2 => .opt (za4 C13 106 0 a2) fun a3 => .light (fun m => zau C13 5 ⟨0, m⟩ a3) fun a4 => .asI .u8 a4 fun n5 => .ite (iEq n5 0)
 (.ret (.bool false))
 (.opt (zbm p1_8) fun a6 => .asI .i64 a6 fun n7 => .opt (z2u a1) fun a8 => .opt (za4 C13 106 3 a8) fun a9 => .light (fun m => zau C13 3 ⟨0, m⟩ a9) fun a10 => .asI .i64 a10 fun n11 => .ite (iLt n7 n11)
 (.ret (.bool false))
 (.opt (zbm p1_8) fun a12 => .asI .i64 a12 fun n13 => .opt (z2u a1) fun a14 => .opt (za4 C13 106 4 a14) fun a15 => .light (fun m => zau C13 3 ⟨0, m⟩ a15) fun a16 => .asI .i64 a16 fun n17 => .ite (iLt n17 n13)
 (.ret (.bool false))
 (.opt (z2u a1) fun a18 => .opt (za4 C13 106 2 a18) fun a19 => .light (fun m => zau C13 4 ⟨0, m⟩ a19) fun a20 => .asB a20 fun b21 => .ite b21
 (.call 38 [.str p1_1] fun a22 =>
 .asB a22 fun b23 => .ite (!b23)
 (.ret (.bool false))
 (.opt (z2u a1) fun a24 => .opt (za4 C13 106 2 a24) fun a25 => .light (fun m => zau C13 4 ⟨0, m⟩ a25) fun a26 => .asB a26 fun b27 => .ite (!b27)
 (.ite (!zes p1_1 [])
 (.ret (.bool false))
 (.ite (zd9 zab.one [.int .u8 p1_2, .bool p1_3, p1_4, .bool p1_5, p1_6, .int .i64 p1_7]) (.ite (iEq p1_0 1)
 (.call 27 [.agg [.int .u8 p1_2, .bool p1_3, p1_4, .bool p1_5, p1_6, .int .i64 p1_7]] fun a28 =>
 .asB a28 fun b29 => .ret (.bool b29))
 (.ite (iEq p1_0 19)
 (.ite (iLt p1_7 1)
 (.ret (.bool false))
 (.ite (iLt 6 p1_7)
 (.ret (.bool false))
 (.ite true (.jump 33 [.int .i64 p2, p0_0, .int .u8 p1_0, .str p1_1, .int .u8 p1_2, .bool p1_3, p1_4, .bool p1_5, p1_6, .int .i64 p1_7, p1_8, .int .u8 p1_2, .bool p1_3, p1_4, .bool p1_5, p1_6, .int .i64 0]) .fail)))
 (.jump 33 [.int .i64 p2, p0_0, .int .u8 p1_0, .str p1_1, .int .u8 p1_2, .bool p1_3, p1_4, .bool p1_5, p1_6, .int .i64 p1_7, p1_8, .int .u8 p1_2, .bool p1_3, p1_4, .bool p1_5, p1_6, .int .i64 p1_7]))) .fail))
 (.ite (zd9 zab.one [.int .u8 p1_2, .bool p1_3, p1_4, .bool p1_5, p1_6, .int .i64 p1_7]) (.ite (iEq p1_0 1)
 (.call 27 [.agg [.int .u8 p1_2, .bool p1_3, p1_4, .bool p1_5, p1_6, .int .i64 p1_7]] fun a30 =>
 .asB a30 fun b31 => .ret (.bool b31))
 (.ite (iEq p1_0 19)
 (.ite (iLt p1_7 1)
 (.ret (.bool false))
 (.ite (iLt 6 p1_7)
 (.ret (.bool false))
 (.ite true (.jump 33 [.int .i64 p2, p0_0, .int .u8 p1_0, .str p1_1, .int .u8 p1_2, .bool p1_3, p1_4, .bool p1_5, p1_6, .int .i64 p1_7, p1_8, .int .u8 p1_2, .bool p1_3, p1_4, .bool p1_5, p1_6, .int .i64 0]) .fail)))
 (.jump 33 [.int .i64 p2, p0_0, .int .u8 p1_0, .str p1_1, .int .u8 p1_2, .bool p1_3, p1_4, .bool p1_5, p1_6, .int .i64 p1_7, p1_8, .int .u8 p1_2, .bool p1_3, p1_4, .bool p1_5, p1_6, .int .i64 p1_7]))) .fail)))
 (.opt (z2u a1) fun a32 => .opt (za4 C13 106 2 a32) fun a33 => .light (fun m => zau C13 4 ⟨0, m⟩ a33) fun a34 => .asB a34 fun b35 => .ite (!b35)
 (.ite (!zes p1_1 [])
 (.ret (.bool false))
 (.ite (zd9 zab.one [.int .u8 p1_2, .bool p1_3, p1_4, .bool p1_5, p1_6, .int .i64 p1_7]) (.ite (iEq p1_0 1)
 (.call 27 [.agg [.int .u8 p1_2, .bool p1_3, p1_4, .bool p1_5, p1_6, .int .i64 p1_7]] fun a36 =>
 .asB a36 fun b37 => .ret (.bool b37))
 (.ite (iEq p1_0 19)
 (.ite (iLt p1_7 1)
 (.ret (.bool false))
 (.ite (iLt 6 p1_7)
 (.ret (.bool false))
 (.ite true (.jump 33 [.int .i64 p2, p0_0, .int .u8 p1_0, .str p1_1, .int .u8 p1_2, .bool p1_3, p1_4, .bool p1_5, p1_6, .int .i64 p1_7, p1_8, .int .u8 p1_2, .bool p1_3, p1_4, .bool p1_5, p1_6, .int .i64 0]) .fail)))
 (.jump 33 [.int .i64 p2, p0_0, .int .u8 p1_0, .str p1_1, .int .u8 p1_2, .bool p1_3, p1_4, .bool p1_5, p1_6, .int .i64 p1_7, p1_8, .int .u8 p1_2, .bool p1_3, p1_4, .bool p1_5, p1_6, .int .i64 p1_7]))) .fail))
 (.ite (zd9 zab.one [.int .u8 p1_2, .bool p1_3, p1_4, .bool p1_5, p1_6, .int .i64 p1_7]) (.ite (iEq p1_0 1)
 (.call 27 [.agg [.int .u8 p1_2, .bool p1_3, p1_4, .bool p1_5, p1_6, .int .i64 p1_7]] fun a38 =>
 .asB a38 fun b39 => .ret (.bool b39))
 (.ite (iEq p1_0 19)
 (.ite (iLt p1_7 1)
 (.ret (.bool false))
 (.ite (iLt 6 p1_7)
 (.ret (.bool false))
 (.ite true (.jump 33 [.int .i64 p2, p0_0, .int .u8 p1_0, .str p1_1, .int .u8 p1_2, .bool p1_3, p1_4, .bool p1_5, p1_6, .int .i64 p1_7, p1_8, .int .u8 p1_2, .bool p1_3, p1_4, .bool p1_5, p1_6, .int .i64 0]) .fail)))
 (.jump 33 [.int .i64 p2, p0_0, .int .u8 p1_0, .str p1_1, .int .u8 p1_2, .bool p1_3, p1_4, .bool p1_5, p1_6, .int .i64 p1_7, p1_8, .int .u8 p1_2, .bool p1_3, p1_4, .bool p1_5, p1_6, .int .i64 p1_7]))) .fail)))))))
theorem w18 (p0_0 : zab) (p1_0 : Int) (p1_1 : List Nat) (p1_2 : Int) (p1_3 : Bool) (p1_4 : zab) (p1_5 : Bool) (p1_6 : zab) (p1_7 : Int) (p1_8 : zab) (p2 : Int) {m : Tr zak} {Q : zao} (h : wp 18 (t18 p0_0 p1_0 p1_1 p1_2 p1_3 p1_4 p1_5 p1_6 p1_7 p1_8 p2) m Q) : Wf 18 [.agg [p0_0], .agg [.int .u8 p1_0, .str p1_1, .int .u8 p1_2, .bool p1_3, p1_4, .bool p1_5, p1_6, .int .i64 p1_7, p1_8], .int .i64 p2] m Q := zbd ok18 (by kernel_rfl) (eqT (by kernel_rfl) h)
def zzg5 (v2 : Int) (c3_0 : zab) (c4_0 : Int) (c4_1 : List Nat) (c4_2 : Int) (c4_3 : Bool) (c4_4 : zab) (c4_5 : Bool) (c4_6 : zab) (c4_7 : Int) (c4_8 : zab) (c8_0 : Int) (c8_1 : Bool) (c8_2 : zab) (c8_3 : Bool) (c8_4 : zab) (c8_5 : Int) : T :=
 .call 39 [.agg [.int .u8 c8_0, .bool c8_1, c8_2, .bool c8_3, c8_4, .int .i64 c8_5]] fun a0 =>
 .asB a0 fun b1 => .ite (!b1)
 (.ret (.bool false))
 (.opt (zbm c4_8) fun a2 => .asI .i64 a2 fun n3 => .jump 4 [.int .i64 v2, c4_8, .int .i64 n3, .int .i64 0, c3_0])
theorem j18_33 (v2 : Int) (c3_0 : zab) (c4_0 : Int) (c4_1 : List Nat) (c4_2 : Int) (c4_3 : Bool) (c4_4 : zab) (c4_5 : Bool) (c4_6 : zab) (c4_7 : Int) (c4_8 : zab) (c8_0 : Int) (c8_1 : Bool) (c8_2 : zab) (c8_3 : Bool) (c8_4 : zab) (c8_5 : Int) {m : Tr zak} {Q : zao} (h : wp 18 (zzg5 v2 c3_0 c4_0 c4_1 c4_2 c4_3 c4_4 c4_5 c4_6 c4_7 c4_8 c8_0 c8_1 c8_2 c8_3 c8_4 c8_5) m Q) : jp 18 33 [.int .i64 v2, c3_0, .int .u8 c4_0, .str c4_1, .int .u8 c4_2, .bool c4_3, c4_4, .bool c4_5, c4_6, .int .i64 c4_7, c4_8, .int .u8 c8_0, .bool c8_1, c8_2, .bool c8_3, c8_4, .int .i64 c8_5] m Q := zbr ok18 (by kernel_rfl) h
def zzix (v2 : Int) (v95 : zab) (v96 v97 : Int) (c3_0 : zab) : T :=
 .ite (iLt v97 v96)
 (.opt (zah C13 29 v95 (.int .i64 v97)) fun a0 => .light (fun m => zau C13 31 ⟨0, m⟩ a0) fun a1 => .asG [.int .u8 0, .str [], .int .u8 0, .bool false, .nilslice, .bool false, .nilslice, .int .i64 0, .nilslice] a1 fun X2 =>
 .ite (zd9 zab.one [(.int .u8 (X2.i 0)), (.str (X2.s 1)), (.int .u8 (X2.i 2)), (.bool (X2.b 3)), (X2.v 4), (.bool (X2.b 5)), (X2.v 6), (.int .i64 (X2.i 7)), (X2.v 8)]) (.call 18 [.agg [c3_0], (.agg [(.int .u8 (X2.i 0)), (.str (X2.s 1)), (.int .u8 (X2.i 2)), (.bool (X2.b 3)), (X2.v 4), (.bool (X2.b 5)), (X2.v 6), (.int .i64 (X2.i 7)), (X2.v 8)]), (.int .i64 (zag .i64 (v2 + 1)))] fun a3 =>
 .asB a3 fun b4 => .ite (!b4)
 (.ret (.bool false))
 (.jump 4 [.int .i64 v2, v95, .int .i64 v96, (.int .i64 (zag .i64 (v97 + 1))), c3_0])) .fail)
 (.ret (.bool true))
theorem j18_4 (v2 : Int) (v95 : zab) (v96 v97 : Int) (c3_0 : zab) {m : Tr zak} {Q : zao} (h : wp 18 (zzix v2 v95 v96 v97 c3_0) m Q) : jp 18 4 [.int .i64 v2, v95, .int .i64 v96, .int .i64 v97, c3_0] m Q := zbr ok18 (by kernel_rfl) h
def t22 (p0_0 : List Nat) (p0_1 p0_2 p0_3 : zab) : T :=
 .heavy (z0e (.agg [.str p0_0, p0_1, p0_2, p0_3])) fun a0 =>
 .ret (.func (.func 42) [] [a0])
theorem w22 (p0_0 : List Nat) (p0_1 p0_2 p0_3 : zab) {m : Tr zak} {Q : zao} (h : wp 22 (t22 p0_0 p0_1 p0_2 p0_3) m Q) : Wf 22 [.agg [.str p0_0, p0_1, p0_2, p0_3]] m Q := zbd ok22 (by kernel_rfl) (eqT (by kernel_rfl) h)
def t23 (p0 : zab) (p1 : List Nat) : T :=
 .call 46 [p0] fun a0 =>
 .opt (z2u p0) fun a1 => .opt (za4 C13 77 1 a1) fun a2 => .light (fun m => zau C13 32 ⟨0, m⟩ a2) fun a3 => .heavy (zci C13 32 9 a3 (.str p1)) fun a4 =>
 .opt (z2u p0) fun a5 => .opt (za4 C13 77 1 a5) fun a6 => .heavy (zbl C13 32 a6 a4) fun _ =>
 .ret (.tup [(.int .i64 (Int.ofNat (zbw p1))), .niliface])
theorem w23 (p0 : zab) (p1 : List Nat) {m : Tr zak} {Q : zao} (h : wp 23 (t23 p0 p1) m Q) : Wf 23 [p0, .str p1] m Q := zbd ok23 (by kernel_rfl) (eqT (by kernel_rfl) h)
def t24 (p0 : zab) : T :=
 .opt (z2u p0) fun a0 => .opt (za4 C13 77 1 a0) fun a1 => .light (fun m => zau C13 32 ⟨0, m⟩ a1) fun a2 => .opt (zbm a2) fun a3 => .asI .i64 a3 fun n4 => .ret (.int .i64 n4)
theorem w24 (p0 : zab) {m : Tr zak} {Q : zao} (h : wp 24 (t24 p0) m Q) : Wf 24 [p0] m Q := zbd ok24 (by kernel_rfl) (eqT (by kernel_rfl) h)
def t26 (p0_0 : zab) (p1_0 : List Nat) (p1_1 p1_2 p1_3 : zab) : T :=
 .call 38 [.str p1_0] fun a0 =>
 .asB a0 fun b1 => .ite b1
 (.call 48 [p1_1, (.func (.func 47) [] [])] fun a2 =>
 .asB a2 fun b3 => .ite b3
 (.call 49 [p1_2, (.func (.func 50) [] [])] fun a4 =>
 .asB a4 fun b5 => .ite b5
 (.call 51 [p1_3, (.func (.func 52) [.agg [p0_0]] [])] fun a6 =>
 .asB a6 fun b7 => .ret (.bool b7))
 (.ret (.bool false)))
 (.ret (.bool false)))
 (.ret (.bool false))
theorem w26 (p0_0 : zab) (p1_0 : List Nat) (p1_1 p1_2 p1_3 : zab) {m : Tr zak} {Q : zao} (h : wp 26 (t26 p0_0 p1_0 p1_1 p1_2 p1_3) m Q) : Wf 26 [.agg [p0_0], .agg [.str p1_0, p1_1, p1_2, p1_3]] m Q := zbd ok26 (by kernel_rfl) (eqT (by kernel_rfl) h)
def t27 (p0_0 : Int) (p0_1 : Bool) (p0_2 : zab) (p0_3 : Bool) (p0_4 : zab) (p0_5 : Int) : T :=
 .ite (iEq p0_0 2)
 (.ite (iEq p0_0 2)
 (.ite (iEq p0_5 0)
 (.call 53 [.agg [.bool p0_1, p0_2, .bool p0_3, p0_4]] fun a0 =>
 .asB a0 fun b1 => .ret (.bool b1))
 (.ret (.bool false)))
 (.ite (iEq p0_0 1)
 (.call 54 [.agg [.bool p0_1, p0_2, .bool p0_3, p0_4]] fun a2 =>
 .asB a2 fun b3 => .ite b3
 (.ite (iEq p0_5 0)
 (.ret (.bool true))
 (.ret (.bool (iEq p0_5 1))))
 (.ret (.bool false)))
 (.ite (iEq p0_0 4)
 (.call 54 [.agg [.bool p0_1, p0_2, .bool p0_3, p0_4]] fun a4 =>
 .asB a4 fun b5 => .ite b5
 (.call 55 [.int .i64 p0_5] fun a6 =>
 .asB a6 fun b7 => .ret (.bool b7))
 (.ret (.bool false)))
 (.ite (iEq p0_0 5)
 (.ite (iEq p0_0 5)
 (.call 54 [.agg [.bool p0_1, p0_2, .bool p0_3, p0_4]] fun a8 =>
 .asB a8 fun b9 => .ite b9
 (.ite (iLe (-1048576) p0_5)
 (.ret (.bool (iLe p0_5 1048576)))
 (.ret (.bool false)))
 (.ret (.bool false)))
 (.ret (.bool false)))
 (.ite (iEq p0_0 6)
 (.call 54 [.agg [.bool p0_1, p0_2, .bool p0_3, p0_4]] fun a10 =>
 .asB a10 fun b11 => .ite b11
 (.ite (iLe (-1048576) p0_5)
 (.ret (.bool (iLe p0_5 1048576)))
 (.ret (.bool false)))
 (.ret (.bool false)))
 (.ret (.bool false)))))))
 (.ite (iEq p0_0 3)
 (.ite (iEq p0_5 0)
 (.call 53 [.agg [.bool p0_1, p0_2, .bool p0_3, p0_4]] fun a12 =>
 .asB a12 fun b13 => .ret (.bool b13))
 (.ret (.bool false)))
 (.ite (iEq p0_0 1)
 (.call 54 [.agg [.bool p0_1, p0_2, .bool p0_3, p0_4]] fun a14 =>
 .asB a14 fun b15 => .ite b15
 (.ite (iEq p0_5 0)
 (.ret (.bool true))
 (.ret (.bool (iEq p0_5 1))))
 (.ret (.bool false)))
 (.ite (iEq p0_0 4)
 (.call 54 [.agg [.bool p0_1, p0_2, .bool p0_3, p0_4]] fun a16 =>
 .asB a16 fun b17 => .ite b17
 (.call 55 [.int .i64 p0_5] fun a18 =>
 .asB a18 fun b19 => .ret (.bool b19))
 (.ret (.bool false)))
 (.ite (iEq p0_0 5)
 (.ite (iEq p0_0 5)
 (.call 54 [.agg [.bool p0_1, p0_2, .bool p0_3, p0_4]] fun a20 =>
 .asB a20 fun b21 => .ite b21
 (.ite (iLe (-1048576) p0_5)
 (.ret (.bool (iLe p0_5 1048576)))
 (.ret (.bool false)))
 (.ret (.bool false)))
 (.ret (.bool false)))
 (.ite (iEq p0_0 6)
 (.call 54 [.agg [.bool p0_1, p0_2, .bool p0_3, p0_4]] fun a22 =>
 .asB a22 fun b23 => .ite b23
 (.ite (iLe (-1048576) p0_5)
 (.ret (.bool (iLe p0_5 1048576)))
 (.ret (.bool false)))
 (.ret (.bool false)))
 (.ret (.bool false)))))))
theorem w27 (p0_0 : Int) (p0_1 : Bool) (p0_2 : zab) (p0_3 : Bool) (p0_4 : zab) (p0_5 : Int) {m : Tr zak} {Q : zao} (h : wp 27 (t27 p0_0 p0_1 p0_2 p0_3 p0_4 p0_5) m Q) : Wf 27 [.agg [.int .u8 p0_0, .bool p0_1, p0_2, .bool p0_3, p0_4, .int .i64 p0_5]] m Q := zbd ok27 (by kernel_rfl) (eqT (by kernel_rfl) h)
def t37  : T :=
 .ite true (.ite true (.callv (.func (.func 77) [] []) [.str [102, 97, 99, 116, 32]] fun a0 =>
 .asG [.int .u8 0, .str [], .bool false, .int .i64 0, .int .i64 0, .int .i64 0, .int .i64 0, .int .i64 0] a0 fun X1 =>
 .callv (.func (.func 77) [] []) [.str [104, 97, 115, 32]] fun a2 =>
 .asG [.int .u8 0, .str [], .bool false, .int .i64 0, .int .i64 0, .int .i64 0, .int .i64 0, .int .i64 0] a2 fun X3 =>
 .callv (.func (.func 77) [] []) [.str []] fun a4 =>
 .asG [.int .u8 0, .str [], .bool false, .int .i64 0, .int .i64 0, .int .i64 0, .int .i64 0, .int .i64 0] a4 fun X5 =>
 .callv (.func (.func 76) [] []) [.str [108, 111, 111, 107], .bool true, .int .i64 1, .int .i64 2] fun a6 =>
 .asG [.int .u8 0, .str [], .bool false, .int .i64 0, .int .i64 0, .int .i64 0, .int .i64 0, .int .i64 0] a6 fun X7 =>
 .callv (.func (.func 78) [] []) [.str [43], .int .i64 5, .int .i64 5, .int .i64 6] fun a8 =>
 .asG [.int .u8 0, .str [], .bool false, .int .i64 0, .int .i64 0, .int .i64 0, .int .i64 0, .int .i64 0] a8 fun X9 =>
 .callv (.func (.func 78) [] []) [.str [45], .int .i64 5, .int .i64 5, .int .i64 6] fun a10 =>
 .asG [.int .u8 0, .str [], .bool false, .int .i64 0, .int .i64 0, .int .i64 0, .int .i64 0, .int .i64 0] a10 fun X11 =>
 .callv (.func (.func 78) [] []) [.str [42], .int .i64 6, .int .i64 6, .int .i64 7] fun a12 =>
 .asG [.int .u8 0, .str [], .bool false, .int .i64 0, .int .i64 0, .int .i64 0, .int .i64 0, .int .i64 0] a12 fun X13 =>
 .callv (.func (.func 78) [] []) [.str [47], .int .i64 6, .int .i64 6, .int .i64 7] fun a14 =>
 .asG [.int .u8 0, .str [], .bool false, .int .i64 0, .int .i64 0, .int .i64 0, .int .i64 0, .int .i64 0] a14 fun X15 =>
 .callv (.func (.func 76) [] []) [.str [109, 105, 110], .bool false, .int .i64 2, .int .i64 2] fun a16 =>
 .asG [.int .u8 0, .str [], .bool false, .int .i64 0, .int .i64 0, .int .i64 0, .int .i64 0, .int .i64 0] a16 fun X17 =>
 .callv (.func (.func 76) [] []) [.str [109, 97, 120], .bool false, .int .i64 2, .int .i64 2] fun a18 =>
 .asG [.int .u8 0, .str [], .bool false, .int .i64 0, .int .i64 0, .int .i64 0, .int .i64 0, .int .i64 0] a18 fun X19 =>
 .callv (.func (.func 78) [] []) [.str [60], .int .i64 4, .int .i64 5, .int .i64 5] fun a20 =>
 .asG [.int .u8 0, .str [], .bool false, .int .i64 0, .int .i64 0, .int .i64 0, .int .i64 0, .int .i64 0] a20 fun X21 =>
 .callv (.func (.func 78) [] []) [.str [61], .int .i64 4, .int .i64 5, .int .i64 5] fun a22 =>
 .asG [.int .u8 0, .str [], .bool false, .int .i64 0, .int .i64 0, .int .i64 0, .int .i64 0, .int .i64 0] a22 fun X23 =>
 .callv (.func (.func 78) [] []) [.str [97, 110, 100], .int .i64 2, .int .i64 2, .int .i64 3] fun a24 =>
 .asG [.int .u8 0, .str [], .bool false, .int .i64 0, .int .i64 0, .int .i64 0, .int .i64 0, .int .i64 0] a24 fun X25 =>
 .callv (.func (.func 78) [] []) [.str [111, 114], .int .i64 1, .int .i64 1, .int .i64 2] fun a26 =>
 .asG [.int .u8 0, .str [], .bool false, .int .i64 0, .int .i64 0, .int .i64 0, .int .i64 0, .int .i64 0] a26 fun X27 =>
 .ite true (.callv (.func (.func 76) [] []) [.str [105, 102], .bool false, .int .i64 3, .int .i64 3] fun a28 =>
 .asG [.int .u8 0, .str [], .bool false, .int .i64 0, .int .i64 0, .int .i64 0, .int .i64 0, .int .i64 0] a28 fun X29 =>
 .callv (.func (.func 76) [] []) [.str [114, 111, 117, 110, 100], .bool false, .int .i64 2, .int .i64 2] fun a30 =>
 .asG [.int .u8 0, .str [], .bool false, .int .i64 0, .int .i64 0, .int .i64 0, .int .i64 0, .int .i64 0] a30 fun X31 =>
 .callv (.func (.func 76) [] []) [.str [98, 101, 116, 119, 101, 101, 110], .bool false, .int .i64 2, .int .i64 2] fun a32 =>
 .asG [.int .u8 0, .str [], .bool false, .int .i64 0, .int .i64 0, .int .i64 0, .int .i64 0, .int .i64 0] a32 fun X33 =>
 .callv (.func (.func 76) [] []) [.str [115, 101, 114, 118, 105, 99, 101], .bool true, .int .i64 2, .int .i64 2] fun a34 =>
 .asG [.int .u8 0, .str [], .bool false, .int .i64 0, .int .i64 0, .int .i64 0, .int .i64 0, .int .i64 0] a34 fun X35 =>
 .callv (.func (.func 76) [] []) [.str [98, 101, 115, 116], .bool true, .int .i64 3, .int .i64 3] fun a36 =>
 .asG [.int .u8 0, .str [], .bool false, .int .i64 0, .int .i64 0, .int .i64 0, .int .i64 0, .int .i64 0] a36 fun X37 =>
 .callv (.func (.func 76) [] []) [.str [103, 114, 111, 119], .bool true, .int .i64 2, .int .i64 2] fun a38 =>
 .asG [.int .u8 0, .str [], .bool false, .int .i64 0, .int .i64 0, .int .i64 0, .int .i64 0, .int .i64 0] a38 fun X39 =>
 .callv (.func (.func 76) [] []) [.str [109, 111, 110, 116, 104, 115], .bool false, .int .i64 1, .int .i64 1] fun a40 =>
 .asG [.int .u8 0, .str [], .bool false, .int .i64 0, .int .i64 0, .int .i64 0, .int .i64 0, .int .i64 0] a40 fun X41 =>
 .callv (.func (.func 76) [] []) [.str [110, 117, 109, 98, 101, 114], .bool false, .int .i64 1, .int .i64 1] fun a42 =>
 .asG [.int .u8 0, .str [], .bool false, .int .i64 0, .int .i64 0, .int .i64 0, .int .i64 0, .int .i64 0] a42 fun X43 =>
 .callv (.func (.func 76) [] []) [.str [115, 116, 97, 114, 116], .bool false, .int .i64 1, .int .i64 1] fun a44 =>
 .asG [.int .u8 0, .str [], .bool false, .int .i64 0, .int .i64 0, .int .i64 0, .int .i64 0, .int .i64 0] a44 fun X45 =>
 .ite true (.heavy (z0e (.agg [.int .u8 0, .str [], .bool false, .int .i64 0, .int .i64 0, .int .i64 0, .int .i64 0, .int .i64 0, .int .u8 1, .str [], .bool false, .int .i64 0, .int .i64 0, .int .i64 7, .int .i64 0, .int .i64 0, .int .u8 2, .str [116, 111, 100, 97, 121], .bool false, .int .i64 0, .int .i64 0, .int .i64 7, .int .i64 0, .int .i64 0, (.int .u8 (X1.i 0)), (.str (X1.s 1)), (.bool (X1.b 2)), (.int .i64 (X1.i 3)), (.int .i64 (X1.i 4)), (.int .i64 (X1.i 5)), (.int .i64 (X1.i 6)), (.int .i64 (X1.i 7)), (.int .u8 (X3.i 0)), (.str (X3.s 1)), (.bool (X3.b 2)), (.int .i64 (X3.i 3)), (.int .i64 (X3.i 4)), (.int .i64 (X3.i 5)), (.int .i64 (X3.i 6)), (.int .i64 (X3.i 7)), (.int .u8 (X5.i 0)), (.str (X5.s 1)), (.bool (X5.b 2)), (.int .i64 (X5.i 3)), (.int .i64 (X5.i 4)), (.int .i64 (X5.i 5)), (.int .i64 (X5.i 6)), (.int .i64 (X5.i 7)), (.int .u8 (X7.i 0)), (.str (X7.s 1)), (.bool (X7.b 2)), (.int .i64 (X7.i 3)), (.int .i64 (X7.i 4)), (.int .i64 (X7.i 5)), (.int .i64 (X7.i 6)), (.int .i64 (X7.i 7)), (.int .u8 (X9.i 0)), (.str (X9.s 1)), (.bool (X9.b 2)), (.int .i64 (X9.i 3)), (.int .i64 (X9.i 4)), (.int .i64 (X9.i 5)), (.int .i64 (X9.i 6)), (.int .i64 (X9.i 7)), (.int .u8 (X11.i 0)), (.str (X11.s 1)), (.bool (X11.b 2)), (.int .i64 (X11.i 3)), (.int .i64 (X11.i 4)), (.int .i64 (X11.i 5)), (.int .i64 (X11.i 6)), (.int .i64 (X11.i 7)), (.int .u8 (X13.i 0)), (.str (X13.s 1)), (.bool (X13.b 2)), (.int .i64 (X13.i 3)), (.int .i64 (X13.i 4)), (.int .i64 (X13.i 5)), (.int .i64 (X13.i 6)), (.int .i64 (X13.i 7)), (.int .u8 (X15.i 0)), (.str (X15.s 1)), (.bool (X15.b 2)), (.int .i64 (X15.i 3)), (.int .i64 (X15.i 4)), (.int .i64 (X15.i 5)), (.int .i64 (X15.i 6)), (.int .i64 (X15.i 7)), (.int .u8 (X17.i 0)), (.str (X17.s 1)), (.bool (X17.b 2)), (.int .i64 (X17.i 3)), (.int .i64 (X17.i 4)), (.int .i64 (X17.i 5)), (.int .i64 (X17.i 6)), (.int .i64 (X17.i 7)), (.int .u8 (X19.i 0)), (.str (X19.s 1)), (.bool (X19.b 2)), (.int .i64 (X19.i 3)), (.int .i64 (X19.i 4)), (.int .i64 (X19.i 5)), (.int .i64 (X19.i 6)), (.int .i64 (X19.i 7)), (.int .u8 (X21.i 0)), (.str (X21.s 1)), (.bool (X21.b 2)), (.int .i64 (X21.i 3)), (.int .i64 (X21.i 4)), (.int .i64 (X21.i 5)), (.int .i64 (X21.i 6)), (.int .i64 (X21.i 7)), (.int .u8 (X23.i 0)), (.str (X23.s 1)), (.bool (X23.b 2)), (.int .i64 (X23.i 3)), (.int .i64 (X23.i 4)), (.int .i64 (X23.i 5)), (.int .i64 (X23.i 6)), (.int .i64 (X23.i 7)), (.int .u8 (X25.i 0)), (.str (X25.s 1)), (.bool (X25.b 2)), (.int .i64 (X25.i 3)), (.int .i64 (X25.i 4)), (.int .i64 (X25.i 5)), (.int .i64 (X25.i 6)), (.int .i64 (X25.i 7)), (.int .u8 (X27.i 0)), (.str (X27.s 1)), (.bool (X27.b 2)), (.int .i64 (X27.i 3)), (.int .i64 (X27.i 4)), (.int .i64 (X27.i 5)), (.int .i64 (X27.i 6)), (.int .i64 (X27.i 7)), .int .u8 5, .str [110, 111, 116, 32], .bool false, .int .i64 1, .int .i64 1, .int .i64 3, .int .i64 3, .int .i64 3, (.int .u8 (X29.i 0)), (.str (X29.s 1)), (.bool (X29.b 2)), (.int .i64 (X29.i 3)), (.int .i64 (X29.i 4)), (.int .i64 (X29.i 5)), (.int .i64 (X29.i 6)), (.int .i64 (X29.i 7)), (.int .u8 (X31.i 0)), (.str (X31.s 1)), (.bool (X31.b 2)), (.int .i64 (X31.i 3)), (.int .i64 (X31.i 4)), (.int .i64 (X31.i 5)), (.int .i64 (X31.i 6)), (.int .i64 (X31.i 7)), (.int .u8 (X33.i 0)), (.str (X33.s 1)), (.bool (X33.b 2)), (.int .i64 (X33.i 3)), (.int .i64 (X33.i 4)), (.int .i64 (X33.i 5)), (.int .i64 (X33.i 6)), (.int .i64 (X33.i 7)), (.int .u8 (X35.i 0)), (.str (X35.s 1)), (.bool (X35.b 2)), (.int .i64 (X35.i 3)), (.int .i64 (X35.i 4)), (.int .i64 (X35.i 5)), (.int .i64 (X35.i 6)), (.int .i64 (X35.i 7)), (.int .u8 (X37.i 0)), (.str (X37.s 1)), (.bool (X37.b 2)), (.int .i64 (X37.i 3)), (.int .i64 (X37.i 4)), (.int .i64 (X37.i 5)), (.int .i64 (X37.i 6)), (.int .i64 (X37.i 7)), (.int .u8 (X39.i 0)), (.str (X39.s 1)), (.bool (X39.b 2)), (.int .i64 (X39.i 3)), (.int .i64 (X39.i 4)), (.int .i64 (X39.i 5)), (.int .i64 (X39.i 6)), (.int .i64 (X39.i 7)), (.int .u8 (X41.i 0)), (.str (X41.s 1)), (.bool (X41.b 2)), (.int .i64 (X41.i 3)), (.int .i64 (X41.i 4)), (.int .i64 (X41.i 5)), (.int .i64 (X41.i 6)), (.int .i64 (X41.i 7)), (.int .u8 (X43.i 0)), (.str (X43.s 1)), (.bool (X43.b 2)), (.int .i64 (X43.i 3)), (.int .i64 (X43.i 4)), (.int .i64 (X43.i 5)), (.int .i64 (X43.i 6)), (.int .i64 (X43.i 7)), (.int .u8 (X45.i 0)), (.str (X45.s 1)), (.bool (X45.b 2)), (.int .i64 (X45.i 3)), (.int .i64 (X45.i 4)), (.int .i64 (X45.i 5)), (.int .i64 (X45.i 6)), (.int .i64 (X45.i 7))])) fun a46 =>
 .ret a46) .fail) .fail) .fail) .fail
theorem w37  {m : Tr zak} {Q : zao} (h : wp 37 (t37 ) m Q) : Wf 37 [] m Q := zbd ok37 (by kernel_rfl) (eqT (by kernel_rfl) h)
def t38 (p0 : List Nat) : T :=
 .ite (zes p0 [])
 (.ret (.bool false))
 (.ite (iLt 24 (Int.ofNat (zbw p0)))
 (.ret (.bool false))
 (.opt (zmb C13 9 (.str p0) (.int .i64 0)) fun a0 => .asI .u8 a0 fun n1 => .call 79 [.int .u8 n1] fun a2 =>
 .asB a2 fun b3 => .ite (!b3)
 (.ret (.bool false))
 (.call 80 [.str p0, (.func (.func 81) [] [])] fun a4 =>
 .asS a4 fun s5 => .ite (zes s5 p0)
 (.call 82 [.str p0] fun a6 =>
 .asB a6 fun b7 => .ret (.bool (!b7)))
 (.ret (.bool false)))))
theorem w38 (p0 : List Nat) {m : Tr zak} {Q : zao} (h : wp 38 (t38 p0) m Q) : Wf 38 [.str p0] m Q := zbd ok38 (by kernel_rfl) (eqT (by kernel_rfl) h)
def t39 (p0_0 : Int) (p0_1 : Bool) (p0_2 : zab) (p0_3 : Bool) (p0_4 : zab) (p0_5 : Int) : T :=
 .ite (iEq p0_0 0)
 (.ite (iEq p0_5 0)
 (.call 54 [.agg [.bool p0_1, p0_2, .bool p0_3, p0_4]] fun a0 =>
 .asB a0 fun b1 => .ret (.bool b1))
 (.ret (.bool false)))
 (.ret (.bool false))
theorem w39 (p0_0 : Int) (p0_1 : Bool) (p0_2 : zab) (p0_3 : Bool) (p0_4 : zab) (p0_5 : Int) {m : Tr zak} {Q : zao} (h : wp 39 (t39 p0_0 p0_1 p0_2 p0_3 p0_4 p0_5) m Q) : Wf 39 [.agg [.int .u8 p0_0, .bool p0_1, p0_2, .bool p0_3, p0_4, .int .i64 p0_5]] m Q := zbd ok39 (by kernel_rfl) (eqT (by kernel_rfl) h)
def t42 (p0 w0 : zab) : T :=
 .opt (za4 C13 46 0 w0) fun a0 => .light (fun m => zau C13 9 ⟨0, m⟩ a0) fun a1 => .asS a1 fun s2 => .opt (zvt [112, 108, 97, 110, 32] s2) fun a3 => .asS a3 fun s4 => .callv p0 [.str s4] fun a5 =>
 .asB a5 fun b6 => .ite (!b6)
 (.ret (.tup []))
 (.opt (za4 C13 46 1 w0) fun a7 => .light (fun m => zau C13 43 ⟨0, m⟩ a7) fun a8 => .opt (zbm a8) fun a9 => .asI .i64 a9 fun n10 => .jump 2 [p0, w0, a8, .int .i64 n10, .int .i64 0])
theorem w42 (p0 w0 : zab) {m : Tr zak} {Q : zao} (h : wp 42 (t42 p0 w0) m Q) : Wf 42 [p0, w0] m Q := zbd ok42 (by kernel_rfl) (eqT (by kernel_rfl) h)
def t42_2 (v0 v1 v20 : zab) (v21 v22 : Int) : T :=
 .ite (iLt v22 v21)
 (.opt (zah C13 43 v20 (.int .i64 v22)) fun a0 => .light (fun m => zau C13 114 ⟨0, m⟩ a0) fun a1 => .asG [.str [], .int .u8 0, .bool false] a1 fun X2 =>
 .ite true (.ite (X2.b 2)
 (.jump 15 [v0, v1, .str [102, 97, 99, 116, 32], v20, .int .i64 v21, .int .i64 v22, (.str (X2.s 0)), (.int .u8 (X2.i 1)), (.bool (X2.b 2))])
 (.jump 15 [v0, v1, .str [100, 101, 102, 32], v20, .int .i64 v21, .int .i64 v22, (.str (X2.s 0)), (.int .u8 (X2.i 1)), (.bool (X2.b 2))])) .fail)
 (.opt (za4 C13 46 2 v1) fun a3 => .light (fun m => zau C13 44 ⟨0, m⟩ a3) fun a4 => .opt (zbm a4) fun a5 => .asI .i64 a5 fun n6 => .jump 6 [v0, v1, a4, .int .i64 n6, .int .i64 0])
theorem j42_2 (v0 v1 v20 : zab) (v21 v22 : Int) {m : Tr zak} {Q : zao} (h : wp 42 (t42_2 v0 v1 v20 v21 v22) m Q) : jp 42 2 [v0, v1, v20, .int .i64 v21, .int .i64 v22] m Q := zbr ok42 (by kernel_rfl) h
def zziw (v0 v1 v42 : zab) (v43 v44 : Int) : T :=
 .ite (iLt v44 v43)
 (.opt (zah C13 44 v42 (.int .i64 v44)) fun a0 => .light (fun m => zau C13 53 ⟨0, m⟩ a0) fun a1 => .asG [.str [], .bool false, .nilslice] a1 fun X2 =>
 .ite (zd9 zab.one [(.str (X2.s 0)), (.bool (X2.b 1)), (X2.v 2)]) (.ite (X2.b 1)
 (.jump 31 [v0, v1, .str [32, 116, 119, 111], v42, .int .i64 v43, .int .i64 v44, (.str (X2.s 0)), (.bool (X2.b 1)), (X2.v 2)])
 (.jump 31 [v0, v1, .str [32, 111, 110, 101], v42, .int .i64 v43, .int .i64 v44, (.str (X2.s 0)), (.bool (X2.b 1)), (X2.v 2)])) .fail)
 (.opt (za4 C13 46 3 v1) fun a3 => .light (fun m => zau C13 42 ⟨0, m⟩ a3) fun a4 => .opt (zbm a4) fun a5 => .asI .i64 a5 fun n6 => .jump 14 [v0, a4, .int .i64 n6, .int .i64 0])
theorem j42_6 (v0 v1 v42 : zab) (v43 v44 : Int) {m : Tr zak} {Q : zao} (h : wp 42 (zziw v0 v1 v42 v43 v44) m Q) : jp 42 6 [v0, v1, v42, .int .i64 v43, .int .i64 v44] m Q := zbr ok42 (by kernel_rfl) h
def zzgz (v0 v1 : zab) (v8 : List Nat) (v42 : zab) (v43 v44 : Int) (c7_0 : List Nat) (c7_1 : Bool) (c7_2 : zab) : T :=
 .opt (zvt [116, 97, 98, 108, 101, 32] c7_0) fun a0 => .asS a0 fun s1 => .opt (zvt s1 v8) fun a2 => .asS a2 fun s3 => .callv v0 [.str s3] fun a4 =>
 .asB a4 fun b5 => .ite (!b5)
 (.ret (.tup []))
 (.opt (zbm c7_2) fun a6 => .asI .i64 a6 fun n7 => .jump 10 [v0, v1, v42, .int .i64 v43, .int .i64 v44, c7_2, .int .i64 n7, .int .i64 0, .str c7_0, .bool c7_1, c7_2])
theorem j42_31 (v0 v1 : zab) (v8 : List Nat) (v42 : zab) (v43 v44 : Int) (c7_0 : List Nat) (c7_1 : Bool) (c7_2 : zab) {m : Tr zak} {Q : zao} (h : wp 42 (zzgz v0 v1 v8 v42 v43 v44 c7_0 c7_1 c7_2) m Q) : jp 42 31 [v0, v1, .str v8, v42, .int .i64 v43, .int .i64 v44, .str c7_0, .bool c7_1, c7_2] m Q := zbr ok42 (by kernel_rfl) h
def z8n (v0 v1 v42 : zab) (v43 v44 : Int) (v59 : zab) (v60 v61 : Int) (c7_0 : List Nat) (c7_1 : Bool) (c7_2 : zab) : T :=
 .ite (iLt v61 v60)
 (.opt (zah C13 51 v59 (.int .i64 v61)) fun a0 => .light (fun m => zau C13 55 ⟨0, m⟩ a0) fun a1 => .asG [.int .i64 0, .int .i64 0, .int .i64 0, .bool false, .nilslice, .bool false, .nilslice] a1 fun X2 =>
 .ite (zd9 zab.one [(.int .i64 (X2.i 0)), (.int .i64 (X2.i 1)), (.int .i64 (X2.i 2)), (.bool (X2.b 3)), (X2.v 4), (.bool (X2.b 5)), (X2.v 6)]) (.call 44 [(.agg [(.int .i64 (X2.i 0)), (.int .i64 (X2.i 1)), (.int .i64 (X2.i 2)), (.bool (X2.b 3)), (X2.v 4), (.bool (X2.b 5)), (X2.v 6)]), .bool c7_1] fun a3 =>
 .asS a3 fun s4 => .callv v0 [.str s4] fun a5 =>
 .asB a5 fun b6 => .ite (!b6)
 (.ret (.tup []))
 (.jump 10 [v0, v1, v42, .int .i64 v43, .int .i64 v44, v59, .int .i64 v60, (.int .i64 (zag .i64 (v61 + 1))), .str c7_0, .bool c7_1, c7_2])) .fail)
 (.jump 6 [v0, v1, v42, .int .i64 v43, (.int .i64 (zag .i64 (v44 + 1)))])
theorem zzhl (v0 v1 v42 : zab) (v43 v44 : Int) (v59 : zab) (v60 v61 : Int) (c7_0 : List Nat) (c7_1 : Bool) (c7_2 : zab) {m : Tr zak} {Q : zao} (h : wp 42 (z8n v0 v1 v42 v43 v44 v59 v60 v61 c7_0 c7_1 c7_2) m Q) : jp 42 10 [v0, v1, v42, .int .i64 v43, .int .i64 v44, v59, .int .i64 v60, .int .i64 v61, .str c7_0, .bool c7_1, c7_2] m Q := zbr ok42 (by kernel_rfl) h
def zzg0 (v0 v75 : zab) (v76 v77 : Int) : T :=
 .ite (iLt v77 v76)
 (.opt (zah C13 42 v75 (.int .i64 v77)) fun a0 => .light (fun m => zau C13 41 ⟨0, m⟩ a0) fun a1 => .asG [.str [], .str [], .int .i64 0, .int .i64 0, .int .i64 0, .bool false, .int .u8 0, .str [], .int .u8 0, .bool false, .nilslice, .bool false, .nilslice, .int .i64 0, .nilslice, .int .u8 0, .str [], .int .u8 0, .bool false, .nilslice, .bool false, .nilslice, .int .i64 0, .nilslice] a1 fun X2 =>
 .ite (zd9 zab.one [(.str (X2.s 0)), (.str (X2.s 1)), (.int .i64 (X2.i 2)), (.int .i64 (X2.i 3)), (.int .i64 (X2.i 4)), (.bool (X2.b 5)), (.int .u8 (X2.i 6)), (.str (X2.s 7)), (.int .u8 (X2.i 8)), (.bool (X2.b 9)), (X2.v 10), (.bool (X2.b 11)), (X2.v 12), (.int .i64 (X2.i 13)), (X2.v 14), (.int .u8 (X2.i 15)), (.str (X2.s 16)), (.int .u8 (X2.i 17)), (.bool (X2.b 18)), (X2.v 19), (.bool (X2.b 20)), (X2.v 21), (.int .i64 (X2.i 22)), (X2.v 23)]) (.call 45 [(.agg [(.str (X2.s 0)), (.str (X2.s 1)), (.int .i64 (X2.i 2)), (.int .i64 (X2.i 3)), (.int .i64 (X2.i 4)), (.bool (X2.b 5)), (.int .u8 (X2.i 6)), (.str (X2.s 7)), (.int .u8 (X2.i 8)), (.bool (X2.b 9)), (X2.v 10), (.bool (X2.b 11)), (X2.v 12), (.int .i64 (X2.i 13)), (X2.v 14), (.int .u8 (X2.i 15)), (.str (X2.s 16)), (.int .u8 (X2.i 17)), (.bool (X2.b 18)), (X2.v 19), (.bool (X2.b 20)), (X2.v 21), (.int .i64 (X2.i 22)), (X2.v 23)])] fun a3 =>
 .asS a3 fun s4 => .callv v0 [.str s4] fun a5 =>
 .asB a5 fun b6 => .ite (!b6)
 (.ret (.tup []))
 (.jump 14 [v0, v75, .int .i64 v76, (.int .i64 (zag .i64 (v77 + 1)))])) .fail)
 (.ret (.tup []))
theorem j42_14 (v0 v75 : zab) (v76 v77 : Int) {m : Tr zak} {Q : zao} (h : wp 42 (zzg0 v0 v75 v76 v77) m Q) : jp 42 14 [v0, v75, .int .i64 v76, .int .i64 v77] m Q := zbr ok42 (by kernel_rfl) h
def t44 (p0_0 p0_1 p0_2 : Int) (p0_3 : Bool) (p0_4 : zab) (p0_5 : Bool) (p0_6 : zab) (p1 : Bool) : T :=
 .call 59 [.int .i64 p0_0] fun a0 =>
 .asS a0 fun s1 => .ite p1
 (.call 59 [.int .i64 p0_1] fun a2 =>
 .asS a2 fun s3 => .opt (zvt [32] s3) fun a4 => .asS a4 fun s5 => .opt (zvt s1 s5) fun a6 => .asS a6 fun s7 => .jump 9 [.str s7, .int .i64 p0_0, .int .i64 p0_1, .int .i64 p0_2, .bool p0_3, p0_4, .bool p0_5, p0_6])
 (.jump 9 [.str s1, .int .i64 p0_0, .int .i64 p0_1, .int .i64 p0_2, .bool p0_3, p0_4, .bool p0_5, p0_6])
theorem w44 (p0_0 p0_1 p0_2 : Int) (p0_3 : Bool) (p0_4 : zab) (p0_5 : Bool) (p0_6 : zab) (p1 : Bool) {m : Tr zak} {Q : zao} (h : wp 44 (t44 p0_0 p0_1 p0_2 p0_3 p0_4 p0_5 p0_6 p1) m Q) : Wf 44 [.agg [.int .i64 p0_0, .int .i64 p0_1, .int .i64 p0_2, .bool p0_3, p0_4, .bool p0_5, p0_6], .bool p1] m Q := zbd ok44 (by kernel_rfl) (eqT (by kernel_rfl) h)
def t44_9 (v5 : List Nat) (c2_0 c2_1 c2_2 : Int) (c2_3 : Bool) (c2_4 : zab) (c2_5 : Bool) (c2_6 : zab) : T :=
 .opt (zvt [114, 111, 119, 32] v5) fun a0 => .asS a0 fun s1 => .opt (zvt s1 [32, 107, 110, 111, 119, 110, 32]) fun a2 => .asS a2 fun s3 => .call 58 [.int .i64 c2_2] fun a4 =>
 .asS a4 fun s5 => .ite (same 10 (.agg [.bool c2_3, c2_4, .bool c2_5, c2_6]) (.agg [.bool c2_3, c2_4, .bool c2_5, c2_6])) (.opt (zvt s3 s5) fun a6 => .asS a6 fun s7 => .opt (zvt s7 [32, 105, 115, 32]) fun a8 => .asS a8 fun s9 => .call 57 [.agg [.bool c2_3, c2_4, .bool c2_5, c2_6]] fun a10 =>
 .asS a10 fun s11 => .opt (zvt s9 s11) fun a12 => .asS a12 fun s13 => .ret (.str s13)) .fail
theorem j44_9 (v5 : List Nat) (c2_0 c2_1 c2_2 : Int) (c2_3 : Bool) (c2_4 : zab) (c2_5 : Bool) (c2_6 : zab) {m : Tr zak} {Q : zao} (h : wp 44 (t44_9 v5 c2_0 c2_1 c2_2 c2_3 c2_4 c2_5 c2_6) m Q) : jp 44 9 [.str v5, .int .i64 c2_0, .int .i64 c2_1, .int .i64 c2_2, .bool c2_3, c2_4, .bool c2_5, c2_6] m Q := zbr ok44 (by kernel_rfl) h
def t47 (p0_0 : List Nat) (p0_1 : Int) (p0_2 : Bool) : T :=
 .call 38 [.str p0_0] fun a0 =>
 .asB a0 fun b1 => .ite b1
 (.ite (iLe 1 p0_1)
 (.ret (.bool (iLe p0_1 6)))
 (.ret (.bool false)))
 (.ret (.bool false))
theorem w47 (p0_0 : List Nat) (p0_1 : Int) (p0_2 : Bool) {m : Tr zak} {Q : zao} (h : wp 47 (t47 p0_0 p0_1 p0_2) m Q) : Wf 47 [.agg [.str p0_0, .int .u8 p0_1, .bool p0_2]] m Q := zbd ok47 (by kernel_rfl) (eqT (by kernel_rfl) h)
def t48 (p0 p1 : zab) : T :=
 .opt (zbm p0) fun a0 => .asI .i64 a0 fun n1 => .jump 2 [p1, p0, .int .i64 n1, .int .i64 0]
theorem w48 (p0 p1 : zab) {m : Tr zak} {Q : zao} (h : wp 48 (t48 p0 p1) m Q) : Wf 48 [p0, p1] m Q := zbd ok48 (by kernel_rfl) (eqT (by kernel_rfl) h)
def t48_2 (v1 v7 : zab) (v8 v9 : Int) : T :=
 .ite (iLt v9 v8)
 (.opt (zah C13 43 v7 (.int .i64 v9)) fun a0 => .light (fun m => zau C13 114 ⟨0, m⟩ a0) fun a1 => .asG [.str [], .int .u8 0, .bool false] a1 fun X2 =>
 .ite true (.callv v1 [(.agg [(.str (X2.s 0)), (.int .u8 (X2.i 1)), (.bool (X2.b 2))])] fun a3 =>
 .asB a3 fun b4 => .ite (!b4)
 (.ret (.bool false))
 (.jump 2 [v1, v7, .int .i64 v8, (.int .i64 (zag .i64 (v9 + 1)))])) .fail)
 (.ret (.bool true))
theorem j48_2 (v1 v7 : zab) (v8 v9 : Int) {m : Tr zak} {Q : zao} (h : wp 48 (t48_2 v1 v7 v8 v9) m Q) : jp 48 2 [v1, v7, .int .i64 v8, .int .i64 v9] m Q := zbr ok48 (by kernel_rfl) h
def t49 (p0 p1 : zab) : T :=
 .opt (zbm p0) fun a0 => .asI .i64 a0 fun n1 => .jump 2 [p1, p0, .int .i64 n1, .int .i64 0]
theorem w49 (p0 p1 : zab) {m : Tr zak} {Q : zao} (h : wp 49 (t49 p0 p1) m Q) : Wf 49 [p0, p1] m Q := zbd ok49 (by kernel_rfl) (eqT (by kernel_rfl) h)
def t49_2 (v1 v7 : zab) (v8 v9 : Int) : T :=
 .ite (iLt v9 v8)
 (.opt (zah C13 44 v7 (.int .i64 v9)) fun a0 => .light (fun m => zau C13 53 ⟨0, m⟩ a0) fun a1 => .asG [.str [], .bool false, .nilslice] a1 fun X2 =>
 .ite (zd9 zab.one [(.str (X2.s 0)), (.bool (X2.b 1)), (X2.v 2)]) (.callv v1 [(.agg [(.str (X2.s 0)), (.bool (X2.b 1)), (X2.v 2)])] fun a3 =>
 .asB a3 fun b4 => .ite (!b4)
 (.ret (.bool false))
 (.jump 2 [v1, v7, .int .i64 v8, (.int .i64 (zag .i64 (v9 + 1)))])) .fail)
 (.ret (.bool true))
theorem j49_2 (v1 v7 : zab) (v8 v9 : Int) {m : Tr zak} {Q : zao} (h : wp 49 (t49_2 v1 v7 v8 v9) m Q) : jp 49 2 [v1, v7, .int .i64 v8, .int .i64 v9] m Q := zbr ok49 (by kernel_rfl) h
def t50 (p0_0 : List Nat) (p0_1 : Bool) (p0_2 : zab) : T :=
 .heavy (z0e (.agg [.str p0_0, .bool p0_1, p0_2])) fun a0 =>
 .heavy (zjq C13 59) fun a1 =>
 .heavy (zbl C13 59 a1 (.func (.func 87) [] [])) fun _ =>
 .opt (za4 C13 53 0 a0) fun a2 => .light (fun m => zau C13 9 ⟨0, m⟩ a2) fun a3 => .asS a3 fun s4 => .call 38 [.str s4] fun a5 =>
 .asB a5 fun b6 => .ite b6
 (.opt (za4 C13 53 2 a0) fun a7 => .light (fun m => zau C13 51 ⟨0, m⟩ a7) fun a8 => .call 89 [a8, (.func (.func 88) [] [a1, a0])] fun a9 =>
 .asB a9 fun b10 => .ret (.bool b10))
 (.ret (.bool false))
theorem w50 (p0_0 : List Nat) (p0_1 : Bool) (p0_2 : zab) {m : Tr zak} {Q : zao} (h : wp 50 (t50 p0_0 p0_1 p0_2) m Q) : Wf 50 [.agg [.str p0_0, .bool p0_1, p0_2]] m Q := zbd ok50 (by kernel_rfl) (eqT (by kernel_rfl) h)
def t51 (p0 p1 : zab) : T :=
 .opt (zbm p0) fun a0 => .asI .i64 a0 fun n1 => .jump 2 [p1, p0, .int .i64 n1, .int .i64 0]
theorem w51 (p0 p1 : zab) {m : Tr zak} {Q : zao} (h : wp 51 (t51 p0 p1) m Q) : Wf 51 [p0, p1] m Q := zbd ok51 (by kernel_rfl) (eqT (by kernel_rfl) h)
def t51_2 (v1 v7 : zab) (v8 v9 : Int) : T :=
 .ite (iLt v9 v8)
 (.opt (zah C13 42 v7 (.int .i64 v9)) fun a0 => .light (fun m => zau C13 41 ⟨0, m⟩ a0) fun a1 => .asG [.str [], .str [], .int .i64 0, .int .i64 0, .int .i64 0, .bool false, .int .u8 0, .str [], .int .u8 0, .bool false, .nilslice, .bool false, .nilslice, .int .i64 0, .nilslice, .int .u8 0, .str [], .int .u8 0, .bool false, .nilslice, .bool false, .nilslice, .int .i64 0, .nilslice] a1 fun X2 =>
 .ite (zd9 zab.one [(.str (X2.s 0)), (.str (X2.s 1)), (.int .i64 (X2.i 2)), (.int .i64 (X2.i 3)), (.int .i64 (X2.i 4)), (.bool (X2.b 5)), (.int .u8 (X2.i 6)), (.str (X2.s 7)), (.int .u8 (X2.i 8)), (.bool (X2.b 9)), (X2.v 10), (.bool (X2.b 11)), (X2.v 12), (.int .i64 (X2.i 13)), (X2.v 14), (.int .u8 (X2.i 15)), (.str (X2.s 16)), (.int .u8 (X2.i 17)), (.bool (X2.b 18)), (X2.v 19), (.bool (X2.b 20)), (X2.v 21), (.int .i64 (X2.i 22)), (X2.v 23)]) (.callv v1 [(.agg [(.str (X2.s 0)), (.str (X2.s 1)), (.int .i64 (X2.i 2)), (.int .i64 (X2.i 3)), (.int .i64 (X2.i 4)), (.bool (X2.b 5)), (.int .u8 (X2.i 6)), (.str (X2.s 7)), (.int .u8 (X2.i 8)), (.bool (X2.b 9)), (X2.v 10), (.bool (X2.b 11)), (X2.v 12), (.int .i64 (X2.i 13)), (X2.v 14), (.int .u8 (X2.i 15)), (.str (X2.s 16)), (.int .u8 (X2.i 17)), (.bool (X2.b 18)), (X2.v 19), (.bool (X2.b 20)), (X2.v 21), (.int .i64 (X2.i 22)), (X2.v 23)])] fun a3 =>
 .asB a3 fun b4 => .ite (!b4)
 (.ret (.bool false))
 (.jump 2 [v1, v7, .int .i64 v8, (.int .i64 (zag .i64 (v9 + 1)))])) .fail)
 (.ret (.bool true))
theorem j51_2 (v1 v7 : zab) (v8 v9 : Int) {m : Tr zak} {Q : zao} (h : wp 51 (t51_2 v1 v7 v8 v9) m Q) : jp 51 2 [v1, v7, .int .i64 v8, .int .i64 v9] m Q := zbr ok51 (by kernel_rfl) h
def t52 (p0_0 : zab) (p1_0 p1_1 : List Nat) (p1_2 p1_3 p1_4 : Int) (p1_5 : Bool) (p1_6 : Int) (p1_7 : List Nat) (p1_8 : Int) (p1_9 : Bool) (p1_10 : zab) (p1_11 : Bool) (p1_12 : zab) (p1_13 : Int) (p1_14 : zab) (p1_15 : Int) (p1_16 : List Nat) (p1_17 : Int) (p1_18 : Bool) (p1_19 : zab) (p1_20 : Bool) (p1_21 : zab) (p1_22 : Int) (p1_23 : zab) : T :=
 .call 38 [.str p1_0] fun a0 =>
 .asB a0 fun b1 => .ite (!b1)
 (.ret (.bool false))
 (.call 38 [.str p1_1] fun a2 =>
 .asB a2 fun b3 => .ite (!b3)
 (.ret (.bool false))
 (.call 55 [.int .i64 p1_2] fun a4 =>
 .asB a4 fun b5 => .ite (!b5)
 (.ret (.bool false))
 (.call 55 [.int .i64 p1_4] fun a6 =>
 .asB a6 fun b7 => .ite (!b7)
 (.ret (.bool false))
 (.call 55 [.int .i64 p1_3] fun a8 =>
 .asB a8 fun b9 => .ite (!b9)
 (.ite (!iEq p1_3 65536)
 (.ret (.bool false))
 (.ite p1_5
 (.call 90 [.agg [.int .u8 p1_6, .str p1_7, .int .u8 p1_8, .bool p1_9, p1_10, .bool p1_11, p1_12, .int .i64 p1_13, p1_14]] fun a10 =>
 .asB a10 fun b11 => .ite b11
 (.call 90 [.agg [.int .u8 p1_15, .str p1_16, .int .u8 p1_17, .bool p1_18, p1_19, .bool p1_20, p1_21, .int .i64 p1_22, p1_23]] fun a12 =>
 .asB a12 fun b13 => .ret (.bool b13))
 (.ret (.bool false)))
 (.call 18 [.agg [p0_0], .agg [.int .u8 p1_6, .str p1_7, .int .u8 p1_8, .bool p1_9, p1_10, .bool p1_11, p1_12, .int .i64 p1_13, p1_14], .int .i64 1] fun a14 =>
 .asB a14 fun b15 => .ite b15
 (.call 18 [.agg [p0_0], .agg [.int .u8 p1_15, .str p1_16, .int .u8 p1_17, .bool p1_18, p1_19, .bool p1_20, p1_21, .int .i64 p1_22, p1_23], .int .i64 1] fun a16 =>
 .asB a16 fun b17 => .ret (.bool b17))
 (.ret (.bool false)))))
 (.ite p1_5
 (.call 90 [.agg [.int .u8 p1_6, .str p1_7, .int .u8 p1_8, .bool p1_9, p1_10, .bool p1_11, p1_12, .int .i64 p1_13, p1_14]] fun a18 =>
 .asB a18 fun b19 => .ite b19
 (.call 90 [.agg [.int .u8 p1_15, .str p1_16, .int .u8 p1_17, .bool p1_18, p1_19, .bool p1_20, p1_21, .int .i64 p1_22, p1_23]] fun a20 =>
 .asB a20 fun b21 => .ret (.bool b21))
 (.ret (.bool false)))
 (.call 18 [.agg [p0_0], .agg [.int .u8 p1_6, .str p1_7, .int .u8 p1_8, .bool p1_9, p1_10, .bool p1_11, p1_12, .int .i64 p1_13, p1_14], .int .i64 1] fun a22 =>
 .asB a22 fun b23 => .ite b23
 (.call 18 [.agg [p0_0], .agg [.int .u8 p1_15, .str p1_16, .int .u8 p1_17, .bool p1_18, p1_19, .bool p1_20, p1_21, .int .i64 p1_22, p1_23], .int .i64 1] fun a24 =>
 .asB a24 fun b25 => .ret (.bool b25))
 (.ret (.bool false))))))))
theorem w52 (p0_0 : zab) (p1_0 p1_1 : List Nat) (p1_2 p1_3 p1_4 : Int) (p1_5 : Bool) (p1_6 : Int) (p1_7 : List Nat) (p1_8 : Int) (p1_9 : Bool) (p1_10 : zab) (p1_11 : Bool) (p1_12 : zab) (p1_13 : Int) (p1_14 : zab) (p1_15 : Int) (p1_16 : List Nat) (p1_17 : Int) (p1_18 : Bool) (p1_19 : zab) (p1_20 : Bool) (p1_21 : zab) (p1_22 : Int) (p1_23 : zab) {m : Tr zak} {Q : zao} (h : wp 52 (t52 p0_0 p1_0 p1_1 p1_2 p1_3 p1_4 p1_5 p1_6 p1_7 p1_8 p1_9 p1_10 p1_11 p1_12 p1_13 p1_14 p1_15 p1_16 p1_17 p1_18 p1_19 p1_20 p1_21 p1_22 p1_23) m Q) : Wf 52 [.agg [p0_0], .agg [.str p1_0, .str p1_1, .int .i64 p1_2, .int .i64 p1_3, .int .i64 p1_4, .bool p1_5, .int .u8 p1_6, .str p1_7, .int .u8 p1_8, .bool p1_9, p1_10, .bool p1_11, p1_12, .int .i64 p1_13, p1_14, .int .u8 p1_15, .str p1_16, .int .u8 p1_17, .bool p1_18, p1_19, .bool p1_20, p1_21, .int .i64 p1_22, p1_23]] m Q := zbd ok52 (by kernel_rfl) (eqT (by kernel_rfl) h)
def t53 (p0_0 : Bool) (p0_1 : zab) (p0_2 : Bool) (p0_3 : zab) : T :=
 .opt (zbm p0_1) fun a0 => .asI .i64 a0 fun n1 => .ite (iLt 42 n1)
 (.ret (.bool false))
 (.opt (zbm p0_3) fun a2 => .asI .i64 a2 fun n3 => .ite (iLt 42 n3)
 (.ret (.bool false))
 (.call 91 [.agg [.bool p0_0, p0_1, .bool p0_2, p0_3]] fun a4 =>
 .asB a4 fun b5 => .ite (!b5)
 (.ret (.bool false))
 (.call 92 [.agg [.bool p0_0, p0_1, .bool p0_2, p0_3]] fun a6 =>
 .opt (zar 0 a6) fun a7 => .asS a7 fun s8 => .opt (zar 1 a6) fun a9 => .asI .i64 a9 fun n10 => .ite (iEq n10 0)
 (.call 93 [.str s8, .str [45]] fun a11 =>
 .asS a11 fun s12 => .ret (.bool (iLe (Int.ofNat (zbw s12)) 200)))
 (.ret (.bool false)))))
theorem w53 (p0_0 : Bool) (p0_1 : zab) (p0_2 : Bool) (p0_3 : zab) {m : Tr zak} {Q : zao} (h : wp 53 (t53 p0_0 p0_1 p0_2 p0_3) m Q) : Wf 53 [.agg [.bool p0_0, p0_1, .bool p0_2, p0_3]] m Q := zbd ok53 (by kernel_rfl) (eqT (by kernel_rfl) h)
def t54 (p0_0 : Bool) (p0_1 : zab) (p0_2 : Bool) (p0_3 : zab) : T :=
 .ite (!p0_0)
 (.ite (!p0_2)
 (.opt (zbm p0_1) fun a0 => .asI .i64 a0 fun n1 => .opt (zbm p0_3) fun a2 => .asI .i64 a2 fun n3 => .ret (.bool (iEq (zag .i64 (n1 + n3)) 0)))
 (.ret (.bool false)))
 (.ret (.bool false))
theorem w54 (p0_0 : Bool) (p0_1 : zab) (p0_2 : Bool) (p0_3 : zab) {m : Tr zak} {Q : zao} (h : wp 54 (t54 p0_0 p0_1 p0_2 p0_3) m Q) : Wf 54 [.agg [.bool p0_0, p0_1, .bool p0_2, p0_3]] m Q := zbd ok54 (by kernel_rfl) (eqT (by kernel_rfl) h)
def t55 (p0 : Int) : T :=
 .ite (iLe 0 p0)
 (.ret (.bool (iLt p0 65536)))
 (.ret (.bool false))
theorem w55 (p0 : Int) {m : Tr zak} {Q : zao} (h : wp 55 (t55 p0) m Q) : Wf 55 [.int .i64 p0] m Q := zbd ok55 (by kernel_rfl) (eqT (by kernel_rfl) h)
def t57 (p0_0 : Bool) (p0_1 : zab) (p0_2 : Bool) (p0_3 : zab) : T :=
 .call 92 [.agg [.bool p0_0, p0_1, .bool p0_2, p0_3]] fun a0 =>
 .opt (zar 0 a0) fun a1 => .asS a1 fun s2 => .opt (zar 1 a0) fun a3 => .asI .i64 a3 fun n4 => .call 95 [.str s2] fun a5 =>
 .asS a5 fun s6 => .ret (.str s6)
theorem w57 (p0_0 : Bool) (p0_1 : zab) (p0_2 : Bool) (p0_3 : zab) {m : Tr zak} {Q : zao} (h : wp 57 (t57 p0_0 p0_1 p0_2 p0_3) m Q) : Wf 57 [.agg [.bool p0_0, p0_1, .bool p0_2, p0_3]] m Q := zbd ok57 (by kernel_rfl) (eqT (by kernel_rfl) h)
def t58 (p0 : Int) : T :=
 .call 96 [.int .i64 p0] fun a0 =>
 .opt (zar 0 a0) fun a1 => .asI .i64 a1 fun n2 => .opt (zar 1 a0) fun a3 => .asI .i64 a3 fun n4 => .opt (zar 2 a0) fun a5 => .asI .i64 a5 fun n6 => .opt (zar 3 a0) fun a7 => .asI .i64 a7 fun n8 => .ite (!iEq n8 0)
 (.ret (.str []))
 (.ite true (.heavy (zjq C13 164) fun a9 =>
 .heavy (zbl C13 164 a9 (.agg [.int .u8 0, .int .u8 0, .int .u8 0, .int .u8 0, .int .u8 45, .int .u8 0, .int .u8 0, .int .u8 45, .int .u8 0, .int .u8 0])) fun _ =>
 .light (fun m => zau C13 164 ⟨0, m⟩ a9) fun a10 => .asG [.int .u8 0, .int .u8 0, .int .u8 0, .int .u8 0, .int .u8 0, .int .u8 0, .int .u8 0, .int .u8 0, .int .u8 0, .int .u8 0] a10 fun X11 =>
 .call 97 [(.agg [(.int .u8 (X11.i 0)), (.int .u8 (X11.i 1)), (.int .u8 (X11.i 2)), (.int .u8 (X11.i 3)), (.int .u8 (X11.i 4)), (.int .u8 (X11.i 5)), (.int .u8 (X11.i 6)), (.int .u8 (X11.i 7)), (.int .u8 (X11.i 8)), (.int .u8 (X11.i 9))]), .int .i64 0, .int .i64 4, .int .i64 n2] fun a12 =>
 .asG [.int .u8 0, .int .u8 0, .int .u8 0, .int .u8 0, .int .u8 0, .int .u8 0, .int .u8 0, .int .u8 0, .int .u8 0, .int .u8 0] a12 fun X13 =>
 .heavy (zbl C13 164 a9 (.agg [(.int .u8 (X13.i 0)), (.int .u8 (X13.i 1)), (.int .u8 (X13.i 2)), (.int .u8 (X13.i 3)), (.int .u8 (X13.i 4)), (.int .u8 (X13.i 5)), (.int .u8 (X13.i 6)), (.int .u8 (X13.i 7)), (.int .u8 (X13.i 8)), (.int .u8 (X13.i 9))])) fun _ =>
 .light (fun m => zau C13 164 ⟨0, m⟩ a9) fun a14 => .asG [.int .u8 0, .int .u8 0, .int .u8 0, .int .u8 0, .int .u8 0, .int .u8 0, .int .u8 0, .int .u8 0, .int .u8 0, .int .u8 0] a14 fun X15 =>
 .call 97 [(.agg [(.int .u8 (X15.i 0)), (.int .u8 (X15.i 1)), (.int .u8 (X15.i 2)), (.int .u8 (X15.i 3)), (.int .u8 (X15.i 4)), (.int .u8 (X15.i 5)), (.int .u8 (X15.i 6)), (.int .u8 (X15.i 7)), (.int .u8 (X15.i 8)), (.int .u8 (X15.i 9))]), .int .i64 5, .int .i64 2, .int .i64 n4] fun a16 =>
 .asG [.int .u8 0, .int .u8 0, .int .u8 0, .int .u8 0, .int .u8 0, .int .u8 0, .int .u8 0, .int .u8 0, .int .u8 0, .int .u8 0] a16 fun X17 =>
 .heavy (zbl C13 164 a9 (.agg [(.int .u8 (X17.i 0)), (.int .u8 (X17.i 1)), (.int .u8 (X17.i 2)), (.int .u8 (X17.i 3)), (.int .u8 (X17.i 4)), (.int .u8 (X17.i 5)), (.int .u8 (X17.i 6)), (.int .u8 (X17.i 7)), (.int .u8 (X17.i 8)), (.int .u8 (X17.i 9))])) fun _ =>
 .light (fun m => zau C13 164 ⟨0, m⟩ a9) fun a18 => .asG [.int .u8 0, .int .u8 0, .int .u8 0, .int .u8 0, .int .u8 0, .int .u8 0, .int .u8 0, .int .u8 0, .int .u8 0, .int .u8 0] a18 fun X19 =>
 .call 97 [(.agg [(.int .u8 (X19.i 0)), (.int .u8 (X19.i 1)), (.int .u8 (X19.i 2)), (.int .u8 (X19.i 3)), (.int .u8 (X19.i 4)), (.int .u8 (X19.i 5)), (.int .u8 (X19.i 6)), (.int .u8 (X19.i 7)), (.int .u8 (X19.i 8)), (.int .u8 (X19.i 9))]), .int .i64 8, .int .i64 2, .int .i64 n6] fun a20 =>
 .asG [.int .u8 0, .int .u8 0, .int .u8 0, .int .u8 0, .int .u8 0, .int .u8 0, .int .u8 0, .int .u8 0, .int .u8 0, .int .u8 0] a20 fun X21 =>
 .heavy (zbl C13 164 a9 (.agg [(.int .u8 (X21.i 0)), (.int .u8 (X21.i 1)), (.int .u8 (X21.i 2)), (.int .u8 (X21.i 3)), (.int .u8 (X21.i 4)), (.int .u8 (X21.i 5)), (.int .u8 (X21.i 6)), (.int .u8 (X21.i 7)), (.int .u8 (X21.i 8)), (.int .u8 (X21.i 9))])) fun _ =>
 .light (fun m => zcu C13 164 ⟨0, m⟩ a9 none none) fun a22 => .light (fun m => zk1 C13 32 9 ⟨0, m⟩ a22) fun a23 => .asS a23 fun s24 => .ret (.str s24)) .fail)
theorem w58 (p0 : Int) {m : Tr zak} {Q : zao} (h : wp 58 (t58 p0) m Q) : Wf 58 [.int .i64 p0] m Q := zbd ok58 (by kernel_rfl) (eqT (by kernel_rfl) h)
def t59 (p0 : Int) : T :=
 .call 98 [.int .i64 p0] fun a0 =>
 .asS a0 fun s1 => .call 95 [.str s1] fun a2 =>
 .asS a2 fun s3 => .ret (.str s3)
theorem w59 (p0 : Int) {m : Tr zak} {Q : zao} (h : wp 59 (t59 p0) m Q) : Wf 59 [.int .i64 p0] m Q := zbd ok59 (by kernel_rfl) (eqT (by kernel_rfl) h)
def t76 (p0 : List Nat) (p1 : Bool) (p2 p3 : Int) : T :=
 .ite true (.ite true (.ret (.agg [.int .u8 6, .str p0, .bool p1, .int .i64 p2, .int .i64 p3, .int .i64 7, .int .i64 1, .int .i64 1])) .fail) .fail
theorem w76 (p0 : List Nat) (p1 : Bool) (p2 p3 : Int) {m : Tr zak} {Q : zao} (h : wp 76 (t76 p0 p1 p2 p3) m Q) : Wf 76 [.str p0, .bool p1, .int .i64 p2, .int .i64 p3] m Q := zbd ok76 (by kernel_rfl) (eqT (by kernel_rfl) h)
def t77 (p0 : List Nat) : T :=
 .ite true (.ite true (.ret (.agg [.int .u8 3, .str p0, .bool true, .int .i64 1, .int .i64 1, .int .i64 7, .int .i64 7, .int .i64 7])) .fail) .fail
theorem w77 (p0 : List Nat) {m : Tr zak} {Q : zao} (h : wp 77 (t77 p0) m Q) : Wf 77 [.str p0] m Q := zbd ok77 (by kernel_rfl) (eqT (by kernel_rfl) h)
def t78 (p0 : List Nat) (p1 p2 p3 : Int) : T :=
 .ite true (.ite true (.ret (.agg [.int .u8 4, .str p0, .bool false, .int .i64 2, .int .i64 2, .int .i64 p1, .int .i64 p2, .int .i64 p3])) .fail) .fail
theorem w78 (p0 : List Nat) (p1 p2 p3 : Int) {m : Tr zak} {Q : zao} (h : wp 78 (t78 p0 p1 p2 p3) m Q) : Wf 78 [.str p0, .int .i64 p1, .int .i64 p2, .int .i64 p3] m Q := zbd ok78 (by kernel_rfl) (eqT (by kernel_rfl) h)
def t79 (p0 : Int) : T :=
 .ite (iLe 65 p0)
 (.ite (iLe p0 90)
 (.ret (.bool true))
 (.ite (iLe 97 p0)
 (.ret (.bool (iLe p0 122)))
 (.ret (.bool false))))
 (.ite (iLe 97 p0)
 (.ret (.bool (iLe p0 122)))
 (.ret (.bool false)))
theorem w79 (p0 : Int) {m : Tr zak} {Q : zao} (h : wp 79 (t79 p0) m Q) : Wf 79 [.int .u8 p0] m Q := zbd ok79 (by kernel_rfl) (eqT (by kernel_rfl) h)
def t80 (p0 : List Nat) (p1 : zab) : T :=
 .jump 2 [.str p0, p1, .int .i64 0]
theorem w80 (p0 : List Nat) (p1 : zab) {m : Tr zak} {Q : zao} (h : wp 80 (t80 p0 p1) m Q) : Wf 80 [.str p0, p1] m Q := zbd ok80 (by kernel_rfl) (eqT (by kernel_rfl) h)
def zziv (v0 : List Nat) (v1 : zab) (v5 : Int) : T :=
 .ite (iLt v5 (Int.ofNat (zbw v0)))
 (.opt (zmb C13 9 (.str v0) (.int .i64 v5)) fun a0 => .asI .u8 a0 fun n1 => .callv v1 [.int .u8 n1] fun a2 =>
 .asB a2 fun b3 => .ite b3
 (.jump 2 [.str v0, v1, (.int .i64 (zag .i64 (v5 + 1)))])
 (.opt (zcu C13 9 H0A (.str v0) none (some (.int .i64 v5))) fun a4 => .asS a4 fun s5 => .ret (.str s5)))
 (.opt (zcu C13 9 H0A (.str v0) none (some (.int .i64 v5))) fun a6 => .asS a6 fun s7 => .ret (.str s7))
theorem j80_2 (v0 : List Nat) (v1 : zab) (v5 : Int) {m : Tr zak} {Q : zao} (h : wp 80 (zziv v0 v1 v5) m Q) : jp 80 2 [.str v0, v1, .int .i64 v5] m Q := zbr ok80 (by kernel_rfl) h
def t81 (p0 : Int) : T :=
 .call 79 [.int .u8 p0] fun a0 =>
 .asB a0 fun b1 => .ite b1
 (.ret (.bool true))
 (.call 112 [.int .u8 p0] fun a2 =>
 .asB a2 fun b3 => .ite b3
 (.ret (.bool true))
 (.ret (.bool (iEq p0 95))))
theorem w81 (p0 : Int) {m : Tr zak} {Q : zao} (h : wp 81 (t81 p0) m Q) : Wf 81 [.int .u8 p0] m Q := zbd ok81 (by kernel_rfl) (eqT (by kernel_rfl) h)
def t82 (p0 : List Nat) : T :=
 .ite (iLt (Int.ofNat (zbw p0)) 2)
 (.ret (.bool false))
 (.ite (iLt 7 (Int.ofNat (zbw p0)))
 (.ret (.bool false))
 (.call 80 [.str p0, (.func (.func 79) [] [])] fun a0 =>
 .asS a0 fun s1 => .ite (!zes s1 p0)
 (.ret (.bool false))
 (.heavy zpu fun a2 =>
 .heavy (zfr C13 180 a2 (.int .i64 2) (.str [32, 116, 111, 32, 105, 115, 32, 97, 116, 32, 105, 102, 32, 111, 114, 32, 117, 112, 32])) fun _ =>
 .heavy (zfr C13 180 a2 (.int .i64 3) (.str [32, 100, 101, 102, 32, 114, 111, 119, 32, 111, 110, 101, 32, 116, 119, 111, 32, 101, 110, 100, 32, 111, 102, 102, 32, 104, 97, 115, 32, 109, 105, 110, 32, 109, 97, 120, 32, 97, 110, 100, 32, 110, 111, 116, 32])) fun _ =>
 .heavy (zfr C13 180 a2 (.int .i64 4) (.str [32, 112, 108, 97, 110, 32, 102, 97, 99, 116, 32, 102, 114, 111, 109, 32, 119, 104, 101, 110, 32, 116, 104, 101, 110, 32, 100, 97, 116, 101, 32, 100, 97, 121, 115, 32, 116, 114, 117, 101, 32, 108, 111, 111, 107, 32, 98, 101, 115, 116, 32, 103, 114, 111, 119, 32, 100, 111, 119, 110, 32, 99, 101, 105, 108, 32, 104, 97, 108, 102, 32, 101, 118, 101, 110, 32])) fun _ =>
 .heavy (zfr C13 180 a2 (.int .i64 5) (.str [32, 116, 97, 98, 108, 101, 32, 107, 110, 111, 119, 110, 32, 116, 114, 117, 116, 104, 32, 109, 111, 110, 101, 121, 32, 102, 97, 108, 115, 101, 32, 109, 105, 110, 117, 115, 32, 116, 111, 100, 97, 121, 32, 114, 111, 117, 110, 100, 32, 115, 116, 97, 114, 116, 32, 102, 108, 111, 111, 114, 32])) fun _ =>
 .heavy (zfr C13 180 a2 (.int .i64 6) (.str [32, 99, 108, 97, 117, 115, 101, 32, 110, 117, 109, 98, 101, 114, 32, 109, 111, 110, 116, 104, 115, 32])) fun _ =>
 .heavy (zfr C13 180 a2 (.int .i64 7) (.str [32, 98, 101, 116, 119, 101, 101, 110, 32, 115, 101, 114, 118, 105, 99, 101, 32])) fun _ =>
 .light (fun m => zh6 C13 180 ⟨0, m⟩ a2 (.int .i64 (Int.ofNat (zbw p0))) false) fun a3 => .asS a3 fun s4 => .opt (zvt [32] p0) fun a5 => .asS a5 fun s6 => .opt (zvt s6 [32]) fun a7 => .asS a7 fun s8 => .call 113 [.str s4, .str s8] fun a9 =>
 .asB a9 fun b10 => .ret (.bool b10))))
theorem w82 (p0 : List Nat) {m : Tr zak} {Q : zao} (h : wp 82 (t82 p0) m Q) : Wf 82 [.str p0] m Q := zbd ok82 (by kernel_rfl) (eqT (by kernel_rfl) h)
def t87 (p0 : Int) : T :=
 .ite (iLe (-2147483648) p0)
 (.ret (.bool (iLt p0 2147483648)))
 (.ret (.bool false))
theorem w87 (p0 : Int) {m : Tr zak} {Q : zao} (h : wp 87 (t87 p0) m Q) : Wf 87 [.int .i64 p0] m Q := zbd ok87 (by kernel_rfl) (eqT (by kernel_rfl) h)
def t88 (p0_0 p0_1 p0_2 : Int) (p0_3 : Bool) (p0_4 : zab) (p0_5 : Bool) (p0_6 w0 w1 : zab) : T :=
 .light (fun m => zau C13 59 ⟨0, m⟩ w0) fun a0 => .callv a0 [.int .i64 p0_0] fun a1 =>
 .asB a1 fun b2 => .ite b2
 (.light (fun m => zau C13 59 ⟨0, m⟩ w0) fun a3 => .callv a3 [.int .i64 p0_1] fun a4 =>
 .asB a4 fun b5 => .ite b5
 (.opt (za4 C13 53 1 w1) fun a6 => .light (fun m => zau C13 4 ⟨0, m⟩ a6) fun a7 => .asB a7 fun b8 => .ite b8
 (.call 55 [.int .i64 p0_2] fun a9 =>
 .asB a9 fun b10 => .ite b10
 (.call 53 [.agg [.bool p0_3, p0_4, .bool p0_5, p0_6]] fun a11 =>
 .asB a11 fun b12 => .ret (.bool b12))
 (.ret (.bool false)))
 (.ite (iEq p0_1 0)
 (.call 55 [.int .i64 p0_2] fun a13 =>
 .asB a13 fun b14 => .ite b14
 (.call 53 [.agg [.bool p0_3, p0_4, .bool p0_5, p0_6]] fun a15 =>
 .asB a15 fun b16 => .ret (.bool b16))
 (.ret (.bool false)))
 (.ret (.bool false))))
 (.ret (.bool false)))
 (.ret (.bool false))
theorem w88 (p0_0 p0_1 p0_2 : Int) (p0_3 : Bool) (p0_4 : zab) (p0_5 : Bool) (p0_6 w0 w1 : zab) {m : Tr zak} {Q : zao} (h : wp 88 (t88 p0_0 p0_1 p0_2 p0_3 p0_4 p0_5 p0_6 w0 w1) m Q) : Wf 88 [.agg [.int .i64 p0_0, .int .i64 p0_1, .int .i64 p0_2, .bool p0_3, p0_4, .bool p0_5, p0_6], w0, w1] m Q := zbd ok88 (by kernel_rfl) (eqT (by kernel_rfl) h)
def t89 (p0 p1 : zab) : T :=
 .opt (zbm p0) fun a0 => .asI .i64 a0 fun n1 => .jump 2 [p1, p0, .int .i64 n1, .int .i64 0]
theorem w89 (p0 p1 : zab) {m : Tr zak} {Q : zao} (h : wp 89 (t89 p0 p1) m Q) : Wf 89 [p0, p1] m Q := zbd ok89 (by kernel_rfl) (eqT (by kernel_rfl) h)
def t89_2 (v1 v7 : zab) (v8 v9 : Int) : T :=
 .ite (iLt v9 v8)
 (.opt (zah C13 51 v7 (.int .i64 v9)) fun a0 => .light (fun m => zau C13 55 ⟨0, m⟩ a0) fun a1 => .asG [.int .i64 0, .int .i64 0, .int .i64 0, .bool false, .nilslice, .bool false, .nilslice] a1 fun X2 =>
 .ite (zd9 zab.one [(.int .i64 (X2.i 0)), (.int .i64 (X2.i 1)), (.int .i64 (X2.i 2)), (.bool (X2.b 3)), (X2.v 4), (.bool (X2.b 5)), (X2.v 6)]) (.callv v1 [(.agg [(.int .i64 (X2.i 0)), (.int .i64 (X2.i 1)), (.int .i64 (X2.i 2)), (.bool (X2.b 3)), (X2.v 4), (.bool (X2.b 5)), (X2.v 6)])] fun a3 =>
 .asB a3 fun b4 => .ite (!b4)
 (.ret (.bool false))
 (.jump 2 [v1, v7, .int .i64 v8, (.int .i64 (zag .i64 (v9 + 1)))])) .fail)
 (.ret (.bool true))
theorem j89_2 (v1 v7 : zab) (v8 v9 : Int) {m : Tr zak} {Q : zao} (h : wp 89 (t89_2 v1 v7 v8 v9) m Q) : jp 89 2 [v1, v7, .int .i64 v8, .int .i64 v9] m Q := zbr ok89 (by kernel_rfl) h
def t90 (p0_0 : Int) (p0_1 : List Nat) (p0_2 : Int) (p0_3 : Bool) (p0_4 : zab) (p0_5 : Bool) (p0_6 : zab) (p0_7 : Int) (p0_8 : zab) : T :=
 .ite (iEq p0_0 0)
 (.ite (zes p0_1 [])
 (.opt (zbm p0_8) fun a0 => .asI .i64 a0 fun n1 => .ite (iEq n1 0)
 (.call 39 [.agg [.int .u8 p0_2, .bool p0_3, p0_4, .bool p0_5, p0_6, .int .i64 p0_7]] fun a2 =>
 .asB a2 fun b3 => .ret (.bool b3))
 (.ret (.bool false)))
 (.ret (.bool false)))
 (.ret (.bool false))
theorem w90 (p0_0 : Int) (p0_1 : List Nat) (p0_2 : Int) (p0_3 : Bool) (p0_4 : zab) (p0_5 : Bool) (p0_6 : zab) (p0_7 : Int) (p0_8 : zab) {m : Tr zak} {Q : zao} (h : wp 90 (t90 p0_0 p0_1 p0_2 p0_3 p0_4 p0_5 p0_6 p0_7 p0_8) m Q) : Wf 90 [.agg [.int .u8 p0_0, .str p0_1, .int .u8 p0_2, .bool p0_3, p0_4, .bool p0_5, p0_6, .int .i64 p0_7, p0_8]] m Q := zbd ok90 (by kernel_rfl) (eqT (by kernel_rfl) h)
def t91 (p0_0 : Bool) (p0_1 : zab) (p0_2 : Bool) (p0_3 : zab) : T :=
 .ite true (.call 116 [.agg [.bool p0_0, p0_1, .bool p0_2, p0_3]] fun a0 =>
 .asB a0 fun b1 => .ret (.bool b1)) .fail
theorem w91 (p0_0 : Bool) (p0_1 : zab) (p0_2 : Bool) (p0_3 : zab) {m : Tr zak} {Q : zao} (h : wp 91 (t91 p0_0 p0_1 p0_2 p0_3) m Q) : Wf 91 [.agg [.bool p0_0, p0_1, .bool p0_2, p0_3]] m Q := zbd ok91 (by kernel_rfl) (eqT (by kernel_rfl) h)
def t92 (p0_0 : Bool) (p0_1 : zab) (p0_2 : Bool) (p0_3 : zab) : T :=
 .call 91 [.agg [.bool p0_0, p0_1, .bool p0_2, p0_3]] fun a0 =>
 .asB a0 fun b1 => .ite (!b1)
 (.ret (.tup [.str [], .int .i64 2]))
 (.call 117 [.agg [.bool p0_0, p0_1]] fun a2 =>
 .opt (zar 0 a2) fun a3 => .asS a3 fun s4 => .opt (zar 1 a2) fun a5 => .asI .i64 a5 fun n6 => .ite true (.call 118 [.agg [.bool p0_0, p0_1, .bool p0_2, p0_3]] fun a7 =>
 .asB a7 fun b8 => .ite (!b8)
 (.call 117 [.agg [.bool p0_2, p0_3]] fun a9 =>
 .opt (zar 0 a9) fun a10 => .asS a10 fun s11 => .opt (zar 1 a9) fun a12 => .asI .i64 a12 fun n13 => .opt (zvt [47] s11) fun a14 => .asS a14 fun s15 => .opt (zvt s4 s15) fun a16 => .asS a16 fun s17 => .ret (.tup [.str s17, .int .i64 0]))
 (.ret (.tup [.str s4, .int .i64 0]))) .fail)
theorem w92 (p0_0 : Bool) (p0_1 : zab) (p0_2 : Bool) (p0_3 : zab) {m : Tr zak} {Q : zao} (h : wp 92 (t92 p0_0 p0_1 p0_2 p0_3) m Q) : Wf 92 [.agg [.bool p0_0, p0_1, .bool p0_2, p0_3]] m Q := zbd ok92 (by kernel_rfl) (eqT (by kernel_rfl) h)
def t93 (p0 p1 : List Nat) : T :=
 .call 119 [.str p0, .str p1] fun a0 =>
 .asS a0 fun s1 => .ret (.str s1)
theorem w93 (p0 p1 : List Nat) {m : Tr zak} {Q : zao} (h : wp 93 (t93 p0 p1) m Q) : Wf 93 [.str p0, .str p1] m Q := zbd ok93 (by kernel_rfl) (eqT (by kernel_rfl) h)
def t95 (p0 : List Nat) : T :=
 .call 120 [.str p0, .str [45]] fun a0 =>
 .opt (zar 0 a0) fun a1 => .asS a1 fun s2 => .opt (zar 1 a0) fun a3 => .asB a3 fun b4 => .ite b4
 (.opt (zvt [109, 105, 110, 117, 115, 32] s2) fun a5 => .asS a5 fun s6 => .ret (.str s6))
 (.ret (.str p0))
theorem w95 (p0 : List Nat) {m : Tr zak} {Q : zao} (h : wp 95 (t95 p0) m Q) : Wf 95 [.str p0] m Q := zbd ok95 (by kernel_rfl) (eqT (by kernel_rfl) h)
def t96 (p0 : Int) : T :=
 .call 121 [.int .i64 p0] fun a0 =>
 .asB a0 fun b1 => .ite (!b1)
 (.ret (.tup [.int .i64 0, .int .i64 0, .int .i64 0, .int .i64 2]))
 (.call 122 [.int .i64 p0] fun a2 =>
 .asI .i64 a2 fun n3 => .call 123 [.int .i64 n3] fun a4 =>
 .asI .i64 a4 fun n5 => .ret (.tup [(.int .i64 (zag .i64 (1900 + (zag .i64 (Int.tdiv n3 12))))), (.int .i64 (zag .i64 ((Int.tmod n3 12) + 1))), (.int .i64 (zag .i64 ((zag .i64 (p0 - n5)) + 1))), .int .i64 0]))
theorem w96 (p0 : Int) {m : Tr zak} {Q : zao} (h : wp 96 (t96 p0) m Q) : Wf 96 [.int .i64 p0] m Q := zbd ok96 (by kernel_rfl) (eqT (by kernel_rfl) h)
def t97 (p0_0 p0_1 p0_2 p0_3 p0_4 p0_5 p0_6 p0_7 p0_8 p0_9 p1 p2 p3 : Int) : T :=
 .heavy (z0e (.agg [.int .u8 p0_0, .int .u8 p0_1, .int .u8 p0_2, .int .u8 p0_3, .int .u8 p0_4, .int .u8 p0_5, .int .u8 p0_6, .int .u8 p0_7, .int .u8 p0_8, .int .u8 p0_9])) fun a0 =>
 .jump 2 [.int .i64 p1, .int .i64 p3, a0, (.int .i64 (zag .i64 ((zag .i64 (p1 + p2)) - 1))), .int .u8 0, .int .u8 0, .int .u8 0, .int .u8 0, .int .u8 0, .int .u8 0, .int .u8 0, .int .u8 0, .int .u8 0, .int .u8 0]
theorem w97 (p0_0 p0_1 p0_2 p0_3 p0_4 p0_5 p0_6 p0_7 p0_8 p0_9 p1 p2 p3 : Int) {m : Tr zak} {Q : zao} (h : wp 97 (t97 p0_0 p0_1 p0_2 p0_3 p0_4 p0_5 p0_6 p0_7 p0_8 p0_9 p1 p2 p3) m Q) : Wf 97 [.agg [.int .u8 p0_0, .int .u8 p0_1, .int .u8 p0_2, .int .u8 p0_3, .int .u8 p0_4, .int .u8 p0_5, .int .u8 p0_6, .int .u8 p0_7, .int .u8 p0_8, .int .u8 p0_9], .int .i64 p1, .int .i64 p2, .int .i64 p3] m Q := zbd ok97 (by kernel_rfl) (eqT (by kernel_rfl) h)
def t97_2 (v1 v3 : Int) (v4 : zab) (v9 c8_0 c8_1 c8_2 c8_3 c8_4 c8_5 c8_6 c8_7 c8_8 c8_9 : Int) : T :=
 .ite (iLe v1 v9)
 (.opt (zah C13 164 v4 (.int .i64 v9)) fun a0 => .heavy (zbl C13 5 a0 (.int .u8 (zag .u8 (zag .i64 (48 + (Int.tmod v3 10)))))) fun _ =>
 .jump 2 [.int .i64 v1, (.int .i64 (zag .i64 (Int.tdiv v3 10))), v4, (.int .i64 (zag .i64 (v9 - 1))), .int .u8 c8_0, .int .u8 c8_1, .int .u8 c8_2, .int .u8 c8_3, .int .u8 c8_4, .int .u8 c8_5, .int .u8 c8_6, .int .u8 c8_7, .int .u8 c8_8, .int .u8 c8_9])
 (.light (fun m => zau C13 164 ⟨0, m⟩ v4) fun a1 => .asG [.int .u8 0, .int .u8 0, .int .u8 0, .int .u8 0, .int .u8 0, .int .u8 0, .int .u8 0, .int .u8 0, .int .u8 0, .int .u8 0] a1 fun X2 =>
 .ite true (.ret (.agg [(.int .u8 (X2.i 0)), (.int .u8 (X2.i 1)), (.int .u8 (X2.i 2)), (.int .u8 (X2.i 3)), (.int .u8 (X2.i 4)), (.int .u8 (X2.i 5)), (.int .u8 (X2.i 6)), (.int .u8 (X2.i 7)), (.int .u8 (X2.i 8)), (.int .u8 (X2.i 9))])) .fail)
theorem j97_2 (v1 v3 : Int) (v4 : zab) (v9 c8_0 c8_1 c8_2 c8_3 c8_4 c8_5 c8_6 c8_7 c8_8 c8_9 : Int) {m : Tr zak} {Q : zao} (h : wp 97 (t97_2 v1 v3 v4 v9 c8_0 c8_1 c8_2 c8_3 c8_4 c8_5 c8_6 c8_7 c8_8 c8_9) m Q) : jp 97 2 [.int .i64 v1, .int .i64 v3, v4, .int .i64 v9, .int .u8 c8_0, .int .u8 c8_1, .int .u8 c8_2, .int .u8 c8_3, .int .u8 c8_4, .int .u8 c8_5, .int .u8 c8_6, .int .u8 c8_7, .int .u8 c8_8, .int .u8 c8_9] m Q := zbr ok97 (by kernel_rfl) h
def t112 (p0 : Int) : T :=
 .ite (iLe 48 p0)
 (.ret (.bool (iLe p0 57)))
 (.ret (.bool false))
theorem w112 (p0 : Int) {m : Tr zak} {Q : zao} (h : wp 112 (t112 p0) m Q) : Wf 112 [.int .u8 p0] m Q := zbd ok112 (by kernel_rfl) (eqT (by kernel_rfl) h)
def t116 (p0_0 : Bool) (p0_1 : zab) (p0_2 : Bool) (p0_3 : zab) : T :=
 .call 147 [.agg [.bool p0_0, p0_1, .bool p0_2, p0_3]] fun a0 =>
 .asB a0 fun b1 => .ite b1
 (.ret (.bool false))
 (.call 148 [.agg [.bool p0_0, p0_1]] fun a2 =>
 .asB a2 fun b3 => .ite (!b3)
 (.ret (.bool false))
 (.call 148 [.agg [.bool p0_2, p0_3]] fun a4 =>
 .asB a4 fun b5 => .ite (!b5)
 (.ret (.bool false))
 (.ite p0_2
 (.ret (.bool false))
 (.opt (zbm p0_3) fun a6 => .asI .i64 a6 fun n7 => .ite (iEq n7 0)
 (.ret (.bool false))
 (.call 118 [.agg [.bool p0_0, p0_1, .bool p0_2, p0_3]] fun a8 =>
 .asB a8 fun b9 => .ite b9
 (.ret (.bool true))
 (.call 150 [.agg [.bool p0_0, p0_1], .agg [.bool p0_2, p0_3]] fun a10 =>
 .asG [.bool false, .nilslice] a10 fun X11 =>
 .call 149 [(.agg [(.bool (X11.b 0)), (X11.v 1)])] fun a12 =>
 .asB a12 fun b13 => .ret (.bool b13)))))))
theorem w116 (p0_0 : Bool) (p0_1 : zab) (p0_2 : Bool) (p0_3 : zab) {m : Tr zak} {Q : zao} (h : wp 116 (t116 p0_0 p0_1 p0_2 p0_3) m Q) : Wf 116 [.agg [.bool p0_0, p0_1, .bool p0_2, p0_3]] m Q := zbd ok116 (by kernel_rfl) (eqT (by kernel_rfl) h)
def t117 (p0_0 : Bool) (p0_1 : zab) : T :=
 .call 148 [.agg [.bool p0_0, p0_1]] fun a0 =>
 .asB a0 fun b1 => .ite (!b1)
 (.ret (.tup [.str [], .int .i64 2]))
 (.opt (zbm p0_1) fun a2 => .asI .i64 a2 fun n3 => .ite (iEq n3 0)
 (.ret (.tup [.str [48], .int .i64 0]))
 (.call 151 [p0_1] fun a4 =>
 .jump 2 [.str [], .int .i64 0, .nilslice, a4, .bool p0_0, p0_1]))
theorem w117 (p0_0 : Bool) (p0_1 : zab) {m : Tr zak} {Q : zao} (h : wp 117 (t117 p0_0 p0_1) m Q) : Wf 117 [.agg [.bool p0_0, p0_1]] m Q := zbd z99 (by kernel_rfl) (eqT (by kernel_rfl) h)
def z87 (v2 : List Nat) (v3 : Int) (v4 v5 : zab) (c1_0 : Bool) (c1_1 : zab) : T :=
 .opt (zbm v5) fun a0 => .asI .i64 a0 fun n1 => .ite (iLt 0 n1)
 (.call 152 [v5, .int .u32 1000000000] fun a2 =>
 .opt (zar 0 a2) fun a3 => .opt (zar 1 a2) fun a4 => .asI .u32 a4 fun n5 => .heavy (za5 C13 200 1 [(0, (.int .u32 n5))]) fun a6 =>
 .heavy (zci C13 200 200 v4 a6) fun a7 =>
 .jump 2 [.str v2, .int .i64 v3, a7, a3, .bool c1_0, c1_1])
 (.heavy (zjq C13 32) fun a8 =>
 .ite c1_0
 (.light (fun m => zau C13 32 ⟨0, m⟩ a8) fun a9 => .heavy (za5 C13 32 1 [(0, (.int .u8 45))]) fun a10 =>
 .heavy (zci C13 32 32 a9 a10) fun a11 =>
 .heavy (zbl C13 32 a8 a11) fun _ =>
 .jump 29 [.str v2, .int .i64 v3, v4, a8])
 (.jump 29 [.str v2, .int .i64 v3, v4, a8]))
theorem zzhz (v2 : List Nat) (v3 : Int) (v4 v5 : zab) (c1_0 : Bool) (c1_1 : zab) {m : Tr zak} {Q : zao} (h : wp 117 (z87 v2 v3 v4 v5 c1_0 c1_1) m Q) : jp 117 2 [.str v2, .int .i64 v3, v4, v5, .bool c1_0, c1_1] m Q := zbr z99 (by kernel_rfl) h
def z86 (v2 : List Nat) (v3 : Int) (v4 v8 : zab) : T :=
 .call 153 [v4] fun a0 =>
 .range (npC C13) a0 6 1 [v8]
 (.light (fun m => zau C13 32 ⟨0, m⟩ v8) fun a1 => .light (fun m => zk1 C13 32 9 ⟨0, m⟩ a1) fun a2 => .asS a2 fun s3 => .ret (.tup [.str s3, .int .i64 0]))
 (.ret (.tup [.str v2, .int .i64 v3]))
theorem zzju (v2 : List Nat) (v3 : Int) (v4 v8 : zab) {m : Tr zak} {Q : zao} (h : wp 117 (z86 v2 v3 v4 v8) m Q) : jp 117 29 [.str v2, .int .i64 v3, v4, v8] m Q := zbr z99 (by kernel_rfl) h
def zzg7 (v8 : zab) (v41 : Int) : T :=
 .call 154 [(.int .u64 (zag .u64 v41)), .int .i64 10] fun a0 =>
 .asS a0 fun s1 => .light (fun m => zau C13 32 ⟨0, m⟩ v8) fun a2 => .opt (zbm a2) fun a3 => .asI .i64 a3 fun n4 => .ite (iLt 1 n4)
 (.jump 10 [v8, .str s1, (.int .i64 (zag .i64 (9 - (Int.ofNat (zbw s1))))), .int .i64 0])
 (.light (fun m => zau C13 32 ⟨0, m⟩ v8) fun a5 => .opt (zbm a5) fun a6 => .asI .i64 a6 fun n7 => .ite (iEq n7 1)
 (.light (fun m => zau C13 32 ⟨0, m⟩ v8) fun a8 => .opt (zah C13 32 a8 (.int .i64 0)) fun a9 => .light (fun m => zau C13 5 ⟨0, m⟩ a9) fun a10 => .asI .u8 a10 fun n11 => .ite (!iEq n11 45)
 (.jump 10 [v8, .str s1, (.int .i64 (zag .i64 (9 - (Int.ofNat (zbw s1))))), .int .i64 0])
 (.light (fun m => zau C13 32 ⟨0, m⟩ v8) fun a12 => .heavy (zci C13 32 9 a12 (.str s1)) fun a13 =>
 .heavy (zbl C13 32 v8 a13) fun _ =>
 .ret (.bool true)))
 (.light (fun m => zau C13 32 ⟨0, m⟩ v8) fun a14 => .heavy (zci C13 32 9 a14 (.str s1)) fun a15 =>
 .heavy (zbl C13 32 v8 a15) fun _ =>
 .ret (.bool true)))
theorem j117_6 (v8 : zab) (v41 : Int) {m : Tr zak} {Q : zao} (h : wp 117 (zzg7 v8 v41) m Q) : jp 117 6 [v8, .int .u32 v41] m Q := zbr z99 (by kernel_rfl) h
def z0k (v8 : zab) (v10 : List Nat) (v61 v62 : Int) : T :=
 .ite (iLt v62 v61)
 (.light (fun m => zau C13 32 ⟨0, m⟩ v8) fun a0 => .heavy (za5 C13 32 1 [(0, (.int .u8 48))]) fun a1 =>
 .heavy (zci C13 32 32 a0 a1) fun a2 =>
 .heavy (zbl C13 32 v8 a2) fun _ =>
 .jump 10 [v8, .str v10, .int .i64 v61, (.int .i64 (zag .i64 (v62 + 1)))])
 (.light (fun m => zau C13 32 ⟨0, m⟩ v8) fun a3 => .heavy (zci C13 32 9 a3 (.str v10)) fun a4 =>
 .heavy (zbl C13 32 v8 a4) fun _ =>
 .ret (.bool true))
theorem zzbd (v8 : zab) (v10 : List Nat) (v61 v62 : Int) {m : Tr zak} {Q : zao} (h : wp 117 (z0k v8 v10 v61 v62) m Q) : jp 117 10 [v8, .str v10, .int .i64 v61, .int .i64 v62] m Q := zbr z99 (by kernel_rfl) h
def t118 (p0_0 : Bool) (p0_1 : zab) (p0_2 : Bool) (p0_3 : zab) : T :=
 .call 149 [.agg [.bool p0_2, p0_3]] fun a0 =>
 .asB a0 fun b1 => .ret (.bool b1)
theorem w118 (p0_0 : Bool) (p0_1 : zab) (p0_2 : Bool) (p0_3 : zab) {m : Tr zak} {Q : zao} (h : wp 118 (t118 p0_0 p0_1 p0_2 p0_3) m Q) : Wf 118 [.agg [.bool p0_0, p0_1, .bool p0_2, p0_3]] m Q := zbd ok118 (by kernel_rfl) (eqT (by kernel_rfl) h)
def t119 (p0 p1 : List Nat) : T :=
 .call 155 [.str p0, .str p1] fun a0 =>
 .asB a0 fun b1 => .ite b1
 (.opt (zcu C13 9 H0A (.str p0) (some (.int .i64 (Int.ofNat (zbw p1)))) none) fun a2 => .asS a2 fun s3 => .ret (.str s3))
 (.ret (.str p0))
theorem w119 (p0 p1 : List Nat) {m : Tr zak} {Q : zao} (h : wp 119 (t119 p0 p1) m Q) : Wf 119 [.str p0, .str p1] m Q := zbd ok119 (by kernel_rfl) (eqT (by kernel_rfl) h)
def t120 (p0 p1 : List Nat) : T :=
 .call 156 [.str p0, .str p1] fun a0 =>
 .opt (zar 0 a0) fun a1 => .asS a1 fun s2 => .opt (zar 1 a0) fun a3 => .asB a3 fun b4 => .ret (.tup [.str s2, .bool b4])
theorem w120 (p0 p1 : List Nat) {m : Tr zak} {Q : zao} (h : wp 120 (t120 p0 p1) m Q) : Wf 120 [.str p0, .str p1] m Q := zbd ok120 (by kernel_rfl) (eqT (by kernel_rfl) h)
def t121 (p0 : Int) : T :=
 .ite (iLe 0 p0)
 (.ret (.bool (iLt p0 65536)))
 (.ret (.bool false))
theorem w121 (p0 : Int) {m : Tr zak} {Q : zao} (h : wp 121 (t121 p0) m Q) : Wf 121 [.int .i64 p0] m Q := zbd ok121 (by kernel_rfl) (eqT (by kernel_rfl) h)
def t122 (p0 : Int) : T :=
 .heavy (z0e (.int .i64 p0)) fun a0 =>
 .call 157 [.int .i64 2154, (.func (.func 158) [] [a0])] fun a1 =>
 .asI .i64 a1 fun n2 => .ret (.int .i64 n2)
theorem w122 (p0 : Int) {m : Tr zak} {Q : zao} (h : wp 122 (t122 p0) m Q) : Wf 122 [.int .i64 p0] m Q := zbd ok122 (by kernel_rfl) (eqT (by kernel_rfl) h)
def t123 (p0 : Int) : T :=
 .call 159 [(.int .i64 (zag .i64 ((zag .i64 (1900 + (zag .i64 (Int.tdiv p0 12)))) - 1)))] fun a0 =>
 .asI .i64 a0 fun n1 => .call 159 [.int .i64 1899] fun a2 =>
 .asI .i64 a2 fun n3 => .jump 2 [.int .i64 p0, (.int .i64 (zag .i64 (1900 + (zag .i64 (Int.tdiv p0 12))))), (.int .i64 (zag .i64 ((zag .i64 ((zag .i64 (365 * (zag .i64 ((zag .i64 (1900 + (zag .i64 (Int.tdiv p0 12)))) - 1900)))) + n1)) - n3))), .int .i64 1]
theorem w123 (p0 : Int) {m : Tr zak} {Q : zao} (h : wp 123 (t123 p0) m Q) : Wf 123 [.int .i64 p0] m Q := zbd ok123 (by kernel_rfl) (eqT (by kernel_rfl) h)
def t123_2 (v0 v3 v4 v5 : Int) : T :=
 .ite (iLe v5 (Int.tmod v0 12))
 (.call 160 [.int .i64 v3, .int .i64 v5] fun a0 =>
 .asI .i64 a0 fun n1 => .jump 2 [.int .i64 v0, .int .i64 v3, (.int .i64 (zag .i64 (v4 + n1))), (.int .i64 (zag .i64 (v5 + 1)))])
 (.ret (.int .i64 v4))
theorem zzbc (v0 v3 v4 v5 : Int) {m : Tr zak} {Q : zao} (h : wp 123 (t123_2 v0 v3 v4 v5) m Q) : jp 123 2 [.int .i64 v0, .int .i64 v3, .int .i64 v4, .int .i64 v5] m Q := zbr ok123 (by kernel_rfl) h
def t147 (p0_0 : Bool) (p0_1 : zab) (p0_2 : Bool) (p0_3 : zab) : T :=
 .opt (zbm p0_1) fun a0 => .asI .i64 a0 fun n1 => .ite (iLt 256 n1)
 (.ret (.bool true))
 (.opt (zbm p0_3) fun a2 => .asI .i64 a2 fun n3 => .ret (.bool (iLt 256 n3)))
theorem w147 (p0_0 : Bool) (p0_1 : zab) (p0_2 : Bool) (p0_3 : zab) {m : Tr zak} {Q : zao} (h : wp 147 (t147 p0_0 p0_1 p0_2 p0_3) m Q) : Wf 147 [.agg [.bool p0_0, p0_1, .bool p0_2, p0_3]] m Q := zbd ok147 (by kernel_rfl) (eqT (by kernel_rfl) h)
def t148 (p0_0 : Bool) (p0_1 : zab) : T :=
 .opt (zbm p0_1) fun a0 => .asI .i64 a0 fun n1 => .ite (iEq n1 0)
 (.ret (.bool (!p0_0)))
 (.ite (iLe n1 1024)
 (.opt (zah C13 22 p0_1 (.int .i64 (zag .i64 (n1 - 1)))) fun a2 => .light (fun m => zau C13 50 ⟨0, m⟩ a2) fun a3 => .asI .u16 a3 fun n4 => .ret (.bool (!iEq n4 0)))
 (.ret (.bool false)))
theorem w148 (p0_0 : Bool) (p0_1 : zab) {m : Tr zak} {Q : zao} (h : wp 148 (t148 p0_0 p0_1) m Q) : Wf 148 [.agg [.bool p0_0, p0_1]] m Q := zbd ok148 (by kernel_rfl) (eqT (by kernel_rfl) h)
def t149 (p0_0 : Bool) (p0_1 : zab) : T :=
 .ite (!p0_0)
 (.opt (zbm p0_1) fun a0 => .asI .i64 a0 fun n1 => .ite (iEq n1 1)
 (.opt (zah C13 22 p0_1 (.int .i64 0)) fun a2 => .light (fun m => zau C13 50 ⟨0, m⟩ a2) fun a3 => .asI .u16 a3 fun n4 => .ret (.bool (iEq n4 1)))
 (.ret (.bool false)))
 (.ret (.bool false))
theorem w149 (p0_0 : Bool) (p0_1 : zab) {m : Tr zak} {Q : zao} (h : wp 149 (t149 p0_0 p0_1) m Q) : Wf 149 [.agg [.bool p0_0, p0_1]] m Q := zbd ok149 (by kernel_rfl) (eqT (by kernel_rfl) h)
def t150 (p0_0 : Bool) (p0_1 : zab) (p1_0 : Bool) (p1_1 : zab) : T :=
 .call 172 [.agg [.bool p0_0, p0_1], .agg [.bool p1_0, p1_1]] fun a0 =>
 .opt (zar 0 a0) fun a1 => .asG [.bool false, .nilslice] a1 fun X2 =>
 .opt (zar 1 a0) fun a3 => .asI .i64 a3 fun n4 => .ite (zd9 zab.one [(.bool (X2.b 0)), (X2.v 1)]) (.ite (zd9 zab.one [(.bool (X2.b 0)), (X2.v 1)]) (.ret (.agg [(.bool (X2.b 0)), (X2.v 1)])) .fail) .fail
theorem w150 (p0_0 : Bool) (p0_1 : zab) (p1_0 : Bool) (p1_1 : zab) {m : Tr zak} {Q : zao} (h : wp 150 (t150 p0_0 p0_1 p1_0 p1_1) m Q) : Wf 150 [.agg [.bool p0_0, p0_1], .agg [.bool p1_0, p1_1]] m Q := zbd ok150 (by kernel_rfl) (eqT (by kernel_rfl) h)
def t151 (p0 : zab) : T :=
 .opt (zbm p0) fun a0 => .asI .i64 a0 fun n1 => .heavy (zda C13 200 (.int .i64 (zag .i64 (Int.tdiv (zag .i64 (n1 + 1)) 2))) (.int .i64 (zag .i64 (Int.tdiv (zag .i64 (n1 + 1)) 2)))) fun a2 =>
 .opt (zbm p0) fun a3 => .asI .i64 a3 fun n4 => .jump 2 [a2, p0, .int .i64 n4, .int .i64 0]
theorem w151 (p0 : zab) {m : Tr zak} {Q : zao} (h : wp 151 (t151 p0) m Q) : Wf 151 [p0] m Q := zbd ok151 (by kernel_rfl) (eqT (by kernel_rfl) h)
def z85 (v3 v11 : zab) (v12 v13 : Int) : T :=
 .ite (iLt v13 v12)
 (.opt (zah C13 22 v11 (.int .i64 v13)) fun a0 => .light (fun m => zau C13 50 ⟨0, m⟩ a0) fun a1 => .asI .u16 a1 fun n2 => .opt (zah C13 200 v3 (.int .i64 (zag .i64 (Int.tdiv v13 2)))) fun a3 => .light (fun m => zau C13 202 ⟨0, m⟩ a3) fun a4 => .asI .u32 a4 fun n5 => .opt (zzbk .u32 (zag .u32 n2) (zag .i64 (16 * (Int.tmod v13 2)))) fun a6 => .asI .u32 a6 fun n7 => .opt (zfz Nat.lor .u32 n5 n7) fun a8 => .asI .u32 a8 fun n9 => .opt (zah C13 200 v3 (.int .i64 (zag .i64 (Int.tdiv v13 2)))) fun a10 => .heavy (zbl C13 202 a10 (.int .u32 n9)) fun _ =>
 .jump 2 [v3, v11, .int .i64 v12, (.int .i64 (zag .i64 (v13 + 1)))])
 (.ret v3)
theorem zzhy (v3 v11 : zab) (v12 v13 : Int) {m : Tr zak} {Q : zao} (h : wp 151 (z85 v3 v11 v12 v13) m Q) : jp 151 2 [v3, v11, .int .i64 v12, .int .i64 v13] m Q := zbr ok151 (by kernel_rfl) h
def t152 (p0 : zab) (p1 : Int) : T :=
 .opt (zbm p0) fun a0 => .asI .i64 a0 fun n1 => .heavy (zda C13 200 (.int .i64 n1) (.int .i64 n1)) fun a2 =>
 .opt (zbm p0) fun a3 => .asI .i64 a3 fun n4 => .jump 2 [p0, .int .u32 p1, a2, .int .u32 0, (.int .i64 (zag .i64 (n4 - 1)))]
theorem w152 (p0 : zab) (p1 : Int) {m : Tr zak} {Q : zao} (h : wp 152 (t152 p0 p1) m Q) : Wf 152 [p0, .int .u32 p1] m Q := zbd ok152 (by kernel_rfl) (eqT (by kernel_rfl) h)
def z84 (v0 : zab) (v1 : Int) (v6 : zab) (v7 v8 : Int) : T :=
 .ite (iLe 0 v8)
 (.opt (zah C13 200 v0 (.int .i64 v8)) fun a0 => .light (fun m => zau C13 202 ⟨0, m⟩ a0) fun a1 => .asI .u32 a1 fun n2 => .call 173 [.int .u32 v7, .int .u32 n2, .int .u32 v1] fun a3 =>
 .opt (zar 0 a3) fun a4 => .asI .u32 a4 fun n5 => .opt (zar 1 a3) fun a6 => .asI .u32 a6 fun n7 => .opt (zah C13 200 v6 (.int .i64 v8)) fun a8 => .heavy (zbl C13 202 a8 (.int .u32 n5)) fun _ =>
 .jump 2 [v0, .int .u32 v1, v6, .int .u32 n7, (.int .i64 (zag .i64 (v8 - 1)))])
 (.call 174 [v6] fun a9 =>
 .ret (.tup [a9, .int .u32 v7]))
theorem zzhx (v0 : zab) (v1 : Int) (v6 : zab) (v7 v8 : Int) {m : Tr zak} {Q : zao} (h : wp 152 (z84 v0 v1 v6 v7 v8) m Q) : jp 152 2 [v0, .int .u32 v1, v6, .int .u32 v7, .int .i64 v8] m Q := zbr ok152 (by kernel_rfl) h
def t153 (p0 : zab) : T :=
 .heavy (z0e p0) fun a0 =>
 .ret (.func (.func 175) [] [a0])
theorem w153 (p0 : zab) {m : Tr zak} {Q : zao} (h : wp 153 (t153 p0) m Q) : Wf 153 [p0] m Q := zbd ok153 (by kernel_rfl) (eqT (by kernel_rfl) h)
def t155 (p0 p1 : List Nat) : T :=
 .ite (iLe (Int.ofNat (zbw p1)) (Int.ofNat (zbw p0)))
 (.opt (zcu C13 9 H0A (.str p0) none (some (.int .i64 (Int.ofNat (zbw p1))))) fun a0 => .asS a0 fun s1 => .ret (.bool (zes s1 p1)))
 (.ret (.bool false))
theorem w155 (p0 p1 : List Nat) {m : Tr zak} {Q : zao} (h : wp 155 (t155 p0 p1) m Q) : Wf 155 [.str p0, .str p1] m Q := zbd ok155 (by kernel_rfl) (eqT (by kernel_rfl) h)
def t156 (p0 p1 : List Nat) : T :=
 .call 155 [.str p0, .str p1] fun a0 =>
 .asB a0 fun b1 => .ite (!b1)
 (.ret (.tup [.str p0, .bool false]))
 (.opt (zcu C13 9 H0A (.str p0) (some (.int .i64 (Int.ofNat (zbw p1)))) none) fun a2 => .asS a2 fun s3 => .ret (.tup [.str s3, .bool true]))
theorem w156 (p0 p1 : List Nat) {m : Tr zak} {Q : zao} (h : wp 156 (t156 p0 p1) m Q) : Wf 156 [.str p0, .str p1] m Q := zbd ok156 (by kernel_rfl) (eqT (by kernel_rfl) h)
def t157 (p0 : Int) (p1 : zab) : T :=
 .jump 2 [p1, .int .i64 0, .int .i64 p0]
theorem w157 (p0 : Int) (p1 : zab) {m : Tr zak} {Q : zao} (h : wp 157 (t157 p0 p1) m Q) : Wf 157 [.int .i64 p0, p1] m Q := zbd ok157 (by kernel_rfl) (eqT (by kernel_rfl) h)
def t157_2 (v1 : zab) (v5 v6 : Int) : T :=
 .ite (iLt v5 v6)
 (.callv v1 [(.int .i64 (zag .i64 (Int.fdiv (zag .u64 (zag .i64 (v5 + v6))) 2)))] fun a0 =>
 .asB a0 fun b1 => .ite (!b1)
 (.jump 2 [v1, (.int .i64 (zag .i64 ((zag .i64 (Int.fdiv (zag .u64 (zag .i64 (v5 + v6))) 2)) + 1))), .int .i64 v6])
 (.jump 2 [v1, .int .i64 v5, (.int .i64 (zag .i64 (Int.fdiv (zag .u64 (zag .i64 (v5 + v6))) 2)))]))
 (.ret (.int .i64 v5))
theorem zzbb (v1 : zab) (v5 v6 : Int) {m : Tr zak} {Q : zao} (h : wp 157 (t157_2 v1 v5 v6) m Q) : jp 157 2 [v1, .int .i64 v5, .int .i64 v6] m Q := zbr ok157 (by kernel_rfl) h
def t158 (p0 : Int) (w0 : zab) : T :=
 .light (fun m => zau C13 3 ⟨0, m⟩ w0) fun a0 => .asI .i64 a0 fun n1 => .call 123 [(.int .i64 (zag .i64 (p0 + 1)))] fun a2 =>
 .asI .i64 a2 fun n3 => .light (fun m => zau C13 3 ⟨0, m⟩ w0) fun a4 => .ite (same 10 a4 (.int .i64 n1)) (.ret (.bool (iLt n1 n3))) .fail
theorem w158 (p0 : Int) (w0 : zab) {m : Tr zak} {Q : zao} (h : wp 158 (t158 p0 w0) m Q) : Wf 158 [.int .i64 p0, w0] m Q := zbd ok158 (by kernel_rfl) (eqT (by kernel_rfl) h)
def t159 (p0 : Int) : T :=
 .ret (.int .i64 (zag .i64 ((zag .i64 ((zag .i64 (Int.tdiv p0 4)) - (zag .i64 (Int.tdiv p0 100)))) + (zag .i64 (Int.tdiv p0 400)))))
theorem w159 (p0 : Int) {m : Tr zak} {Q : zao} (h : wp 159 (t159 p0) m Q) : Wf 159 [.int .i64 p0] m Q := zbd ok159 (by kernel_rfl) (eqT (by kernel_rfl) h)
def t160 (p0 p1 : Int) : T :=
 .ite (iLt p1 1)
 (.ret (.int .i64 0))
 (.ite (iLt 12 p1)
 (.ret (.int .i64 0))
 (.ite (iEq p1 2)
 (.call 177 [.int .i64 p0] fun a0 =>
 .asB a0 fun b1 => .ite b1
 (.ret (.int .i64 29))
 (.opt (zah C13 220 (.ptr 2 0) (.int .i64 (zag .i64 (p1 - 1)))) fun a2 => .light (fun m => zau C13 3 ⟨0, m⟩ a2) fun a3 => .asI .i64 a3 fun n4 => .ret (.int .i64 n4)))
 (.opt (zah C13 220 (.ptr 2 0) (.int .i64 (zag .i64 (p1 - 1)))) fun a5 => .light (fun m => zau C13 3 ⟨0, m⟩ a5) fun a6 => .asI .i64 a6 fun n7 => .ret (.int .i64 n7))))
theorem w160 (p0 p1 : Int) {m : Tr zak} {Q : zao} (h : wp 160 (t160 p0 p1) m Q) : Wf 160 [.int .i64 p0, .int .i64 p1] m Q := zbd ok160 (by kernel_rfl) (eqT (by kernel_rfl) h)
def t172 (p0_0 : Bool) (p0_1 : zab) (p1_0 : Bool) (p1_1 : zab) : T :=
 .heavy (za5 C13 237 2 [(0, (.agg [.bool p0_0, p0_1])), (1, (.agg [.bool p1_0, p1_1]))]) fun a0 =>
 .call 192 [a0] fun a1 =>
 .asB a1 fun b2 => .ite (!b2)
 (.ite true (.ite true (.ret (.tup [.agg [.bool false, .nilslice], .int .i64 2])) .fail) .fail)
 (.call 151 [p0_1] fun a3 =>
 .ite (same 10 p1_1 p1_1) (.call 151 [p1_1] fun a4 =>
 .call 194 [a3, a4] fun a5 =>
 .call 193 [.bool false, a5] fun a6 =>
 .asG [.bool false, .nilslice] a6 fun X7 =>
 .ite (zd9 zab.one [(.bool (X7.b 0)), (X7.v 1)]) (.ret (.tup [(.agg [(.bool (X7.b 0)), (X7.v 1)]), .int .i64 0])) .fail) .fail)
theorem w172 (p0_0 : Bool) (p0_1 : zab) (p1_0 : Bool) (p1_1 : zab) {m : Tr zak} {Q : zao} (h : wp 172 (t172 p0_0 p0_1 p1_0 p1_1) m Q) : Wf 172 [.agg [.bool p0_0, p0_1], .agg [.bool p1_0, p1_1]] m Q := zbd ok172 (by kernel_rfl) (eqT (by kernel_rfl) h)
def t173 (p0 p1 p2 : Int) : T :=
 .ite (!iEq p2 0)
 (.ite (iLe p2 p0)
 (.light (fun m => zau C13 82 ⟨0, m⟩ (.ptr 4 0)) fun a0 => .fail)
 (.jump 7 [.int .u32 p0, .int .u32 p1, .int .u32 p2]))
 (.jump 7 [.int .u32 p0, .int .u32 p1, .int .u32 p2])
theorem w173 (p0 p1 p2 : Int) {m : Tr zak} {Q : zao} (h : wp 173 (t173 p0 p1 p2) m Q) : Wf 173 [.int .u32 p0, .int .u32 p1, .int .u32 p2] m Q := zbd ok173 (by kernel_rfl) (eqT (by kernel_rfl) h)
def zzg6 (v0 v1 v2 : Int) : T :=
 .opt (zfz Nat.lor .u64 (zag .u64 ((zag .u64 v0) * 4294967296)) (zag .u64 v1)) fun a0 => .asI .u64 a0 fun n1 => .opt (zzfi .u64 n1 (zag .u64 v2)) fun a2 => .asI .u64 a2 fun n3 => .opt (zzfh .u64 n1 (zag .u64 v2)) fun a4 => .asI .u64 a4 fun n5 => .ret (.tup [(.int .u32 (zag .u32 n3)), (.int .u32 (zag .u32 n5))])
theorem j173_7 (v0 v1 v2 : Int) {m : Tr zak} {Q : zao} (h : wp 173 (zzg6 v0 v1 v2) m Q) : jp 173 7 [.int .u32 v0, .int .u32 v1, .int .u32 v2] m Q := zbr ok173 (by kernel_rfl) h
def t174 (p0 : zab) : T :=
 .jump 2 [p0]
theorem w174 (p0 : zab) {m : Tr zak} {Q : zao} (h : wp 174 (t174 p0) m Q) : Wf 174 [p0] m Q := zbd ok174 (by kernel_rfl) (eqT (by kernel_rfl) h)
def z24 (v0 : zab) : T :=
 .opt (zbm v0) fun a0 => .asI .i64 a0 fun n1 => .ite (iLt 0 n1)
 (.opt (zbm v0) fun a2 => .asI .i64 a2 fun n3 => .opt (zah C13 200 v0 (.int .i64 (zag .i64 (n3 - 1)))) fun a4 => .light (fun m => zau C13 202 ⟨0, m⟩ a4) fun a5 => .asI .u32 a5 fun n6 => .ite (iEq n6 0)
 (.opt (zbm v0) fun a7 => .asI .i64 a7 fun n8 => .light (fun m => zcu C13 200 ⟨0, m⟩ v0 none (some (.int .i64 (zag .i64 (n8 - 1))))) fun a9 => .jump 2 [a9])
 (.ret v0))
 (.ret v0)
theorem zzba (v0 : zab) {m : Tr zak} {Q : zao} (h : wp 174 (z24 v0) m Q) : jp 174 2 [v0] m Q := zbr ok174 (by kernel_rfl) h
def t175 (p0 w0 : zab) : T :=
 .light (fun m => zau C13 200 ⟨0, m⟩ w0) fun a0 => .opt (zbm a0) fun a1 => .asI .i64 a1 fun n2 => .jump 2 [p0, w0, (.int .i64 (zag .i64 (n2 - 1)))]
theorem w175 (p0 w0 : zab) {m : Tr zak} {Q : zao} (h : wp 175 (t175 p0 w0) m Q) : Wf 175 [p0, w0] m Q := zbd ok175 (by kernel_rfl) (eqT (by kernel_rfl) h)
def z83 (v0 v1 : zab) (v3 : Int) : T :=
 .ite (iLe 0 v3)
 (.light (fun m => zau C13 200 ⟨0, m⟩ v1) fun a0 => .opt (zah C13 200 a0 (.int .i64 v3)) fun a1 => .light (fun m => zau C13 202 ⟨0, m⟩ a1) fun a2 => .asI .u32 a2 fun n3 => .callv v0 [.int .u32 n3] fun a4 =>
 .asB a4 fun b5 => .ite (!b5)
 (.ret (.tup []))
 (.jump 2 [v0, v1, (.int .i64 (zag .i64 (v3 - 1)))]))
 (.ret (.tup []))
theorem zzhw (v0 v1 : zab) (v3 : Int) {m : Tr zak} {Q : zao} (h : wp 175 (z83 v0 v1 v3) m Q) : jp 175 2 [v0, v1, .int .i64 v3] m Q := zbr ok175 (by kernel_rfl) h
def t177 (p0 : Int) : T :=
 .ite (iEq (Int.tmod p0 4) 0)
 (.ite (!iEq (Int.tmod p0 100) 0)
 (.ret (.bool true))
 (.ret (.bool (iEq (Int.tmod p0 400) 0))))
 (.ret (.bool false))
theorem w177 (p0 : Int) {m : Tr zak} {Q : zao} (h : wp 177 (t177 p0) m Q) : Wf 177 [.int .i64 p0] m Q := zbd ok177 (by kernel_rfl) (eqT (by kernel_rfl) h)
def t192 (p0 : zab) : T :=
 .opt (zbm p0) fun a0 => .asI .i64 a0 fun n1 => .jump 2 [p0, .int .i64 n1, .int .i64 0]
theorem w192 (p0 : zab) {m : Tr zak} {Q : zao} (h : wp 192 (t192 p0) m Q) : Wf 192 [p0] m Q := zbd ok192 (by kernel_rfl) (eqT (by kernel_rfl) h)
def z82 (v5 : zab) (v6 v7 : Int) : T :=
 .ite (iLt v7 v6)
 (.opt (zah C13 237 v5 (.int .i64 v7)) fun a0 => .light (fun m => zau C13 24 ⟨0, m⟩ a0) fun a1 => .asG [.bool false, .nilslice] a1 fun X2 =>
 .ite (zd9 zab.one [(.bool (X2.b 0)), (X2.v 1)]) (.call 148 [(.agg [(.bool (X2.b 0)), (X2.v 1)])] fun a3 =>
 .asB a3 fun b4 => .ite (!b4)
 (.ret (.bool false))
 (.jump 2 [v5, .int .i64 v6, (.int .i64 (zag .i64 (v7 + 1)))])) .fail)
 (.ret (.bool true))
theorem zzhv (v5 : zab) (v6 v7 : Int) {m : Tr zak} {Q : zao} (h : wp 192 (z82 v5 v6 v7) m Q) : jp 192 2 [v5, .int .i64 v6, .int .i64 v7] m Q := zbr ok192 (by kernel_rfl) h
def t193 (p0 : Bool) (p1 : zab) : T :=
 .call 174 [p1] fun a0 =>
 .opt (zbm a0) fun a1 => .asI .i64 a1 fun n2 => .ite (iEq n2 0)
 (.ite true (.ite true (.ret (.agg [.bool false, .nilslice])) .fail) .fail)
 (.opt (zbm a0) fun a3 => .asI .i64 a3 fun n4 => .heavy (zda C13 22 (.int .i64 (zag .i64 (2 * n4))) (.int .i64 (zag .i64 (2 * n4)))) fun a5 =>
 .opt (zbm a0) fun a6 => .asI .i64 a6 fun n7 => .jump 2 [.bool p0, a5, a0, .int .i64 n7, .int .i64 0, .bool false, .nilslice])
theorem w193 (p0 : Bool) (p1 : zab) {m : Tr zak} {Q : zao} (h : wp 193 (t193 p0 p1) m Q) : Wf 193 [.bool p0, p1] m Q := zbd ok193 (by kernel_rfl) (eqT (by kernel_rfl) h)
def z81 (v0 : Bool) (v5 v18 : zab) (v19 v20 : Int) (c4_0 : Bool) (c4_1 : zab) : T :=
 .ite (iLt v20 v19)
 (.opt (zah C13 200 v18 (.int .i64 v20)) fun a0 => .light (fun m => zau C13 202 ⟨0, m⟩ a0) fun a1 => .asI .u32 a1 fun n2 => .opt (zah C13 22 v5 (.int .i64 (zag .i64 (2 * v20)))) fun a3 => .heavy (zbl C13 50 a3 (.int .u16 (zag .u16 n2))) fun _ =>
 .opt (zah C13 22 v5 (.int .i64 (zag .i64 ((zag .i64 (2 * v20)) + 1)))) fun a4 => .heavy (zbl C13 50 a4 (.int .u16 (zag .u16 (Int.fdiv n2 65536)))) fun _ =>
 .jump 2 [.bool v0, v5, v18, .int .i64 v19, (.int .i64 (zag .i64 (v20 + 1))), .bool c4_0, c4_1])
 (.opt (zbm v5) fun a5 => .asI .i64 a5 fun n6 => .opt (zah C13 22 v5 (.int .i64 (zag .i64 (n6 - 1)))) fun a7 => .light (fun m => zau C13 50 ⟨0, m⟩ a7) fun a8 => .asI .u16 a8 fun n9 => .ite (iEq n9 0)
 (.opt (zbm v5) fun a10 => .asI .i64 a10 fun n11 => .light (fun m => zcu C13 22 ⟨0, m⟩ v5 none (some (.int .i64 (zag .i64 (n11 - 1))))) fun a12 => .ite (zd9 zab.one [.bool v0, a12]) (.ite (zd9 zab.one [.bool v0, a12]) (.ret (.agg [.bool v0, a12])) .fail) .fail)
 (.ite (zd9 zab.one [.bool v0, v5]) (.ite (zd9 zab.one [.bool v0, v5]) (.ret (.agg [.bool v0, v5])) .fail) .fail))
theorem zzhu (v0 : Bool) (v5 v18 : zab) (v19 v20 : Int) (c4_0 : Bool) (c4_1 : zab) {m : Tr zak} {Q : zao} (h : wp 193 (z81 v0 v5 v18 v19 v20 c4_0 c4_1) m Q) : jp 193 2 [.bool v0, v5, v18, .int .i64 v19, .int .i64 v20, .bool c4_0, c4_1] m Q := zbr ok193 (by kernel_rfl) h
def t194 (p0 p1 : zab) : T :=
 .call 203 [p0, p1] fun a0 =>
 .asI .i64 a0 fun n1 => .ite (iLt n1 0)
 (.jump 2 [p1, p0])
 (.jump 2 [p0, p1])
theorem w194 (p0 p1 : zab) {m : Tr zak} {Q : zao} (h : wp 194 (t194 p0 p1) m Q) : Wf 194 [p0, p1] m Q := zbd zzeq (by kernel_rfl) (eqT (by kernel_rfl) h)
def zzg4 (v0 v1 : zab) : T :=
 .opt (zbm v1) fun a0 => .asI .i64 a0 fun n1 => .ite (iLt 2 n1)
 (.call 204 [v0, v1] fun a2 =>
 .asG [.int .u64 0, .int .u64 0, .int .u64 0, .int .u64 0, .bool false] a2 fun X3 =>
 .ite true (.ite (iEq (X3.i 2) 0)
 (.call 205 [v0, v1] fun a4 =>
 .opt (zar 0 a4) fun a5 => .opt (zar 1 a4) fun a6 => .jump 2 [v1, a6])
 (.ite (X3.b 4)
 (.call 206 [(.int .u64 (X3.i 0)), v0, (.int .u64 (X3.i 2)), v1] fun a7 =>
 .ite (same 10 (.int .u64 (X3.i 3)) (.int .u64 (X3.i 3))) (.ite (same 10 (.int .u64 (X3.i 1)) (.int .u64 (X3.i 1))) (.call 206 [(.int .u64 (X3.i 3)), v1, (.int .u64 (X3.i 1)), v0] fun a8 =>
 .jump 2 [a7, a8]) .fail) .fail)
 (.call 206 [(.int .u64 (X3.i 2)), v1, (.int .u64 (X3.i 0)), v0] fun a9 =>
 .ite (same 10 (.int .u64 (X3.i 1)) (.int .u64 (X3.i 1))) (.ite (same 10 (.int .u64 (X3.i 3)) (.int .u64 (X3.i 3))) (.call 206 [(.int .u64 (X3.i 1)), v0, (.int .u64 (X3.i 3)), v1] fun a10 =>
 .jump 2 [a9, a10]) .fail) .fail))) .fail)
 (.opt (zbm v1) fun a11 => .asI .i64 a11 fun n12 => .ite (iEq n12 0)
 (.ret v0)
 (.opt (zbm v0) fun a13 => .asI .i64 a13 fun n14 => .ite (iLt 2 n14)
 (.call 205 [v0, v1] fun a15 =>
 .opt (zar 0 a15) fun a16 => .opt (zar 1 a15) fun a17 => .jump 33 [v1, a17])
 (.jump 33 [v0, v1])))
theorem j194_2 (v0 v1 : zab) {m : Tr zak} {Q : zao} (h : wp 194 (zzg4 v0 v1) m Q) : jp 194 2 [v0, v1] m Q := zbr zzeq (by kernel_rfl) h
def z80 (v0 v1 : zab) : T :=
 .call 207 [v0] fun a0 =>
 .asI .u64 a0 fun n1 => .call 207 [v1] fun a2 =>
 .asI .u64 a2 fun n3 => .jump 6 [.int .u64 n1, .int .u64 n3]
theorem zzjt (v0 v1 : zab) {m : Tr zak} {Q : zao} (h : wp 194 (z80 v0 v1) m Q) : jp 194 33 [v0, v1] m Q := zbr zzeq (by kernel_rfl) h
def zzg3 (v10 v11 : Int) : T :=
 .ite (!iEq v11 0)
 (.opt (zzfh .u64 v10 v11) fun a0 => .asI .u64 a0 fun n1 => .jump 6 [.int .u64 v11, .int .u64 n1])
 (.call 208 [.int .u64 v10] fun a2 =>
 .ret a2)
theorem j194_6 (v10 v11 : Int) {m : Tr zak} {Q : zao} (h : wp 194 (zzg3 v10 v11) m Q) : jp 194 6 [.int .u64 v10, .int .u64 v11] m Q := zbr zzeq (by kernel_rfl) h
def t203 (p0 p1 : zab) : T :=
 .opt (zbm p0) fun a0 => .asI .i64 a0 fun n1 => .opt (zbm p1) fun a2 => .asI .i64 a2 fun n3 => .ite (!iEq n1 n3)
 (.opt (zbm p0) fun a4 => .asI .i64 a4 fun n5 => .opt (zbm p1) fun a6 => .asI .i64 a6 fun n7 => .ite (iLt n5 n7)
 (.ret (.int .i64 (-1)))
 (.ret (.int .i64 1)))
 (.opt (zbm p0) fun a8 => .asI .i64 a8 fun n9 => .jump 2 [p0, p1, (.int .i64 (zag .i64 (n9 - 1)))])
theorem w203 (p0 p1 : zab) {m : Tr zak} {Q : zao} (h : wp 203 (t203 p0 p1) m Q) : Wf 203 [p0, p1] m Q := zbd ok203 (by kernel_rfl) (eqT (by kernel_rfl) h)
def z8z (v0 v1 : zab) (v5 : Int) : T :=
 .ite (iLe 0 v5)
 (.opt (zah C13 200 v0 (.int .i64 v5)) fun a0 => .light (fun m => zau C13 202 ⟨0, m⟩ a0) fun a1 => .asI .u32 a1 fun n2 => .opt (zah C13 200 v1 (.int .i64 v5)) fun a3 => .light (fun m => zau C13 202 ⟨0, m⟩ a3) fun a4 => .asI .u32 a4 fun n5 => .ite (!iEq n2 n5)
 (.opt (zah C13 200 v0 (.int .i64 v5)) fun a6 => .light (fun m => zau C13 202 ⟨0, m⟩ a6) fun a7 => .asI .u32 a7 fun n8 => .opt (zah C13 200 v1 (.int .i64 v5)) fun a9 => .light (fun m => zau C13 202 ⟨0, m⟩ a9) fun a10 => .asI .u32 a10 fun n11 => .ite (iLt n8 n11)
 (.ret (.int .i64 (-1)))
 (.ret (.int .i64 1)))
 (.jump 2 [v0, v1, (.int .i64 (zag .i64 (v5 - 1)))]))
 (.ret (.int .i64 0))
theorem zzht (v0 v1 : zab) (v5 : Int) {m : Tr zak} {Q : zao} (h : wp 203 (z8z v0 v1 v5) m Q) : jp 203 2 [v0, v1, .int .i64 v5] m Q := zbr ok203 (by kernel_rfl) h
def t204 (p0 p1 : zab) : T :=
 .opt (zbm p0) fun a0 => .asI .i64 a0 fun n1 => .opt (zah C13 200 p0 (.int .i64 (zag .i64 (n1 - 1)))) fun a2 => .light (fun m => zau C13 202 ⟨0, m⟩ a2) fun a3 => .asI .u32 a3 fun n4 => .call 212 [.int .u32 n4] fun a5 =>
 .asI .i64 a5 fun n6 => .call 213 [p0, .int .i64 n1, .int .i64 n6] fun a7 =>
 .asI .u64 a7 fun n8 => .call 213 [p1, .int .i64 n1, .int .i64 n6] fun a9 =>
 .asI .u64 a9 fun n10 => .ite true (.ite true (.jump 2 [.int .u64 n8, .int .u64 n10, .int .u64 0, .int .u64 1, .int .u64 0, .int .u64 0, .int .u64 0, .int .u64 0, .bool false, .int .u64 0, .int .u64 1, .int .u64 0, .int .u64 0, .bool false]) .fail) .fail
theorem w204 (p0 p1 : zab) {m : Tr zak} {Q : zao} (h : wp 204 (t204 p0 p1) m Q) : Wf 204 [p0, p1] m Q := zbd ok204 (by kernel_rfl) (eqT (by kernel_rfl) h)
def zzg2 (v7 v8 v10 v11 c4_0 c4_1 c4_2 c4_3 : Int) (c4_4 : Bool) (c9_0 c9_1 c9_2 c9_3 : Int) (c9_4 : Bool) : T :=
 .ite (iLe v11 v8)
 (.ite (iLe (zag .u64 (c9_3 + v11)) (zag .u64 (v7 - v8)))
 (.opt (zzfi .u64 v7 v8) fun a0 => .asI .u64 a0 fun n1 => .opt (zzfh .u64 v7 v8) fun a2 => .asI .u64 a2 fun n3 => .ite true (.ite true (.ite true (.ite true (.ite true (.jump 2 [.int .u64 v8, .int .u64 n3, (.int .u64 (zag .u64 (c9_1 + (zag .u64 (n1 * v10))))), (.int .u64 (zag .u64 (c9_3 + (zag .u64 (n1 * v11))))), .int .u64 c4_0, .int .u64 c4_1, .int .u64 c4_2, .int .u64 c4_3, .bool c4_4, .int .u64 c9_1, .int .u64 v10, .int .u64 c9_3, .int .u64 v11, (.bool (!c9_4))]) .fail) .fail) .fail) .fail) .fail)
 (.ite true (.ret (.agg [.int .u64 c9_0, .int .u64 c9_1, .int .u64 c9_2, .int .u64 c9_3, .bool c9_4])) .fail))
 (.ite true (.ret (.agg [.int .u64 c9_0, .int .u64 c9_1, .int .u64 c9_2, .int .u64 c9_3, .bool c9_4])) .fail)
theorem j204_2 (v7 v8 v10 v11 c4_0 c4_1 c4_2 c4_3 : Int) (c4_4 : Bool) (c9_0 c9_1 c9_2 c9_3 : Int) (c9_4 : Bool) {m : Tr zak} {Q : zao} (h : wp 204 (zzg2 v7 v8 v10 v11 c4_0 c4_1 c4_2 c4_3 c4_4 c9_0 c9_1 c9_2 c9_3 c9_4) m Q) : jp 204 2 [.int .u64 v7, .int .u64 v8, .int .u64 v10, .int .u64 v11, .int .u64 c4_0, .int .u64 c4_1, .int .u64 c4_2, .int .u64 c4_3, .bool c4_4, .int .u64 c9_0, .int .u64 c9_1, .int .u64 c9_2, .int .u64 c9_3, .bool c9_4] m Q := zbr ok204 (by kernel_rfl) h
def t205 (p0 p1 : zab) : T :=
 .call 203 [p0, p1] fun a0 =>
 .asI .i64 a0 fun n1 => .ite (iLt n1 0)
 (.call 214 [p0] fun a2 =>
 .ret (.tup [.nilslice, a2]))
 (.opt (zbm p1) fun a3 => .asI .i64 a3 fun n4 => .ite (iEq n4 1)
 (.opt (zah C13 200 p1 (.int .i64 0)) fun a5 => .light (fun m => zau C13 202 ⟨0, m⟩ a5) fun a6 => .asI .u32 a6 fun n7 => .call 152 [p0, .int .u32 n7] fun a8 =>
 .opt (zar 0 a8) fun a9 => .opt (zar 1 a8) fun a10 => .asI .u32 a10 fun n11 => .heavy (za5 C13 200 1 [(0, (.int .u32 n11))]) fun a12 =>
 .call 174 [a12] fun a13 =>
 .ret (.tup [a9, a13]))
 (.opt (zbm p1) fun a14 => .asI .i64 a14 fun n15 => .opt (zah C13 200 p1 (.int .i64 (zag .i64 (n15 - 1)))) fun a16 => .light (fun m => zau C13 202 ⟨0, m⟩ a16) fun a17 => .asI .u32 a17 fun n18 => .call 212 [.int .u32 n18] fun a19 =>
 .asI .i64 a19 fun n20 => .call 215 [p1, .int .i64 n20] fun a21 =>
 .light (fun m => zcu C13 200 ⟨0, m⟩ a21 none (some (.int .i64 n15))) fun a22 => .call 215 [p0, .int .i64 n20] fun a23 =>
 .opt (zbm p0) fun a24 => .asI .i64 a24 fun n25 => .heavy (zda C13 200 (.int .i64 (zag .i64 ((zag .i64 (n25 - n15)) + 1))) (.int .i64 (zag .i64 ((zag .i64 (n25 - n15)) + 1)))) fun a26 =>
 .opt (zbm a26) fun a27 => .asI .i64 a27 fun n28 => .jump 2 [.int .i64 n15, .int .i64 n20, a22, a23, a26, (.int .i64 (zag .i64 (n28 - 1)))]))
theorem w205 (p0 p1 : zab) {m : Tr zak} {Q : zao} (h : wp 205 (t205 p0 p1) m Q) : Wf 205 [p0, p1] m Q := zbd zzjc (by kernel_rfl) (eqT (by kernel_rfl) h)
def z8y (v8 v9 : Int) (v10 v11 v12 : zab) (v13 : Int) : T :=
 .ite (iLe 0 v13)
 (.light (fun m => zcu C13 200 ⟨0, m⟩ v11 (some (.int .i64 v13)) (some (.int .i64 (zag .i64 ((zag .i64 (v13 + v8)) + 1))))) fun a0 => .call 216 [a0, v10] fun a1 =>
 .asI .u32 a1 fun n2 => .opt (zah C13 200 v12 (.int .i64 v13)) fun a3 => .heavy (zbl C13 202 a3 (.int .u32 n2)) fun _ =>
 .jump 2 [.int .i64 v8, .int .i64 v9, v10, v11, v12, (.int .i64 (zag .i64 (v13 - 1)))])
 (.jump 6 [.int .i64 v8, .int .i64 v9, v11, v12, .int .i64 v8, .int .i64 0])
theorem zzhs (v8 v9 : Int) (v10 v11 v12 : zab) (v13 : Int) {m : Tr zak} {Q : zao} (h : wp 205 (z8y v8 v9 v10 v11 v12 v13) m Q) : jp 205 2 [.int .i64 v8, .int .i64 v9, v10, v11, v12, .int .i64 v13] m Q := zbr zzjc (by kernel_rfl) h
def z8x (v8 v9 : Int) (v11 v12 : zab) (v77 v78 : Int) : T :=
 .ite (iLt v78 v77)
 (.opt (zah C13 200 v11 (.int .i64 (zag .i64 (v78 + 1)))) fun a0 => .light (fun m => zau C13 202 ⟨0, m⟩ a0) fun a1 => .asI .u32 a1 fun n2 => .opt (zah C13 200 v11 (.int .i64 v78)) fun a3 => .light (fun m => zau C13 202 ⟨0, m⟩ a3) fun a4 => .asI .u32 a4 fun n5 => .opt (zfz Nat.lor .u64 (zag .u64 ((zag .u64 n2) * 4294967296)) (zag .u64 n5)) fun a6 => .asI .u64 a6 fun n7 => .opt (zzjz .u64 n7 v9) fun a8 => .asI .u64 a8 fun n9 => .opt (zah C13 200 v11 (.int .i64 v78)) fun a10 => .heavy (zbl C13 202 a10 (.int .u32 (zag .u32 n9))) fun _ =>
 .jump 6 [.int .i64 v8, .int .i64 v9, v11, v12, .int .i64 v77, (.int .i64 (zag .i64 (v78 + 1)))])
 (.light (fun m => zcu C13 200 ⟨0, m⟩ v11 none (some (.int .i64 v8))) fun a11 => .call 174 [v12] fun a12 =>
 .light (fun m => zcu C13 200 ⟨0, m⟩ v11 none (some (.int .i64 v8))) fun a13 => .ite (same 10 a13 a11) (.call 174 [a11] fun a14 =>
 .ret (.tup [a12, a14])) .fail)
theorem zzhr (v8 v9 : Int) (v11 v12 : zab) (v77 v78 : Int) {m : Tr zak} {Q : zao} (h : wp 205 (z8x v8 v9 v11 v12 v77 v78) m Q) : jp 205 6 [.int .i64 v8, .int .i64 v9, v11, v12, .int .i64 v77, .int .i64 v78] m Q := zbr zzjc (by kernel_rfl) h
def t206 (p0 : Int) (p1 : zab) (p2 : Int) (p3 : zab) : T :=
 .opt (zbm p1) fun a0 => .asI .i64 a0 fun n1 => .opt (zbm p3) fun a2 => .asI .i64 a2 fun n3 => .heavy (zda C13 200 (.int .i64 (zag .i64 ((bif iLt n1 n3 then n3 else n1) + 1))) (.int .i64 (zag .i64 ((bif iLt n1 n3 then n3 else n1) + 1)))) fun a4 =>
 .opt (zbm a4) fun a5 => .asI .i64 a5 fun n6 => .jump 2 [.int .u64 p0, p1, .int .u64 p2, p3, a4, .int .u64 0, .int .u64 0, .int .u32 0, .int .i64 n6, .int .i64 0]
theorem w206 (p0 : Int) (p1 : zab) (p2 : Int) (p3 : zab) {m : Tr zak} {Q : zao} (h : wp 206 (t206 p0 p1 p2 p3) m Q) : Wf 206 [.int .u64 p0, p1, .int .u64 p2, p3] m Q := zbd zzep (by kernel_rfl) (eqT (by kernel_rfl) h)
def z8v (v0 : Int) (v1 : zab) (v2 : Int) (v3 v9 : zab) (v10 v11 v12 v22 v23 : Int) : T :=
 .ite (iLt v23 v22)
 (.opt (zbm v1) fun a0 => .asI .i64 a0 fun n1 => .ite (iLt v23 n1)
 (.opt (zah C13 200 v1 (.int .i64 v23)) fun a2 => .light (fun m => zau C13 202 ⟨0, m⟩ a2) fun a3 => .asI .u32 a3 fun n4 => .jump 17 [.int .u64 v0, v1, .int .u64 v2, v3, v9, (.int .u64 (zag .u64 (v10 + (zag .u64 (v0 * (zag .u64 n4)))))), .int .u64 v11, .int .u32 v12, .int .i64 v23, .int .i64 v22, .int .i64 v23])
 (.jump 17 [.int .u64 v0, v1, .int .u64 v2, v3, v9, .int .u64 v10, .int .u64 v11, .int .u32 v12, .int .i64 v23, .int .i64 v22, .int .i64 v23]))
 (.call 174 [v9] fun a5 =>
 .ret a5)
theorem zzhq (v0 : Int) (v1 : zab) (v2 : Int) (v3 v9 : zab) (v10 v11 v12 v22 v23 : Int) {m : Tr zak} {Q : zao} (h : wp 206 (z8v v0 v1 v2 v3 v9 v10 v11 v12 v22 v23) m Q) : jp 206 2 [.int .u64 v0, v1, .int .u64 v2, v3, v9, .int .u64 v10, .int .u64 v11, .int .u32 v12, .int .i64 v22, .int .i64 v23] m Q := zbr zzep (by kernel_rfl) h
def z8w (v0 : Int) (v1 : zab) (v2 : Int) (v3 v9 : zab) (v10 v11 v12 v13 v22 v23 : Int) : T :=
 .opt (zbm v3) fun a0 => .asI .i64 a0 fun n1 => .ite (iLt v13 n1)
 (.opt (zah C13 200 v3 (.int .i64 v13)) fun a2 => .light (fun m => zau C13 202 ⟨0, m⟩ a2) fun a3 => .asI .u32 a3 fun n4 => .jump 21 [.int .u64 v0, v1, .int .u64 v2, v3, v9, .int .u64 v10, (.int .u64 (zag .u64 (v11 + (zag .u64 (v2 * (zag .u64 n4)))))), .int .u32 v12, .int .i64 v13, .int .i64 v22, .int .i64 v23])
 (.jump 21 [.int .u64 v0, v1, .int .u64 v2, v3, v9, .int .u64 v10, .int .u64 v11, .int .u32 v12, .int .i64 v13, .int .i64 v22, .int .i64 v23])
theorem zzjs (v0 : Int) (v1 : zab) (v2 : Int) (v3 v9 : zab) (v10 v11 v12 v13 v22 v23 : Int) {m : Tr zak} {Q : zao} (h : wp 206 (z8w v0 v1 v2 v3 v9 v10 v11 v12 v13 v22 v23) m Q) : jp 206 17 [.int .u64 v0, v1, .int .u64 v2, v3, v9, .int .u64 v10, .int .u64 v11, .int .u32 v12, .int .i64 v13, .int .i64 v22, .int .i64 v23] m Q := zbr zzep (by kernel_rfl) h
def z8u (v0 : Int) (v1 : zab) (v2 : Int) (v3 v9 : zab) (v10 v11 v12 v13 v22 v23 : Int) : T :=
 .call 217 [(.int .u32 (zag .u32 v10)), (.int .u32 (zag .u32 v11)), .int .u32 v12] fun a0 =>
 .opt (zar 0 a0) fun a1 => .asI .u32 a1 fun n2 => .opt (zar 1 a0) fun a3 => .asI .u32 a3 fun n4 => .opt (zah C13 200 v9 (.int .i64 v13)) fun a5 => .heavy (zbl C13 202 a5 (.int .u32 n2)) fun _ =>
 .jump 2 [.int .u64 v0, v1, .int .u64 v2, v3, v9, (.int .u64 (Int.fdiv v10 4294967296)), (.int .u64 (Int.fdiv v11 4294967296)), .int .u32 n4, .int .i64 v22, (.int .i64 (zag .i64 (v23 + 1)))]
theorem zzjr (v0 : Int) (v1 : zab) (v2 : Int) (v3 v9 : zab) (v10 v11 v12 v13 v22 v23 : Int) {m : Tr zak} {Q : zao} (h : wp 206 (z8u v0 v1 v2 v3 v9 v10 v11 v12 v13 v22 v23) m Q) : jp 206 21 [.int .u64 v0, v1, .int .u64 v2, v3, v9, .int .u64 v10, .int .u64 v11, .int .u32 v12, .int .i64 v13, .int .i64 v22, .int .i64 v23] m Q := zbr zzep (by kernel_rfl) h
def t207 (p0 : zab) : T :=
 .heavy (zjq C13 195) fun a0 =>
 .heavy (zbl C13 195 a0 (.int .u64 0)) fun _ =>
 .call 153 [p0] fun a1 =>
 .range (npC C13) a1 2 1 [a0]
 (.light (fun m => zau C13 195 ⟨0, m⟩ a0) fun a2 => .asI .u64 a2 fun n3 => .ret (.int .u64 n3))
 (.ret (.int .u64 0))
theorem w207 (p0 : zab) {m : Tr zak} {Q : zao} (h : wp 207 (t207 p0) m Q) : Wf 207 [p0] m Q := zbd ok207 (by kernel_rfl) (eqT (by kernel_rfl) h)
def zzg1 (v3 : zab) (v7 : Int) : T :=
 .light (fun m => zau C13 195 ⟨0, m⟩ v3) fun a0 => .asI .u64 a0 fun n1 => .opt (zfz Nat.lor .u64 (zag .u64 (n1 * 4294967296)) (zag .u64 v7)) fun a2 => .asI .u64 a2 fun n3 => .heavy (zbl C13 195 v3 (.int .u64 n3)) fun _ =>
 .ret (.bool true)
theorem j207_2 (v3 : zab) (v7 : Int) {m : Tr zak} {Q : zao} (h : wp 207 (zzg1 v3 v7) m Q) : jp 207 2 [v3, .int .u32 v7] m Q := zbr ok207 (by kernel_rfl) h
def t208 (p0 : Int) : T :=
 .heavy (za5 C13 200 2 [(0, (.int .u32 (zag .u32 p0))), (1, (.int .u32 (zag .u32 (Int.fdiv p0 4294967296))))]) fun a0 =>
 .call 174 [a0] fun a1 =>
 .ret a1
theorem w208 (p0 : Int) {m : Tr zak} {Q : zao} (h : wp 208 (t208 p0) m Q) : Wf 208 [.int .u64 p0] m Q := zbd ok208 (by kernel_rfl) (eqT (by kernel_rfl) h)
def t212 (p0 : Int) : T :=
 .call 219 [.int .u32 p0] fun a0 =>
 .asI .i64 a0 fun n1 => .ret (.int .i64 (zag .i64 (32 - n1)))
theorem w212 (p0 : Int) {m : Tr zak} {Q : zao} (h : wp 212 (t212 p0) m Q) : Wf 212 [.int .u32 p0] m Q := zbd ok212 (by kernel_rfl) (eqT (by kernel_rfl) h)
def t213 (p0 : zab) (p1 p2 : Int) : T :=
 .heavy (z0e p0) fun a0 =>
 .callv (.func (.func 220) [] [a0]) [(.int .i64 (zag .i64 (p1 - 1)))] fun a1 =>
 .asI .u64 a1 fun n2 => .callv (.func (.func 220) [] [a0]) [(.int .i64 (zag .i64 (p1 - 2)))] fun a3 =>
 .asI .u64 a3 fun n4 => .opt (zfz Nat.lor .u64 (zag .u64 (n2 * 4294967296)) n4) fun a5 => .asI .u64 a5 fun n6 => .opt (zzbk .u64 n6 p2) fun a7 => .asI .u64 a7 fun n8 => .callv (.func (.func 220) [] [a0]) [(.int .i64 (zag .i64 (p1 - 3)))] fun a9 =>
 .asI .u64 a9 fun n10 => .opt (zzjz .u64 n10 (zag .i64 (32 - p2))) fun a11 => .asI .u64 a11 fun n12 => .opt (zfz Nat.lor .u64 n8 n12) fun a13 => .asI .u64 a13 fun n14 => .ret (.int .u64 n14)
theorem e213 (p0 : zab) (p1 p2 : Int) : entT C13 Tryz.f213 8 213 a213 [p0, .int .i64 p1, .int .i64 p2] = t213 p0 p1 p2 := by kernel_rfl
theorem w213 (p0 : zab) (p1 p2 : Int) {m : Tr zak} {Q : zao} (h : wp 213 (t213 p0 p1 p2) m Q) : Wf 213 [p0, .int .i64 p1, .int .i64 p2] m Q := zbd ok213 (by kernel_rfl) (by rw [e213]; exact h)
def t214 (p0 : zab) : T :=
 .opt ((binA .eql).f C13 200 (.tmp 3) (.const (.slice none 0 0)) p0 .nilslice) fun a0 => .asB a0 fun b1 => .ite b1
 (.ret .nilslice)
 (.heavy (za5 C13 200 0 []) fun a2 =>
 .heavy (zci C13 200 200 a2 p0) fun a3 =>
 .ret a3)
theorem w214 (p0 : zab) {m : Tr zak} {Q : zao} (h : wp 214 (t214 p0) m Q) : Wf 214 [p0] m Q := zbd ok214 (by kernel_rfl) (eqT (by kernel_rfl) h)
def t215 (p0 : zab) (p1 : Int) : T :=
 .opt (zbm p0) fun a0 => .asI .i64 a0 fun n1 => .heavy (zda C13 200 (.int .i64 (zag .i64 (n1 + 1))) (.int .i64 (zag .i64 (n1 + 1)))) fun a2 =>
 .opt (zbm p0) fun a3 => .asI .i64 a3 fun n4 => .jump 2 [.int .i64 p1, a2, p0, .int .i64 n4, .int .i64 0]
theorem w215 (p0 : zab) (p1 : Int) {m : Tr zak} {Q : zao} (h : wp 215 (t215 p0 p1) m Q) : Wf 215 [p0, .int .i64 p1] m Q := zbd ok215 (by kernel_rfl) (eqT (by kernel_rfl) h)
def z8t (v1 : Int) (v5 v13 : zab) (v14 v15 : Int) : T :=
 .ite (iLt v15 v14)
 (.opt (zah C13 200 v13 (.int .i64 v15)) fun a0 => .light (fun m => zau C13 202 ⟨0, m⟩ a0) fun a1 => .asI .u32 a1 fun n2 => .opt (zzbk .u64 (zag .u64 n2) v1) fun a3 => .asI .u64 a3 fun n4 => .opt (zah C13 200 v5 (.int .i64 v15)) fun a5 => .light (fun m => zau C13 202 ⟨0, m⟩ a5) fun a6 => .asI .u32 a6 fun n7 => .opt (zfz Nat.lor .u32 n7 (zag .u32 n4)) fun a8 => .asI .u32 a8 fun n9 => .opt (zah C13 200 v5 (.int .i64 v15)) fun a10 => .heavy (zbl C13 202 a10 (.int .u32 n9)) fun _ =>
 .opt (zah C13 200 v5 (.int .i64 (zag .i64 (v15 + 1)))) fun a11 => .heavy (zbl C13 202 a11 (.int .u32 (zag .u32 (Int.fdiv n4 4294967296)))) fun _ =>
 .jump 2 [.int .i64 v1, v5, v13, .int .i64 v14, (.int .i64 (zag .i64 (v15 + 1)))])
 (.ret v5)
theorem zzhp (v1 : Int) (v5 v13 : zab) (v14 v15 : Int) {m : Tr zak} {Q : zao} (h : wp 215 (z8t v1 v5 v13 v14 v15) m Q) : jp 215 2 [.int .i64 v1, v5, v13, .int .i64 v14, .int .i64 v15] m Q := zbr ok215 (by kernel_rfl) h
def t216 (p0 p1 : zab) : T :=
 .opt (zbm p1) fun a0 => .asI .i64 a0 fun n1 => .opt (zah C13 200 p0 (.int .i64 n1)) fun a2 => .light (fun m => zau C13 202 ⟨0, m⟩ a2) fun a3 => .asI .u32 a3 fun n4 => .opt (zah C13 200 p0 (.int .i64 (zag .i64 (n1 - 1)))) fun a5 => .light (fun m => zau C13 202 ⟨0, m⟩ a5) fun a6 => .asI .u32 a6 fun n7 => .opt (zfz Nat.lor .u64 (zag .u64 ((zag .u64 n4) * 4294967296)) (zag .u64 n7)) fun a8 => .asI .u64 a8 fun n9 => .opt (zah C13 200 p1 (.int .i64 (zag .i64 (n1 - 1)))) fun a10 => .light (fun m => zau C13 202 ⟨0, m⟩ a10) fun a11 => .asI .u32 a11 fun n12 => .opt (zzfi .u64 n9 (zag .u64 n12)) fun a13 => .asI .u64 a13 fun n14 => .opt (zzfh .u64 n9 (zag .u64 n12)) fun a15 => .asI .u64 a15 fun n16 => .jump 2 [p0, p1, .int .i64 n1, (.int .u64 (zag .u64 n12)), .int .u64 n14, .int .u64 n16]
theorem w216 (p0 p1 : zab) {m : Tr zak} {Q : zao} (h : wp 216 (t216 p0 p1) m Q) : Wf 216 [p0, p1] m Q := zbd z98 (by kernel_rfl) (eqT (by kernel_rfl) h)
def z8r (v0 v1 : zab) (v5 v7 v8 v9 : Int) : T :=
 .ite (iLe 4294967296 v8)
 (.ite (iLe 4294967296 (zag .u64 (v9 + v7)))
 (.jump 19 [v0, v1, .int .i64 v5, (.int .u64 (zag .u64 (v8 - 1)))])
 (.jump 2 [v0, v1, .int .i64 v5, .int .u64 v7, (.int .u64 (zag .u64 (v8 - 1))), (.int .u64 (zag .u64 (v9 + v7)))]))
 (.opt (zah C13 200 v1 (.int .i64 (zag .i64 (v5 - 2)))) fun a0 => .light (fun m => zau C13 202 ⟨0, m⟩ a0) fun a1 => .asI .u32 a1 fun n2 => .opt (zah C13 200 v0 (.int .i64 (zag .i64 (v5 - 2)))) fun a3 => .light (fun m => zau C13 202 ⟨0, m⟩ a3) fun a4 => .asI .u32 a4 fun n5 => .opt (zfz Nat.lor .u64 (zag .u64 (v9 * 4294967296)) (zag .u64 n5)) fun a6 => .asI .u64 a6 fun n7 => .ite (iLt n7 (zag .u64 (v8 * (zag .u64 n2))))
 (.ite (iLe 4294967296 (zag .u64 (v9 + v7)))
 (.jump 19 [v0, v1, .int .i64 v5, (.int .u64 (zag .u64 (v8 - 1)))])
 (.jump 2 [v0, v1, .int .i64 v5, .int .u64 v7, (.int .u64 (zag .u64 (v8 - 1))), (.int .u64 (zag .u64 (v9 + v7)))]))
 (.jump 19 [v0, v1, .int .i64 v5, .int .u64 v8]))
theorem zzho (v0 v1 : zab) (v5 v7 v8 v9 : Int) {m : Tr zak} {Q : zao} (h : wp 216 (z8r v0 v1 v5 v7 v8 v9) m Q) : jp 216 2 [v0, v1, .int .i64 v5, .int .u64 v7, .int .u64 v8, .int .u64 v9] m Q := zbr z98 (by kernel_rfl) h
def z8s (v0 v1 : zab) (v5 v8 : Int) : T :=
 .opt (zbm v1) fun a0 => .asI .i64 a0 fun n1 => .jump 6 [v0, v1, .int .i64 v5, .int .u64 v8, .int .u64 0, .int .u64 0, v1, .int .i64 n1, .int .i64 0]
theorem zzjq (v0 v1 : zab) (v5 v8 : Int) {m : Tr zak} {Q : zao} (h : wp 216 (z8s v0 v1 v5 v8) m Q) : jp 216 19 [v0, v1, .int .i64 v5, .int .u64 v8] m Q := zbr z98 (by kernel_rfl) h
def z8q (v0 v1 : zab) (v5 v8 v10 v11 : Int) (v76 : zab) (v77 v78 : Int) : T :=
 .ite (iLt v78 v77)
 (.opt (zah C13 200 v76 (.int .i64 v78)) fun a0 => .light (fun m => zau C13 202 ⟨0, m⟩ a0) fun a1 => .asI .u32 a1 fun n2 => .opt (zah C13 200 v0 (.int .i64 v78)) fun a3 => .light (fun m => zau C13 202 ⟨0, m⟩ a3) fun a4 => .asI .u32 a4 fun n5 => .opt (zah C13 200 v0 (.int .i64 v78)) fun a6 => .heavy (zbl C13 202 a6 (.int .u32 (zag .u32 (zag .u64 ((zag .u64 ((zag .u64 n5) - (zag .u64 (zag .u32 (zag .u64 ((zag .u64 (v8 * (zag .u64 n2))) + v10)))))) - v11))))) fun _ =>
 .jump 6 [v0, v1, .int .i64 v5, .int .u64 v8, (.int .u64 (Int.fdiv (zag .u64 ((zag .u64 (v8 * (zag .u64 n2))) + v10)) 4294967296)), (.int .u64 (Int.fdiv (zag .u64 ((zag .u64 ((zag .u64 n5) - (zag .u64 (zag .u32 (zag .u64 ((zag .u64 (v8 * (zag .u64 n2))) + v10)))))) - v11)) 9223372036854775808)), v76, .int .i64 v77, (.int .i64 (zag .i64 (v78 + 1)))])
 (.opt (zah C13 200 v0 (.int .i64 v5)) fun a7 => .light (fun m => zau C13 202 ⟨0, m⟩ a7) fun a8 => .asI .u32 a8 fun n9 => .opt (zah C13 200 v0 (.int .i64 v5)) fun a10 => .heavy (zbl C13 202 a10 (.int .u32 (zag .u32 (zag .u64 ((zag .u64 ((zag .u64 n9) - v10)) - v11))))) fun _ =>
 .ite (iEq (Int.fdiv (zag .u64 ((zag .u64 ((zag .u64 n9) - v10)) - v11)) 9223372036854775808) 0)
 (.ret (.int .u32 (zag .u32 v8)))
 (.opt (zbm v1) fun a11 => .asI .i64 a11 fun n12 => .jump 10 [v0, .int .i64 v5, .int .u64 v8, .int .u32 0, v1, .int .i64 n12, .int .i64 0]))
theorem zzhn (v0 v1 : zab) (v5 v8 v10 v11 : Int) (v76 : zab) (v77 v78 : Int) {m : Tr zak} {Q : zao} (h : wp 216 (z8q v0 v1 v5 v8 v10 v11 v76 v77 v78) m Q) : jp 216 6 [v0, v1, .int .i64 v5, .int .u64 v8, .int .u64 v10, .int .u64 v11, v76, .int .i64 v77, .int .i64 v78] m Q := zbr z98 (by kernel_rfl) h
def z0j (v0 : zab) (v5 v8 v17 : Int) (v129 : zab) (v130 v131 : Int) : T :=
 .ite (iLt v131 v130)
 (.opt (zah C13 200 v129 (.int .i64 v131)) fun a0 => .light (fun m => zau C13 202 ⟨0, m⟩ a0) fun a1 => .asI .u32 a1 fun n2 => .opt (zah C13 200 v0 (.int .i64 v131)) fun a3 => .light (fun m => zau C13 202 ⟨0, m⟩ a3) fun a4 => .asI .u32 a4 fun n5 => .call 221 [.int .u32 n5, .int .u32 n2, .int .u32 v17] fun a6 =>
 .opt (zar 0 a6) fun a7 => .asI .u32 a7 fun n8 => .opt (zar 1 a6) fun a9 => .asI .u32 a9 fun n10 => .opt (zah C13 200 v0 (.int .i64 v131)) fun a11 => .heavy (zbl C13 202 a11 (.int .u32 n8)) fun _ =>
 .jump 10 [v0, .int .i64 v5, .int .u64 v8, .int .u32 n10, v129, .int .i64 v130, (.int .i64 (zag .i64 (v131 + 1)))])
 (.opt (zah C13 200 v0 (.int .i64 v5)) fun a12 => .light (fun m => zau C13 202 ⟨0, m⟩ a12) fun a13 => .asI .u32 a13 fun n14 => .opt (zah C13 200 v0 (.int .i64 v5)) fun a15 => .heavy (zbl C13 202 a15 (.int .u32 (zag .u32 (n14 + v17)))) fun _ =>
 .ret (.int .u32 (zag .u32 (zag .u64 (v8 - 1)))))
theorem zza9 (v0 : zab) (v5 v8 v17 : Int) (v129 : zab) (v130 v131 : Int) {m : Tr zak} {Q : zao} (h : wp 216 (z0j v0 v5 v8 v17 v129 v130 v131) m Q) : jp 216 10 [v0, .int .i64 v5, .int .u64 v8, .int .u32 v17, v129, .int .i64 v130, .int .i64 v131] m Q := zbr z98 (by kernel_rfl) h
def t217 (p0 p1 p2 : Int) : T :=
 .opt (z0h (.int .u32 p0)) fun a0 => .asI .u32 a0 fun n1 => .opt (iAnd .u32 n1 p1) fun a2 => .asI .u32 a2 fun n3 => .opt (zfz Nat.xor .u32 p0 p1) fun a4 => .asI .u32 a4 fun n5 => .opt (z0h (.int .u32 n5)) fun a6 => .asI .u32 a6 fun n7 => .opt (iAnd .u32 n7 (zag .u32 ((zag .u32 (p0 - p1)) - p2))) fun a8 => .asI .u32 a8 fun n9 => .opt (zfz Nat.lor .u32 n3 n9) fun a10 => .asI .u32 a10 fun n11 => .ret (.tup [(.int .u32 (zag .u32 ((zag .u32 (p0 - p1)) - p2))), (.int .u32 (Int.fdiv n11 2147483648))])
theorem w217 (p0 p1 p2 : Int) {m : Tr zak} {Q : zao} (h : wp 217 (t217 p0 p1 p2) m Q) : Wf 217 [.int .u32 p0, .int .u32 p1, .int .u32 p2] m Q := zbd ok217 (by kernel_rfl) (eqT (by kernel_rfl) h)
def t219 (p0 : Int) : T :=
 .ite (iLe 65536 p0)
 (.jump 9 [(.int .u32 (Int.fdiv p0 65536)), .int .i64 16])
 (.jump 9 [.int .u32 p0, .int .i64 0])
theorem w219 (p0 : Int) {m : Tr zak} {Q : zao} (h : wp 219 (t219 p0) m Q) : Wf 219 [.int .u32 p0] m Q := zbd zzjb (by kernel_rfl) (eqT (by kernel_rfl) h)
def z8o (v0 v2 : Int) : T :=
 .ite (iLe 256 v0)
 (.jump 15 [(.int .u32 (Int.fdiv v0 256)), (.int .i64 (zag .i64 (v2 + 8)))])
 (.jump 15 [.int .u32 v0, .int .i64 v2])
theorem zzhm (v0 v2 : Int) {m : Tr zak} {Q : zao} (h : wp 219 (z8o v0 v2) m Q) : jp 219 9 [.int .u32 v0, .int .i64 v2] m Q := zbr zzjb (by kernel_rfl) h
def z8p (v0 v2 : Int) : T :=
 .opt (zmb C13 9 (.str [0, 1, 2, 2, 3, 3, 3, 3, 4, 4, 4, 4, 4, 4, 4, 4, 5, 5, 5, 5, 5, 5, 5, 5, 5, 5, 5, 5, 5, 5, 5, 5, 6, 6, 6, 6, 6, 6, 6, 6, 6, 6, 6, 6, 6, 6, 6, 6, 6, 6, 6, 6, 6, 6, 6, 6, 6, 6, 6, 6, 6, 6, 6, 6, 7, 7, 7, 7, 7, 7, 7, 7, 7, 7, 7, 7, 7, 7, 7, 7, 7, 7, 7, 7, 7, 7, 7, 7, 7, 7, 7, 7, 7, 7, 7, 7, 7, 7, 7, 7, 7, 7, 7, 7, 7, 7, 7, 7, 7, 7, 7, 7, 7, 7, 7, 7, 7, 7, 7, 7, 7, 7, 7, 7, 7, 7, 7, 7, 8, 8, 8, 8, 8, 8, 8, 8, 8, 8, 8, 8, 8, 8, 8, 8, 8, 8, 8, 8, 8, 8, 8, 8, 8, 8, 8, 8, 8, 8, 8, 8, 8, 8, 8, 8, 8, 8, 8, 8, 8, 8, 8, 8, 8, 8, 8, 8, 8, 8, 8, 8, 8, 8, 8, 8, 8, 8, 8, 8, 8, 8, 8, 8, 8, 8, 8, 8, 8, 8, 8, 8, 8, 8, 8, 8, 8, 8, 8, 8, 8, 8, 8, 8, 8, 8, 8, 8, 8, 8, 8, 8, 8, 8, 8, 8, 8, 8, 8, 8, 8, 8, 8, 8, 8, 8, 8, 8, 8, 8, 8, 8, 8, 8, 8, 8, 8, 8, 8, 8, 8, 8, 8, 8, 8, 8, 8, 8]) (.int .u8 (zag .u8 v0))) fun a0 => .asI .u8 a0 fun n1 => .ret (.int .i64 (zag .i64 (v2 + (zag .i64 n1))))
theorem zzjp (v0 v2 : Int) {m : Tr zak} {Q : zao} (h : wp 219 (z8p v0 v2) m Q) : jp 219 15 [.int .u32 v0, .int .i64 v2] m Q := zbr zzjb (by kernel_rfl) h
def t220 (p0 : Int) (w0 : zab) : T :=
 .light (fun m => zau C13 200 ⟨0, m⟩ w0) fun a0 => .opt (zbm a0) fun a1 => .asI .i64 a1 fun n2 => .ite (iLe n2 p0)
 (.ret (.int .u64 0))
 (.light (fun m => zau C13 200 ⟨0, m⟩ w0) fun a3 => .opt (zah C13 200 a3 (.int .i64 p0)) fun a4 => .light (fun m => zau C13 202 ⟨0, m⟩ a4) fun a5 => .asI .u32 a5 fun n6 => .ret (.int .u64 (zag .u64 n6)))
theorem w220 (p0 : Int) (w0 : zab) {m : Tr zak} {Q : zao} (h : wp 220 (t220 p0 w0) m Q) : Wf 220 [.int .i64 p0, w0] m Q := zbd ok220 (by kernel_rfl) (eqT (by kernel_rfl) h)
def t221 (p0 p1 p2 : Int) : T :=
 .ret (.tup [(.int .u32 (zag .u32 (zag .u64 ((zag .u64 ((zag .u64 p0) + (zag .u64 p1))) + (zag .u64 p2))))), (.int .u32 (zag .u32 (Int.fdiv (zag .u64 ((zag .u64 ((zag .u64 p0) + (zag .u64 p1))) + (zag .u64 p2))) 4294967296)))])
theorem e221 (p0 p1 p2 : Int) : entT C13 Tryz.f221 9 221 a221 [.int .u32 p0, .int .u32 p1, .int .u32 p2] = t221 p0 p1 p2 := by kernel_rfl
theorem w221 (p0 p1 p2 : Int) {m : Tr zak} {Q : zao} (h : wp 221 (t221 p0 p1 p2) m Q) : Wf 221 [.int .u32 p0, .int .u32 p1, .int .u32 p2] m Q := zbd ok221 (by kernel_rfl) (by rw [e221]; exact h)
end Go.Proofs
