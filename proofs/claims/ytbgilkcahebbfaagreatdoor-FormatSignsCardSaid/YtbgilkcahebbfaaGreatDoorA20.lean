/- The trees of functions. (Printed by a tool; the kernel agrees.) -/
import Derived.Test.YtbgilkcahebbfaaGreatDoorA19
set_option linter.all false
noncomputable section
set_option maxRecDepth 100000
namespace Go.Proofs
open Go Go.Am
variable [zc6]
theorem eqT {b : Nat} {W J : zgy} {x y : T} {m : Tr zam} {Q : zay} (e : x = y) (h : wpT b W J y m Q) : wpT b W J x m Q := e ▸ h
def t5 (p0 : Int) : T :=
 .call 6 [] fun a0 =>
 .asB a0 fun b1 => .ite (!b1)
 (.ret (.bool false))
 (.ite (iLt p0 (-1048576))
 (.opt (zzb3 .i64 p0 1048575) fun a2 => .asI .i64 a2 fun n3 => .jump 11 [.int .i64 n3])
 (.ite (iLt 1048576 p0)
 (.opt (zzb3 .i64 p0 1048575) fun a4 => .asI .i64 a4 fun n5 => .jump 11 [.int .i64 n5])
 (.jump 11 [.int .i64 p0])))
theorem w5 (p0 : Int) {m : Tr zam} {Q : zay} (h : wp 5 (t5 p0) m Q) : Wf 5 [.int .i64 p0] m Q := zce ok5 (by kernel_rfl) (eqT (by kernel_rfl) h)
def t5_11 (v0 : Int) : T :=
 .jump 2 [.int .i64 v0, .str [], (.int .i64 (bif iLt v0 (zai .i64 (0 - v0)) then (zai .i64 (0 - v0)) else v0))]
theorem j5_11 (v0 : Int) {m : Tr zam} {Q : zay} (h : wp 5 (t5_11 v0) m Q) : jp 5 11 [.int .i64 v0] m Q := zcg ok5 (by kernel_rfl) h
def t5_2 (v0 : Int) (v3 : List Nat) (v4 : Int) : T :=
 .ite (iLt 0 v4)
 (.heavy (zaz C13 32 1 [(0, (.int .u8 (zai .u8 (zai .i64 (48 + (Int.tmod v4 10))))))]) fun a0 =>
 .light (fun m => zkk C13 32 9 ⟨0, m⟩ a0) fun a1 => .asS a1 fun s2 => .opt (zxj s2 v3) fun a3 => .asS a3 fun s4 => .jump 2 [.int .i64 v0, .str s4, (.int .i64 (zai .i64 (Int.tdiv v4 10)))])
 (.ite (zhk v3 [])
 (.heavy (zaz C13 32 1 [(0, (.int .u8 (zai .u8 (zai .i64 (48 + (Int.tmod v4 10))))))]) fun a5 =>
 .light (fun m => zkk C13 32 9 ⟨0, m⟩ a5) fun a6 => .asS a6 fun s7 => .opt (zxj s7 v3) fun a8 => .asS a8 fun s9 => .jump 2 [.int .i64 v0, .str s9, (.int .i64 (zai .i64 (Int.tdiv v4 10)))])
 (.ite (iLt v0 0)
 (.opt (zxj [109, 105, 110, 117, 115, 32] v3) fun a10 => .asS a10 fun s11 => .jump 25 [.int .i64 v0, .str s11])
 (.jump 25 [.int .i64 v0, .str v3])))
theorem j5_2 (v0 : Int) (v3 : List Nat) (v4 : Int) {m : Tr zam} {Q : zay} (h : wp 5 (t5_2 v0 v3 v4) m Q) : jp 5 2 [.int .i64 v0, .str v3, .int .i64 v4] m Q := zcg ok5 (by kernel_rfl) h
def t5_25 (v0 : Int) (v3 : List Nat) : T :=
 .ite true (.heavy (zaz C13 22 1 [(0, (.int .u16 1))]) fun a0 =>
 .ite (zgv zab.one [a0]) (.ite true (.ite (zgv zab.one [(.bool (iLt v0 0)), .nilslice, .bool false, a0]) (.jump 6 [.int .i64 v0, .str v3, (.int .i64 (bif iLt v0 (zai .i64 (0 - v0)) then (zai .i64 (0 - v0)) else v0)), (.bool (iLt v0 0)), .nilslice, .bool false, a0]) .fail) .fail) .fail) .fail
theorem j5_25 (v0 : Int) (v3 : List Nat) {m : Tr zam} {Q : zay} (h : wp 5 (t5_25 v0 v3) m Q) : jp 5 25 [.int .i64 v0, .str v3] m Q := zcg ok5 (by kernel_rfl) h
def t5_6 (v0 : Int) (v3 : List Nat) (v6 : Int) (c5_0 : Bool) (c5_1 : zab) (c5_2 : Bool) (c5_3 : zab) : T :=
 .ite (iLt 0 v6)
 (.heavy (zaz C13 22 1 [(0, (.int .u16 (zai .u16 v6)))]) fun a0 =>
 .heavy (zcd C13 22 22 c5_1 a0) fun a1 =>
 .ite (zgv zab.one [a1]) (.jump 6 [.int .i64 v0, .str v3, (.int .i64 (Int.fdiv v6 65536)), .bool c5_0, a1, .bool c5_2, c5_3]) .fail)
 (.ite true (.call 12 [.agg [.int .u8 2, .bool c5_0, c5_1, .bool c5_2, c5_3, .int .i64 0]] fun a2 =>
 .opt (zao 0 a2) fun a3 => .asS a3 fun s4 => .opt (zao 1 a2) fun a5 => .asI .i64 a5 fun n6 => .ite true (.call 12 [.agg [.int .u8 3, .bool c5_0, c5_1, .bool c5_2, c5_3, .int .i64 0]] fun a7 =>
 .opt (zao 0 a7) fun a8 => .asS a8 fun s9 => .opt (zao 1 a7) fun a10 => .asI .i64 a10 fun n11 => .ite true (.call 12 [.agg [.int .u8 5, .bool false, .nilslice, .bool false, .nilslice, .int .i64 v0]] fun a12 =>
 .opt (zao 0 a12) fun a13 => .asS a13 fun s14 => .opt (zao 1 a12) fun a15 => .asI .i64 a15 fun n16 => .ite true (.call 12 [.agg [.int .u8 6, .bool false, .nilslice, .bool false, .nilslice, .int .i64 v0]] fun a17 =>
 .opt (zao 0 a17) fun a18 => .asS a18 fun s19 => .opt (zao 1 a17) fun a20 => .asI .i64 a20 fun n21 => .ite (iEq (zai .i64 ((zai .i64 ((zai .i64 (n6 + n11)) + n16)) + n21)) 0)
 (.ite (zhk s4 v3)
 (.opt (zxj [109, 111, 110, 101, 121, 32] v3) fun a22 => .asS a22 fun s23 => .ite (zhk s9 s23)
 (.opt (zxj v3 [32, 100, 97, 121, 115]) fun a24 => .asS a24 fun s25 => .ite (zhk s14 s25)
 (.opt (zxj v3 [32, 109, 111, 110, 116, 104, 115]) fun a26 => .asS a26 fun s27 => .ret (.bool (zhk s19 s27)))
 (.ret (.bool false)))
 (.ret (.bool false)))
 (.ret (.bool false)))
 (.ret (.bool false))) .fail) .fail) .fail) .fail)
theorem j5_6 (v0 : Int) (v3 : List Nat) (v6 : Int) (c5_0 : Bool) (c5_1 : zab) (c5_2 : Bool) (c5_3 : zab) {m : Tr zam} {Q : zay} (h : wp 5 (t5_6 v0 v3 v6 c5_0 c5_1 c5_2 c5_3) m Q) : jp 5 6 [.int .i64 v0, .str v3, .int .i64 v6, .bool c5_0, c5_1, .bool c5_2, c5_3] m Q := zcg ok5 (by kernel_rfl) h
def t12 (p0_0 : Int) (p0_1 : Bool) (p0_2 : zab) (p0_3 : Bool) (p0_4 : zab) (p0_5 : Int) : T :=
 .call 27 [.agg [.int .u8 p0_0, .bool p0_1, p0_2, .bool p0_3, p0_4, .int .i64 p0_5]] fun a0 =>
 .asB a0 fun b1 => .ite (!b1)
 (.ret (.tup [.str [], .int .i64 2]))
 (.call 28 [.agg [.int .u8 p0_0, .bool p0_1, p0_2, .bool p0_3, p0_4, .int .i64 p0_5]] fun a2 =>
 .asS a2 fun s3 => .ret (.tup [.str s3, .int .i64 0]))
theorem w12 (p0_0 : Int) (p0_1 : Bool) (p0_2 : zab) (p0_3 : Bool) (p0_4 : zab) (p0_5 : Int) {m : Tr zam} {Q : zay} (h : wp 12 (t12 p0_0 p0_1 p0_2 p0_3 p0_4 p0_5) m Q) : Wf 12 [.agg [.int .u8 p0_0, .bool p0_1, p0_2, .bool p0_3, p0_4, .int .i64 p0_5]] m Q := zce ok12 (by kernel_rfl) (eqT (by kernel_rfl) h)
def t27 (p0_0 : Int) (p0_1 : Bool) (p0_2 : zab) (p0_3 : Bool) (p0_4 : zab) (p0_5 : Int) : T :=
 .ite (iEq p0_0 2)
 (.ite (iEq p0_0 2)
 (.ite (iEq p0_5 0)
 (.call 53 [.agg [.bool p0_1, p0_2, .bool p0_3, p0_4]] fun a0 =>
 .asB a0 fun b1 => .ret (.bool b1))
 (.ret (.bool false)))
 (.ite (iEq p0_0 1)
 (.call 54 [.agg [.bool p0_1, p0_2, .bool p0_3, p0_4]] fun a2 =>
 .asB a2 fun b3 => .ite b3
 (.ite (iEq p0_5 0)
 (.ret (.bool true))
 (.ret (.bool (iEq p0_5 1))))
 (.ret (.bool false)))
 (.ite (iEq p0_0 4)
 (.call 54 [.agg [.bool p0_1, p0_2, .bool p0_3, p0_4]] fun a4 =>
 .asB a4 fun b5 => .ite b5
 (.call 55 [.int .i64 p0_5] fun a6 =>
 .asB a6 fun b7 => .ret (.bool b7))
 (.ret (.bool false)))
 (.ite (iEq p0_0 5)
 (.ite (iEq p0_0 5)
 (.call 54 [.agg [.bool p0_1, p0_2, .bool p0_3, p0_4]] fun a8 =>
 .asB a8 fun b9 => .ite b9
 (.ite (iLe (-1048576) p0_5)
 (.ret (.bool (iLe p0_5 1048576)))
 (.ret (.bool false)))
 (.ret (.bool false)))
 (.ret (.bool false)))
 (.ite (iEq p0_0 6)
 (.call 54 [.agg [.bool p0_1, p0_2, .bool p0_3, p0_4]] fun a10 =>
 .asB a10 fun b11 => .ite b11
 (.ite (iLe (-1048576) p0_5)
 (.ret (.bool (iLe p0_5 1048576)))
 (.ret (.bool false)))
 (.ret (.bool false)))
 (.ret (.bool false)))))))
 (.ite (iEq p0_0 3)
 (.ite (iEq p0_5 0)
 (.call 53 [.agg [.bool p0_1, p0_2, .bool p0_3, p0_4]] fun a12 =>
 .asB a12 fun b13 => .ret (.bool b13))
 (.ret (.bool false)))
 (.ite (iEq p0_0 1)
 (.call 54 [.agg [.bool p0_1, p0_2, .bool p0_3, p0_4]] fun a14 =>
 .asB a14 fun b15 => .ite b15
 (.ite (iEq p0_5 0)
 (.ret (.bool true))
 (.ret (.bool (iEq p0_5 1))))
 (.ret (.bool false)))
 (.ite (iEq p0_0 4)
 (.call 54 [.agg [.bool p0_1, p0_2, .bool p0_3, p0_4]] fun a16 =>
 .asB a16 fun b17 => .ite b17
 (.call 55 [.int .i64 p0_5] fun a18 =>
 .asB a18 fun b19 => .ret (.bool b19))
 (.ret (.bool false)))
 (.ite (iEq p0_0 5)
 (.ite (iEq p0_0 5)
 (.call 54 [.agg [.bool p0_1, p0_2, .bool p0_3, p0_4]] fun a20 =>
 .asB a20 fun b21 => .ite b21
 (.ite (iLe (-1048576) p0_5)
 (.ret (.bool (iLe p0_5 1048576)))
 (.ret (.bool false)))
 (.ret (.bool false)))
 (.ret (.bool false)))
 (.ite (iEq p0_0 6)
 (.call 54 [.agg [.bool p0_1, p0_2, .bool p0_3, p0_4]] fun a22 =>
 .asB a22 fun b23 => .ite b23
 (.ite (iLe (-1048576) p0_5)
 (.ret (.bool (iLe p0_5 1048576)))
 (.ret (.bool false)))
 (.ret (.bool false)))
 (.ret (.bool false)))))))
theorem w27 (p0_0 : Int) (p0_1 : Bool) (p0_2 : zab) (p0_3 : Bool) (p0_4 : zab) (p0_5 : Int) {m : Tr zam} {Q : zay} (h : wp 27 (t27 p0_0 p0_1 p0_2 p0_3 p0_4 p0_5) m Q) : Wf 27 [.agg [.int .u8 p0_0, .bool p0_1, p0_2, .bool p0_3, p0_4, .int .i64 p0_5]] m Q := zce ok27 (by kernel_rfl) (eqT (by kernel_rfl) h)
def t28 (p0_0 : Int) (p0_1 : Bool) (p0_2 : zab) (p0_3 : Bool) (p0_4 : zab) (p0_5 : Int) : T :=
 .ite (iEq p0_0 1)
 (.call 56 [(.bool (iEq p0_5 1))] fun a0 =>
 .asS a0 fun s1 => .ret (.str s1))
 (.ite (iEq p0_0 2)
 (.call 57 [.agg [.bool p0_1, p0_2, .bool p0_3, p0_4]] fun a2 =>
 .asS a2 fun s3 => .ret (.str s3))
 (.ite (iEq p0_0 3)
 (.call 57 [.agg [.bool p0_1, p0_2, .bool p0_3, p0_4]] fun a4 =>
 .asS a4 fun s5 => .opt (zxj [109, 111, 110, 101, 121, 32] s5) fun a6 => .asS a6 fun s7 => .ret (.str s7))
 (.ite (iEq p0_0 4)
 (.call 58 [.int .i64 p0_5] fun a8 =>
 .asS a8 fun s9 => .ret (.str s9))
 (.ite (iEq p0_0 5)
 (.call 59 [.int .i64 p0_5] fun a10 =>
 .asS a10 fun s11 => .opt (zxj s11 [32, 100, 97, 121, 115]) fun a12 => .asS a12 fun s13 => .ret (.str s13))
 (.ite (iEq p0_0 6)
 (.call 59 [.int .i64 p0_5] fun a14 =>
 .asS a14 fun s15 => .opt (zxj s15 [32, 109, 111, 110, 116, 104, 115]) fun a16 => .asS a16 fun s17 => .ret (.str s17))
 (.ret (.str [])))))))
theorem w28 (p0_0 : Int) (p0_1 : Bool) (p0_2 : zab) (p0_3 : Bool) (p0_4 : zab) (p0_5 : Int) {m : Tr zam} {Q : zay} (h : wp 28 (t28 p0_0 p0_1 p0_2 p0_3 p0_4 p0_5) m Q) : Wf 28 [.agg [.int .u8 p0_0, .bool p0_1, p0_2, .bool p0_3, p0_4, .int .i64 p0_5]] m Q := zce ok28 (by kernel_rfl) (eqT (by kernel_rfl) h)
def t53 (p0_0 : Bool) (p0_1 : zab) (p0_2 : Bool) (p0_3 : zab) : T :=
 .opt (zbw p0_1) fun a0 => .asI .i64 a0 fun n1 => .ite (iLt 42 n1)
 (.ret (.bool false))
 (.opt (zbw p0_3) fun a2 => .asI .i64 a2 fun n3 => .ite (iLt 42 n3)
 (.ret (.bool false))
 (.call 91 [.agg [.bool p0_0, p0_1, .bool p0_2, p0_3]] fun a4 =>
 .asB a4 fun b5 => .ite (!b5)
 (.ret (.bool false))
 (.call 92 [.agg [.bool p0_0, p0_1, .bool p0_2, p0_3]] fun a6 =>
 .opt (zao 0 a6) fun a7 => .asS a7 fun s8 => .opt (zao 1 a6) fun a9 => .asI .i64 a9 fun n10 => .ite (iEq n10 0)
 (.call 93 [.str s8, .str [45]] fun a11 =>
 .asS a11 fun s12 => .ret (.bool (iLe (Int.ofNat (zbp s12)) 200)))
 (.ret (.bool false)))))
theorem w53 (p0_0 : Bool) (p0_1 : zab) (p0_2 : Bool) (p0_3 : zab) {m : Tr zam} {Q : zay} (h : wp 53 (t53 p0_0 p0_1 p0_2 p0_3) m Q) : Wf 53 [.agg [.bool p0_0, p0_1, .bool p0_2, p0_3]] m Q := zce ok53 (by kernel_rfl) (eqT (by kernel_rfl) h)
def t54 (p0_0 : Bool) (p0_1 : zab) (p0_2 : Bool) (p0_3 : zab) : T :=
 .ite (!p0_0)
 (.ite (!p0_2)
 (.opt (zbw p0_1) fun a0 => .asI .i64 a0 fun n1 => .opt (zbw p0_3) fun a2 => .asI .i64 a2 fun n3 => .ret (.bool (iEq (zai .i64 (n1 + n3)) 0)))
 (.ret (.bool false)))
 (.ret (.bool false))
theorem w54 (p0_0 : Bool) (p0_1 : zab) (p0_2 : Bool) (p0_3 : zab) {m : Tr zam} {Q : zay} (h : wp 54 (t54 p0_0 p0_1 p0_2 p0_3) m Q) : Wf 54 [.agg [.bool p0_0, p0_1, .bool p0_2, p0_3]] m Q := zce ok54 (by kernel_rfl) (eqT (by kernel_rfl) h)
def t55 (p0 : Int) : T :=
 .ite (iLe 0 p0)
 (.ret (.bool (iLt p0 65536)))
 (.ret (.bool false))
theorem w55 (p0 : Int) {m : Tr zam} {Q : zay} (h : wp 55 (t55 p0) m Q) : Wf 55 [.int .i64 p0] m Q := zce ok55 (by kernel_rfl) (eqT (by kernel_rfl) h)
def t56 (p0 : Bool) : T :=
 .call 94 [.bool p0] fun a0 =>
 .asS a0 fun s1 => .ret (.str s1)
theorem w56 (p0 : Bool) {m : Tr zam} {Q : zay} (h : wp 56 (t56 p0) m Q) : Wf 56 [.bool p0] m Q := zce ok56 (by kernel_rfl) (eqT (by kernel_rfl) h)
def t57 (p0_0 : Bool) (p0_1 : zab) (p0_2 : Bool) (p0_3 : zab) : T :=
 .call 92 [.agg [.bool p0_0, p0_1, .bool p0_2, p0_3]] fun a0 =>
 .opt (zao 0 a0) fun a1 => .asS a1 fun s2 => .opt (zao 1 a0) fun a3 => .asI .i64 a3 fun n4 => .call 95 [.str s2] fun a5 =>
 .asS a5 fun s6 => .ret (.str s6)
theorem w57 (p0_0 : Bool) (p0_1 : zab) (p0_2 : Bool) (p0_3 : zab) {m : Tr zam} {Q : zay} (h : wp 57 (t57 p0_0 p0_1 p0_2 p0_3) m Q) : Wf 57 [.agg [.bool p0_0, p0_1, .bool p0_2, p0_3]] m Q := zce ok57 (by kernel_rfl) (eqT (by kernel_rfl) h)
def t59 (p0 : Int) : T :=
 .call 98 [.int .i64 p0] fun a0 =>
 .asS a0 fun s1 => .call 95 [.str s1] fun a2 =>
 .asS a2 fun s3 => .ret (.str s3)
theorem w59 (p0 : Int) {m : Tr zam} {Q : zay} (h : wp 59 (t59 p0) m Q) : Wf 59 [.int .i64 p0] m Q := zce ok59 (by kernel_rfl) (eqT (by kernel_rfl) h)
def t91 (p0_0 : Bool) (p0_1 : zab) (p0_2 : Bool) (p0_3 : zab) : T :=
 .ite true (.call 116 [.agg [.bool p0_0, p0_1, .bool p0_2, p0_3]] fun a0 =>
 .asB a0 fun b1 => .ret (.bool b1)) .fail
theorem w91 (p0_0 : Bool) (p0_1 : zab) (p0_2 : Bool) (p0_3 : zab) {m : Tr zam} {Q : zay} (h : wp 91 (t91 p0_0 p0_1 p0_2 p0_3) m Q) : Wf 91 [.agg [.bool p0_0, p0_1, .bool p0_2, p0_3]] m Q := zce ok91 (by kernel_rfl) (eqT (by kernel_rfl) h)
def t92 (p0_0 : Bool) (p0_1 : zab) (p0_2 : Bool) (p0_3 : zab) : T :=
 .call 91 [.agg [.bool p0_0, p0_1, .bool p0_2, p0_3]] fun a0 =>
 .asB a0 fun b1 => .ite (!b1)
 (.ret (.tup [.str [], .int .i64 2]))
 (.call 117 [.agg [.bool p0_0, p0_1]] fun a2 =>
 .opt (zao 0 a2) fun a3 => .asS a3 fun s4 => .opt (zao 1 a2) fun a5 => .asI .i64 a5 fun n6 => .ite true (.call 118 [.agg [.bool p0_0, p0_1, .bool p0_2, p0_3]] fun a7 =>
 .asB a7 fun b8 => .ite (!b8)
 (.call 117 [.agg [.bool p0_2, p0_3]] fun a9 =>
 .opt (zao 0 a9) fun a10 => .asS a10 fun s11 => .opt (zao 1 a9) fun a12 => .asI .i64 a12 fun n13 => .opt (zxj [47] s11) fun a14 => .asS a14 fun s15 => .opt (zxj s4 s15) fun a16 => .asS a16 fun s17 => .ret (.tup [.str s17, .int .i64 0]))
 (.ret (.tup [.str s4, .int .i64 0]))) .fail)
theorem w92 (p0_0 : Bool) (p0_1 : zab) (p0_2 : Bool) (p0_3 : zab) {m : Tr zam} {Q : zay} (h : wp 92 (t92 p0_0 p0_1 p0_2 p0_3) m Q) : Wf 92 [.agg [.bool p0_0, p0_1, .bool p0_2, p0_3]] m Q := zce ok92 (by kernel_rfl) (eqT (by kernel_rfl) h)
def t93 (p0 p1 : List Nat) : T :=
 .call 119 [.str p0, .str p1] fun a0 =>
 .asS a0 fun s1 => .ret (.str s1)
theorem w93 (p0 p1 : List Nat) {m : Tr zam} {Q : zay} (h : wp 93 (t93 p0 p1) m Q) : Wf 93 [.str p0, .str p1] m Q := zce ok93 (by kernel_rfl) (eqT (by kernel_rfl) h)
def t94 (p0 : Bool) : T :=
 .ite p0
 (.ret (.str [116, 114, 117, 101]))
 (.ret (.str [102, 97, 108, 115, 101]))
theorem w94 (p0 : Bool) {m : Tr zam} {Q : zay} (h : wp 94 (t94 p0) m Q) : Wf 94 [.bool p0] m Q := zce ok94 (by kernel_rfl) (eqT (by kernel_rfl) h)
def t95 (p0 : List Nat) : T :=
 .call 120 [.str p0, .str [45]] fun a0 =>
 .opt (zao 0 a0) fun a1 => .asS a1 fun s2 => .opt (zao 1 a0) fun a3 => .asB a3 fun b4 => .ite b4
 (.opt (zxj [109, 105, 110, 117, 115, 32] s2) fun a5 => .asS a5 fun s6 => .ret (.str s6))
 (.ret (.str p0))
theorem w95 (p0 : List Nat) {m : Tr zam} {Q : zay} (h : wp 95 (t95 p0) m Q) : Wf 95 [.str p0] m Q := zce ok95 (by kernel_rfl) (eqT (by kernel_rfl) h)
def t116 (p0_0 : Bool) (p0_1 : zab) (p0_2 : Bool) (p0_3 : zab) : T :=
 .call 147 [.agg [.bool p0_0, p0_1, .bool p0_2, p0_3]] fun a0 =>
 .asB a0 fun b1 => .ite b1
 (.ret (.bool false))
 (.call 148 [.agg [.bool p0_0, p0_1]] fun a2 =>
 .asB a2 fun b3 => .ite (!b3)
 (.ret (.bool false))
 (.call 148 [.agg [.bool p0_2, p0_3]] fun a4 =>
 .asB a4 fun b5 => .ite (!b5)
 (.ret (.bool false))
 (.ite p0_2
 (.ret (.bool false))
 (.opt (zbw p0_3) fun a6 => .asI .i64 a6 fun n7 => .ite (iEq n7 0)
 (.ret (.bool false))
 (.call 118 [.agg [.bool p0_0, p0_1, .bool p0_2, p0_3]] fun a8 =>
 .asB a8 fun b9 => .ite b9
 (.ret (.bool true))
 (.call 150 [.agg [.bool p0_0, p0_1], .agg [.bool p0_2, p0_3]] fun a10 =>
 .asG [.bool false, .nilslice] a10 fun X11 =>
 .call 149 [(.agg [(.bool (X11.b 0)), (X11.v 1)])] fun a12 =>
 .asB a12 fun b13 => .ret (.bool b13)))))))
theorem w116 (p0_0 : Bool) (p0_1 : zab) (p0_2 : Bool) (p0_3 : zab) {m : Tr zam} {Q : zay} (h : wp 116 (t116 p0_0 p0_1 p0_2 p0_3) m Q) : Wf 116 [.agg [.bool p0_0, p0_1, .bool p0_2, p0_3]] m Q := zce ok116 (by kernel_rfl) (eqT (by kernel_rfl) h)
def t117 (p0_0 : Bool) (p0_1 : zab) : T :=
 .call 148 [.agg [.bool p0_0, p0_1]] fun a0 =>
 .asB a0 fun b1 => .ite (!b1)
 (.ret (.tup [.str [], .int .i64 2]))
 (.opt (zbw p0_1) fun a2 => .asI .i64 a2 fun n3 => .ite (iEq n3 0)
 (.ret (.tup [.str [48], .int .i64 0]))
 (.call 151 [p0_1] fun a4 =>
 .jump 2 [.str [], .int .i64 0, .nilslice, a4, .bool p0_0, p0_1]))
theorem w117 (p0_0 : Bool) (p0_1 : zab) {m : Tr zam} {Q : zay} (h : wp 117 (t117 p0_0 p0_1) m Q) : Wf 117 [.agg [.bool p0_0, p0_1]] m Q := zce z6x (by kernel_rfl) (eqT (by kernel_rfl) h)
def z5w (v2 : List Nat) (v3 : Int) (v4 v5 : zab) (c1_0 : Bool) (c1_1 : zab) : T :=
 .opt (zbw v5) fun a0 => .asI .i64 a0 fun n1 => .ite (iLt 0 n1)
 (.call 152 [v5, .int .u32 1000000000] fun a2 =>
 .opt (zao 0 a2) fun a3 => .opt (zao 1 a2) fun a4 => .asI .u32 a4 fun n5 => .heavy (zaz C13 200 1 [(0, (.int .u32 n5))]) fun a6 =>
 .heavy (zcd C13 200 200 v4 a6) fun a7 =>
 .jump 2 [.str v2, .int .i64 v3, a7, a3, .bool c1_0, c1_1])
 (.heavy (znl C13 32) fun a8 =>
 .ite c1_0
 (.light (fun m => za2 C13 32 ⟨0, m⟩ a8) fun a9 => .heavy (zaz C13 32 1 [(0, (.int .u8 45))]) fun a10 =>
 .heavy (zcd C13 32 32 a9 a10) fun a11 =>
 .heavy (zb6 C13 32 a8 a11) fun _ =>
 .jump 29 [.str v2, .int .i64 v3, v4, a8])
 (.jump 29 [.str v2, .int .i64 v3, v4, a8]))
theorem zzeb (v2 : List Nat) (v3 : Int) (v4 v5 : zab) (c1_0 : Bool) (c1_1 : zab) {m : Tr zam} {Q : zay} (h : wp 117 (z5w v2 v3 v4 v5 c1_0 c1_1) m Q) : jp 117 2 [.str v2, .int .i64 v3, v4, v5, .bool c1_0, c1_1] m Q := zcg z6x (by kernel_rfl) h
def z5v (v2 : List Nat) (v3 : Int) (v4 v8 : zab) : T :=
 .call 153 [v4] fun a0 =>
 .range (npC C13) a0 6 1 [v8]
 (.light (fun m => za2 C13 32 ⟨0, m⟩ v8) fun a1 => .light (fun m => zkk C13 32 9 ⟨0, m⟩ a1) fun a2 => .asS a2 fun s3 => .ret (.tup [.str s3, .int .i64 0]))
 (.ret (.tup [.str v2, .int .i64 v3]))
theorem zzfv (v2 : List Nat) (v3 : Int) (v4 v8 : zab) {m : Tr zam} {Q : zay} (h : wp 117 (z5v v2 v3 v4 v8) m Q) : jp 117 29 [.str v2, .int .i64 v3, v4, v8] m Q := zcg z6x (by kernel_rfl) h
def zzdn (v8 : zab) (v41 : Int) : T :=
 .call 154 [(.int .u64 (zai .u64 v41)), .int .i64 10] fun a0 =>
 .asS a0 fun s1 => .light (fun m => za2 C13 32 ⟨0, m⟩ v8) fun a2 => .opt (zbw a2) fun a3 => .asI .i64 a3 fun n4 => .ite (iLt 1 n4)
 (.jump 10 [v8, .str s1, (.int .i64 (zai .i64 (9 - (Int.ofNat (zbp s1))))), .int .i64 0])
 (.light (fun m => za2 C13 32 ⟨0, m⟩ v8) fun a5 => .opt (zbw a5) fun a6 => .asI .i64 a6 fun n7 => .ite (iEq n7 1)
 (.light (fun m => za2 C13 32 ⟨0, m⟩ v8) fun a8 => .opt (zaj C13 32 a8 (.int .i64 0)) fun a9 => .light (fun m => za2 C13 5 ⟨0, m⟩ a9) fun a10 => .asI .u8 a10 fun n11 => .ite (!iEq n11 45)
 (.jump 10 [v8, .str s1, (.int .i64 (zai .i64 (9 - (Int.ofNat (zbp s1))))), .int .i64 0])
 (.light (fun m => za2 C13 32 ⟨0, m⟩ v8) fun a12 => .heavy (zcd C13 32 9 a12 (.str s1)) fun a13 =>
 .heavy (zb6 C13 32 v8 a13) fun _ =>
 .ret (.bool true)))
 (.light (fun m => za2 C13 32 ⟨0, m⟩ v8) fun a14 => .heavy (zcd C13 32 9 a14 (.str s1)) fun a15 =>
 .heavy (zb6 C13 32 v8 a15) fun _ =>
 .ret (.bool true)))
theorem j117_6 (v8 : zab) (v41 : Int) {m : Tr zam} {Q : zay} (h : wp 117 (zzdn v8 v41) m Q) : jp 117 6 [v8, .int .u32 v41] m Q := zcg z6x (by kernel_rfl) h
def zx4 (v8 : zab) (v10 : List Nat) (v61 v62 : Int) : T :=
 .ite (iLt v62 v61)
 (.light (fun m => za2 C13 32 ⟨0, m⟩ v8) fun a0 => .heavy (zaz C13 32 1 [(0, (.int .u8 48))]) fun a1 =>
 .heavy (zcd C13 32 32 a0 a1) fun a2 =>
 .heavy (zb6 C13 32 v8 a2) fun _ =>
 .jump 10 [v8, .str v10, .int .i64 v61, (.int .i64 (zai .i64 (v62 + 1)))])
 (.light (fun m => za2 C13 32 ⟨0, m⟩ v8) fun a3 => .heavy (zcd C13 32 9 a3 (.str v10)) fun a4 =>
 .heavy (zb6 C13 32 v8 a4) fun _ =>
 .ret (.bool true))
theorem z7z (v8 : zab) (v10 : List Nat) (v61 v62 : Int) {m : Tr zam} {Q : zay} (h : wp 117 (zx4 v8 v10 v61 v62) m Q) : jp 117 10 [v8, .str v10, .int .i64 v61, .int .i64 v62] m Q := zcg z6x (by kernel_rfl) h
def t118 (p0_0 : Bool) (p0_1 : zab) (p0_2 : Bool) (p0_3 : zab) : T :=
 .call 149 [.agg [.bool p0_2, p0_3]] fun a0 =>
 .asB a0 fun b1 => .ret (.bool b1)
theorem w118 (p0_0 : Bool) (p0_1 : zab) (p0_2 : Bool) (p0_3 : zab) {m : Tr zam} {Q : zay} (h : wp 118 (t118 p0_0 p0_1 p0_2 p0_3) m Q) : Wf 118 [.agg [.bool p0_0, p0_1, .bool p0_2, p0_3]] m Q := zce ok118 (by kernel_rfl) (eqT (by kernel_rfl) h)
def t119 (p0 p1 : List Nat) : T :=
 .call 155 [.str p0, .str p1] fun a0 =>
 .asB a0 fun b1 => .ite b1
 (.opt (zcr C13 9 H0A (.str p0) (some (.int .i64 (Int.ofNat (zbp p1)))) none) fun a2 => .asS a2 fun s3 => .ret (.str s3))
 (.ret (.str p0))
theorem w119 (p0 p1 : List Nat) {m : Tr zam} {Q : zay} (h : wp 119 (t119 p0 p1) m Q) : Wf 119 [.str p0, .str p1] m Q := zce ok119 (by kernel_rfl) (eqT (by kernel_rfl) h)
def t120 (p0 p1 : List Nat) : T :=
 .call 156 [.str p0, .str p1] fun a0 =>
 .opt (zao 0 a0) fun a1 => .asS a1 fun s2 => .opt (zao 1 a0) fun a3 => .asB a3 fun b4 => .ret (.tup [.str s2, .bool b4])
theorem w120 (p0 p1 : List Nat) {m : Tr zam} {Q : zay} (h : wp 120 (t120 p0 p1) m Q) : Wf 120 [.str p0, .str p1] m Q := zce ok120 (by kernel_rfl) (eqT (by kernel_rfl) h)
def t147 (p0_0 : Bool) (p0_1 : zab) (p0_2 : Bool) (p0_3 : zab) : T :=
 .opt (zbw p0_1) fun a0 => .asI .i64 a0 fun n1 => .ite (iLt 256 n1)
 (.ret (.bool true))
 (.opt (zbw p0_3) fun a2 => .asI .i64 a2 fun n3 => .ret (.bool (iLt 256 n3)))
theorem w147 (p0_0 : Bool) (p0_1 : zab) (p0_2 : Bool) (p0_3 : zab) {m : Tr zam} {Q : zay} (h : wp 147 (t147 p0_0 p0_1 p0_2 p0_3) m Q) : Wf 147 [.agg [.bool p0_0, p0_1, .bool p0_2, p0_3]] m Q := zce ok147 (by kernel_rfl) (eqT (by kernel_rfl) h)
def t148 (p0_0 : Bool) (p0_1 : zab) : T :=
 .opt (zbw p0_1) fun a0 => .asI .i64 a0 fun n1 => .ite (iEq n1 0)
 (.ret (.bool (!p0_0)))
 (.ite (iLe n1 1024)
 (.opt (zaj C13 22 p0_1 (.int .i64 (zai .i64 (n1 - 1)))) fun a2 => .light (fun m => za2 C13 50 ⟨0, m⟩ a2) fun a3 => .asI .u16 a3 fun n4 => .ret (.bool (!iEq n4 0)))
 (.ret (.bool false)))
theorem w148 (p0_0 : Bool) (p0_1 : zab) {m : Tr zam} {Q : zay} (h : wp 148 (t148 p0_0 p0_1) m Q) : Wf 148 [.agg [.bool p0_0, p0_1]] m Q := zce ok148 (by kernel_rfl) (eqT (by kernel_rfl) h)
def t149 (p0_0 : Bool) (p0_1 : zab) : T :=
 .ite (!p0_0)
 (.opt (zbw p0_1) fun a0 => .asI .i64 a0 fun n1 => .ite (iEq n1 1)
 (.opt (zaj C13 22 p0_1 (.int .i64 0)) fun a2 => .light (fun m => za2 C13 50 ⟨0, m⟩ a2) fun a3 => .asI .u16 a3 fun n4 => .ret (.bool (iEq n4 1)))
 (.ret (.bool false)))
 (.ret (.bool false))
theorem w149 (p0_0 : Bool) (p0_1 : zab) {m : Tr zam} {Q : zay} (h : wp 149 (t149 p0_0 p0_1) m Q) : Wf 149 [.agg [.bool p0_0, p0_1]] m Q := zce ok149 (by kernel_rfl) (eqT (by kernel_rfl) h)
def t150 (p0_0 : Bool) (p0_1 : zab) (p1_0 : Bool) (p1_1 : zab) : T :=
 .call 172 [.agg [.bool p0_0, p0_1], .agg [.bool p1_0, p1_1]] fun a0 =>
 .opt (zao 0 a0) fun a1 => .asG [.bool false, .nilslice] a1 fun X2 =>
 .opt (zao 1 a0) fun a3 => .asI .i64 a3 fun n4 => .ite (zgv zab.one [(.bool (X2.b 0)), (X2.v 1)]) (.ite (zgv zab.one [(.bool (X2.b 0)), (X2.v 1)]) (.ret (.agg [(.bool (X2.b 0)), (X2.v 1)])) .fail) .fail
theorem w150 (p0_0 : Bool) (p0_1 : zab) (p1_0 : Bool) (p1_1 : zab) {m : Tr zam} {Q : zay} (h : wp 150 (t150 p0_0 p0_1 p1_0 p1_1) m Q) : Wf 150 [.agg [.bool p0_0, p0_1], .agg [.bool p1_0, p1_1]] m Q := zce ok150 (by kernel_rfl) (eqT (by kernel_rfl) h)
def t151 (p0 : zab) : T :=
 .opt (zbw p0) fun a0 => .asI .i64 a0 fun n1 => .heavy (zcp C13 200 (.int .i64 (zai .i64 (Int.tdiv (zai .i64 (n1 + 1)) 2))) (.int .i64 (zai .i64 (Int.tdiv (zai .i64 (n1 + 1)) 2)))) fun a2 =>
 .opt (zbw p0) fun a3 => .asI .i64 a3 fun n4 => .jump 2 [a2, p0, .int .i64 n4, .int .i64 0]
theorem w151 (p0 : zab) {m : Tr zam} {Q : zay} (h : wp 151 (t151 p0) m Q) : Wf 151 [p0] m Q := zce ok151 (by kernel_rfl) (eqT (by kernel_rfl) h)
def z5u (v3 v11 : zab) (v12 v13 : Int) : T :=
 .ite (iLt v13 v12)
 (.opt (zaj C13 22 v11 (.int .i64 v13)) fun a0 => .light (fun m => za2 C13 50 ⟨0, m⟩ a0) fun a1 => .asI .u16 a1 fun n2 => .opt (zaj C13 200 v3 (.int .i64 (zai .i64 (Int.tdiv v13 2)))) fun a3 => .light (fun m => za2 C13 202 ⟨0, m⟩ a3) fun a4 => .asI .u32 a4 fun n5 => .opt (z76 .u32 (zai .u32 n2) (zai .i64 (16 * (Int.tmod v13 2)))) fun a6 => .asI .u32 a6 fun n7 => .opt (zfc Nat.lor .u32 n5 n7) fun a8 => .asI .u32 a8 fun n9 => .opt (zaj C13 200 v3 (.int .i64 (zai .i64 (Int.tdiv v13 2)))) fun a10 => .heavy (zb6 C13 202 a10 (.int .u32 n9)) fun _ =>
 .jump 2 [v3, v11, .int .i64 v12, (.int .i64 (zai .i64 (v13 + 1)))])
 (.ret v3)
theorem zzea (v3 v11 : zab) (v12 v13 : Int) {m : Tr zam} {Q : zay} (h : wp 151 (z5u v3 v11 v12 v13) m Q) : jp 151 2 [v3, v11, .int .i64 v12, .int .i64 v13] m Q := zcg ok151 (by kernel_rfl) h
def t152 (p0 : zab) (p1 : Int) : T :=
 .opt (zbw p0) fun a0 => .asI .i64 a0 fun n1 => .heavy (zcp C13 200 (.int .i64 n1) (.int .i64 n1)) fun a2 =>
 .opt (zbw p0) fun a3 => .asI .i64 a3 fun n4 => .jump 2 [p0, .int .u32 p1, a2, .int .u32 0, (.int .i64 (zai .i64 (n4 - 1)))]
theorem w152 (p0 : zab) (p1 : Int) {m : Tr zam} {Q : zay} (h : wp 152 (t152 p0 p1) m Q) : Wf 152 [p0, .int .u32 p1] m Q := zce ok152 (by kernel_rfl) (eqT (by kernel_rfl) h)
def z5t (v0 : zab) (v1 : Int) (v6 : zab) (v7 v8 : Int) : T :=
 .ite (iLe 0 v8)
 (.opt (zaj C13 200 v0 (.int .i64 v8)) fun a0 => .light (fun m => za2 C13 202 ⟨0, m⟩ a0) fun a1 => .asI .u32 a1 fun n2 => .call 173 [.int .u32 v7, .int .u32 n2, .int .u32 v1] fun a3 =>
 .opt (zao 0 a3) fun a4 => .asI .u32 a4 fun n5 => .opt (zao 1 a3) fun a6 => .asI .u32 a6 fun n7 => .opt (zaj C13 200 v6 (.int .i64 v8)) fun a8 => .heavy (zb6 C13 202 a8 (.int .u32 n5)) fun _ =>
 .jump 2 [v0, .int .u32 v1, v6, .int .u32 n7, (.int .i64 (zai .i64 (v8 - 1)))])
 (.call 174 [v6] fun a9 =>
 .ret (.tup [a9, .int .u32 v7]))
theorem zzd9 (v0 : zab) (v1 : Int) (v6 : zab) (v7 v8 : Int) {m : Tr zam} {Q : zay} (h : wp 152 (z5t v0 v1 v6 v7 v8) m Q) : jp 152 2 [v0, .int .u32 v1, v6, .int .u32 v7, .int .i64 v8] m Q := zcg ok152 (by kernel_rfl) h
def t153 (p0 : zab) : T :=
 .heavy (zzdb p0) fun a0 =>
 .ret (.func (.func 175) [] [a0])
theorem w153 (p0 : zab) {m : Tr zam} {Q : zay} (h : wp 153 (t153 p0) m Q) : Wf 153 [p0] m Q := zce ok153 (by kernel_rfl) (eqT (by kernel_rfl) h)
def t155 (p0 p1 : List Nat) : T :=
 .ite (iLe (Int.ofNat (zbp p1)) (Int.ofNat (zbp p0)))
 (.opt (zcr C13 9 H0A (.str p0) none (some (.int .i64 (Int.ofNat (zbp p1))))) fun a0 => .asS a0 fun s1 => .ret (.bool (zhk s1 p1)))
 (.ret (.bool false))
theorem w155 (p0 p1 : List Nat) {m : Tr zam} {Q : zay} (h : wp 155 (t155 p0 p1) m Q) : Wf 155 [.str p0, .str p1] m Q := zce ok155 (by kernel_rfl) (eqT (by kernel_rfl) h)
def t156 (p0 p1 : List Nat) : T :=
 .call 155 [.str p0, .str p1] fun a0 =>
 .asB a0 fun b1 => .ite (!b1)
 (.ret (.tup [.str p0, .bool false]))
 (.opt (zcr C13 9 H0A (.str p0) (some (.int .i64 (Int.ofNat (zbp p1)))) none) fun a2 => .asS a2 fun s3 => .ret (.tup [.str s3, .bool true]))
theorem w156 (p0 p1 : List Nat) {m : Tr zam} {Q : zay} (h : wp 156 (t156 p0 p1) m Q) : Wf 156 [.str p0, .str p1] m Q := zce ok156 (by kernel_rfl) (eqT (by kernel_rfl) h)
def t172 (p0_0 : Bool) (p0_1 : zab) (p1_0 : Bool) (p1_1 : zab) : T :=
 .heavy (zaz C13 237 2 [(0, (.agg [.bool p0_0, p0_1])), (1, (.agg [.bool p1_0, p1_1]))]) fun a0 =>
 .call 192 [a0] fun a1 =>
 .asB a1 fun b2 => .ite (!b2)
 (.ite true (.ite true (.ret (.tup [.agg [.bool false, .nilslice], .int .i64 2])) .fail) .fail)
 (.call 151 [p0_1] fun a3 =>
 .ite (same 10 p1_1 p1_1) (.call 151 [p1_1] fun a4 =>
 .call 194 [a3, a4] fun a5 =>
 .call 193 [.bool false, a5] fun a6 =>
 .asG [.bool false, .nilslice] a6 fun X7 =>
 .ite (zgv zab.one [(.bool (X7.b 0)), (X7.v 1)]) (.ret (.tup [(.agg [(.bool (X7.b 0)), (X7.v 1)]), .int .i64 0])) .fail) .fail)
theorem w172 (p0_0 : Bool) (p0_1 : zab) (p1_0 : Bool) (p1_1 : zab) {m : Tr zam} {Q : zay} (h : wp 172 (t172 p0_0 p0_1 p1_0 p1_1) m Q) : Wf 172 [.agg [.bool p0_0, p0_1], .agg [.bool p1_0, p1_1]] m Q := zce ok172 (by kernel_rfl) (eqT (by kernel_rfl) h)
def t173 (p0 p1 p2 : Int) : T :=
 .ite (!iEq p2 0)
 (.ite (iLe p2 p0)
 (.light (fun m => za2 C13 82 ⟨0, m⟩ (.ptr 4 0)) fun a0 => .fail)
 (.jump 7 [.int .u32 p0, .int .u32 p1, .int .u32 p2]))
 (.jump 7 [.int .u32 p0, .int .u32 p1, .int .u32 p2])
theorem w173 (p0 p1 p2 : Int) {m : Tr zam} {Q : zay} (h : wp 173 (t173 p0 p1 p2) m Q) : Wf 173 [.int .u32 p0, .int .u32 p1, .int .u32 p2] m Q := zce ok173 (by kernel_rfl) (eqT (by kernel_rfl) h)
def zzdm (v0 v1 v2 : Int) : T :=
 .opt (zfc Nat.lor .u64 (zai .u64 ((zai .u64 v0) * 4294967296)) (zai .u64 v1)) fun a0 => .asI .u64 a0 fun n1 => .opt (zzb2 .u64 n1 (zai .u64 v2)) fun a2 => .asI .u64 a2 fun n3 => .opt (zzb1 .u64 n1 (zai .u64 v2)) fun a4 => .asI .u64 a4 fun n5 => .ret (.tup [(.int .u32 (zai .u32 n3)), (.int .u32 (zai .u32 n5))])
theorem j173_7 (v0 v1 v2 : Int) {m : Tr zam} {Q : zay} (h : wp 173 (zzdm v0 v1 v2) m Q) : jp 173 7 [.int .u32 v0, .int .u32 v1, .int .u32 v2] m Q := zcg ok173 (by kernel_rfl) h
def t174 (p0 : zab) : T :=
 .jump 2 [p0]
theorem w174 (p0 : zab) {m : Tr zam} {Q : zay} (h : wp 174 (t174 p0) m Q) : Wf 174 [p0] m Q := zce ok174 (by kernel_rfl) (eqT (by kernel_rfl) h)
def z0i (v0 : zab) : T :=
 .opt (zbw v0) fun a0 => .asI .i64 a0 fun n1 => .ite (iLt 0 n1)
 (.opt (zbw v0) fun a2 => .asI .i64 a2 fun n3 => .opt (zaj C13 200 v0 (.int .i64 (zai .i64 (n3 - 1)))) fun a4 => .light (fun m => za2 C13 202 ⟨0, m⟩ a4) fun a5 => .asI .u32 a5 fun n6 => .ite (iEq n6 0)
 (.opt (zbw v0) fun a7 => .asI .i64 a7 fun n8 => .light (fun m => zcr C13 200 ⟨0, m⟩ v0 none (some (.int .i64 (zai .i64 (n8 - 1))))) fun a9 => .jump 2 [a9])
 (.ret v0))
 (.ret v0)
theorem z7y (v0 : zab) {m : Tr zam} {Q : zay} (h : wp 174 (z0i v0) m Q) : jp 174 2 [v0] m Q := zcg ok174 (by kernel_rfl) h
def t175 (p0 w0 : zab) : T :=
 .light (fun m => za2 C13 200 ⟨0, m⟩ w0) fun a0 => .opt (zbw a0) fun a1 => .asI .i64 a1 fun n2 => .jump 2 [p0, w0, (.int .i64 (zai .i64 (n2 - 1)))]
theorem w175 (p0 w0 : zab) {m : Tr zam} {Q : zay} (h : wp 175 (t175 p0 w0) m Q) : Wf 175 [p0, w0] m Q := zce ok175 (by kernel_rfl) (eqT (by kernel_rfl) h)
def z5s (v0 v1 : zab) (v3 : Int) : T :=
 .ite (iLe 0 v3)
 (.light (fun m => za2 C13 200 ⟨0, m⟩ v1) fun a0 => .opt (zaj C13 200 a0 (.int .i64 v3)) fun a1 => .light (fun m => za2 C13 202 ⟨0, m⟩ a1) fun a2 => .asI .u32 a2 fun n3 => .callv v0 [.int .u32 n3] fun a4 =>
 .asB a4 fun b5 => .ite (!b5)
 (.ret (.tup []))
 (.jump 2 [v0, v1, (.int .i64 (zai .i64 (v3 - 1)))]))
 (.ret (.tup []))
theorem zzd8 (v0 v1 : zab) (v3 : Int) {m : Tr zam} {Q : zay} (h : wp 175 (z5s v0 v1 v3) m Q) : jp 175 2 [v0, v1, .int .i64 v3] m Q := zcg ok175 (by kernel_rfl) h
def t192 (p0 : zab) : T :=
 .opt (zbw p0) fun a0 => .asI .i64 a0 fun n1 => .jump 2 [p0, .int .i64 n1, .int .i64 0]
theorem w192 (p0 : zab) {m : Tr zam} {Q : zay} (h : wp 192 (t192 p0) m Q) : Wf 192 [p0] m Q := zce ok192 (by kernel_rfl) (eqT (by kernel_rfl) h)
def z5r (v5 : zab) (v6 v7 : Int) : T :=
 .ite (iLt v7 v6)
 (.opt (zaj C13 237 v5 (.int .i64 v7)) fun a0 => .light (fun m => za2 C13 24 ⟨0, m⟩ a0) fun a1 => .asG [.bool false, .nilslice] a1 fun X2 =>
 .ite (zgv zab.one [(.bool (X2.b 0)), (X2.v 1)]) (.call 148 [(.agg [(.bool (X2.b 0)), (X2.v 1)])] fun a3 =>
 .asB a3 fun b4 => .ite (!b4)
 (.ret (.bool false))
 (.jump 2 [v5, .int .i64 v6, (.int .i64 (zai .i64 (v7 + 1)))])) .fail)
 (.ret (.bool true))
theorem zzd7 (v5 : zab) (v6 v7 : Int) {m : Tr zam} {Q : zay} (h : wp 192 (z5r v5 v6 v7) m Q) : jp 192 2 [v5, .int .i64 v6, .int .i64 v7] m Q := zcg ok192 (by kernel_rfl) h
def t193 (p0 : Bool) (p1 : zab) : T :=
 .call 174 [p1] fun a0 =>
 .opt (zbw a0) fun a1 => .asI .i64 a1 fun n2 => .ite (iEq n2 0)
 (.ite true (.ite true (.ret (.agg [.bool false, .nilslice])) .fail) .fail)
 (.opt (zbw a0) fun a3 => .asI .i64 a3 fun n4 => .heavy (zcp C13 22 (.int .i64 (zai .i64 (2 * n4))) (.int .i64 (zai .i64 (2 * n4)))) fun a5 =>
 .opt (zbw a0) fun a6 => .asI .i64 a6 fun n7 => .jump 2 [.bool p0, a5, a0, .int .i64 n7, .int .i64 0, .bool false, .nilslice])
theorem w193 (p0 : Bool) (p1 : zab) {m : Tr zam} {Q : zay} (h : wp 193 (t193 p0 p1) m Q) : Wf 193 [.bool p0, p1] m Q := zce ok193 (by kernel_rfl) (eqT (by kernel_rfl) h)
def z5q (v0 : Bool) (v5 v18 : zab) (v19 v20 : Int) (c4_0 : Bool) (c4_1 : zab) : T :=
 .ite (iLt v20 v19)
 (.opt (zaj C13 200 v18 (.int .i64 v20)) fun a0 => .light (fun m => za2 C13 202 ⟨0, m⟩ a0) fun a1 => .asI .u32 a1 fun n2 => .opt (zaj C13 22 v5 (.int .i64 (zai .i64 (2 * v20)))) fun a3 => .heavy (zb6 C13 50 a3 (.int .u16 (zai .u16 n2))) fun _ =>
 .opt (zaj C13 22 v5 (.int .i64 (zai .i64 ((zai .i64 (2 * v20)) + 1)))) fun a4 => .heavy (zb6 C13 50 a4 (.int .u16 (zai .u16 (Int.fdiv n2 65536)))) fun _ =>
 .jump 2 [.bool v0, v5, v18, .int .i64 v19, (.int .i64 (zai .i64 (v20 + 1))), .bool c4_0, c4_1])
 (.opt (zbw v5) fun a5 => .asI .i64 a5 fun n6 => .opt (zaj C13 22 v5 (.int .i64 (zai .i64 (n6 - 1)))) fun a7 => .light (fun m => za2 C13 50 ⟨0, m⟩ a7) fun a8 => .asI .u16 a8 fun n9 => .ite (iEq n9 0)
 (.opt (zbw v5) fun a10 => .asI .i64 a10 fun n11 => .light (fun m => zcr C13 22 ⟨0, m⟩ v5 none (some (.int .i64 (zai .i64 (n11 - 1))))) fun a12 => .ite (zgv zab.one [.bool v0, a12]) (.ite (zgv zab.one [.bool v0, a12]) (.ret (.agg [.bool v0, a12])) .fail) .fail)
 (.ite (zgv zab.one [.bool v0, v5]) (.ite (zgv zab.one [.bool v0, v5]) (.ret (.agg [.bool v0, v5])) .fail) .fail))
theorem zzd6 (v0 : Bool) (v5 v18 : zab) (v19 v20 : Int) (c4_0 : Bool) (c4_1 : zab) {m : Tr zam} {Q : zay} (h : wp 193 (z5q v0 v5 v18 v19 v20 c4_0 c4_1) m Q) : jp 193 2 [.bool v0, v5, v18, .int .i64 v19, .int .i64 v20, .bool c4_0, c4_1] m Q := zcg ok193 (by kernel_rfl) h
def t194 (p0 p1 : zab) : T :=
 .call 203 [p0, p1] fun a0 =>
 .asI .i64 a0 fun n1 => .ite (iLt n1 0)
 (.jump 2 [p1, p0])
 (.jump 2 [p0, p1])
theorem w194 (p0 p1 : zab) {m : Tr zam} {Q : zay} (h : wp 194 (t194 p0 p1) m Q) : Wf 194 [p0, p1] m Q := zce zzbi (by kernel_rfl) (eqT (by kernel_rfl) h)
def zzdl (v0 v1 : zab) : T :=
 .opt (zbw v1) fun a0 => .asI .i64 a0 fun n1 => .ite (iLt 2 n1)
 (.call 204 [v0, v1] fun a2 =>
 .asG [.int .u64 0, .int .u64 0, .int .u64 0, .int .u64 0, .bool false] a2 fun X3 =>
 .ite true (.ite (iEq (X3.i 2) 0)
 (.call 205 [v0, v1] fun a4 =>
 .opt (zao 0 a4) fun a5 => .opt (zao 1 a4) fun a6 => .jump 2 [v1, a6])
 (.ite (X3.b 4)
 (.call 206 [(.int .u64 (X3.i 0)), v0, (.int .u64 (X3.i 2)), v1] fun a7 =>
 .ite (same 10 (.int .u64 (X3.i 3)) (.int .u64 (X3.i 3))) (.ite (same 10 (.int .u64 (X3.i 1)) (.int .u64 (X3.i 1))) (.call 206 [(.int .u64 (X3.i 3)), v1, (.int .u64 (X3.i 1)), v0] fun a8 =>
 .jump 2 [a7, a8]) .fail) .fail)
 (.call 206 [(.int .u64 (X3.i 2)), v1, (.int .u64 (X3.i 0)), v0] fun a9 =>
 .ite (same 10 (.int .u64 (X3.i 1)) (.int .u64 (X3.i 1))) (.ite (same 10 (.int .u64 (X3.i 3)) (.int .u64 (X3.i 3))) (.call 206 [(.int .u64 (X3.i 1)), v0, (.int .u64 (X3.i 3)), v1] fun a10 =>
 .jump 2 [a9, a10]) .fail) .fail))) .fail)
 (.opt (zbw v1) fun a11 => .asI .i64 a11 fun n12 => .ite (iEq n12 0)
 (.ret v0)
 (.opt (zbw v0) fun a13 => .asI .i64 a13 fun n14 => .ite (iLt 2 n14)
 (.call 205 [v0, v1] fun a15 =>
 .opt (zao 0 a15) fun a16 => .opt (zao 1 a15) fun a17 => .jump 33 [v1, a17])
 (.jump 33 [v0, v1])))
theorem j194_2 (v0 v1 : zab) {m : Tr zam} {Q : zay} (h : wp 194 (zzdl v0 v1) m Q) : jp 194 2 [v0, v1] m Q := zcg zzbi (by kernel_rfl) h
def z5p (v0 v1 : zab) : T :=
 .call 207 [v0] fun a0 =>
 .asI .u64 a0 fun n1 => .call 207 [v1] fun a2 =>
 .asI .u64 a2 fun n3 => .jump 6 [.int .u64 n1, .int .u64 n3]
theorem zzfu (v0 v1 : zab) {m : Tr zam} {Q : zay} (h : wp 194 (z5p v0 v1) m Q) : jp 194 33 [v0, v1] m Q := zcg zzbi (by kernel_rfl) h
def zzdk (v10 v11 : Int) : T :=
 .ite (!iEq v11 0)
 (.opt (zzb1 .u64 v10 v11) fun a0 => .asI .u64 a0 fun n1 => .jump 6 [.int .u64 v11, .int .u64 n1])
 (.call 208 [.int .u64 v10] fun a2 =>
 .ret a2)
theorem j194_6 (v10 v11 : Int) {m : Tr zam} {Q : zay} (h : wp 194 (zzdk v10 v11) m Q) : jp 194 6 [.int .u64 v10, .int .u64 v11] m Q := zcg zzbi (by kernel_rfl) h
def t203 (p0 p1 : zab) : T :=
 .opt (zbw p0) fun a0 => .asI .i64 a0 fun n1 => .opt (zbw p1) fun a2 => .asI .i64 a2 fun n3 => .ite (!iEq n1 n3)
 (.opt (zbw p0) fun a4 => .asI .i64 a4 fun n5 => .opt (zbw p1) fun a6 => .asI .i64 a6 fun n7 => .ite (iLt n5 n7)
 (.ret (.int .i64 (-1)))
 (.ret (.int .i64 1)))
 (.opt (zbw p0) fun a8 => .asI .i64 a8 fun n9 => .jump 2 [p0, p1, (.int .i64 (zai .i64 (n9 - 1)))])
theorem w203 (p0 p1 : zab) {m : Tr zam} {Q : zay} (h : wp 203 (t203 p0 p1) m Q) : Wf 203 [p0, p1] m Q := zce ok203 (by kernel_rfl) (eqT (by kernel_rfl) h)
def z5o (v0 v1 : zab) (v5 : Int) : T :=
 .ite (iLe 0 v5)
 (.opt (zaj C13 200 v0 (.int .i64 v5)) fun a0 => .light (fun m => za2 C13 202 ⟨0, m⟩ a0) fun a1 => .asI .u32 a1 fun n2 => .opt (zaj C13 200 v1 (.int .i64 v5)) fun a3 => .light (fun m => za2 C13 202 ⟨0, m⟩ a3) fun a4 => .asI .u32 a4 fun n5 => .ite (!iEq n2 n5)
 (.opt (zaj C13 200 v0 (.int .i64 v5)) fun a6 => .light (fun m => za2 C13 202 ⟨0, m⟩ a6) fun a7 => .asI .u32 a7 fun n8 => .opt (zaj C13 200 v1 (.int .i64 v5)) fun a9 => .light (fun m => za2 C13 202 ⟨0, m⟩ a9) fun a10 => .asI .u32 a10 fun n11 => .ite (iLt n8 n11)
 (.ret (.int .i64 (-1)))
 (.ret (.int .i64 1)))
 (.jump 2 [v0, v1, (.int .i64 (zai .i64 (v5 - 1)))]))
 (.ret (.int .i64 0))
theorem zzd5 (v0 v1 : zab) (v5 : Int) {m : Tr zam} {Q : zay} (h : wp 203 (z5o v0 v1 v5) m Q) : jp 203 2 [v0, v1, .int .i64 v5] m Q := zcg ok203 (by kernel_rfl) h
def t204 (p0 p1 : zab) : T :=
 .opt (zbw p0) fun a0 => .asI .i64 a0 fun n1 => .opt (zaj C13 200 p0 (.int .i64 (zai .i64 (n1 - 1)))) fun a2 => .light (fun m => za2 C13 202 ⟨0, m⟩ a2) fun a3 => .asI .u32 a3 fun n4 => .call 212 [.int .u32 n4] fun a5 =>
 .asI .i64 a5 fun n6 => .call 213 [p0, .int .i64 n1, .int .i64 n6] fun a7 =>
 .asI .u64 a7 fun n8 => .call 213 [p1, .int .i64 n1, .int .i64 n6] fun a9 =>
 .asI .u64 a9 fun n10 => .ite true (.ite true (.jump 2 [.int .u64 n8, .int .u64 n10, .int .u64 0, .int .u64 1, .int .u64 0, .int .u64 0, .int .u64 0, .int .u64 0, .bool false, .int .u64 0, .int .u64 1, .int .u64 0, .int .u64 0, .bool false]) .fail) .fail
theorem w204 (p0 p1 : zab) {m : Tr zam} {Q : zay} (h : wp 204 (t204 p0 p1) m Q) : Wf 204 [p0, p1] m Q := zce ok204 (by kernel_rfl) (eqT (by kernel_rfl) h)
def zzdj (v7 v8 v10 v11 c4_0 c4_1 c4_2 c4_3 : Int) (c4_4 : Bool) (c9_0 c9_1 c9_2 c9_3 : Int) (c9_4 : Bool) : T :=
 .ite (iLe v11 v8)
 (.ite (iLe (zai .u64 (c9_3 + v11)) (zai .u64 (v7 - v8)))
 (.opt (zzb2 .u64 v7 v8) fun a0 => .asI .u64 a0 fun n1 => .opt (zzb1 .u64 v7 v8) fun a2 => .asI .u64 a2 fun n3 => .ite true (.ite true (.ite true (.ite true (.ite true (.jump 2 [.int .u64 v8, .int .u64 n3, (.int .u64 (zai .u64 (c9_1 + (zai .u64 (n1 * v10))))), (.int .u64 (zai .u64 (c9_3 + (zai .u64 (n1 * v11))))), .int .u64 c4_0, .int .u64 c4_1, .int .u64 c4_2, .int .u64 c4_3, .bool c4_4, .int .u64 c9_1, .int .u64 v10, .int .u64 c9_3, .int .u64 v11, (.bool (!c9_4))]) .fail) .fail) .fail) .fail) .fail)
 (.ite true (.ret (.agg [.int .u64 c9_0, .int .u64 c9_1, .int .u64 c9_2, .int .u64 c9_3, .bool c9_4])) .fail))
 (.ite true (.ret (.agg [.int .u64 c9_0, .int .u64 c9_1, .int .u64 c9_2, .int .u64 c9_3, .bool c9_4])) .fail)
theorem j204_2 (v7 v8 v10 v11 c4_0 c4_1 c4_2 c4_3 : Int) (c4_4 : Bool) (c9_0 c9_1 c9_2 c9_3 : Int) (c9_4 : Bool) {m : Tr zam} {Q : zay} (h : wp 204 (zzdj v7 v8 v10 v11 c4_0 c4_1 c4_2 c4_3 c4_4 c9_0 c9_1 c9_2 c9_3 c9_4) m Q) : jp 204 2 [.int .u64 v7, .int .u64 v8, .int .u64 v10, .int .u64 v11, .int .u64 c4_0, .int .u64 c4_1, .int .u64 c4_2, .int .u64 c4_3, .bool c4_4, .int .u64 c9_0, .int .u64 c9_1, .int .u64 c9_2, .int .u64 c9_3, .bool c9_4] m Q := zcg ok204 (by kernel_rfl) h
def t205 (p0 p1 : zab) : T :=
 .call 203 [p0, p1] fun a0 =>
 .asI .i64 a0 fun n1 => .ite (iLt n1 0)
 (.call 214 [p0] fun a2 =>
 .ret (.tup [.nilslice, a2]))
 (.opt (zbw p1) fun a3 => .asI .i64 a3 fun n4 => .ite (iEq n4 1)
 (.opt (zaj C13 200 p1 (.int .i64 0)) fun a5 => .light (fun m => za2 C13 202 ⟨0, m⟩ a5) fun a6 => .asI .u32 a6 fun n7 => .call 152 [p0, .int .u32 n7] fun a8 =>
 .opt (zao 0 a8) fun a9 => .opt (zao 1 a8) fun a10 => .asI .u32 a10 fun n11 => .heavy (zaz C13 200 1 [(0, (.int .u32 n11))]) fun a12 =>
 .call 174 [a12] fun a13 =>
 .ret (.tup [a9, a13]))
 (.opt (zbw p1) fun a14 => .asI .i64 a14 fun n15 => .opt (zaj C13 200 p1 (.int .i64 (zai .i64 (n15 - 1)))) fun a16 => .light (fun m => za2 C13 202 ⟨0, m⟩ a16) fun a17 => .asI .u32 a17 fun n18 => .call 212 [.int .u32 n18] fun a19 =>
 .asI .i64 a19 fun n20 => .call 215 [p1, .int .i64 n20] fun a21 =>
 .light (fun m => zcr C13 200 ⟨0, m⟩ a21 none (some (.int .i64 n15))) fun a22 => .call 215 [p0, .int .i64 n20] fun a23 =>
 .opt (zbw p0) fun a24 => .asI .i64 a24 fun n25 => .heavy (zcp C13 200 (.int .i64 (zai .i64 ((zai .i64 (n25 - n15)) + 1))) (.int .i64 (zai .i64 ((zai .i64 (n25 - n15)) + 1)))) fun a26 =>
 .opt (zbw a26) fun a27 => .asI .i64 a27 fun n28 => .jump 2 [.int .i64 n15, .int .i64 n20, a22, a23, a26, (.int .i64 (zai .i64 (n28 - 1)))]))
theorem w205 (p0 p1 : zab) {m : Tr zam} {Q : zay} (h : wp 205 (t205 p0 p1) m Q) : Wf 205 [p0, p1] m Q := zce zzfd (by kernel_rfl) (eqT (by kernel_rfl) h)
def z5n (v8 v9 : Int) (v10 v11 v12 : zab) (v13 : Int) : T :=
 .ite (iLe 0 v13)
 (.light (fun m => zcr C13 200 ⟨0, m⟩ v11 (some (.int .i64 v13)) (some (.int .i64 (zai .i64 ((zai .i64 (v13 + v8)) + 1))))) fun a0 => .call 216 [a0, v10] fun a1 =>
 .asI .u32 a1 fun n2 => .opt (zaj C13 200 v12 (.int .i64 v13)) fun a3 => .heavy (zb6 C13 202 a3 (.int .u32 n2)) fun _ =>
 .jump 2 [.int .i64 v8, .int .i64 v9, v10, v11, v12, (.int .i64 (zai .i64 (v13 - 1)))])
 (.jump 6 [.int .i64 v8, .int .i64 v9, v11, v12, .int .i64 v8, .int .i64 0])
theorem zzd4 (v8 v9 : Int) (v10 v11 v12 : zab) (v13 : Int) {m : Tr zam} {Q : zay} (h : wp 205 (z5n v8 v9 v10 v11 v12 v13) m Q) : jp 205 2 [.int .i64 v8, .int .i64 v9, v10, v11, v12, .int .i64 v13] m Q := zcg zzfd (by kernel_rfl) h
def z5m (v8 v9 : Int) (v11 v12 : zab) (v77 v78 : Int) : T :=
 .ite (iLt v78 v77)
 (.opt (zaj C13 200 v11 (.int .i64 (zai .i64 (v78 + 1)))) fun a0 => .light (fun m => za2 C13 202 ⟨0, m⟩ a0) fun a1 => .asI .u32 a1 fun n2 => .opt (zaj C13 200 v11 (.int .i64 v78)) fun a3 => .light (fun m => za2 C13 202 ⟨0, m⟩ a3) fun a4 => .asI .u32 a4 fun n5 => .opt (zfc Nat.lor .u64 (zai .u64 ((zai .u64 n2) * 4294967296)) (zai .u64 n5)) fun a6 => .asI .u64 a6 fun n7 => .opt (zzfz .u64 n7 v9) fun a8 => .asI .u64 a8 fun n9 => .opt (zaj C13 200 v11 (.int .i64 v78)) fun a10 => .heavy (zb6 C13 202 a10 (.int .u32 (zai .u32 n9))) fun _ =>
 .jump 6 [.int .i64 v8, .int .i64 v9, v11, v12, .int .i64 v77, (.int .i64 (zai .i64 (v78 + 1)))])
 (.light (fun m => zcr C13 200 ⟨0, m⟩ v11 none (some (.int .i64 v8))) fun a11 => .call 174 [v12] fun a12 =>
 .light (fun m => zcr C13 200 ⟨0, m⟩ v11 none (some (.int .i64 v8))) fun a13 => .ite (same 10 a13 a11) (.call 174 [a11] fun a14 =>
 .ret (.tup [a12, a14])) .fail)
theorem zzd3 (v8 v9 : Int) (v11 v12 : zab) (v77 v78 : Int) {m : Tr zam} {Q : zay} (h : wp 205 (z5m v8 v9 v11 v12 v77 v78) m Q) : jp 205 6 [.int .i64 v8, .int .i64 v9, v11, v12, .int .i64 v77, .int .i64 v78] m Q := zcg zzfd (by kernel_rfl) h
def t206 (p0 : Int) (p1 : zab) (p2 : Int) (p3 : zab) : T :=
 .opt (zbw p1) fun a0 => .asI .i64 a0 fun n1 => .opt (zbw p3) fun a2 => .asI .i64 a2 fun n3 => .heavy (zcp C13 200 (.int .i64 (zai .i64 ((bif iLt n1 n3 then n3 else n1) + 1))) (.int .i64 (zai .i64 ((bif iLt n1 n3 then n3 else n1) + 1)))) fun a4 =>
 .opt (zbw a4) fun a5 => .asI .i64 a5 fun n6 => .jump 2 [.int .u64 p0, p1, .int .u64 p2, p3, a4, .int .u64 0, .int .u64 0, .int .u32 0, .int .i64 n6, .int .i64 0]
theorem w206 (p0 : Int) (p1 : zab) (p2 : Int) (p3 : zab) {m : Tr zam} {Q : zay} (h : wp 206 (t206 p0 p1 p2 p3) m Q) : Wf 206 [.int .u64 p0, p1, .int .u64 p2, p3] m Q := zce zzbh (by kernel_rfl) (eqT (by kernel_rfl) h)
def z5k (v0 : Int) (v1 : zab) (v2 : Int) (v3 v9 : zab) (v10 v11 v12 v22 v23 : Int) : T :=
 .ite (iLt v23 v22)
 (.opt (zbw v1) fun a0 => .asI .i64 a0 fun n1 => .ite (iLt v23 n1)
 (.opt (zaj C13 200 v1 (.int .i64 v23)) fun a2 => .light (fun m => za2 C13 202 ⟨0, m⟩ a2) fun a3 => .asI .u32 a3 fun n4 => .jump 17 [.int .u64 v0, v1, .int .u64 v2, v3, v9, (.int .u64 (zai .u64 (v10 + (zai .u64 (v0 * (zai .u64 n4)))))), .int .u64 v11, .int .u32 v12, .int .i64 v23, .int .i64 v22, .int .i64 v23])
 (.jump 17 [.int .u64 v0, v1, .int .u64 v2, v3, v9, .int .u64 v10, .int .u64 v11, .int .u32 v12, .int .i64 v23, .int .i64 v22, .int .i64 v23]))
 (.call 174 [v9] fun a5 =>
 .ret a5)
theorem zzd2 (v0 : Int) (v1 : zab) (v2 : Int) (v3 v9 : zab) (v10 v11 v12 v22 v23 : Int) {m : Tr zam} {Q : zay} (h : wp 206 (z5k v0 v1 v2 v3 v9 v10 v11 v12 v22 v23) m Q) : jp 206 2 [.int .u64 v0, v1, .int .u64 v2, v3, v9, .int .u64 v10, .int .u64 v11, .int .u32 v12, .int .i64 v22, .int .i64 v23] m Q := zcg zzbh (by kernel_rfl) h
def z5l (v0 : Int) (v1 : zab) (v2 : Int) (v3 v9 : zab) (v10 v11 v12 v13 v22 v23 : Int) : T :=
 .opt (zbw v3) fun a0 => .asI .i64 a0 fun n1 => .ite (iLt v13 n1)
 (.opt (zaj C13 200 v3 (.int .i64 v13)) fun a2 => .light (fun m => za2 C13 202 ⟨0, m⟩ a2) fun a3 => .asI .u32 a3 fun n4 => .jump 21 [.int .u64 v0, v1, .int .u64 v2, v3, v9, .int .u64 v10, (.int .u64 (zai .u64 (v11 + (zai .u64 (v2 * (zai .u64 n4)))))), .int .u32 v12, .int .i64 v13, .int .i64 v22, .int .i64 v23])
 (.jump 21 [.int .u64 v0, v1, .int .u64 v2, v3, v9, .int .u64 v10, .int .u64 v11, .int .u32 v12, .int .i64 v13, .int .i64 v22, .int .i64 v23])
theorem zzft (v0 : Int) (v1 : zab) (v2 : Int) (v3 v9 : zab) (v10 v11 v12 v13 v22 v23 : Int) {m : Tr zam} {Q : zay} (h : wp 206 (z5l v0 v1 v2 v3 v9 v10 v11 v12 v13 v22 v23) m Q) : jp 206 17 [.int .u64 v0, v1, .int .u64 v2, v3, v9, .int .u64 v10, .int .u64 v11, .int .u32 v12, .int .i64 v13, .int .i64 v22, .int .i64 v23] m Q := zcg zzbh (by kernel_rfl) h
def z5j (v0 : Int) (v1 : zab) (v2 : Int) (v3 v9 : zab) (v10 v11 v12 v13 v22 v23 : Int) : T :=
 .call 217 [(.int .u32 (zai .u32 v10)), (.int .u32 (zai .u32 v11)), .int .u32 v12] fun a0 =>
 .opt (zao 0 a0) fun a1 => .asI .u32 a1 fun n2 => .opt (zao 1 a0) fun a3 => .asI .u32 a3 fun n4 => .opt (zaj C13 200 v9 (.int .i64 v13)) fun a5 => .heavy (zb6 C13 202 a5 (.int .u32 n2)) fun _ =>
 .jump 2 [.int .u64 v0, v1, .int .u64 v2, v3, v9, (.int .u64 (Int.fdiv v10 4294967296)), (.int .u64 (Int.fdiv v11 4294967296)), .int .u32 n4, .int .i64 v22, (.int .i64 (zai .i64 (v23 + 1)))]
theorem zzfs (v0 : Int) (v1 : zab) (v2 : Int) (v3 v9 : zab) (v10 v11 v12 v13 v22 v23 : Int) {m : Tr zam} {Q : zay} (h : wp 206 (z5j v0 v1 v2 v3 v9 v10 v11 v12 v13 v22 v23) m Q) : jp 206 21 [.int .u64 v0, v1, .int .u64 v2, v3, v9, .int .u64 v10, .int .u64 v11, .int .u32 v12, .int .i64 v13, .int .i64 v22, .int .i64 v23] m Q := zcg zzbh (by kernel_rfl) h
def t208 (p0 : Int) : T :=
 .heavy (zaz C13 200 2 [(0, (.int .u32 (zai .u32 p0))), (1, (.int .u32 (zai .u32 (Int.fdiv p0 4294967296))))]) fun a0 =>
 .call 174 [a0] fun a1 =>
 .ret a1
theorem w208 (p0 : Int) {m : Tr zam} {Q : zay} (h : wp 208 (t208 p0) m Q) : Wf 208 [.int .u64 p0] m Q := zce ok208 (by kernel_rfl) (eqT (by kernel_rfl) h)
def t212 (p0 : Int) : T :=
 .call 219 [.int .u32 p0] fun a0 =>
 .asI .i64 a0 fun n1 => .ret (.int .i64 (zai .i64 (32 - n1)))
theorem w212 (p0 : Int) {m : Tr zam} {Q : zay} (h : wp 212 (t212 p0) m Q) : Wf 212 [.int .u32 p0] m Q := zce ok212 (by kernel_rfl) (eqT (by kernel_rfl) h)
def t213 (p0 : zab) (p1 p2 : Int) : T :=
 .heavy (zzdb p0) fun a0 =>
 .callv (.func (.func 220) [] [a0]) [(.int .i64 (zai .i64 (p1 - 1)))] fun a1 =>
 .asI .u64 a1 fun n2 => .callv (.func (.func 220) [] [a0]) [(.int .i64 (zai .i64 (p1 - 2)))] fun a3 =>
 .asI .u64 a3 fun n4 => .opt (zfc Nat.lor .u64 (zai .u64 (n2 * 4294967296)) n4) fun a5 => .asI .u64 a5 fun n6 => .opt (z76 .u64 n6 p2) fun a7 => .asI .u64 a7 fun n8 => .callv (.func (.func 220) [] [a0]) [(.int .i64 (zai .i64 (p1 - 3)))] fun a9 =>
 .asI .u64 a9 fun n10 => .opt (zzfz .u64 n10 (zai .i64 (32 - p2))) fun a11 => .asI .u64 a11 fun n12 => .opt (zfc Nat.lor .u64 n8 n12) fun a13 => .asI .u64 a13 fun n14 => .ret (.int .u64 n14)
theorem e213 (p0 : zab) (p1 p2 : Int) : entT C13 Tryz.f213 8 213 a213 [p0, .int .i64 p1, .int .i64 p2] = t213 p0 p1 p2 := by kernel_rfl
theorem w213 (p0 : zab) (p1 p2 : Int) {m : Tr zam} {Q : zay} (h : wp 213 (t213 p0 p1 p2) m Q) : Wf 213 [p0, .int .i64 p1, .int .i64 p2] m Q := zce ok213 (by kernel_rfl) (by rw [e213]; exact h)
def t214 (p0 : zab) : T :=
 .opt ((binA .eql).f C13 200 (.tmp 3) (.const (.slice none 0 0)) p0 .nilslice) fun a0 => .asB a0 fun b1 => .ite b1
 (.ret .nilslice)
 (.heavy (zaz C13 200 0 []) fun a2 =>
 .heavy (zcd C13 200 200 a2 p0) fun a3 =>
 .ret a3)
theorem w214 (p0 : zab) {m : Tr zam} {Q : zay} (h : wp 214 (t214 p0) m Q) : Wf 214 [p0] m Q := zce ok214 (by kernel_rfl) (eqT (by kernel_rfl) h)
def t215 (p0 : zab) (p1 : Int) : T :=
 .opt (zbw p0) fun a0 => .asI .i64 a0 fun n1 => .heavy (zcp C13 200 (.int .i64 (zai .i64 (n1 + 1))) (.int .i64 (zai .i64 (n1 + 1)))) fun a2 =>
 .opt (zbw p0) fun a3 => .asI .i64 a3 fun n4 => .jump 2 [.int .i64 p1, a2, p0, .int .i64 n4, .int .i64 0]
theorem w215 (p0 : zab) (p1 : Int) {m : Tr zam} {Q : zay} (h : wp 215 (t215 p0 p1) m Q) : Wf 215 [p0, .int .i64 p1] m Q := zce ok215 (by kernel_rfl) (eqT (by kernel_rfl) h)
def z5i (v1 : Int) (v5 v13 : zab) (v14 v15 : Int) : T :=
 .ite (iLt v15 v14)
 (.opt (zaj C13 200 v13 (.int .i64 v15)) fun a0 => .light (fun m => za2 C13 202 ⟨0, m⟩ a0) fun a1 => .asI .u32 a1 fun n2 => .opt (z76 .u64 (zai .u64 n2) v1) fun a3 => .asI .u64 a3 fun n4 => .opt (zaj C13 200 v5 (.int .i64 v15)) fun a5 => .light (fun m => za2 C13 202 ⟨0, m⟩ a5) fun a6 => .asI .u32 a6 fun n7 => .opt (zfc Nat.lor .u32 n7 (zai .u32 n4)) fun a8 => .asI .u32 a8 fun n9 => .opt (zaj C13 200 v5 (.int .i64 v15)) fun a10 => .heavy (zb6 C13 202 a10 (.int .u32 n9)) fun _ =>
 .opt (zaj C13 200 v5 (.int .i64 (zai .i64 (v15 + 1)))) fun a11 => .heavy (zb6 C13 202 a11 (.int .u32 (zai .u32 (Int.fdiv n4 4294967296)))) fun _ =>
 .jump 2 [.int .i64 v1, v5, v13, .int .i64 v14, (.int .i64 (zai .i64 (v15 + 1)))])
 (.ret v5)
theorem zzd1 (v1 : Int) (v5 v13 : zab) (v14 v15 : Int) {m : Tr zam} {Q : zay} (h : wp 215 (z5i v1 v5 v13 v14 v15) m Q) : jp 215 2 [.int .i64 v1, v5, v13, .int .i64 v14, .int .i64 v15] m Q := zcg ok215 (by kernel_rfl) h
def t216 (p0 p1 : zab) : T :=
 .opt (zbw p1) fun a0 => .asI .i64 a0 fun n1 => .opt (zaj C13 200 p0 (.int .i64 n1)) fun a2 => .light (fun m => za2 C13 202 ⟨0, m⟩ a2) fun a3 => .asI .u32 a3 fun n4 => .opt (zaj C13 200 p0 (.int .i64 (zai .i64 (n1 - 1)))) fun a5 => .light (fun m => za2 C13 202 ⟨0, m⟩ a5) fun a6 => .asI .u32 a6 fun n7 => .opt (zfc Nat.lor .u64 (zai .u64 ((zai .u64 n4) * 4294967296)) (zai .u64 n7)) fun a8 => .asI .u64 a8 fun n9 => .opt (zaj C13 200 p1 (.int .i64 (zai .i64 (n1 - 1)))) fun a10 => .light (fun m => za2 C13 202 ⟨0, m⟩ a10) fun a11 => .asI .u32 a11 fun n12 => .opt (zzb2 .u64 n9 (zai .u64 n12)) fun a13 => .asI .u64 a13 fun n14 => .opt (zzb1 .u64 n9 (zai .u64 n12)) fun a15 => .asI .u64 a15 fun n16 => .jump 2 [p0, p1, .int .i64 n1, (.int .u64 (zai .u64 n12)), .int .u64 n14, .int .u64 n16]
theorem w216 (p0 p1 : zab) {m : Tr zam} {Q : zay} (h : wp 216 (t216 p0 p1) m Q) : Wf 216 [p0, p1] m Q := zce z6w (by kernel_rfl) (eqT (by kernel_rfl) h)
def z5g (v0 v1 : zab) (v5 v7 v8 v9 : Int) : T :=
 .ite (iLe 4294967296 v8)
 (.ite (iLe 4294967296 (zai .u64 (v9 + v7)))
 (.jump 19 [v0, v1, .int .i64 v5, (.int .u64 (zai .u64 (v8 - 1)))])
 (.jump 2 [v0, v1, .int .i64 v5, .int .u64 v7, (.int .u64 (zai .u64 (v8 - 1))), (.int .u64 (zai .u64 (v9 + v7)))]))
 (.opt (zaj C13 200 v1 (.int .i64 (zai .i64 (v5 - 2)))) fun a0 => .light (fun m => za2 C13 202 ⟨0, m⟩ a0) fun a1 => .asI .u32 a1 fun n2 => .opt (zaj C13 200 v0 (.int .i64 (zai .i64 (v5 - 2)))) fun a3 => .light (fun m => za2 C13 202 ⟨0, m⟩ a3) fun a4 => .asI .u32 a4 fun n5 => .opt (zfc Nat.lor .u64 (zai .u64 (v9 * 4294967296)) (zai .u64 n5)) fun a6 => .asI .u64 a6 fun n7 => .ite (iLt n7 (zai .u64 (v8 * (zai .u64 n2))))
 (.ite (iLe 4294967296 (zai .u64 (v9 + v7)))
 (.jump 19 [v0, v1, .int .i64 v5, (.int .u64 (zai .u64 (v8 - 1)))])
 (.jump 2 [v0, v1, .int .i64 v5, .int .u64 v7, (.int .u64 (zai .u64 (v8 - 1))), (.int .u64 (zai .u64 (v9 + v7)))]))
 (.jump 19 [v0, v1, .int .i64 v5, .int .u64 v8]))
theorem zzd0 (v0 v1 : zab) (v5 v7 v8 v9 : Int) {m : Tr zam} {Q : zay} (h : wp 216 (z5g v0 v1 v5 v7 v8 v9) m Q) : jp 216 2 [v0, v1, .int .i64 v5, .int .u64 v7, .int .u64 v8, .int .u64 v9] m Q := zcg z6w (by kernel_rfl) h
def z5h (v0 v1 : zab) (v5 v8 : Int) : T :=
 .opt (zbw v1) fun a0 => .asI .i64 a0 fun n1 => .jump 6 [v0, v1, .int .i64 v5, .int .u64 v8, .int .u64 0, .int .u64 0, v1, .int .i64 n1, .int .i64 0]
theorem zzfr (v0 v1 : zab) (v5 v8 : Int) {m : Tr zam} {Q : zay} (h : wp 216 (z5h v0 v1 v5 v8) m Q) : jp 216 19 [v0, v1, .int .i64 v5, .int .u64 v8] m Q := zcg z6w (by kernel_rfl) h
def z5f (v0 v1 : zab) (v5 v8 v10 v11 : Int) (v76 : zab) (v77 v78 : Int) : T :=
 .ite (iLt v78 v77)
 (.opt (zaj C13 200 v76 (.int .i64 v78)) fun a0 => .light (fun m => za2 C13 202 ⟨0, m⟩ a0) fun a1 => .asI .u32 a1 fun n2 => .opt (zaj C13 200 v0 (.int .i64 v78)) fun a3 => .light (fun m => za2 C13 202 ⟨0, m⟩ a3) fun a4 => .asI .u32 a4 fun n5 => .opt (zaj C13 200 v0 (.int .i64 v78)) fun a6 => .heavy (zb6 C13 202 a6 (.int .u32 (zai .u32 (zai .u64 ((zai .u64 ((zai .u64 n5) - (zai .u64 (zai .u32 (zai .u64 ((zai .u64 (v8 * (zai .u64 n2))) + v10)))))) - v11))))) fun _ =>
 .jump 6 [v0, v1, .int .i64 v5, .int .u64 v8, (.int .u64 (Int.fdiv (zai .u64 ((zai .u64 (v8 * (zai .u64 n2))) + v10)) 4294967296)), (.int .u64 (Int.fdiv (zai .u64 ((zai .u64 ((zai .u64 n5) - (zai .u64 (zai .u32 (zai .u64 ((zai .u64 (v8 * (zai .u64 n2))) + v10)))))) - v11)) 9223372036854775808)), v76, .int .i64 v77, (.int .i64 (zai .i64 (v78 + 1)))])
 (.opt (zaj C13 200 v0 (.int .i64 v5)) fun a7 => .light (fun m => za2 C13 202 ⟨0, m⟩ a7) fun a8 => .asI .u32 a8 fun n9 => .opt (zaj C13 200 v0 (.int .i64 v5)) fun a10 => .heavy (zb6 C13 202 a10 (.int .u32 (zai .u32 (zai .u64 ((zai .u64 ((zai .u64 n9) - v10)) - v11))))) fun _ =>
 .ite (iEq (Int.fdiv (zai .u64 ((zai .u64 ((zai .u64 n9) - v10)) - v11)) 9223372036854775808) 0)
 (.ret (.int .u32 (zai .u32 v8)))
 (.opt (zbw v1) fun a11 => .asI .i64 a11 fun n12 => .jump 10 [v0, .int .i64 v5, .int .u64 v8, .int .u32 0, v1, .int .i64 n12, .int .i64 0]))
theorem zzdz (v0 v1 : zab) (v5 v8 v10 v11 : Int) (v76 : zab) (v77 v78 : Int) {m : Tr zam} {Q : zay} (h : wp 216 (z5f v0 v1 v5 v8 v10 v11 v76 v77 v78) m Q) : jp 216 6 [v0, v1, .int .i64 v5, .int .u64 v8, .int .u64 v10, .int .u64 v11, v76, .int .i64 v77, .int .i64 v78] m Q := zcg z6w (by kernel_rfl) h
def zx3 (v0 : zab) (v5 v8 v17 : Int) (v129 : zab) (v130 v131 : Int) : T :=
 .ite (iLt v131 v130)
 (.opt (zaj C13 200 v129 (.int .i64 v131)) fun a0 => .light (fun m => za2 C13 202 ⟨0, m⟩ a0) fun a1 => .asI .u32 a1 fun n2 => .opt (zaj C13 200 v0 (.int .i64 v131)) fun a3 => .light (fun m => za2 C13 202 ⟨0, m⟩ a3) fun a4 => .asI .u32 a4 fun n5 => .call 221 [.int .u32 n5, .int .u32 n2, .int .u32 v17] fun a6 =>
 .opt (zao 0 a6) fun a7 => .asI .u32 a7 fun n8 => .opt (zao 1 a6) fun a9 => .asI .u32 a9 fun n10 => .opt (zaj C13 200 v0 (.int .i64 v131)) fun a11 => .heavy (zb6 C13 202 a11 (.int .u32 n8)) fun _ =>
 .jump 10 [v0, .int .i64 v5, .int .u64 v8, .int .u32 n10, v129, .int .i64 v130, (.int .i64 (zai .i64 (v131 + 1)))])
 (.opt (zaj C13 200 v0 (.int .i64 v5)) fun a12 => .light (fun m => za2 C13 202 ⟨0, m⟩ a12) fun a13 => .asI .u32 a13 fun n14 => .opt (zaj C13 200 v0 (.int .i64 v5)) fun a15 => .heavy (zb6 C13 202 a15 (.int .u32 (zai .u32 (n14 + v17)))) fun _ =>
 .ret (.int .u32 (zai .u32 (zai .u64 (v8 - 1)))))
theorem z7x (v0 : zab) (v5 v8 v17 : Int) (v129 : zab) (v130 v131 : Int) {m : Tr zam} {Q : zay} (h : wp 216 (zx3 v0 v5 v8 v17 v129 v130 v131) m Q) : jp 216 10 [v0, .int .i64 v5, .int .u64 v8, .int .u32 v17, v129, .int .i64 v130, .int .i64 v131] m Q := zcg z6w (by kernel_rfl) h
def t217 (p0 p1 p2 : Int) : T :=
 .opt (zx1 (.int .u32 p0)) fun a0 => .asI .u32 a0 fun n1 => .opt (zzb3 .u32 n1 p1) fun a2 => .asI .u32 a2 fun n3 => .opt (zfc Nat.xor .u32 p0 p1) fun a4 => .asI .u32 a4 fun n5 => .opt (zx1 (.int .u32 n5)) fun a6 => .asI .u32 a6 fun n7 => .opt (zzb3 .u32 n7 (zai .u32 ((zai .u32 (p0 - p1)) - p2))) fun a8 => .asI .u32 a8 fun n9 => .opt (zfc Nat.lor .u32 n3 n9) fun a10 => .asI .u32 a10 fun n11 => .ret (.tup [(.int .u32 (zai .u32 ((zai .u32 (p0 - p1)) - p2))), (.int .u32 (Int.fdiv n11 2147483648))])
theorem w217 (p0 p1 p2 : Int) {m : Tr zam} {Q : zay} (h : wp 217 (t217 p0 p1 p2) m Q) : Wf 217 [.int .u32 p0, .int .u32 p1, .int .u32 p2] m Q := zce ok217 (by kernel_rfl) (eqT (by kernel_rfl) h)
def t219 (p0 : Int) : T :=
 .ite (iLe 65536 p0)
 (.jump 9 [(.int .u32 (Int.fdiv p0 65536)), .int .i64 16])
 (.jump 9 [.int .u32 p0, .int .i64 0])
theorem w219 (p0 : Int) {m : Tr zam} {Q : zay} (h : wp 219 (t219 p0) m Q) : Wf 219 [.int .u32 p0] m Q := zce zzfc (by kernel_rfl) (eqT (by kernel_rfl) h)
def z5d (v0 v2 : Int) : T :=
 .ite (iLe 256 v0)
 (.jump 15 [(.int .u32 (Int.fdiv v0 256)), (.int .i64 (zai .i64 (v2 + 8)))])
 (.jump 15 [.int .u32 v0, .int .i64 v2])
theorem zzdy (v0 v2 : Int) {m : Tr zam} {Q : zay} (h : wp 219 (z5d v0 v2) m Q) : jp 219 9 [.int .u32 v0, .int .i64 v2] m Q := zcg zzfc (by kernel_rfl) h
def z5e (v0 v2 : Int) : T :=
 .opt (zu7 C13 9 (.str [0, 1, 2, 2, 3, 3, 3, 3, 4, 4, 4, 4, 4, 4, 4, 4, 5, 5, 5, 5, 5, 5, 5, 5, 5, 5, 5, 5, 5, 5, 5, 5, 6, 6, 6, 6, 6, 6, 6, 6, 6, 6, 6, 6, 6, 6, 6, 6, 6, 6, 6, 6, 6, 6, 6, 6, 6, 6, 6, 6, 6, 6, 6, 6, 7, 7, 7, 7, 7, 7, 7, 7, 7, 7, 7, 7, 7, 7, 7, 7, 7, 7, 7, 7, 7, 7, 7, 7, 7, 7, 7, 7, 7, 7, 7, 7, 7, 7, 7, 7, 7, 7, 7, 7, 7, 7, 7, 7, 7, 7, 7, 7, 7, 7, 7, 7, 7, 7, 7, 7, 7, 7, 7, 7, 7, 7, 7, 7, 8, 8, 8, 8, 8, 8, 8, 8, 8, 8, 8, 8, 8, 8, 8, 8, 8, 8, 8, 8, 8, 8, 8, 8, 8, 8, 8, 8, 8, 8, 8, 8, 8, 8, 8, 8, 8, 8, 8, 8, 8, 8, 8, 8, 8, 8, 8, 8, 8, 8, 8, 8, 8, 8, 8, 8, 8, 8, 8, 8, 8, 8, 8, 8, 8, 8, 8, 8, 8, 8, 8, 8, 8, 8, 8, 8, 8, 8, 8, 8, 8, 8, 8, 8, 8, 8, 8, 8, 8, 8, 8, 8, 8, 8, 8, 8, 8, 8, 8, 8, 8, 8, 8, 8, 8, 8, 8, 8, 8, 8, 8, 8, 8, 8, 8, 8, 8, 8, 8, 8, 8, 8, 8, 8, 8, 8, 8, 8]) (.int .u8 (zai .u8 v0))) fun a0 => .asI .u8 a0 fun n1 => .ret (.int .i64 (zai .i64 (v2 + (zai .i64 n1))))
theorem zzfq (v0 v2 : Int) {m : Tr zam} {Q : zay} (h : wp 219 (z5e v0 v2) m Q) : jp 219 15 [.int .u32 v0, .int .i64 v2] m Q := zcg zzfc (by kernel_rfl) h
def t220 (p0 : Int) (w0 : zab) : T :=
 .light (fun m => za2 C13 200 ⟨0, m⟩ w0) fun a0 => .opt (zbw a0) fun a1 => .asI .i64 a1 fun n2 => .ite (iLe n2 p0)
 (.ret (.int .u64 0))
 (.light (fun m => za2 C13 200 ⟨0, m⟩ w0) fun a3 => .opt (zaj C13 200 a3 (.int .i64 p0)) fun a4 => .light (fun m => za2 C13 202 ⟨0, m⟩ a4) fun a5 => .asI .u32 a5 fun n6 => .ret (.int .u64 (zai .u64 n6)))
theorem w220 (p0 : Int) (w0 : zab) {m : Tr zam} {Q : zay} (h : wp 220 (t220 p0 w0) m Q) : Wf 220 [.int .i64 p0, w0] m Q := zce ok220 (by kernel_rfl) (eqT (by kernel_rfl) h)
def t221 (p0 p1 p2 : Int) : T :=
 .ret (.tup [(.int .u32 (zai .u32 (zai .u64 ((zai .u64 ((zai .u64 p0) + (zai .u64 p1))) + (zai .u64 p2))))), (.int .u32 (zai .u32 (Int.fdiv (zai .u64 ((zai .u64 ((zai .u64 p0) + (zai .u64 p1))) + (zai .u64 p2))) 4294967296)))])
theorem e221 (p0 p1 p2 : Int) : entT C13 Tryz.f221 9 221 a221 [.int .u32 p0, .int .u32 p1, .int .u32 p2] = t221 p0 p1 p2 := by kernel_rfl
theorem w221 (p0 p1 p2 : Int) {m : Tr zam} {Q : zay} (h : wp 221 (t221 p0 p1 p2) m Q) : Wf 221 [.int .u32 p0, .int .u32 p1, .int .u32 p2] m Q := zce ok221 (by kernel_rfl) (by rw [e221]; exact h)
def t207 (p0 : zab) : T :=
 .heavy (znl C13 195) fun a0 =>
 .heavy (zb6 C13 195 a0 (.int .u64 0)) fun _ =>
 .call 153 [p0] fun a1 =>
 .range (npC C13) a1 2 1 [a0]
 (.light (fun m => za2 C13 195 ⟨0, m⟩ a0) fun a2 => .asI .u64 a2 fun n3 => .ret (.int .u64 n3))
 (.ret (.int .u64 0))
theorem w207 (p0 : zab) {m : Tr zam} {Q : zay} (h : wp 207 (t207 p0) m Q) : Wf 207 [p0] m Q := zce ok207 (by kernel_rfl) (eqT (by kernel_rfl) h)
def zzdi (v3 : zab) (v7 : Int) : T :=
 .light (fun m => za2 C13 195 ⟨0, m⟩ v3) fun a0 => .asI .u64 a0 fun n1 => .opt (zfc Nat.lor .u64 (zai .u64 (n1 * 4294967296)) (zai .u64 v7)) fun a2 => .asI .u64 a2 fun n3 => .heavy (zb6 C13 195 v3 (.int .u64 n3)) fun _ =>
 .ret (.bool true)
theorem j207_2 (v3 : zab) (v7 : Int) {m : Tr zam} {Q : zay} (h : wp 207 (zzdi v3 v7) m Q) : jp 207 2 [v3, .int .u32 v7] m Q := zcg ok207 (by kernel_rfl) h
end Go.Proofs
