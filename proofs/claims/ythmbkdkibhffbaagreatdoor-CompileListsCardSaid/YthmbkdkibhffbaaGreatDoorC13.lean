/- The trees of functions. (Printed by a tool; the kernel agrees.) -/
import Derived.Test.YthmbkdkibhffbaaGreatDoorC12
set_option linter.all false
noncomputable section
set_option maxRecDepth 100000
namespace Go.Proofs
open Go Go.Am
variable [zcf]
theorem eqT {b : Nat} {W J : zhu} {x y : T} {m : Tr zal} {Q : zaw} (e : x = y) (h : wpT b W J y m Q) : wpT b W J x m Q := e ▸ h
def t7 (p0_0 : List Nat) (p0_1 p0_2 p0_3 : zab) : T :=
 .call 14 [] fun a0 =>
 .asB a0 fun b1 => .ite (!b1)
 (.ret (.bool false))
 (.call 13 [.agg [.str p0_0, p0_1, p0_2, p0_3], .int .i64 2000] fun a2 =>
 .asI .i64 a2 fun n3 => .ite (iLt 2000 n3)
 (.ret (.bool true))
 (.call 22 [.agg [.str p0_0, p0_1, p0_2, p0_3]] fun a4 =>
 .opt (zas 0 a4) fun a5 => .asG [.str [], .nilslice, .nilslice, .nilslice, .nilslice, .nilslice, .nilslice, .nilslice] a5 fun X6 =>
 .opt (zas 1 a4) fun a7 => .asI .i64 a7 fun n8 => .ite (zeb zab.one [(.str (X6.s 0)), (X6.v 1), (X6.v 2), (X6.v 3), (X6.v 4), (X6.v 5), (X6.v 6), (X6.v 7)]) (.ite (!iEq n8 0)
 (.ret (.bool true))
 (.jump 2 [.int .i64 0, .int .i64 0, .int .i64 0, (.str (X6.s 0)), (X6.v 1), (X6.v 2), (X6.v 3), (X6.v 4), (X6.v 5), (X6.v 6), (X6.v 7)])) .fail))
theorem w7 (p0_0 : List Nat) (p0_1 p0_2 p0_3 : zab) {m : Tr zal} {Q : zaw} (h : wp 7 (t7 p0_0 p0_1 p0_2 p0_3) m Q) : Wf 7 [.agg [.str p0_0, p0_1, p0_2, p0_3]] m Q := zbu ok7 (by kernel_rfl) (eqT (by kernel_rfl) h)
def t7_2 (v5 v6 v7 : Int) (c3_0 : List Nat) (c3_1 c3_2 c3_3 c3_4 c3_5 c3_6 c3_7 : zab) : T :=
 .opt (zba c3_6) fun a0 => .asI .i64 a0 fun n1 => .ite (iLt v7 (zah .i64 (2 * n1)))
 (.opt (zaf C19 32 c3_6 (.int .i64 (zah .i64 (Int.tdiv v7 2)))) fun a2 => .light (fun m => zap C19 37 ⟨0, m⟩ a2) fun a3 => .ite (iEq (Int.tmod v7 2) 1)
 (.opt (zaf C19 32 c3_7 (.int .i64 (zah .i64 (Int.tdiv v7 2)))) fun a4 => .light (fun m => zap C19 37 ⟨0, m⟩ a4) fun a5 => .jump 31 [.int .i64 v5, .int .i64 v6, .int .i64 v7, a5, .str c3_0, c3_1, c3_2, c3_3, c3_4, c3_5, c3_6, c3_7])
 (.jump 31 [.int .i64 v5, .int .i64 v6, .int .i64 v7, a3, .str c3_0, c3_1, c3_2, c3_3, c3_4, c3_5, c3_6, c3_7]))
 (.jump 12 [.int .i64 v5, .int .i64 v6, .int .i64 0, .str c3_0, c3_1, c3_2, c3_3, c3_4, c3_5, c3_6, c3_7])
theorem j7_2 (v5 v6 v7 : Int) (c3_0 : List Nat) (c3_1 c3_2 c3_3 c3_4 c3_5 c3_6 c3_7 : zab) {m : Tr zal} {Q : zaw} (h : wp 7 (t7_2 v5 v6 v7 c3_0 c3_1 c3_2 c3_3 c3_4 c3_5 c3_6 c3_7) m Q) : jp 7 2 [.int .i64 v5, .int .i64 v6, .int .i64 v7, .str c3_0, c3_1, c3_2, c3_3, c3_4, c3_5, c3_6, c3_7] m Q := zbp ok7 (by kernel_rfl) h
def zzge (v5 v6 v7 : Int) (v8 : zab) (c3_0 : List Nat) (c3_1 c3_2 c3_3 c3_4 c3_5 c3_6 c3_7 : zab) : T :=
 .jump 6 [.int .i64 v5, .int .i64 v6, .int .i64 v7, v8, .int .i64 0, .str c3_0, c3_1, c3_2, c3_3, c3_4, c3_5, c3_6, c3_7]
theorem j7_31 (v5 v6 v7 : Int) (v8 : zab) (c3_0 : List Nat) (c3_1 c3_2 c3_3 c3_4 c3_5 c3_6 c3_7 : zab) {m : Tr zal} {Q : zaw} (h : wp 7 (zzge v5 v6 v7 v8 c3_0 c3_1 c3_2 c3_3 c3_4 c3_5 c3_6 c3_7) m Q) : jp 7 31 [.int .i64 v5, .int .i64 v6, .int .i64 v7, v8, .str c3_0, c3_1, c3_2, c3_3, c3_4, c3_5, c3_6, c3_7] m Q := zbp ok7 (by kernel_rfl) h
def t7_6 (v5 v6 v7 : Int) (v8 : zab) (v9 : Int) (c3_0 : List Nat) (c3_1 c3_2 c3_3 c3_4 c3_5 c3_6 c3_7 : zab) : T :=
 .opt (zba v8) fun a0 => .asI .i64 a0 fun n1 => .ite (iLt v9 n1)
 (.opt (zaf C19 37 v8 (.int .i64 v9)) fun a2 => .opt (zaj C19 54 1 a2) fun a3 => .light (fun m => zap C19 3 ⟨0, m⟩ a3) fun a4 => .asI .i64 a4 fun n5 => .opt (zaf C19 37 v8 (.int .i64 v9)) fun a6 => .opt (zaj C19 54 0 a6) fun a7 => .light (fun m => zap C19 5 ⟨0, m⟩ a7) fun a8 => .asI .u8 a8 fun n9 => .ite (iEq n9 1)
 (.ite (iLt v6 n5)
 (.ret (.bool false))
 (.ite (iLt n5 0)
 (.ret (.bool false))
 (.jump 6 [.int .i64 v5, (.int .i64 (bif iLt v6 (zah .i64 (n5 + 1)) then (zah .i64 (n5 + 1)) else v6)), .int .i64 v7, v8, (.int .i64 (zah .i64 (v9 + 1))), .str c3_0, c3_1, c3_2, c3_3, c3_4, c3_5, c3_6, c3_7])))
 (.ite (iEq n9 3)
 (.ite (iEq n9 3)
 (.ite (iLt v5 n5)
 (.ret (.bool false))
 (.ite (iLt n5 0)
 (.ret (.bool false))
 (.jump 6 [(.int .i64 (bif iLt v5 (zah .i64 (n5 + 1)) then (zah .i64 (n5 + 1)) else v5)), .int .i64 v6, .int .i64 v7, v8, (.int .i64 (zah .i64 (v9 + 1))), .str c3_0, c3_1, c3_2, c3_3, c3_4, c3_5, c3_6, c3_7])))
 (.jump 6 [.int .i64 v5, .int .i64 v6, .int .i64 v7, v8, (.int .i64 (zah .i64 (v9 + 1))), .str c3_0, c3_1, c3_2, c3_3, c3_4, c3_5, c3_6, c3_7]))
 (.ite (iEq n9 4)
 (.ite (iEq n9 4)
 (.ite (iLt v5 n5)
 (.ret (.bool false))
 (.ite (iLt n5 0)
 (.ret (.bool false))
 (.jump 6 [(.int .i64 (bif iLt v5 (zah .i64 (n5 + 1)) then (zah .i64 (n5 + 1)) else v5)), .int .i64 v6, .int .i64 v7, v8, (.int .i64 (zah .i64 (v9 + 1))), .str c3_0, c3_1, c3_2, c3_3, c3_4, c3_5, c3_6, c3_7])))
 (.jump 6 [.int .i64 v5, .int .i64 v6, .int .i64 v7, v8, (.int .i64 (zah .i64 (v9 + 1))), .str c3_0, c3_1, c3_2, c3_3, c3_4, c3_5, c3_6, c3_7]))
 (.ite (iEq n9 5)
 (.ite (iEq n9 5)
 (.ite (iLt v5 n5)
 (.ret (.bool false))
 (.ite (iLt n5 0)
 (.ret (.bool false))
 (.jump 6 [(.int .i64 (bif iLt v5 (zah .i64 (n5 + 1)) then (zah .i64 (n5 + 1)) else v5)), .int .i64 v6, .int .i64 v7, v8, (.int .i64 (zah .i64 (v9 + 1))), .str c3_0, c3_1, c3_2, c3_3, c3_4, c3_5, c3_6, c3_7])))
 (.jump 6 [.int .i64 v5, .int .i64 v6, .int .i64 v7, v8, (.int .i64 (zah .i64 (v9 + 1))), .str c3_0, c3_1, c3_2, c3_3, c3_4, c3_5, c3_6, c3_7]))
 (.ite (iEq n9 6)
 (.ite (iEq n9 6)
 (.ite (iLt v5 n5)
 (.ret (.bool false))
 (.ite (iLt n5 0)
 (.ret (.bool false))
 (.jump 6 [(.int .i64 (bif iLt v5 (zah .i64 (n5 + 1)) then (zah .i64 (n5 + 1)) else v5)), .int .i64 v6, .int .i64 v7, v8, (.int .i64 (zah .i64 (v9 + 1))), .str c3_0, c3_1, c3_2, c3_3, c3_4, c3_5, c3_6, c3_7])))
 (.jump 6 [.int .i64 v5, .int .i64 v6, .int .i64 v7, v8, (.int .i64 (zah .i64 (v9 + 1))), .str c3_0, c3_1, c3_2, c3_3, c3_4, c3_5, c3_6, c3_7]))
 (.ite (iEq n9 8)
 (.ite (iLt v5 n5)
 (.ret (.bool false))
 (.ite (iLt n5 0)
 (.ret (.bool false))
 (.jump 6 [(.int .i64 (bif iLt v5 (zah .i64 (n5 + 1)) then (zah .i64 (n5 + 1)) else v5)), .int .i64 v6, .int .i64 v7, v8, (.int .i64 (zah .i64 (v9 + 1))), .str c3_0, c3_1, c3_2, c3_3, c3_4, c3_5, c3_6, c3_7])))
 (.jump 6 [.int .i64 v5, .int .i64 v6, .int .i64 v7, v8, (.int .i64 (zah .i64 (v9 + 1))), .str c3_0, c3_1, c3_2, c3_3, c3_4, c3_5, c3_6, c3_7])))))))
 (.jump 2 [.int .i64 v5, .int .i64 v6, (.int .i64 (zah .i64 (v7 + 1))), .str c3_0, c3_1, c3_2, c3_3, c3_4, c3_5, c3_6, c3_7])
theorem j7_6 (v5 v6 v7 : Int) (v8 : zab) (v9 : Int) (c3_0 : List Nat) (c3_1 c3_2 c3_3 c3_4 c3_5 c3_6 c3_7 : zab) {m : Tr zal} {Q : zaw} (h : wp 7 (t7_6 v5 v6 v7 v8 v9 c3_0 c3_1 c3_2 c3_3 c3_4 c3_5 c3_6 c3_7) m Q) : jp 7 6 [.int .i64 v5, .int .i64 v6, .int .i64 v7, v8, .int .i64 v9, .str c3_0, c3_1, c3_2, c3_3, c3_4, c3_5, c3_6, c3_7] m Q := zbp ok7 (by kernel_rfl) h
def zzgi (v5 v6 v11 : Int) (c3_0 : List Nat) (c3_1 c3_2 c3_3 c3_4 c3_5 c3_6 c3_7 : zab) : T :=
 .opt (zba c3_4) fun a0 => .asI .i64 a0 fun n1 => .ite (iLt v11 n1)
 (.jump 16 [.int .i64 v5, .int .i64 v6, .int .i64 v11, .int .i64 0, .str c3_0, c3_1, c3_2, c3_3, c3_4, c3_5, c3_6, c3_7])
 (.jump 20 [.int .i64 v5, .int .i64 v6, .int .i64 0, .str c3_0, c3_1, c3_2, c3_3, c3_4, c3_5, c3_6, c3_7])
theorem j7_12 (v5 v6 v11 : Int) (c3_0 : List Nat) (c3_1 c3_2 c3_3 c3_4 c3_5 c3_6 c3_7 : zab) {m : Tr zal} {Q : zaw} (h : wp 7 (zzgi v5 v6 v11 c3_0 c3_1 c3_2 c3_3 c3_4 c3_5 c3_6 c3_7) m Q) : jp 7 12 [.int .i64 v5, .int .i64 v6, .int .i64 v11, .str c3_0, c3_1, c3_2, c3_3, c3_4, c3_5, c3_6, c3_7] m Q := zbp ok7 (by kernel_rfl) h
def zzgh (v5 v6 v11 v12 : Int) (c3_0 : List Nat) (c3_1 c3_2 c3_3 c3_4 c3_5 c3_6 c3_7 : zab) : T :=
 .ite (iLt v12 v11)
 (.opt (zaf C19 30 c3_4 (.int .i64 v11)) fun a0 => .light (fun m => zap C19 9 ⟨0, m⟩ a0) fun a1 => .asS a1 fun s2 => .opt (zaf C19 30 c3_4 (.int .i64 v12)) fun a3 => .light (fun m => zap C19 9 ⟨0, m⟩ a3) fun a4 => .asS a4 fun s5 => .ite (zjx s2 s5)
 (.ret (.bool false))
 (.jump 16 [.int .i64 v5, .int .i64 v6, .int .i64 v11, (.int .i64 (zah .i64 (v12 + 1))), .str c3_0, c3_1, c3_2, c3_3, c3_4, c3_5, c3_6, c3_7]))
 (.jump 12 [.int .i64 v5, .int .i64 v6, (.int .i64 (zah .i64 (v11 + 1))), .str c3_0, c3_1, c3_2, c3_3, c3_4, c3_5, c3_6, c3_7])
theorem j7_16 (v5 v6 v11 v12 : Int) (c3_0 : List Nat) (c3_1 c3_2 c3_3 c3_4 c3_5 c3_6 c3_7 : zab) {m : Tr zal} {Q : zaw} (h : wp 7 (zzgh v5 v6 v11 v12 c3_0 c3_1 c3_2 c3_3 c3_4 c3_5 c3_6 c3_7) m Q) : jp 7 16 [.int .i64 v5, .int .i64 v6, .int .i64 v11, .int .i64 v12, .str c3_0, c3_1, c3_2, c3_3, c3_4, c3_5, c3_6, c3_7] m Q := zbp ok7 (by kernel_rfl) h
def zzgg (v5 v6 v13 : Int) (c3_0 : List Nat) (c3_1 c3_2 c3_3 c3_4 c3_5 c3_6 c3_7 : zab) : T :=
 .opt (zba c3_5) fun a0 => .asI .i64 a0 fun n1 => .ite (iLt v13 n1)
 (.jump 24 [.int .i64 v5, .int .i64 v6, .int .i64 v13, .int .i64 0, .str c3_0, c3_1, c3_2, c3_3, c3_4, c3_5, c3_6, c3_7])
 (.opt (zba c3_4) fun a2 => .asI .i64 a2 fun n3 => .ite (iEq v5 n3)
 (.opt (zba c3_5) fun a4 => .asI .i64 a4 fun n5 => .ret (.bool (iEq v6 n5)))
 (.ret (.bool false)))
theorem j7_20 (v5 v6 v13 : Int) (c3_0 : List Nat) (c3_1 c3_2 c3_3 c3_4 c3_5 c3_6 c3_7 : zab) {m : Tr zal} {Q : zaw} (h : wp 7 (zzgg v5 v6 v13 c3_0 c3_1 c3_2 c3_3 c3_4 c3_5 c3_6 c3_7) m Q) : jp 7 20 [.int .i64 v5, .int .i64 v6, .int .i64 v13, .str c3_0, c3_1, c3_2, c3_3, c3_4, c3_5, c3_6, c3_7] m Q := zbp ok7 (by kernel_rfl) h
def zzgf (v5 v6 v13 v14 : Int) (c3_0 : List Nat) (c3_1 c3_2 c3_3 c3_4 c3_5 c3_6 c3_7 : zab) : T :=
 .ite (iLt v14 v13)
 (.opt (zaf C19 31 c3_5 (.int .i64 v13)) fun a0 => .light (fun m => zap C19 47 ⟨0, m⟩ a0) fun a1 => .asG [.int .u8 0, .bool false, .nilslice, .bool false, .nilslice, .int .i64 0] a1 fun X2 =>
 .opt (zaf C19 31 c3_5 (.int .i64 v14)) fun a3 => .light (fun m => zap C19 47 ⟨0, m⟩ a3) fun a4 => .asG [.int .u8 0, .bool false, .nilslice, .bool false, .nilslice, .int .i64 0] a4 fun X5 =>
 .call 24 [(.agg [(.int .u8 (X2.i 0)), (.bool (X2.b 1)), (X2.v 2), (.bool (X2.b 3)), (X2.v 4), (.int .i64 (X2.i 5))]), (.agg [(.int .u8 (X5.i 0)), (.bool (X5.b 1)), (X5.v 2), (.bool (X5.b 3)), (X5.v 4), (.int .i64 (X5.i 5))])] fun a6 =>
 .asB a6 fun b7 => .ite b7
 (.ret (.bool false))
 (.jump 24 [.int .i64 v5, .int .i64 v6, .int .i64 v13, (.int .i64 (zah .i64 (v14 + 1))), .str c3_0, c3_1, c3_2, c3_3, c3_4, c3_5, c3_6, c3_7]))
 (.opt (zaf C19 31 c3_5 (.int .i64 v13)) fun a8 => .light (fun m => zap C19 47 ⟨0, m⟩ a8) fun a9 => .asG [.int .u8 0, .bool false, .nilslice, .bool false, .nilslice, .int .i64 0] a9 fun X10 =>
 .call 25 [(.agg [(.int .u8 (X10.i 0)), (.bool (X10.b 1)), (X10.v 2), (.bool (X10.b 3)), (X10.v 4), (.int .i64 (X10.i 5))])] fun a11 =>
 .asB a11 fun b12 => .ite (!b12)
 (.ret (.bool false))
 (.jump 20 [.int .i64 v5, .int .i64 v6, (.int .i64 (zah .i64 (v13 + 1))), .str c3_0, c3_1, c3_2, c3_3, c3_4, c3_5, c3_6, c3_7]))
theorem j7_24 (v5 v6 v13 v14 : Int) (c3_0 : List Nat) (c3_1 c3_2 c3_3 c3_4 c3_5 c3_6 c3_7 : zab) {m : Tr zal} {Q : zaw} (h : wp 7 (zzgf v5 v6 v13 v14 c3_0 c3_1 c3_2 c3_3 c3_4 c3_5 c3_6 c3_7) m Q) : jp 7 24 [.int .i64 v5, .int .i64 v6, .int .i64 v13, .int .i64 v14, .str c3_0, c3_1, c3_2, c3_3, c3_4, c3_5, c3_6, c3_7] m Q := zbp ok7 (by kernel_rfl) h
def t13 (p0_0 : List Nat) (p0_1 p0_2 p0_3 : zab) (p1 : Int) : T :=
 .opt (zba p0_1) fun a0 => .asI .i64 a0 fun n1 => .opt (zba p0_2) fun a2 => .asI .i64 a2 fun n3 => .opt (zba p0_3) fun a4 => .asI .i64 a4 fun n5 => .jump 2 [.int .i64 p1, (.int .i64 (zah .i64 ((zah .i64 ((zah .i64 ((zah .i64 (1 + (zah .i64 (Int.tdiv (Int.ofNat (zbw p0_0)) 30)))) + n1)) + n3)) + n5))), .int .i64 0, .str p0_0, p0_1, p0_2, p0_3]
theorem w13 (p0_0 : List Nat) (p0_1 p0_2 p0_3 : zab) (p1 : Int) {m : Tr zal} {Q : zaw} (h : wp 13 (t13 p0_0 p0_1 p0_2 p0_3 p1) m Q) : Wf 13 [.agg [.str p0_0, p0_1, p0_2, p0_3], .int .i64 p1] m Q := zbu ok13 (by kernel_rfl) (eqT (by kernel_rfl) h)
def zzgq (v1 v5 v6 : Int) (c2_0 : List Nat) (c2_1 c2_2 c2_3 : zab) : T :=
 .opt (zba c2_1) fun a0 => .asI .i64 a0 fun n1 => .ite (iLt v6 n1)
 (.ite (iLe v5 v1)
 (.opt (zaf C19 22 c2_1 (.int .i64 v6)) fun a2 => .opt (zaj C19 79 0 a2) fun a3 => .light (fun m => zap C19 9 ⟨0, m⟩ a3) fun a4 => .asS a4 fun s5 => .jump 2 [.int .i64 v1, (.int .i64 (zah .i64 (v5 + (zah .i64 (Int.tdiv (Int.ofNat (zbw s5)) 30))))), (.int .i64 (zah .i64 (v6 + 1))), .str c2_0, c2_1, c2_2, c2_3])
 (.jump 6 [.int .i64 v1, .int .i64 v5, .int .i64 0, .str c2_0, c2_1, c2_2, c2_3]))
 (.jump 6 [.int .i64 v1, .int .i64 v5, .int .i64 0, .str c2_0, c2_1, c2_2, c2_3])
theorem j13_2 (v1 v5 v6 : Int) (c2_0 : List Nat) (c2_1 c2_2 c2_3 : zab) {m : Tr zal} {Q : zaw} (h : wp 13 (zzgq v1 v5 v6 c2_0 c2_1 c2_2 c2_3) m Q) : jp 13 2 [.int .i64 v1, .int .i64 v5, .int .i64 v6, .str c2_0, c2_1, c2_2, c2_3] m Q := zbp ok13 (by kernel_rfl) h
def zzgp (v1 v5 v7 : Int) (c2_0 : List Nat) (c2_1 c2_2 c2_3 : zab) : T :=
 .opt (zba c2_2) fun a0 => .asI .i64 a0 fun n1 => .ite (iLt v7 n1)
 (.ite (iLe v5 v1)
 (.opt (zaf C19 23 c2_2 (.int .i64 v7)) fun a2 => .opt (zaj C19 82 0 a2) fun a3 => .light (fun m => zap C19 9 ⟨0, m⟩ a3) fun a4 => .asS a4 fun s5 => .jump 10 [.int .i64 v1, (.int .i64 (zah .i64 (v5 + (zah .i64 (Int.tdiv (Int.ofNat (zbw s5)) 30))))), .int .i64 v7, .int .i64 0, .str c2_0, c2_1, c2_2, c2_3])
 (.jump 14 [.int .i64 v1, .int .i64 v5, .int .i64 0, .str c2_0, c2_1, c2_2, c2_3]))
 (.jump 14 [.int .i64 v1, .int .i64 v5, .int .i64 0, .str c2_0, c2_1, c2_2, c2_3])
theorem j13_6 (v1 v5 v7 : Int) (c2_0 : List Nat) (c2_1 c2_2 c2_3 : zab) {m : Tr zal} {Q : zaw} (h : wp 13 (zzgp v1 v5 v7 c2_0 c2_1 c2_2 c2_3) m Q) : jp 13 6 [.int .i64 v1, .int .i64 v5, .int .i64 v7, .str c2_0, c2_1, c2_2, c2_3] m Q := zbp ok13 (by kernel_rfl) h
def z6f (v1 v5 v7 v8 : Int) (c2_0 : List Nat) (c2_1 c2_2 c2_3 : zab) : T :=
 .opt (zaf C19 23 c2_2 (.int .i64 v7)) fun a0 => .opt (zaj C19 82 2 a0) fun a1 => .light (fun m => zap C19 80 ⟨0, m⟩ a1) fun a2 => .opt (zba a2) fun a3 => .asI .i64 a3 fun n4 => .ite (iLt v8 n4)
 (.ite (iLe v5 v1)
 (.opt (zaf C19 23 c2_2 (.int .i64 v7)) fun a5 => .opt (zaj C19 82 2 a5) fun a6 => .light (fun m => zap C19 80 ⟨0, m⟩ a6) fun a7 => .opt (zaf C19 80 a7 (.int .i64 v8)) fun a8 => .opt (zaj C19 85 3 a8) fun a9 => .light (fun m => zap C19 45 ⟨0, m⟩ a9) fun a10 => .asG [.bool false, .nilslice, .bool false, .nilslice] a10 fun X11 =>
 .call 36 [(.agg [(.bool (X11.b 0)), (X11.v 1), (.bool (X11.b 2)), (X11.v 3)])] fun a12 =>
 .asI .i64 a12 fun n13 => .jump 10 [.int .i64 v1, (.int .i64 (zah .i64 (v5 + n13))), .int .i64 v7, (.int .i64 (zah .i64 (v8 + 1))), .str c2_0, c2_1, c2_2, c2_3])
 (.jump 6 [.int .i64 v1, .int .i64 v5, (.int .i64 (zah .i64 (v7 + 1))), .str c2_0, c2_1, c2_2, c2_3]))
 (.jump 6 [.int .i64 v1, .int .i64 v5, (.int .i64 (zah .i64 (v7 + 1))), .str c2_0, c2_1, c2_2, c2_3])
theorem zzfn (v1 v5 v7 v8 : Int) (c2_0 : List Nat) (c2_1 c2_2 c2_3 : zab) {m : Tr zal} {Q : zaw} (h : wp 13 (z6f v1 v5 v7 v8 c2_0 c2_1 c2_2 c2_3) m Q) : jp 13 10 [.int .i64 v1, .int .i64 v5, .int .i64 v7, .int .i64 v8, .str c2_0, c2_1, c2_2, c2_3] m Q := zbp ok13 (by kernel_rfl) h
def z6e (v1 v5 v9 : Int) (c2_0 : List Nat) (c2_1 c2_2 c2_3 : zab) : T :=
 .opt (zba c2_3) fun a0 => .asI .i64 a0 fun n1 => .ite (iLt v9 n1)
 (.ite (iLe v5 v1)
 (.opt (zaf C19 24 c2_3 (.int .i64 v9)) fun a2 => .light (fun m => zap C19 52 ⟨0, m⟩ a2) fun a3 => .asG [.str [], .str [], .int .i64 0, .int .i64 0, .int .i64 0, .bool false, .int .u8 0, .str [], .int .u8 0, .bool false, .nilslice, .bool false, .nilslice, .int .i64 0, .nilslice, .int .u8 0, .str [], .int .u8 0, .bool false, .nilslice, .bool false, .nilslice, .int .i64 0, .nilslice] a3 fun X4 =>
 .ite (zeb zab.one [(.str (X4.s 0)), (.str (X4.s 1)), (.int .i64 (X4.i 2)), (.int .i64 (X4.i 3)), (.int .i64 (X4.i 4)), (.bool (X4.b 5)), (.int .u8 (X4.i 6)), (.str (X4.s 7)), (.int .u8 (X4.i 8)), (.bool (X4.b 9)), (X4.v 10), (.bool (X4.b 11)), (X4.v 12), (.int .i64 (X4.i 13)), (X4.v 14), (.int .u8 (X4.i 15)), (.str (X4.s 16)), (.int .u8 (X4.i 17)), (.bool (X4.b 18)), (X4.v 19), (.bool (X4.b 20)), (X4.v 21), (.int .i64 (X4.i 22)), (X4.v 23)]) (.call 37 [(.agg [(.int .u8 (X4.i 6)), (.str (X4.s 7)), (.int .u8 (X4.i 8)), (.bool (X4.b 9)), (X4.v 10), (.bool (X4.b 11)), (X4.v 12), (.int .i64 (X4.i 13)), (X4.v 14)]), (.int .i64 (zah .i64 (v1 - v5)))] fun a5 =>
 .asI .i64 a5 fun n6 => .ite (same 10 (.str (X4.s 0)) (.str (X4.s 0))) (.ite (same 10 (.int .i64 (Int.ofNat (zbw (X4.s 0)))) (.int .i64 (Int.ofNat (zbw (X4.s 0))))) (.ite (same 10 (.str (X4.s 1)) (.str (X4.s 1))) (.ite (same 10 (.int .i64 (Int.ofNat (zbw (X4.s 1)))) (.int .i64 (Int.ofNat (zbw (X4.s 1))))) (.ite (iLe (zah .i64 (v5 + (zah .i64 ((zah .i64 ((zah .i64 (Int.tdiv (Int.ofNat (zbw (X4.s 0))) 30)) + (zah .i64 (Int.tdiv (Int.ofNat (zbw (X4.s 1))) 30)))) + n6)))) v1)
 (.call 37 [(.agg [(.int .u8 (X4.i 15)), (.str (X4.s 16)), (.int .u8 (X4.i 17)), (.bool (X4.b 18)), (X4.v 19), (.bool (X4.b 20)), (X4.v 21), (.int .i64 (X4.i 22)), (X4.v 23)]), (.int .i64 (zah .i64 (v1 - (zah .i64 (v5 + (zah .i64 ((zah .i64 ((zah .i64 (Int.tdiv (Int.ofNat (zbw (X4.s 0))) 30)) + (zah .i64 (Int.tdiv (Int.ofNat (zbw (X4.s 1))) 30)))) + n6)))))))] fun a7 =>
 .asI .i64 a7 fun n8 => .jump 14 [.int .i64 v1, (.int .i64 (zah .i64 ((zah .i64 (v5 + (zah .i64 ((zah .i64 ((zah .i64 (Int.tdiv (Int.ofNat (zbw (X4.s 0))) 30)) + (zah .i64 (Int.tdiv (Int.ofNat (zbw (X4.s 1))) 30)))) + n6)))) + n8))), (.int .i64 (zah .i64 (v9 + 1))), .str c2_0, c2_1, c2_2, c2_3])
 (.jump 14 [.int .i64 v1, (.int .i64 (zah .i64 (v5 + (zah .i64 ((zah .i64 ((zah .i64 (Int.tdiv (Int.ofNat (zbw (X4.s 0))) 30)) + (zah .i64 (Int.tdiv (Int.ofNat (zbw (X4.s 1))) 30)))) + n6))))), (.int .i64 (zah .i64 (v9 + 1))), .str c2_0, c2_1, c2_2, c2_3])) .fail) .fail) .fail) .fail) .fail)
 (.ret (.int .i64 v5)))
 (.ret (.int .i64 v5))
theorem zzfm (v1 v5 v9 : Int) (c2_0 : List Nat) (c2_1 c2_2 c2_3 : zab) {m : Tr zal} {Q : zaw} (h : wp 13 (z6e v1 v5 v9 c2_0 c2_1 c2_2 c2_3) m Q) : jp 13 14 [.int .i64 v1, .int .i64 v5, .int .i64 v9, .str c2_0, c2_1, c2_2, c2_3] m Q := zbp ok13 (by kernel_rfl) h
def t22 (p0_0 : List Nat) (p0_1 p0_2 p0_3 : zab) : T :=
 .call 33 [.agg [.str p0_0, p0_1, p0_2, p0_3]] fun a0 =>
 .asB a0 fun b1 => .ite (!b1)
 (.ite true (.ite true (.ret (.tup [.agg [.str [], .nilslice, .nilslice, .nilslice, .nilslice, .nilslice, .nilslice, .nilslice], .int .i64 2])) .fail) .fail)
 (.call 51 [.agg [.str p0_0, p0_1, p0_2, p0_3]] fun a2 =>
 .asG [.str [], .nilslice, .nilslice, .nilslice] a2 fun X3 =>
 .ite true (.heavy zks fun a4 =>
 .heavy zks fun a5 =>
 .ite (zeb zab.one [a4, a5]) (.heavy (z44 (.agg [(.str (X3.s 0)), (X3.v 1), (X3.v 2), (X3.v 3), .nilslice, .nilslice, .nilslice, .nilslice, a4, a5, .nilslice])) fun a6 =>
 .opt (zba p0_3) fun a7 => .asI .i64 a7 fun n8 => .jump 2 [a6, p0_3, .int .i64 n8, .int .i64 0, .str [], .nilslice, .nilslice, .nilslice, .nilslice, .nilslice, .nilslice, .nilslice]) .fail) .fail)
theorem w22 (p0_0 : List Nat) (p0_1 p0_2 p0_3 : zab) {m : Tr zal} {Q : zaw} (h : wp 22 (t22 p0_0 p0_1 p0_2 p0_3) m Q) : Wf 22 [.agg [.str p0_0, p0_1, p0_2, p0_3]] m Q := zbu ok22 (by kernel_rfl) (eqT (by kernel_rfl) h)
def zzgo (v4 v19 : zab) (v20 v21 : Int) (c2_0 : List Nat) (c2_1 c2_2 c2_3 c2_4 c2_5 c2_6 c2_7 : zab) : T :=
 .ite (iLt v21 v20)
 (.opt (zaf C19 24 v19 (.int .i64 v21)) fun a0 => .light (fun m => zap C19 52 ⟨0, m⟩ a0) fun a1 => .asG [.str [], .str [], .int .i64 0, .int .i64 0, .int .i64 0, .bool false, .int .u8 0, .str [], .int .u8 0, .bool false, .nilslice, .bool false, .nilslice, .int .i64 0, .nilslice, .int .u8 0, .str [], .int .u8 0, .bool false, .nilslice, .bool false, .nilslice, .int .i64 0, .nilslice] a1 fun X2 =>
 .ite (zeb zab.one [(.str (X2.s 0)), (.str (X2.s 1)), (.int .i64 (X2.i 2)), (.int .i64 (X2.i 3)), (.int .i64 (X2.i 4)), (.bool (X2.b 5)), (.int .u8 (X2.i 6)), (.str (X2.s 7)), (.int .u8 (X2.i 8)), (.bool (X2.b 9)), (X2.v 10), (.bool (X2.b 11)), (X2.v 12), (.int .i64 (X2.i 13)), (X2.v 14), (.int .u8 (X2.i 15)), (.str (X2.s 16)), (.int .u8 (X2.i 17)), (.bool (X2.b 18)), (X2.v 19), (.bool (X2.b 20)), (X2.v 21), (.int .i64 (X2.i 22)), (X2.v 23)]) (.opt (zrn v4) fun a3 => .opt (zaj C19 109 0 a3) fun a4 => .opt (zaj C19 34 3 a4) fun a5 => .light (fun m => zap C19 32 ⟨0, m⟩ a5) fun a6 => .call 52 [v4, (.agg [(.int .u8 (X2.i 6)), (.str (X2.s 7)), (.int .u8 (X2.i 8)), (.bool (X2.b 9)), (X2.v 10), (.bool (X2.b 11)), (X2.v 12), (.int .i64 (X2.i 13)), (X2.v 14)])] fun a7 =>
 .light (fun m => zap C19 32 ⟨0, m⟩ a5) fun a8 => .ite (same 10 a8 a6) (.heavy (za0 C19 32 1 [(0, a7)]) fun a9 =>
 .light (fun m => zap C19 32 ⟨0, m⟩ a5) fun a10 => .ite (same 10 a10 a6) (.heavy (zbn C19 32 32 a6 a9) fun a11 =>
 .opt (zrn v4) fun a12 => .opt (zaj C19 109 0 a12) fun a13 => .opt (zaj C19 34 3 a13) fun a14 => .heavy (zb3 C19 32 a14 a11) fun _ =>
 .opt (zrn v4) fun a15 => .opt (zaj C19 109 0 a15) fun a16 => .opt (zaj C19 34 4 a16) fun a17 => .light (fun m => zap C19 32 ⟨0, m⟩ a17) fun a18 => .call 52 [v4, (.agg [(.int .u8 (X2.i 15)), (.str (X2.s 16)), (.int .u8 (X2.i 17)), (.bool (X2.b 18)), (X2.v 19), (.bool (X2.b 20)), (X2.v 21), (.int .i64 (X2.i 22)), (X2.v 23)])] fun a19 =>
 .light (fun m => zap C19 32 ⟨0, m⟩ a17) fun a20 => .ite (same 10 a20 a18) (.heavy (za0 C19 32 1 [(0, a19)]) fun a21 =>
 .light (fun m => zap C19 32 ⟨0, m⟩ a17) fun a22 => .ite (same 10 a22 a18) (.heavy (zbn C19 32 32 a18 a21) fun a23 =>
 .opt (zrn v4) fun a24 => .opt (zaj C19 109 0 a24) fun a25 => .opt (zaj C19 34 4 a25) fun a26 => .heavy (zb3 C19 32 a26 a23) fun _ =>
 .jump 2 [v4, v19, .int .i64 v20, (.int .i64 (zah .i64 (v21 + 1))), .str c2_0, c2_1, c2_2, c2_3, c2_4, c2_5, c2_6, c2_7]) .fail) .fail) .fail) .fail) .fail)
 (.opt (zrn v4) fun a27 => .opt (zaj C19 109 0 a27) fun a28 => .light (fun m => zap C19 34 ⟨0, m⟩ a28) fun a29 => .asG [.str [], .nilslice, .nilslice, .nilslice, .nilslice, .nilslice, .nilslice, .nilslice] a29 fun X30 =>
 .ite (zeb zab.one [(.str (X30.s 0)), (X30.v 1), (X30.v 2), (X30.v 3), (X30.v 4), (X30.v 5), (X30.v 6), (X30.v 7)]) (.ret (.tup [(.agg [(.str (X30.s 0)), (X30.v 1), (X30.v 2), (X30.v 3), (X30.v 4), (X30.v 5), (X30.v 6), (X30.v 7)]), .int .i64 0])) .fail)
theorem j22_2 (v4 v19 : zab) (v20 v21 : Int) (c2_0 : List Nat) (c2_1 c2_2 c2_3 c2_4 c2_5 c2_6 c2_7 : zab) {m : Tr zal} {Q : zaw} (h : wp 22 (zzgo v4 v19 v20 v21 c2_0 c2_1 c2_2 c2_3 c2_4 c2_5 c2_6 c2_7) m Q) : jp 22 2 [v4, v19, .int .i64 v20, .int .i64 v21, .str c2_0, c2_1, c2_2, c2_3, c2_4, c2_5, c2_6, c2_7] m Q := zbp ok22 (by kernel_rfl) h
def t24 (p0_0 : Int) (p0_1 : Bool) (p0_2 : zab) (p0_3 : Bool) (p0_4 : zab) (p0_5 p1_0 : Int) (p1_1 : Bool) (p1_2 : zab) (p1_3 : Bool) (p1_4 : zab) (p1_5 : Int) : T :=
 .ite (iEq p0_0 p1_0)
 (.ite (iEq p0_5 p1_5)
 (.call 53 [.agg [.bool p0_1, p0_2, .bool p0_3, p0_4], .agg [.bool p1_1, p1_2, .bool p1_3, p1_4]] fun a0 =>
 .asB a0 fun b1 => .ret (.bool b1))
 (.ret (.bool false)))
 (.ret (.bool false))
theorem w24 (p0_0 : Int) (p0_1 : Bool) (p0_2 : zab) (p0_3 : Bool) (p0_4 : zab) (p0_5 p1_0 : Int) (p1_1 : Bool) (p1_2 : zab) (p1_3 : Bool) (p1_4 : zab) (p1_5 : Int) {m : Tr zal} {Q : zaw} (h : wp 24 (t24 p0_0 p0_1 p0_2 p0_3 p0_4 p0_5 p1_0 p1_1 p1_2 p1_3 p1_4 p1_5) m Q) : Wf 24 [.agg [.int .u8 p0_0, .bool p0_1, p0_2, .bool p0_3, p0_4, .int .i64 p0_5], .agg [.int .u8 p1_0, .bool p1_1, p1_2, .bool p1_3, p1_4, .int .i64 p1_5]] m Q := zbu ok24 (by kernel_rfl) (eqT (by kernel_rfl) h)
def t25 (p0_0 : Int) (p0_1 : Bool) (p0_2 : zab) (p0_3 : Bool) (p0_4 : zab) (p0_5 : Int) : T :=
 .ite (iEq p0_0 2)
 (.ite (iEq p0_0 2)
 (.ite (iEq p0_5 0)
 (.call 54 [.agg [.bool p0_1, p0_2, .bool p0_3, p0_4]] fun a0 =>
 .asB a0 fun b1 => .ret (.bool b1))
 (.ret (.bool false)))
 (.ite (iEq p0_0 1)
 (.ite true (.call 53 [.agg [.bool p0_1, p0_2, .bool p0_3, p0_4], .agg [.bool false, .nilslice, .bool false, .nilslice]] fun a2 =>
 .asB a2 fun b3 => .ite b3
 (.ite (iLe 0 p0_5)
 (.ret (.bool (iLe p0_5 1)))
 (.ret (.bool false)))
 (.ret (.bool false))) .fail)
 (.ite (iEq p0_0 4)
 (.ite true (.call 53 [.agg [.bool p0_1, p0_2, .bool p0_3, p0_4], .agg [.bool false, .nilslice, .bool false, .nilslice]] fun a4 =>
 .asB a4 fun b5 => .ite b5
 (.ite (iLe 0 p0_5)
 (.ret (.bool (iLt p0_5 65536)))
 (.ret (.bool false)))
 (.ret (.bool false))) .fail)
 (.ite (iEq p0_0 5)
 (.ite (iEq p0_0 5)
 (.ite true (.call 53 [.agg [.bool p0_1, p0_2, .bool p0_3, p0_4], .agg [.bool false, .nilslice, .bool false, .nilslice]] fun a6 =>
 .asB a6 fun b7 => .ite b7
 (.ite (iLe (-1048576) p0_5)
 (.ret (.bool (iLe p0_5 1048576)))
 (.ret (.bool false)))
 (.ret (.bool false))) .fail)
 (.ret (.bool false)))
 (.ite (iEq p0_0 6)
 (.ite true (.call 53 [.agg [.bool p0_1, p0_2, .bool p0_3, p0_4], .agg [.bool false, .nilslice, .bool false, .nilslice]] fun a8 =>
 .asB a8 fun b9 => .ite b9
 (.ite (iLe (-1048576) p0_5)
 (.ret (.bool (iLe p0_5 1048576)))
 (.ret (.bool false)))
 (.ret (.bool false))) .fail)
 (.ret (.bool false)))))))
 (.ite (iEq p0_0 3)
 (.ite (iEq p0_5 0)
 (.call 54 [.agg [.bool p0_1, p0_2, .bool p0_3, p0_4]] fun a10 =>
 .asB a10 fun b11 => .ret (.bool b11))
 (.ret (.bool false)))
 (.ite (iEq p0_0 1)
 (.ite true (.call 53 [.agg [.bool p0_1, p0_2, .bool p0_3, p0_4], .agg [.bool false, .nilslice, .bool false, .nilslice]] fun a12 =>
 .asB a12 fun b13 => .ite b13
 (.ite (iLe 0 p0_5)
 (.ret (.bool (iLe p0_5 1)))
 (.ret (.bool false)))
 (.ret (.bool false))) .fail)
 (.ite (iEq p0_0 4)
 (.ite true (.call 53 [.agg [.bool p0_1, p0_2, .bool p0_3, p0_4], .agg [.bool false, .nilslice, .bool false, .nilslice]] fun a14 =>
 .asB a14 fun b15 => .ite b15
 (.ite (iLe 0 p0_5)
 (.ret (.bool (iLt p0_5 65536)))
 (.ret (.bool false)))
 (.ret (.bool false))) .fail)
 (.ite (iEq p0_0 5)
 (.ite (iEq p0_0 5)
 (.ite true (.call 53 [.agg [.bool p0_1, p0_2, .bool p0_3, p0_4], .agg [.bool false, .nilslice, .bool false, .nilslice]] fun a16 =>
 .asB a16 fun b17 => .ite b17
 (.ite (iLe (-1048576) p0_5)
 (.ret (.bool (iLe p0_5 1048576)))
 (.ret (.bool false)))
 (.ret (.bool false))) .fail)
 (.ret (.bool false)))
 (.ite (iEq p0_0 6)
 (.ite true (.call 53 [.agg [.bool p0_1, p0_2, .bool p0_3, p0_4], .agg [.bool false, .nilslice, .bool false, .nilslice]] fun a18 =>
 .asB a18 fun b19 => .ite b19
 (.ite (iLe (-1048576) p0_5)
 (.ret (.bool (iLe p0_5 1048576)))
 (.ret (.bool false)))
 (.ret (.bool false))) .fail)
 (.ret (.bool false)))))))
theorem w25 (p0_0 : Int) (p0_1 : Bool) (p0_2 : zab) (p0_3 : Bool) (p0_4 : zab) (p0_5 : Int) {m : Tr zal} {Q : zaw} (h : wp 25 (t25 p0_0 p0_1 p0_2 p0_3 p0_4 p0_5) m Q) : Wf 25 [.agg [.int .u8 p0_0, .bool p0_1, p0_2, .bool p0_3, p0_4, .int .i64 p0_5]] m Q := zbu ok25 (by kernel_rfl) (eqT (by kernel_rfl) h)
def t33 (p0_0 : List Nat) (p0_1 p0_2 p0_3 : zab) : T :=
 .opt (zba p0_1) fun a0 => .asI .i64 a0 fun n1 => .ite (iLt 64 n1)
 (.ret (.bool false))
 (.opt (zba p0_3) fun a2 => .asI .i64 a2 fun n3 => .ite (iLt 400 n3)
 (.ret (.bool false))
 (.opt (zba p0_2) fun a4 => .asI .i64 a4 fun n5 => .ite (iLt 16 n5)
 (.ret (.bool false))
 (.opt (zba p0_3) fun a6 => .asI .i64 a6 fun n7 => .jump 2 [p0_3, .int .i64 n7, .int .i64 0, .str p0_0, p0_1, p0_2, p0_3])))
theorem w33 (p0_0 : List Nat) (p0_1 p0_2 p0_3 : zab) {m : Tr zal} {Q : zaw} (h : wp 33 (t33 p0_0 p0_1 p0_2 p0_3) m Q) : Wf 33 [.agg [.str p0_0, p0_1, p0_2, p0_3]] m Q := zbu ok33 (by kernel_rfl) (eqT (by kernel_rfl) h)
def zzgn (v24 : zab) (v25 v26 : Int) (c1_0 : List Nat) (c1_1 c1_2 c1_3 : zab) : T :=
 .ite (iLt v26 v25)
 (.opt (zaf C19 24 v24 (.int .i64 v26)) fun a0 => .light (fun m => zap C19 52 ⟨0, m⟩ a0) fun a1 => .asG [.str [], .str [], .int .i64 0, .int .i64 0, .int .i64 0, .bool false, .int .u8 0, .str [], .int .u8 0, .bool false, .nilslice, .bool false, .nilslice, .int .i64 0, .nilslice, .int .u8 0, .str [], .int .u8 0, .bool false, .nilslice, .bool false, .nilslice, .int .i64 0, .nilslice] a1 fun X2 =>
 .ite (zeb zab.one [(.str (X2.s 0)), (.str (X2.s 1)), (.int .i64 (X2.i 2)), (.int .i64 (X2.i 3)), (.int .i64 (X2.i 4)), (.bool (X2.b 5)), (.int .u8 (X2.i 6)), (.str (X2.s 7)), (.int .u8 (X2.i 8)), (.bool (X2.b 9)), (X2.v 10), (.bool (X2.b 11)), (X2.v 12), (.int .i64 (X2.i 13)), (X2.v 14), (.int .u8 (X2.i 15)), (.str (X2.s 16)), (.int .u8 (X2.i 17)), (.bool (X2.b 18)), (X2.v 19), (.bool (X2.b 20)), (X2.v 21), (.int .i64 (X2.i 22)), (X2.v 23)]) (.call 63 [(.agg [(.int .u8 (X2.i 6)), (.str (X2.s 7)), (.int .u8 (X2.i 8)), (.bool (X2.b 9)), (X2.v 10), (.bool (X2.b 11)), (X2.v 12), (.int .i64 (X2.i 13)), (X2.v 14)])] fun a3 =>
 .asB a3 fun b4 => .ite (!b4)
 (.ret (.bool false))
 (.call 63 [(.agg [(.int .u8 (X2.i 15)), (.str (X2.s 16)), (.int .u8 (X2.i 17)), (.bool (X2.b 18)), (X2.v 19), (.bool (X2.b 20)), (X2.v 21), (.int .i64 (X2.i 22)), (X2.v 23)])] fun a5 =>
 .asB a5 fun b6 => .ite (!b6)
 (.ret (.bool false))
 (.jump 2 [v24, .int .i64 v25, (.int .i64 (zah .i64 (v26 + 1))), .str c1_0, c1_1, c1_2, c1_3]))) .fail)
 (.opt (zba c1_2) fun a7 => .asI .i64 a7 fun n8 => .jump 6 [c1_2, .int .i64 n8, .int .i64 0])
theorem j33_2 (v24 : zab) (v25 v26 : Int) (c1_0 : List Nat) (c1_1 c1_2 c1_3 : zab) {m : Tr zal} {Q : zaw} (h : wp 33 (zzgn v24 v25 v26 c1_0 c1_1 c1_2 c1_3) m Q) : jp 33 2 [v24, .int .i64 v25, .int .i64 v26, .str c1_0, c1_1, c1_2, c1_3] m Q := zbp ok33 (by kernel_rfl) h
def zzgm (v42 : zab) (v43 v44 : Int) : T :=
 .ite (iLt v44 v43)
 (.opt (zaf C19 23 v42 (.int .i64 v44)) fun a0 => .light (fun m => zap C19 82 ⟨0, m⟩ a0) fun a1 => .asG [.str [], .bool false, .nilslice] a1 fun X2 =>
 .ite (zeb zab.one [(.str (X2.s 0)), (.bool (X2.b 1)), (X2.v 2)]) (.call 64 [(.agg [(.str (X2.s 0)), (.bool (X2.b 1)), (X2.v 2)])] fun a3 =>
 .asB a3 fun b4 => .ite (!b4)
 (.ret (.bool false))
 (.jump 6 [v42, .int .i64 v43, (.int .i64 (zah .i64 (v44 + 1)))])) .fail)
 (.ret (.bool true))
theorem j33_6 (v42 : zab) (v43 v44 : Int) {m : Tr zal} {Q : zaw} (h : wp 33 (zzgm v42 v43 v44) m Q) : jp 33 6 [v42, .int .i64 v43, .int .i64 v44] m Q := zbp ok33 (by kernel_rfl) h
def t36 (p0_0 : Bool) (p0_1 : zab) (p0_2 : Bool) (p0_3 : zab) : T :=
 .opt (zba p0_1) fun a0 => .asI .i64 a0 fun n1 => .opt (zba p0_3) fun a2 => .asI .i64 a2 fun n3 => .ret (.int .i64 (zah .i64 ((zah .i64 (1 + n1)) + n3)))
theorem w36 (p0_0 : Bool) (p0_1 : zab) (p0_2 : Bool) (p0_3 : zab) {m : Tr zal} {Q : zaw} (h : wp 36 (t36 p0_0 p0_1 p0_2 p0_3) m Q) : Wf 36 [.agg [.bool p0_0, p0_1, .bool p0_2, p0_3]] m Q := zbu ok36 (by kernel_rfl) (eqT (by kernel_rfl) h)
def t37 (p0_0 : Int) (p0_1 : List Nat) (p0_2 : Int) (p0_3 : Bool) (p0_4 : zab) (p0_5 : Bool) (p0_6 : zab) (p0_7 : Int) (p0_8 : zab) (p1 : Int) : T :=
 .call 36 [.agg [.bool p0_3, p0_4, .bool p0_5, p0_6]] fun a0 =>
 .asI .i64 a0 fun n1 => .ite (same 10 (.str p0_1) (.str p0_1)) (.ite (same 10 (.int .i64 (Int.ofNat (zbw p0_1))) (.int .i64 (Int.ofNat (zbw p0_1)))) (.jump 2 [.int .i64 p1, (.int .i64 (zah .i64 (n1 + (zah .i64 (Int.tdiv (Int.ofNat (zbw p0_1)) 30))))), .int .i64 0, .int .u8 p0_0, .str p0_1, .int .u8 p0_2, .bool p0_3, p0_4, .bool p0_5, p0_6, .int .i64 p0_7, p0_8]) .fail) .fail
theorem w37 (p0_0 : Int) (p0_1 : List Nat) (p0_2 : Int) (p0_3 : Bool) (p0_4 : zab) (p0_5 : Bool) (p0_6 : zab) (p0_7 : Int) (p0_8 : zab) (p1 : Int) {m : Tr zal} {Q : zaw} (h : wp 37 (t37 p0_0 p0_1 p0_2 p0_3 p0_4 p0_5 p0_6 p0_7 p0_8 p1) m Q) : Wf 37 [.agg [.int .u8 p0_0, .str p0_1, .int .u8 p0_2, .bool p0_3, p0_4, .bool p0_5, p0_6, .int .i64 p0_7, p0_8], .int .i64 p1] m Q := zbu ok37 (by kernel_rfl) (eqT (by kernel_rfl) h)
def zzgl (v1 v5 v6 c2_0 : Int) (c2_1 : List Nat) (c2_2 : Int) (c2_3 : Bool) (c2_4 : zab) (c2_5 : Bool) (c2_6 : zab) (c2_7 : Int) (c2_8 : zab) : T :=
 .opt (zba c2_8) fun a0 => .asI .i64 a0 fun n1 => .ite (iLt v6 n1)
 (.ite (iLe v5 v1)
 (.opt (zaf C19 48 c2_8 (.int .i64 v6)) fun a2 => .light (fun m => zap C19 50 ⟨0, m⟩ a2) fun a3 => .asG [.int .u8 0, .str [], .int .u8 0, .bool false, .nilslice, .bool false, .nilslice, .int .i64 0, .nilslice] a3 fun X4 =>
 .call 37 [(.agg [(.int .u8 (X4.i 0)), (.str (X4.s 1)), (.int .u8 (X4.i 2)), (.bool (X4.b 3)), (X4.v 4), (.bool (X4.b 5)), (X4.v 6), (.int .i64 (X4.i 7)), (X4.v 8)]), (.int .i64 (zah .i64 (v1 - v5)))] fun a5 =>
 .asI .i64 a5 fun n6 => .jump 2 [.int .i64 v1, (.int .i64 (zah .i64 (v5 + n6))), (.int .i64 (zah .i64 (v6 + 1))), .int .u8 c2_0, .str c2_1, .int .u8 c2_2, .bool c2_3, c2_4, .bool c2_5, c2_6, .int .i64 c2_7, c2_8])
 (.ret (.int .i64 v5)))
 (.ret (.int .i64 v5))
theorem j37_2 (v1 v5 v6 c2_0 : Int) (c2_1 : List Nat) (c2_2 : Int) (c2_3 : Bool) (c2_4 : zab) (c2_5 : Bool) (c2_6 : zab) (c2_7 : Int) (c2_8 : zab) {m : Tr zal} {Q : zaw} (h : wp 37 (zzgl v1 v5 v6 c2_0 c2_1 c2_2 c2_3 c2_4 c2_5 c2_6 c2_7 c2_8) m Q) : jp 37 2 [.int .i64 v1, .int .i64 v5, .int .i64 v6, .int .u8 c2_0, .str c2_1, .int .u8 c2_2, .bool c2_3, c2_4, .bool c2_5, c2_6, .int .i64 c2_7, c2_8] m Q := zbp ok37 (by kernel_rfl) h
def t51 (p0_0 : List Nat) (p0_1 p0_2 p0_3 : zab) : T :=
 .call 99 [p0_1] fun a0 =>
 .ite (zeb zab.one [a0]) (.call 100 [p0_2] fun a1 =>
 .ite (zeb zab.one [a1]) (.opt (zba a1) fun a2 => .asI .i64 a2 fun n3 => .jump 2 [a1, .int .i64 n3, .int .i64 0, .str p0_0, a0, a1, p0_3, .str [], .nilslice, .nilslice, .nilslice]) .fail) .fail
theorem w51 (p0_0 : List Nat) (p0_1 p0_2 p0_3 : zab) {m : Tr zal} {Q : zaw} (h : wp 51 (t51 p0_0 p0_1 p0_2 p0_3) m Q) : Wf 51 [.agg [.str p0_0, p0_1, p0_2, p0_3]] m Q := zbu ok51 (by kernel_rfl) (eqT (by kernel_rfl) h)
def zzgk (v18 : zab) (v19 v20 : Int) (c1_0 : List Nat) (c1_1 c1_2 c1_3 : zab) (c2_0 : List Nat) (c2_1 c2_2 c2_3 : zab) : T :=
 .ite (iLt v20 v19)
 (.opt (zaf C19 23 v18 (.int .i64 v20)) fun a0 => .light (fun m => zap C19 82 ⟨0, m⟩ a0) fun a1 => .asG [.str [], .bool false, .nilslice] a1 fun X2 =>
 .ite (zeb zab.one [(.str (X2.s 0)), (.bool (X2.b 1)), (X2.v 2)]) (.call 101 [(X2.v 2)] fun a3 =>
 .opt (zba a3) fun a4 => .asI .i64 a4 fun n5 => .jump 6 [.int .i64 v20, a3, v18, .int .i64 v19, .int .i64 v20, a3, .int .i64 n5, .int .i64 0, .str c1_0, c1_1, c1_2, c1_3, .str c2_0, c2_1, c2_2, c2_3]) .fail)
 (.call 103 [c1_3] fun a6 =>
 .ite (zeb zab.one [a6]) (.opt (zba a6) fun a7 => .asI .i64 a7 fun n8 => .jump 10 [.int .i64 n8, .int .i64 0, .str c1_0, c1_1, c1_2, a6, .str c2_0, c2_1, c2_2, c2_3]) .fail)
theorem j51_2 (v18 : zab) (v19 v20 : Int) (c1_0 : List Nat) (c1_1 c1_2 c1_3 : zab) (c2_0 : List Nat) (c2_1 c2_2 c2_3 : zab) {m : Tr zal} {Q : zaw} (h : wp 51 (zzgk v18 v19 v20 c1_0 c1_1 c1_2 c1_3 c2_0 c2_1 c2_2 c2_3) m Q) : jp 51 2 [v18, .int .i64 v19, .int .i64 v20, .str c1_0, c1_1, c1_2, c1_3, .str c2_0, c2_1, c2_2, c2_3] m Q := zbp ok51 (by kernel_rfl) h
def zzgj (v3 : Int) (v5 v18 : zab) (v19 v20 : Int) (v28 : zab) (v29 v30 : Int) (c1_0 : List Nat) (c1_1 c1_2 c1_3 : zab) (c2_0 : List Nat) (c2_1 c2_2 c2_3 : zab) : T :=
 .ite (iLt v30 v29)
 (.opt (zaf C19 80 v28 (.int .i64 v30)) fun a0 => .light (fun m => zap C19 85 ⟨0, m⟩ a0) fun a1 => .asG [.int .i64 0, .int .i64 0, .int .i64 0, .bool false, .nilslice, .bool false, .nilslice] a1 fun X2 =>
 .ite (zeb zab.one [(.int .i64 (X2.i 0)), (.int .i64 (X2.i 1)), (.int .i64 (X2.i 2)), (.bool (X2.b 3)), (X2.v 4), (.bool (X2.b 5)), (X2.v 6)]) (.ite true (.call 102 [(.agg [.int .u8 0, (.bool (X2.b 3)), (X2.v 4), (.bool (X2.b 5)), (X2.v 6), .int .i64 0])] fun a3 =>
 .asG [.int .u8 0, .bool false, .nilslice, .bool false, .nilslice, .int .i64 0] a3 fun X4 =>
 .opt (zaf C19 80 v5 (.int .i64 v30)) fun a5 => .opt (zaj C19 85 3 a5) fun a6 => .heavy (zb3 C19 45 a6 (.agg [(.bool (X4.b 1)), (X4.v 2), (.bool (X4.b 3)), (X4.v 4)])) fun _ =>
 .jump 6 [.int .i64 v3, v5, v18, .int .i64 v19, .int .i64 v20, v28, .int .i64 v29, (.int .i64 (zah .i64 (v30 + 1))), .str c1_0, c1_1, c1_2, c1_3, .str c2_0, c2_1, c2_2, c2_3]) .fail) .fail)
 (.opt (zaf C19 23 c1_2 (.int .i64 v3)) fun a7 => .opt (zaj C19 82 2 a7) fun a8 => .heavy (zb3 C19 80 a8 v5) fun _ =>
 .jump 2 [v18, .int .i64 v19, (.int .i64 (zah .i64 (v20 + 1))), .str c1_0, c1_1, c1_2, c1_3, .str c2_0, c2_1, c2_2, c2_3])
theorem j51_6 (v3 : Int) (v5 v18 : zab) (v19 v20 : Int) (v28 : zab) (v29 v30 : Int) (c1_0 : List Nat) (c1_1 c1_2 c1_3 : zab) (c2_0 : List Nat) (c2_1 c2_2 c2_3 : zab) {m : Tr zal} {Q : zaw} (h : wp 51 (zzgj v3 v5 v18 v19 v20 v28 v29 v30 c1_0 c1_1 c1_2 c1_3 c2_0 c2_1 c2_2 c2_3) m Q) : jp 51 6 [.int .i64 v3, v5, v18, .int .i64 v19, .int .i64 v20, v28, .int .i64 v29, .int .i64 v30, .str c1_0, c1_1, c1_2, c1_3, .str c2_0, c2_1, c2_2, c2_3] m Q := zbp ok51 (by kernel_rfl) h
def z5o (v58 v59 : Int) (c1_0 : List Nat) (c1_1 c1_2 c1_3 : zab) (c2_0 : List Nat) (c2_1 c2_2 c2_3 : zab) : T :=
 .ite (iLt v59 v58)
 (.ite true (.ite true (.opt (zaf C19 24 c1_3 (.int .i64 v59)) fun a0 => .opt (zaj C19 52 6 a0) fun a1 => .heavy (zb3 C19 50 a1 (.agg [.int .u8 0, .str [], .int .u8 0, .bool false, .nilslice, .bool false, .nilslice, .int .i64 0, .nilslice])) fun _ =>
 .ite (same 10 c1_3 c1_3) (.opt (zaf C19 24 c1_3 (.int .i64 v59)) fun a2 => .opt (zaj C19 52 7 a2) fun a3 => .heavy (zb3 C19 50 a3 (.agg [.int .u8 0, .str [], .int .u8 0, .bool false, .nilslice, .bool false, .nilslice, .int .i64 0, .nilslice])) fun _ =>
 .jump 10 [.int .i64 v58, (.int .i64 (zah .i64 (v59 + 1))), .str c1_0, c1_1, c1_2, c1_3, .str c2_0, c2_1, c2_2, c2_3]) .fail) .fail) .fail)
 (.ite (zeb zab.one [.str c1_0, c1_1, c1_2, c1_3]) (.ret (.agg [.str c1_0, c1_1, c1_2, c1_3])) .fail)
theorem zze4 (v58 v59 : Int) (c1_0 : List Nat) (c1_1 c1_2 c1_3 : zab) (c2_0 : List Nat) (c2_1 c2_2 c2_3 : zab) {m : Tr zal} {Q : zaw} (h : wp 51 (z5o v58 v59 c1_0 c1_1 c1_2 c1_3 c2_0 c2_1 c2_2 c2_3) m Q) : jp 51 10 [.int .i64 v58, .int .i64 v59, .str c1_0, c1_1, c1_2, c1_3, .str c2_0, c2_1, c2_2, c2_3] m Q := zbp ok51 (by kernel_rfl) h
def t52 (p0 : zab) (p1_0 : Int) (p1_1 : List Nat) (p1_2 : Int) (p1_3 : Bool) (p1_4 : zab) (p1_5 : Bool) (p1_6 : zab) (p1_7 : Int) (p1_8 : zab) : T :=
 .opt (zrn p0) fun a0 => .opt (zaj C19 109 3 a0) fun a1 => .heavy (zb3 C19 37 a1 .nilslice) fun _ =>
 .call 104 [p0, .agg [.int .u8 p1_0, .str p1_1, .int .u8 p1_2, .bool p1_3, p1_4, .bool p1_5, p1_6, .int .i64 p1_7, p1_8]] fun a2 =>
 .opt (zrn p0) fun a3 => .opt (zaj C19 109 3 a3) fun a4 => .light (fun m => zap C19 37 ⟨0, m⟩ a4) fun a5 => .ret a5
theorem w52 (p0 : zab) (p1_0 : Int) (p1_1 : List Nat) (p1_2 : Int) (p1_3 : Bool) (p1_4 : zab) (p1_5 : Bool) (p1_6 : zab) (p1_7 : Int) (p1_8 : zab) {m : Tr zal} {Q : zaw} (h : wp 52 (t52 p0 p1_0 p1_1 p1_2 p1_3 p1_4 p1_5 p1_6 p1_7 p1_8) m Q) : Wf 52 [p0, .agg [.int .u8 p1_0, .str p1_1, .int .u8 p1_2, .bool p1_3, p1_4, .bool p1_5, p1_6, .int .i64 p1_7, p1_8]] m Q := zbu ok52 (by kernel_rfl) (eqT (by kernel_rfl) h)
def t53 (p0_0 : Bool) (p0_1 : zab) (p0_2 : Bool) (p0_3 : zab) (p1_0 : Bool) (p1_1 : zab) (p1_2 : Bool) (p1_3 : zab) : T :=
 .call 105 [.agg [.bool p0_0, p0_1], .agg [.bool p1_0, p1_1]] fun a0 =>
 .asB a0 fun b1 => .ite b1
 (.call 105 [.agg [.bool p0_2, p0_3], .agg [.bool p1_2, p1_3]] fun a2 =>
 .asB a2 fun b3 => .ret (.bool b3))
 (.ret (.bool false))
theorem w53 (p0_0 : Bool) (p0_1 : zab) (p0_2 : Bool) (p0_3 : zab) (p1_0 : Bool) (p1_1 : zab) (p1_2 : Bool) (p1_3 : zab) {m : Tr zal} {Q : zaw} (h : wp 53 (t53 p0_0 p0_1 p0_2 p0_3 p1_0 p1_1 p1_2 p1_3) m Q) : Wf 53 [.agg [.bool p0_0, p0_1, .bool p0_2, p0_3], .agg [.bool p1_0, p1_1, .bool p1_2, p1_3]] m Q := zbu ok53 (by kernel_rfl) (eqT (by kernel_rfl) h)
def t54 (p0_0 : Bool) (p0_1 : zab) (p0_2 : Bool) (p0_3 : zab) : T :=
 .ite true (.call 106 [.agg [.bool p0_0, p0_1, .bool p0_2, p0_3]] fun a0 =>
 .asB a0 fun b1 => .ret (.bool b1)) .fail
theorem w54 (p0_0 : Bool) (p0_1 : zab) (p0_2 : Bool) (p0_3 : zab) {m : Tr zal} {Q : zaw} (h : wp 54 (t54 p0_0 p0_1 p0_2 p0_3) m Q) : Wf 54 [.agg [.bool p0_0, p0_1, .bool p0_2, p0_3]] m Q := zbu ok54 (by kernel_rfl) (eqT (by kernel_rfl) h)
def t63 (p0_0 : Int) (p0_1 : List Nat) (p0_2 : Int) (p0_3 : Bool) (p0_4 : zab) (p0_5 : Bool) (p0_6 : zab) (p0_7 : Int) (p0_8 : zab) : T :=
 .heavy (zl7 C19 3) fun a0 =>
 .heavy (zb3 C19 3 a0 (.int .i64 0)) fun _ =>
 .heavy (zl7 C19 73) fun a1 =>
 .heavy (zb3 C19 73 a1 (.func (.func 116) [] [a0, a1])) fun _ =>
 .light (fun m => zap C19 73 ⟨0, m⟩ a1) fun a2 => .callv a2 [.agg [.int .u8 p0_0, .str p0_1, .int .u8 p0_2, .bool p0_3, p0_4, .bool p0_5, p0_6, .int .i64 p0_7, p0_8], .int .i64 1] fun a3 =>
 .asB a3 fun b4 => .ret (.bool b4)
theorem w63 (p0_0 : Int) (p0_1 : List Nat) (p0_2 : Int) (p0_3 : Bool) (p0_4 : zab) (p0_5 : Bool) (p0_6 : zab) (p0_7 : Int) (p0_8 : zab) {m : Tr zal} {Q : zaw} (h : wp 63 (t63 p0_0 p0_1 p0_2 p0_3 p0_4 p0_5 p0_6 p0_7 p0_8) m Q) : Wf 63 [.agg [.int .u8 p0_0, .str p0_1, .int .u8 p0_2, .bool p0_3, p0_4, .bool p0_5, p0_6, .int .i64 p0_7, p0_8]] m Q := zbu ok63 (by kernel_rfl) (eqT (by kernel_rfl) h)
def t64 (p0_0 : List Nat) (p0_1 : Bool) (p0_2 : zab) : T :=
 .heavy (z44 (.agg [.str p0_0, .bool p0_1, p0_2])) fun a0 =>
 .opt (zaj C19 82 0 a0) fun a1 => .light (fun m => zap C19 9 ⟨0, m⟩ a1) fun a2 => .asS a2 fun s3 => .ite (iLt (Int.ofNat (zbw s3)) 1)
 (.ret (.bool false))
 (.opt (zaj C19 82 0 a0) fun a4 => .light (fun m => zap C19 9 ⟨0, m⟩ a4) fun a5 => .asS a5 fun s6 => .ite (iLt 24 (Int.ofNat (zbw s6)))
 (.ret (.bool false))
 (.opt (zaj C19 82 2 a0) fun a7 => .light (fun m => zap C19 80 ⟨0, m⟩ a7) fun a8 => .opt (zba a8) fun a9 => .asI .i64 a9 fun n10 => .ite (iLt 400 n10)
 (.ret (.bool false))
 (.opt (zaj C19 82 2 a0) fun a11 => .light (fun m => zap C19 80 ⟨0, m⟩ a11) fun a12 => .call 117 [a12, (.func (.func 118) [] [])] fun a13 =>
 .asB a13 fun b14 => .ite b14
 (.opt (zaj C19 82 2 a0) fun a15 => .light (fun m => zap C19 80 ⟨0, m⟩ a15) fun a16 => .call 119 [a16, (.func (.func 120) [] [a0])] fun a17 =>
 .asB a17 fun b18 => .ret (.bool (!b18)))
 (.ret (.bool false)))))
theorem w64 (p0_0 : List Nat) (p0_1 : Bool) (p0_2 : zab) {m : Tr zal} {Q : zaw} (h : wp 64 (t64 p0_0 p0_1 p0_2) m Q) : Wf 64 [.agg [.str p0_0, .bool p0_1, p0_2]] m Q := zbu ok64 (by kernel_rfl) (eqT (by kernel_rfl) h)
def t99 (p0 : zab) : T :=
 .opt ((zxd .eql).f C19 22 (.tmp 3) (.const (.slice none 0 0)) p0 .nilslice) fun a0 => .asB a0 fun b1 => .ite b1
 (.ret .nilslice)
 (.heavy (za0 C19 22 0 []) fun a2 =>
 .heavy (zbn C19 22 22 a2 p0) fun a3 =>
 .ret a3)
theorem w99 (p0 : zab) {m : Tr zal} {Q : zaw} (h : wp 99 (t99 p0) m Q) : Wf 99 [p0] m Q := zbu ok99 (by kernel_rfl) (eqT (by kernel_rfl) h)
def t100 (p0 : zab) : T :=
 .opt ((zxd .eql).f C19 23 (.tmp 3) (.const (.slice none 0 0)) p0 .nilslice) fun a0 => .asB a0 fun b1 => .ite b1
 (.ret .nilslice)
 (.heavy (za0 C19 23 0 []) fun a2 =>
 .heavy (zbn C19 23 23 a2 p0) fun a3 =>
 .ret a3)
theorem w100 (p0 : zab) {m : Tr zal} {Q : zaw} (h : wp 100 (t100 p0) m Q) : Wf 100 [p0] m Q := zbu ok100 (by kernel_rfl) (eqT (by kernel_rfl) h)
def t101 (p0 : zab) : T :=
 .opt ((zxd .eql).f C19 80 (.tmp 3) (.const (.slice none 0 0)) p0 .nilslice) fun a0 => .asB a0 fun b1 => .ite b1
 (.ret .nilslice)
 (.heavy (za0 C19 80 0 []) fun a2 =>
 .heavy (zbn C19 80 80 a2 p0) fun a3 =>
 .ret a3)
theorem w101 (p0 : zab) {m : Tr zal} {Q : zaw} (h : wp 101 (t101 p0) m Q) : Wf 101 [p0] m Q := zbu ok101 (by kernel_rfl) (eqT (by kernel_rfl) h)
def t102 (p0_0 : Int) (p0_1 : Bool) (p0_2 : zab) (p0_3 : Bool) (p0_4 : zab) (p0_5 : Int) : T :=
 .heavy (zbn C19 41 41 .nilslice p0_2) fun a0 =>
 .ite (zeb zab.one [a0]) (.heavy (zbn C19 41 41 .nilslice p0_4) fun a1 =>
 .ite (zeb zab.one [a1]) (.ite (zeb zab.one [.int .u8 p0_0, .bool p0_1, a0, .bool p0_3, a1, .int .i64 p0_5]) (.ret (.agg [.int .u8 p0_0, .bool p0_1, a0, .bool p0_3, a1, .int .i64 p0_5])) .fail) .fail) .fail
theorem w102 (p0_0 : Int) (p0_1 : Bool) (p0_2 : zab) (p0_3 : Bool) (p0_4 : zab) (p0_5 : Int) {m : Tr zal} {Q : zaw} (h : wp 102 (t102 p0_0 p0_1 p0_2 p0_3 p0_4 p0_5) m Q) : Wf 102 [.agg [.int .u8 p0_0, .bool p0_1, p0_2, .bool p0_3, p0_4, .int .i64 p0_5]] m Q := zbu ok102 (by kernel_rfl) (eqT (by kernel_rfl) h)
def t103 (p0 : zab) : T :=
 .opt ((zxd .eql).f C19 24 (.tmp 3) (.const (.slice none 0 0)) p0 .nilslice) fun a0 => .asB a0 fun b1 => .ite b1
 (.ret .nilslice)
 (.heavy (za0 C19 24 0 []) fun a2 =>
 .heavy (zbn C19 24 24 a2 p0) fun a3 =>
 .ret a3)
theorem w103 (p0 : zab) {m : Tr zal} {Q : zaw} (h : wp 103 (t103 p0) m Q) : Wf 103 [p0] m Q := zbu ok103 (by kernel_rfl) (eqT (by kernel_rfl) h)
def t104 (p0 : zab) (p1_0 : Int) (p1_1 : List Nat) (p1_2 : Int) (p1_3 : Bool) (p1_4 : zab) (p1_5 : Bool) (p1_6 : zab) (p1_7 : Int) (p1_8 : zab) : T :=
 .call 167 [.agg [.int .u8 p1_0, .str p1_1, .int .u8 p1_2, .bool p1_3, p1_4, .bool p1_5, p1_6, .int .i64 p1_7, p1_8]] fun a0 =>
 .asB a0 fun b1 => .ite (!b1)
 (.call 168 [p0, .int .u8 13, .int .i64 0, .int .i64 0] fun a2 =>
 .ret (.tup []))
 (.ite (iEq p1_0 15)
 (.ite true (.call 169 [p0, .agg [.int .u8 p1_0, .str p1_1, .int .u8 p1_2, .bool p1_3, p1_4, .bool p1_5, p1_6, .int .i64 p1_7, p1_8], .int .u8 10, .agg [.int .u8 1, .bool false, .nilslice, .bool false, .nilslice, .int .i64 0]] fun a3 =>
 .ret (.tup [])) .fail)
 (.ite (iEq p1_0 16)
 (.ite true (.call 169 [p0, .agg [.int .u8 p1_0, .str p1_1, .int .u8 p1_2, .bool p1_3, p1_4, .bool p1_5, p1_6, .int .i64 p1_7, p1_8], .int .u8 11, .agg [.int .u8 1, .bool false, .nilslice, .bool false, .nilslice, .int .i64 1]] fun a4 =>
 .ret (.tup [])) .fail)
 (.ite (iEq p1_0 18)
 (.opt (zaf C19 48 p1_8 (.int .i64 0)) fun a5 => .light (fun m => zap C19 50 ⟨0, m⟩ a5) fun a6 => .asG [.int .u8 0, .str [], .int .u8 0, .bool false, .nilslice, .bool false, .nilslice, .int .i64 0, .nilslice] a6 fun X7 =>
 .call 104 [p0, (.agg [(.int .u8 (X7.i 0)), (.str (X7.s 1)), (.int .u8 (X7.i 2)), (.bool (X7.b 3)), (X7.v 4), (.bool (X7.b 5)), (X7.v 6), (.int .i64 (X7.i 7)), (X7.v 8)])] fun a8 =>
 .call 168 [p0, .int .u8 10, .int .i64 0, .int .i64 0] fun a9 =>
 .opt (zaf C19 48 p1_8 (.int .i64 1)) fun a10 => .light (fun m => zap C19 50 ⟨0, m⟩ a10) fun a11 => .asG [.int .u8 0, .str [], .int .u8 0, .bool false, .nilslice, .bool false, .nilslice, .int .i64 0, .nilslice] a11 fun X12 =>
 .call 104 [p0, (.agg [(.int .u8 (X12.i 0)), (.str (X12.s 1)), (.int .u8 (X12.i 2)), (.bool (X12.b 3)), (X12.v 4), (.bool (X12.b 5)), (X12.v 6), (.int .i64 (X12.i 7)), (X12.v 8)])] fun a13 =>
 .call 168 [p0, .int .u8 9, .int .i64 0, .int .i64 0] fun a14 =>
 .callv a9 [] fun a15 =>
 .opt (zaf C19 48 p1_8 (.int .i64 2)) fun a16 => .light (fun m => zap C19 50 ⟨0, m⟩ a16) fun a17 => .asG [.int .u8 0, .str [], .int .u8 0, .bool false, .nilslice, .bool false, .nilslice, .int .i64 0, .nilslice] a17 fun X18 =>
 .call 104 [p0, (.agg [(.int .u8 (X18.i 0)), (.str (X18.s 1)), (.int .u8 (X18.i 2)), (.bool (X18.b 3)), (X18.v 4), (.bool (X18.b 5)), (X18.v 6), (.int .i64 (X18.i 7)), (X18.v 8)])] fun a19 =>
 .callv a14 [] fun a20 =>
 .ret (.tup []))
 (.opt (zba p1_8) fun a21 => .asI .i64 a21 fun n22 => .jump 4 [p0, p1_8, .int .i64 n22, .int .i64 0, .int .u8 p1_0, .str p1_1, .int .u8 p1_2, .bool p1_3, p1_4, .bool p1_5, p1_6, .int .i64 p1_7, p1_8]))))
theorem w104 (p0 : zab) (p1_0 : Int) (p1_1 : List Nat) (p1_2 : Int) (p1_3 : Bool) (p1_4 : zab) (p1_5 : Bool) (p1_6 : zab) (p1_7 : Int) (p1_8 : zab) {m : Tr zal} {Q : zaw} (h : wp 104 (t104 p0 p1_0 p1_1 p1_2 p1_3 p1_4 p1_5 p1_6 p1_7 p1_8) m Q) : Wf 104 [p0, .agg [.int .u8 p1_0, .str p1_1, .int .u8 p1_2, .bool p1_3, p1_4, .bool p1_5, p1_6, .int .i64 p1_7, p1_8]] m Q := zbu ok104 (by kernel_rfl) (eqT (by kernel_rfl) h)
def z6h (v0 v61 : zab) (v62 v63 c3_0 : Int) (c3_1 : List Nat) (c3_2 : Int) (c3_3 : Bool) (c3_4 : zab) (c3_5 : Bool) (c3_6 : zab) (c3_7 : Int) (c3_8 : zab) : T :=
 .ite (iLt v63 v62)
 (.opt (zaf C19 48 v61 (.int .i64 v63)) fun a0 => .light (fun m => zap C19 50 ⟨0, m⟩ a0) fun a1 => .asG [.int .u8 0, .str [], .int .u8 0, .bool false, .nilslice, .bool false, .nilslice, .int .i64 0, .nilslice] a1 fun X2 =>
 .ite (zeb zab.one [(.int .u8 (X2.i 0)), (.str (X2.s 1)), (.int .u8 (X2.i 2)), (.bool (X2.b 3)), (X2.v 4), (.bool (X2.b 5)), (X2.v 6), (.int .i64 (X2.i 7)), (X2.v 8)]) (.call 104 [v0, (.agg [(.int .u8 (X2.i 0)), (.str (X2.s 1)), (.int .u8 (X2.i 2)), (.bool (X2.b 3)), (X2.v 4), (.bool (X2.b 5)), (X2.v 6), (.int .i64 (X2.i 7)), (X2.v 8)])] fun a3 =>
 .jump 4 [v0, v61, .int .i64 v62, (.int .i64 (zah .i64 (v63 + 1))), .int .u8 c3_0, .str c3_1, .int .u8 c3_2, .bool c3_3, c3_4, .bool c3_5, c3_6, .int .i64 c3_7, c3_8]) .fail)
 (.call 170 [v0, .agg [.int .u8 c3_0, .str c3_1, .int .u8 c3_2, .bool c3_3, c3_4, .bool c3_5, c3_6, .int .i64 c3_7, c3_8]] fun a4 =>
 .ret (.tup []))
theorem zzfp (v0 v61 : zab) (v62 v63 c3_0 : Int) (c3_1 : List Nat) (c3_2 : Int) (c3_3 : Bool) (c3_4 : zab) (c3_5 : Bool) (c3_6 : zab) (c3_7 : Int) (c3_8 : zab) {m : Tr zal} {Q : zaw} (h : wp 104 (z6h v0 v61 v62 v63 c3_0 c3_1 c3_2 c3_3 c3_4 c3_5 c3_6 c3_7 c3_8) m Q) : jp 104 4 [v0, v61, .int .i64 v62, .int .i64 v63, .int .u8 c3_0, .str c3_1, .int .u8 c3_2, .bool c3_3, c3_4, .bool c3_5, c3_6, .int .i64 c3_7, c3_8] m Q := zbp ok104 (by kernel_rfl) h
def t105 (p0_0 : Bool) (p0_1 : zab) (p1_0 : Bool) (p1_1 : zab) : T :=
 .ite (bEq p0_0 p1_0)
 (.call 171 [p0_1, p1_1] fun a0 =>
 .asB a0 fun b1 => .ret (.bool b1))
 (.ret (.bool false))
theorem w105 (p0_0 : Bool) (p0_1 : zab) (p1_0 : Bool) (p1_1 : zab) {m : Tr zal} {Q : zaw} (h : wp 105 (t105 p0_0 p0_1 p1_0 p1_1) m Q) : Wf 105 [.agg [.bool p0_0, p0_1], .agg [.bool p1_0, p1_1]] m Q := zbu ok105 (by kernel_rfl) (eqT (by kernel_rfl) h)
def t106 (p0_0 : Bool) (p0_1 : zab) (p0_2 : Bool) (p0_3 : zab) : T :=
 .call 172 [.agg [.bool p0_0, p0_1, .bool p0_2, p0_3]] fun a0 =>
 .asB a0 fun b1 => .ite b1
 (.ret (.bool false))
 (.call 173 [.agg [.bool p0_0, p0_1]] fun a2 =>
 .asB a2 fun b3 => .ite (!b3)
 (.ret (.bool false))
 (.call 173 [.agg [.bool p0_2, p0_3]] fun a4 =>
 .asB a4 fun b5 => .ite (!b5)
 (.ret (.bool false))
 (.ite p0_2
 (.ret (.bool false))
 (.opt (zba p0_3) fun a6 => .asI .i64 a6 fun n7 => .ite (iEq n7 0)
 (.ret (.bool false))
 (.call 174 [.agg [.bool p0_0, p0_1, .bool p0_2, p0_3]] fun a8 =>
 .asB a8 fun b9 => .ite b9
 (.ret (.bool true))
 (.call 176 [.agg [.bool p0_0, p0_1], .agg [.bool p0_2, p0_3]] fun a10 =>
 .asG [.bool false, .nilslice] a10 fun X11 =>
 .call 175 [(.agg [(.bool (X11.b 0)), (X11.v 1)])] fun a12 =>
 .asB a12 fun b13 => .ret (.bool b13)))))))
theorem w106 (p0_0 : Bool) (p0_1 : zab) (p0_2 : Bool) (p0_3 : zab) {m : Tr zal} {Q : zaw} (h : wp 106 (t106 p0_0 p0_1 p0_2 p0_3) m Q) : Wf 106 [.agg [.bool p0_0, p0_1, .bool p0_2, p0_3]] m Q := zbu ok106 (by kernel_rfl) (eqT (by kernel_rfl) h)
def t116 (p0_0 : Int) (p0_1 : List Nat) (p0_2 : Int) (p0_3 : Bool) (p0_4 : zab) (p0_5 : Bool) (p0_6 : zab) (p0_7 : Int) (p0_8 : zab) (p1 : Int) (w0 w1 : zab) : T :=
 .light (fun m => zap C19 3 ⟨0, m⟩ w0) fun a0 => .asI .i64 a0 fun n1 => .heavy (zb3 C19 3 w0 (.int .i64 (zah .i64 (n1 + 1)))) fun _ =>
 .light (fun m => zap C19 3 ⟨0, m⟩ w0) fun a2 => .asI .i64 a2 fun n3 => .ite (iLt 200 n3)
 (.ret (.bool false))
 (.ite (iLt 24 p1)
 (.ret (.bool false))
 (.opt (zba p0_8) fun a4 => .asI .i64 a4 fun n5 => .jump 2 [.int .i64 p1, w1, p0_8, .int .i64 n5, .int .i64 0]))
theorem w116 (p0_0 : Int) (p0_1 : List Nat) (p0_2 : Int) (p0_3 : Bool) (p0_4 : zab) (p0_5 : Bool) (p0_6 : zab) (p0_7 : Int) (p0_8 : zab) (p1 : Int) (w0 w1 : zab) {m : Tr zal} {Q : zaw} (h : wp 116 (t116 p0_0 p0_1 p0_2 p0_3 p0_4 p0_5 p0_6 p0_7 p0_8 p1 w0 w1) m Q) : Wf 116 [.agg [.int .u8 p0_0, .str p0_1, .int .u8 p0_2, .bool p0_3, p0_4, .bool p0_5, p0_6, .int .i64 p0_7, p0_8], .int .i64 p1, w0, w1] m Q := zbu ok116 (by kernel_rfl) (eqT (by kernel_rfl) h)
def z6g (v1 : Int) (v3 v18 : zab) (v19 v20 : Int) : T :=
 .ite (iLt v20 v19)
 (.opt (zaf C19 48 v18 (.int .i64 v20)) fun a0 => .light (fun m => zap C19 50 ⟨0, m⟩ a0) fun a1 => .asG [.int .u8 0, .str [], .int .u8 0, .bool false, .nilslice, .bool false, .nilslice, .int .i64 0, .nilslice] a1 fun X2 =>
 .ite (zeb zab.one [(.int .u8 (X2.i 0)), (.str (X2.s 1)), (.int .u8 (X2.i 2)), (.bool (X2.b 3)), (X2.v 4), (.bool (X2.b 5)), (X2.v 6), (.int .i64 (X2.i 7)), (X2.v 8)]) (.light (fun m => zap C19 73 ⟨0, m⟩ v3) fun a3 => .callv a3 [(.agg [(.int .u8 (X2.i 0)), (.str (X2.s 1)), (.int .u8 (X2.i 2)), (.bool (X2.b 3)), (X2.v 4), (.bool (X2.b 5)), (X2.v 6), (.int .i64 (X2.i 7)), (X2.v 8)]), (.int .i64 (zah .i64 (v1 + 1)))] fun a4 =>
 .asB a4 fun b5 => .ite (!b5)
 (.ret (.bool false))
 (.jump 2 [.int .i64 v1, v3, v18, .int .i64 v19, (.int .i64 (zah .i64 (v20 + 1)))])) .fail)
 (.ret (.bool true))
theorem zzfo (v1 : Int) (v3 v18 : zab) (v19 v20 : Int) {m : Tr zal} {Q : zaw} (h : wp 116 (z6g v1 v3 v18 v19 v20) m Q) : jp 116 2 [.int .i64 v1, v3, v18, .int .i64 v19, .int .i64 v20] m Q := zbp ok116 (by kernel_rfl) h
def t117 (p0 p1 : zab) : T :=
 .opt (zba p0) fun a0 => .asI .i64 a0 fun n1 => .jump 2 [p0, p1, (.int .i64 (zah .i64 (n1 - 1)))]
theorem w117 (p0 p1 : zab) {m : Tr zal} {Q : zaw} (h : wp 117 (t117 p0 p1) m Q) : Wf 117 [p0, p1] m Q := zbu ok117 (by kernel_rfl) (eqT (by kernel_rfl) h)
def z0n (v0 v1 : zab) (v5 : Int) : T :=
 .ite (iLt 0 v5)
 (.opt (zaf C19 80 v0 (.int .i64 v5)) fun a0 => .light (fun m => zap C19 85 ⟨0, m⟩ a0) fun a1 => .asG [.int .i64 0, .int .i64 0, .int .i64 0, .bool false, .nilslice, .bool false, .nilslice] a1 fun X2 =>
 .opt (zaf C19 80 v0 (.int .i64 (zah .i64 (v5 - 1)))) fun a3 => .light (fun m => zap C19 85 ⟨0, m⟩ a3) fun a4 => .asG [.int .i64 0, .int .i64 0, .int .i64 0, .bool false, .nilslice, .bool false, .nilslice] a4 fun X5 =>
 .callv v1 [(.agg [(.int .i64 (X2.i 0)), (.int .i64 (X2.i 1)), (.int .i64 (X2.i 2)), (.bool (X2.b 3)), (X2.v 4), (.bool (X2.b 5)), (X2.v 6)]), (.agg [(.int .i64 (X5.i 0)), (.int .i64 (X5.i 1)), (.int .i64 (X5.i 2)), (.bool (X5.b 3)), (X5.v 4), (.bool (X5.b 5)), (X5.v 6)])] fun a6 =>
 .asI .i64 a6 fun n7 => .ite (iLt n7 0)
 (.ret (.bool false))
 (.jump 2 [v0, v1, (.int .i64 (zah .i64 (v5 - 1)))]))
 (.ret (.bool true))
theorem z8w (v0 v1 : zab) (v5 : Int) {m : Tr zal} {Q : zaw} (h : wp 117 (z0n v0 v1 v5) m Q) : jp 117 2 [v0, v1, .int .i64 v5] m Q := zbp ok117 (by kernel_rfl) h
def t118 (p0_0 p0_1 p0_2 : Int) (p0_3 : Bool) (p0_4 : zab) (p0_5 : Bool) (p0_6 : zab) (p1_0 p1_1 p1_2 : Int) (p1_3 : Bool) (p1_4 : zab) (p1_5 : Bool) (p1_6 : zab) : T :=
 .call 184 [.int .i64 p0_0, .int .i64 p1_0] fun a0 =>
 .asI .i64 a0 fun n1 => .ite (same 10 (.int .i64 p0_1) (.int .i64 p0_1)) (.ite (same 10 (.int .i64 p1_1) (.int .i64 p1_1)) (.ite (same 10 (.int .i64 p0_2) (.int .i64 p0_2)) (.ite (same 10 (.int .i64 p1_2) (.int .i64 p1_2)) (.call 184 [.int .i64 p0_1, .int .i64 p1_1] fun a2 =>
 .asI .i64 a2 fun n3 => .ite (same 10 (.int .i64 p0_2) (.int .i64 p0_2)) (.ite (same 10 (.int .i64 p1_2) (.int .i64 p1_2)) (.call 184 [.int .i64 p0_2, .int .i64 p1_2] fun a4 =>
 .asI .i64 a4 fun n5 => .heavy (za0 C19 105 3 [(0, (.int .i64 n1)), (1, (.int .i64 n3)), (2, (.int .i64 n5))]) fun a6 =>
 .call 183 [a6] fun a7 =>
 .asI .i64 a7 fun n8 => .ret (.int .i64 n8)) .fail) .fail) .fail) .fail) .fail) .fail
theorem w118 (p0_0 p0_1 p0_2 : Int) (p0_3 : Bool) (p0_4 : zab) (p0_5 : Bool) (p0_6 : zab) (p1_0 p1_1 p1_2 : Int) (p1_3 : Bool) (p1_4 : zab) (p1_5 : Bool) (p1_6 : zab) {m : Tr zal} {Q : zaw} (h : wp 118 (t118 p0_0 p0_1 p0_2 p0_3 p0_4 p0_5 p0_6 p1_0 p1_1 p1_2 p1_3 p1_4 p1_5 p1_6) m Q) : Wf 118 [.agg [.int .i64 p0_0, .int .i64 p0_1, .int .i64 p0_2, .bool p0_3, p0_4, .bool p0_5, p0_6], .agg [.int .i64 p1_0, .int .i64 p1_1, .int .i64 p1_2, .bool p1_3, p1_4, .bool p1_5, p1_6]] m Q := zbu ok118 (by kernel_rfl) (eqT (by kernel_rfl) h)
def t119 (p0 p1 : zab) : T :=
 .call 185 [p0, p1] fun a0 =>
 .asI .i64 a0 fun n1 => .ret (.bool (iLe 0 n1))
theorem w119 (p0 p1 : zab) {m : Tr zal} {Q : zaw} (h : wp 119 (t119 p0 p1) m Q) : Wf 119 [p0, p1] m Q := zbu ok119 (by kernel_rfl) (eqT (by kernel_rfl) h)
def t120 (p0_0 p0_1 p0_2 : Int) (p0_3 : Bool) (p0_4 : zab) (p0_5 : Bool) (p0_6 w0 : zab) : T :=
 .opt (zaj C19 82 1 w0) fun a0 => .light (fun m => zap C19 4 ⟨0, m⟩ a0) fun a1 => .asB a1 fun b2 => .call 121 [.bool b2, .agg [.int .i64 p0_0, .int .i64 p0_1, .int .i64 p0_2, .bool p0_3, p0_4, .bool p0_5, p0_6]] fun a3 =>
 .asB a3 fun b4 => .ret (.bool (!b4))
theorem w120 (p0_0 p0_1 p0_2 : Int) (p0_3 : Bool) (p0_4 : zab) (p0_5 : Bool) (p0_6 w0 : zab) {m : Tr zal} {Q : zaw} (h : wp 120 (t120 p0_0 p0_1 p0_2 p0_3 p0_4 p0_5 p0_6 w0) m Q) : Wf 120 [.agg [.int .i64 p0_0, .int .i64 p0_1, .int .i64 p0_2, .bool p0_3, p0_4, .bool p0_5, p0_6], w0] m Q := zbu ok120 (by kernel_rfl) (eqT (by kernel_rfl) h)
def t121 (p0 : Bool) (p1_0 p1_1 p1_2 : Int) (p1_3 : Bool) (p1_4 : zab) (p1_5 : Bool) (p1_6 : zab) : T :=
 .ite true (.jump 2 [.bool p0, .agg [.int .i64 p1_0, .int .i64 p1_1], .int .i64 0, .int .i64 p1_0, .int .i64 p1_1, .int .i64 p1_2, .bool p1_3, p1_4, .bool p1_5, p1_6]) .fail
theorem w121 (p0 : Bool) (p1_0 p1_1 p1_2 : Int) (p1_3 : Bool) (p1_4 : zab) (p1_5 : Bool) (p1_6 : zab) {m : Tr zal} {Q : zaw} (h : wp 121 (t121 p0 p1_0 p1_1 p1_2 p1_3 p1_4 p1_5 p1_6) m Q) : Wf 121 [.bool p0, .agg [.int .i64 p1_0, .int .i64 p1_1, .int .i64 p1_2, .bool p1_3, p1_4, .bool p1_5, p1_6]] m Q := zbu ok121 (by kernel_rfl) (eqT (by kernel_rfl) h)
def z0m (v0 : Bool) (v11_0 v11_1 v12 c3_0 c3_1 c3_2 : Int) (c3_3 : Bool) (c3_4 : zab) (c3_5 : Bool) (c3_6 : zab) : T :=
 .ite (iLt v12 2)
 (.opt (zjq C19 236 (.agg [.int .i64 v11_0, .int .i64 v11_1]) (.int .i64 v12)) fun a0 => .asI .i64 a0 fun n1 => .ite (iLt n1 (-2147483648))
 (.ret (.bool false))
 (.ite (iLt 2147483647 n1)
 (.ret (.bool false))
 (.jump 2 [.bool v0, .agg [.int .i64 v11_0, .int .i64 v11_1], (.int .i64 (zah .i64 (v12 + 1))), .int .i64 c3_0, .int .i64 c3_1, .int .i64 c3_2, .bool c3_3, c3_4, .bool c3_5, c3_6])))
 (.ite v0
 (.ite (iLe 0 c3_2)
 (.ite (iLt c3_2 65536)
 (.call 54 [.agg [.bool c3_3, c3_4, .bool c3_5, c3_6]] fun a2 =>
 .asB a2 fun b3 => .ret (.bool b3))
 (.ret (.bool false)))
 (.ret (.bool false)))
 (.ite (iEq c3_1 0)
 (.ite (iLe 0 c3_2)
 (.ite (iLt c3_2 65536)
 (.call 54 [.agg [.bool c3_3, c3_4, .bool c3_5, c3_6]] fun a4 =>
 .asB a4 fun b5 => .ret (.bool b5))
 (.ret (.bool false)))
 (.ret (.bool false)))
 (.ret (.bool false))))
theorem z8v (v0 : Bool) (v11_0 v11_1 v12 c3_0 c3_1 c3_2 : Int) (c3_3 : Bool) (c3_4 : zab) (c3_5 : Bool) (c3_6 : zab) {m : Tr zal} {Q : zaw} (h : wp 121 (z0m v0 v11_0 v11_1 v12 c3_0 c3_1 c3_2 c3_3 c3_4 c3_5 c3_6) m Q) : jp 121 2 [.bool v0, .agg [.int .i64 v11_0, .int .i64 v11_1], .int .i64 v12, .int .i64 c3_0, .int .i64 c3_1, .int .i64 c3_2, .bool c3_3, c3_4, .bool c3_5, c3_6] m Q := zbp ok121 (by kernel_rfl) h
def t167 (p0_0 : Int) (p0_1 : List Nat) (p0_2 : Int) (p0_3 : Bool) (p0_4 : zab) (p0_5 : Bool) (p0_6 : zab) (p0_7 : Int) (p0_8 : zab) : T :=
 .ite (iEq p0_0 1)
 (.call 25 [.agg [.int .u8 p0_2, .bool p0_3, p0_4, .bool p0_5, p0_6, .int .i64 p0_7]] fun a0 =>
 .asB a0 fun b1 => .ite (!b1)
 (.ret (.bool false))
 (.call 181 [.int .u8 p0_0] fun a2 =>
 .opt (zas 0 a2) fun a3 => .asI .i64 a3 fun n4 => .opt (zas 1 a2) fun a5 => .asI .i64 a5 fun n6 => .opt (zba p0_8) fun a7 => .asI .i64 a7 fun n8 => .ite (iLe n4 n8)
 (.opt (zba p0_8) fun a9 => .asI .i64 a9 fun n10 => .ret (.bool (iLe n10 n6)))
 (.ret (.bool false))))
 (.call 181 [.int .u8 p0_0] fun a11 =>
 .opt (zas 0 a11) fun a12 => .asI .i64 a12 fun n13 => .opt (zas 1 a11) fun a14 => .asI .i64 a14 fun n15 => .opt (zba p0_8) fun a16 => .asI .i64 a16 fun n17 => .ite (iLe n13 n17)
 (.opt (zba p0_8) fun a18 => .asI .i64 a18 fun n19 => .ret (.bool (iLe n19 n15)))
 (.ret (.bool false)))
theorem w167 (p0_0 : Int) (p0_1 : List Nat) (p0_2 : Int) (p0_3 : Bool) (p0_4 : zab) (p0_5 : Bool) (p0_6 : zab) (p0_7 : Int) (p0_8 : zab) {m : Tr zal} {Q : zaw} (h : wp 167 (t167 p0_0 p0_1 p0_2 p0_3 p0_4 p0_5 p0_6 p0_7 p0_8) m Q) : Wf 167 [.agg [.int .u8 p0_0, .str p0_1, .int .u8 p0_2, .bool p0_3, p0_4, .bool p0_5, p0_6, .int .i64 p0_7, p0_8]] m Q := zbu ok167 (by kernel_rfl) (eqT (by kernel_rfl) h)
def t168 (p0 : zab) (p1 p2 p3 : Int) : T :=
 .heavy (z44 p0) fun a0 =>
 .light (fun m => zap C19 106 ⟨0, m⟩ a0) fun a1 => .opt (zrn a1) fun a2 => .opt (zaj C19 109 3 a2) fun a3 => .light (fun m => zap C19 37 ⟨0, m⟩ a3) fun a4 => .opt (zba a4) fun a5 => .asI .i64 a5 fun n6 => .heavy (zl7 C19 3) fun a7 =>
 .heavy (zb3 C19 3 a7 (.int .i64 n6)) fun _ =>
 .light (fun m => zap C19 106 ⟨0, m⟩ a0) fun a8 => .light (fun m => zap C19 106 ⟨0, m⟩ a0) fun a9 => .opt (zrn a9) fun a10 => .opt (zaj C19 109 3 a10) fun a11 => .light (fun m => zap C19 37 ⟨0, m⟩ a11) fun a12 => .ite true (.heavy (za0 C19 37 1 [(0, (.agg [.int .u8 p1, .int .i64 p2, .int .i64 p3]))]) fun a13 =>
 .light (fun m => zap C19 106 ⟨0, m⟩ a0) fun a14 => .ite (same 10 a14 a8) (.light (fun m => zap C19 106 ⟨0, m⟩ a0) fun a15 => .ite (same 10 a15 a9) (.light (fun m => zap C19 37 ⟨0, m⟩ a11) fun a16 => .ite (same 10 a16 a12) (.heavy (zbn C19 37 37 a12 a13) fun a17 =>
 .light (fun m => zap C19 106 ⟨0, m⟩ a0) fun a18 => .ite (same 10 a18 a8) (.opt (zrn a8) fun a19 => .opt (zaj C19 109 3 a19) fun a20 => .heavy (zb3 C19 37 a20 a17) fun _ =>
 .ret (.func (.func 232) [] [a0, a7])) .fail) .fail) .fail) .fail) .fail
theorem w168 (p0 : zab) (p1 p2 p3 : Int) {m : Tr zal} {Q : zaw} (h : wp 168 (t168 p0 p1 p2 p3) m Q) : Wf 168 [p0, .int .u8 p1, .int .i64 p2, .int .i64 p3] m Q := zbu ok168 (by kernel_rfl) (eqT (by kernel_rfl) h)
def t169 (p0 : zab) (p1_0 : Int) (p1_1 : List Nat) (p1_2 : Int) (p1_3 : Bool) (p1_4 : zab) (p1_5 : Bool) (p1_6 : zab) (p1_7 : Int) (p1_8 : zab) (p2 p3_0 : Int) (p3_1 : Bool) (p3_2 : zab) (p3_3 : Bool) (p3_4 : zab) (p3_5 : Int) : T :=
 .opt (zaf C19 48 p1_8 (.int .i64 0)) fun a0 => .light (fun m => zap C19 50 ⟨0, m⟩ a0) fun a1 => .asG [.int .u8 0, .str [], .int .u8 0, .bool false, .nilslice, .bool false, .nilslice, .int .i64 0, .nilslice] a1 fun X2 =>
 .call 104 [p0, (.agg [(.int .u8 (X2.i 0)), (.str (X2.s 1)), (.int .u8 (X2.i 2)), (.bool (X2.b 3)), (X2.v 4), (.bool (X2.b 5)), (X2.v 6), (.int .i64 (X2.i 7)), (X2.v 8)])] fun a3 =>
 .call 168 [p0, .int .u8 p2, .int .i64 0, .int .i64 0] fun a4 =>
 .opt (zaf C19 48 p1_8 (.int .i64 1)) fun a5 => .light (fun m => zap C19 50 ⟨0, m⟩ a5) fun a6 => .asG [.int .u8 0, .str [], .int .u8 0, .bool false, .nilslice, .bool false, .nilslice, .int .i64 0, .nilslice] a6 fun X7 =>
 .call 104 [p0, (.agg [(.int .u8 (X7.i 0)), (.str (X7.s 1)), (.int .u8 (X7.i 2)), (.bool (X7.b 3)), (X7.v 4), (.bool (X7.b 5)), (X7.v 6), (.int .i64 (X7.i 7)), (X7.v 8)])] fun a8 =>
 .call 168 [p0, .int .u8 12, .int .i64 0, .int .i64 0] fun a9 =>
 .call 168 [p0, .int .u8 9, .int .i64 0, .int .i64 0] fun a10 =>
 .callv a4 [] fun a11 =>
 .call 233 [p0, .agg [.int .u8 p3_0, .bool p3_1, p3_2, .bool p3_3, p3_4, .int .i64 p3_5]] fun a12 =>
 .asI .i64 a12 fun n13 => .call 168 [p0, .int .u8 1, .int .i64 n13, .int .i64 0] fun a14 =>
 .callv a10 [] fun a15 =>
 .ret (.tup [])
theorem w169 (p0 : zab) (p1_0 : Int) (p1_1 : List Nat) (p1_2 : Int) (p1_3 : Bool) (p1_4 : zab) (p1_5 : Bool) (p1_6 : zab) (p1_7 : Int) (p1_8 : zab) (p2 p3_0 : Int) (p3_1 : Bool) (p3_2 : zab) (p3_3 : Bool) (p3_4 : zab) (p3_5 : Int) {m : Tr zal} {Q : zaw} (h : wp 169 (t169 p0 p1_0 p1_1 p1_2 p1_3 p1_4 p1_5 p1_6 p1_7 p1_8 p2 p3_0 p3_1 p3_2 p3_3 p3_4 p3_5) m Q) : Wf 169 [p0, .agg [.int .u8 p1_0, .str p1_1, .int .u8 p1_2, .bool p1_3, p1_4, .bool p1_5, p1_6, .int .i64 p1_7, p1_8], .int .u8 p2, .agg [.int .u8 p3_0, .bool p3_1, p3_2, .bool p3_3, p3_4, .int .i64 p3_5]] m Q := zbu ok169 (by kernel_rfl) (eqT (by kernel_rfl) h)
def t170 (p0 : zab) (p1_0 : Int) (p1_1 : List Nat) (p1_2 : Int) (p1_3 : Bool) (p1_4 : zab) (p1_5 : Bool) (p1_6 : zab) (p1_7 : Int) (p1_8 : zab) : T :=
 .ite (iEq p1_0 1)
 (.call 233 [p0, .agg [.int .u8 p1_2, .bool p1_3, p1_4, .bool p1_5, p1_6, .int .i64 p1_7]] fun a0 =>
 .asI .i64 a0 fun n1 => .call 168 [p0, .int .u8 1, .int .i64 n1, .int .i64 0] fun a2 =>
 .ret (.tup []))
 (.ite (iEq p1_0 2)
 (.call 168 [p0, .int .u8 2, .int .i64 0, .int .i64 0] fun a3 =>
 .ret (.tup []))
 (.ite (iEq p1_0 3)
 (.call 234 [p0, .str p1_1] fun a4 =>
 .asI .i64 a4 fun n5 => .call 168 [p0, .int .u8 3, .int .i64 n5, .int .i64 0] fun a6 =>
 .ret (.tup []))
 (.ite (iEq p1_0 4)
 (.call 234 [p0, .str p1_1] fun a7 =>
 .asI .i64 a7 fun n8 => .call 168 [p0, .int .u8 4, .int .i64 n8, .int .i64 0] fun a9 =>
 .ret (.tup []))
 (.ite (iEq p1_0 5)
 (.call 234 [p0, .str p1_1] fun a10 =>
 .asI .i64 a10 fun n11 => .call 168 [p0, .int .u8 5, .int .i64 n11, .int .i64 0] fun a12 =>
 .ret (.tup []))
 (.ite (iEq p1_0 6)
 (.opt (zba p1_8) fun a13 => .asI .i64 a13 fun n14 => .call 234 [p0, .str p1_1] fun a15 =>
 .asI .i64 a15 fun n16 => .ite (same 10 p1_8 p1_8) (.opt (zba p1_8) fun a17 => .ite (same 10 a17 (.int .i64 n14)) (.call 168 [p0, .int .u8 6, .int .i64 n16, .int .i64 n14] fun a18 =>
 .ret (.tup [])) .fail) .fail)
 (.ite (iEq p1_0 21)
 (.ite (iEq p1_0 21)
 (.call 234 [p0, .str p1_1] fun a19 =>
 .asI .i64 a19 fun n20 => .ite (same 10 (.int .u8 p1_0) (.int .u8 p1_0)) (.ite (same 10 (.int .i64 (zah .i64 p1_0)) (.int .i64 (zah .i64 p1_0))) (.call 168 [p0, .int .u8 8, .int .i64 n20, (.int .i64 (zah .i64 p1_0))] fun a21 =>
 .ret (.tup [])) .fail) .fail)
 (.ite (iEq p1_0 19)
 (.call 168 [p0, .int .u8 7, (.int .i64 (zah .i64 p1_0)), .int .i64 p1_7] fun a22 =>
 .ret (.tup []))
 (.call 168 [p0, .int .u8 7, (.int .i64 (zah .i64 p1_0)), .int .i64 0] fun a23 =>
 .ret (.tup []))))
 (.ite (iEq p1_0 23)
 (.ite (iEq p1_0 23)
 (.call 234 [p0, .str p1_1] fun a24 =>
 .asI .i64 a24 fun n25 => .ite (same 10 (.int .u8 p1_0) (.int .u8 p1_0)) (.ite (same 10 (.int .i64 (zah .i64 p1_0)) (.int .i64 (zah .i64 p1_0))) (.call 168 [p0, .int .u8 8, .int .i64 n25, (.int .i64 (zah .i64 p1_0))] fun a26 =>
 .ret (.tup [])) .fail) .fail)
 (.ite (iEq p1_0 19)
 (.call 168 [p0, .int .u8 7, (.int .i64 (zah .i64 p1_0)), .int .i64 p1_7] fun a27 =>
 .ret (.tup []))
 (.call 168 [p0, .int .u8 7, (.int .i64 (zah .i64 p1_0)), .int .i64 0] fun a28 =>
 .ret (.tup []))))
 (.ite (iEq p1_0 22)
 (.call 234 [p0, .str p1_1] fun a29 =>
 .asI .i64 a29 fun n30 => .ite (same 10 (.int .u8 p1_0) (.int .u8 p1_0)) (.ite (same 10 (.int .i64 (zah .i64 p1_0)) (.int .i64 (zah .i64 p1_0))) (.call 168 [p0, .int .u8 8, .int .i64 n30, (.int .i64 (zah .i64 p1_0))] fun a31 =>
 .ret (.tup [])) .fail) .fail)
 (.ite (iEq p1_0 19)
 (.call 168 [p0, .int .u8 7, (.int .i64 (zah .i64 p1_0)), .int .i64 p1_7] fun a32 =>
 .ret (.tup []))
 (.call 168 [p0, .int .u8 7, (.int .i64 (zah .i64 p1_0)), .int .i64 0] fun a33 =>
 .ret (.tup [])))))))))))
theorem w170 (p0 : zab) (p1_0 : Int) (p1_1 : List Nat) (p1_2 : Int) (p1_3 : Bool) (p1_4 : zab) (p1_5 : Bool) (p1_6 : zab) (p1_7 : Int) (p1_8 : zab) {m : Tr zal} {Q : zaw} (h : wp 170 (t170 p0 p1_0 p1_1 p1_2 p1_3 p1_4 p1_5 p1_6 p1_7 p1_8) m Q) : Wf 170 [p0, .agg [.int .u8 p1_0, .str p1_1, .int .u8 p1_2, .bool p1_3, p1_4, .bool p1_5, p1_6, .int .i64 p1_7, p1_8]] m Q := zbu ok170 (by kernel_rfl) (eqT (by kernel_rfl) h)
def t171 (p0 p1 : zab) : T :=
 .opt (zba p0) fun a0 => .asI .i64 a0 fun n1 => .opt (zba p1) fun a2 => .asI .i64 a2 fun n3 => .ite (!iEq n1 n3)
 (.ret (.bool false))
 (.opt (zba p0) fun a4 => .asI .i64 a4 fun n5 => .jump 2 [p0, p1, .int .i64 n5, .int .i64 0])
theorem w171 (p0 p1 : zab) {m : Tr zal} {Q : zaw} (h : wp 171 (t171 p0 p1) m Q) : Wf 171 [p0, p1] m Q := zbu ok171 (by kernel_rfl) (eqT (by kernel_rfl) h)
def z6d (v0 v1 : zab) (v12 v13 : Int) : T :=
 .ite (iLt v13 v12)
 (.opt (zaf C19 41 v0 (.int .i64 v13)) fun a0 => .light (fun m => zap C19 227 ⟨0, m⟩ a0) fun a1 => .asI .u16 a1 fun n2 => .opt (zaf C19 41 v1 (.int .i64 v13)) fun a3 => .light (fun m => zap C19 227 ⟨0, m⟩ a3) fun a4 => .asI .u16 a4 fun n5 => .ite (!iEq n2 n5)
 (.ret (.bool false))
 (.jump 2 [v0, v1, .int .i64 v12, (.int .i64 (zah .i64 (v13 + 1)))]))
 (.ret (.bool true))
theorem zzfl (v0 v1 : zab) (v12 v13 : Int) {m : Tr zal} {Q : zaw} (h : wp 171 (z6d v0 v1 v12 v13) m Q) : jp 171 2 [v0, v1, .int .i64 v12, .int .i64 v13] m Q := zbp ok171 (by kernel_rfl) h
def t172 (p0_0 : Bool) (p0_1 : zab) (p0_2 : Bool) (p0_3 : zab) : T :=
 .opt (zba p0_1) fun a0 => .asI .i64 a0 fun n1 => .ite (iLt 256 n1)
 (.ret (.bool true))
 (.opt (zba p0_3) fun a2 => .asI .i64 a2 fun n3 => .ret (.bool (iLt 256 n3)))
theorem w172 (p0_0 : Bool) (p0_1 : zab) (p0_2 : Bool) (p0_3 : zab) {m : Tr zal} {Q : zaw} (h : wp 172 (t172 p0_0 p0_1 p0_2 p0_3) m Q) : Wf 172 [.agg [.bool p0_0, p0_1, .bool p0_2, p0_3]] m Q := zbu ok172 (by kernel_rfl) (eqT (by kernel_rfl) h)
def t173 (p0_0 : Bool) (p0_1 : zab) : T :=
 .opt (zba p0_1) fun a0 => .asI .i64 a0 fun n1 => .ite (iEq n1 0)
 (.ret (.bool (!p0_0)))
 (.ite (iLe n1 1024)
 (.opt (zaf C19 41 p0_1 (.int .i64 (zah .i64 (n1 - 1)))) fun a2 => .light (fun m => zap C19 227 ⟨0, m⟩ a2) fun a3 => .asI .u16 a3 fun n4 => .ret (.bool (!iEq n4 0)))
 (.ret (.bool false)))
theorem w173 (p0_0 : Bool) (p0_1 : zab) {m : Tr zal} {Q : zaw} (h : wp 173 (t173 p0_0 p0_1) m Q) : Wf 173 [.agg [.bool p0_0, p0_1]] m Q := zbu ok173 (by kernel_rfl) (eqT (by kernel_rfl) h)
def t174 (p0_0 : Bool) (p0_1 : zab) (p0_2 : Bool) (p0_3 : zab) : T :=
 .call 175 [.agg [.bool p0_2, p0_3]] fun a0 =>
 .asB a0 fun b1 => .ret (.bool b1)
theorem w174 (p0_0 : Bool) (p0_1 : zab) (p0_2 : Bool) (p0_3 : zab) {m : Tr zal} {Q : zaw} (h : wp 174 (t174 p0_0 p0_1 p0_2 p0_3) m Q) : Wf 174 [.agg [.bool p0_0, p0_1, .bool p0_2, p0_3]] m Q := zbu ok174 (by kernel_rfl) (eqT (by kernel_rfl) h)
def t175 (p0_0 : Bool) (p0_1 : zab) : T :=
 .ite (!p0_0)
 (.opt (zba p0_1) fun a0 => .asI .i64 a0 fun n1 => .ite (iEq n1 1)
 (.opt (zaf C19 41 p0_1 (.int .i64 0)) fun a2 => .light (fun m => zap C19 227 ⟨0, m⟩ a2) fun a3 => .asI .u16 a3 fun n4 => .ret (.bool (iEq n4 1)))
 (.ret (.bool false)))
 (.ret (.bool false))
theorem w175 (p0_0 : Bool) (p0_1 : zab) {m : Tr zal} {Q : zaw} (h : wp 175 (t175 p0_0 p0_1) m Q) : Wf 175 [.agg [.bool p0_0, p0_1]] m Q := zbu ok175 (by kernel_rfl) (eqT (by kernel_rfl) h)
def t176 (p0_0 : Bool) (p0_1 : zab) (p1_0 : Bool) (p1_1 : zab) : T :=
 .call 235 [.agg [.bool p0_0, p0_1], .agg [.bool p1_0, p1_1]] fun a0 =>
 .opt (zas 0 a0) fun a1 => .asG [.bool false, .nilslice] a1 fun X2 =>
 .opt (zas 1 a0) fun a3 => .asI .i64 a3 fun n4 => .ite (zeb zab.one [(.bool (X2.b 0)), (X2.v 1)]) (.ite (zeb zab.one [(.bool (X2.b 0)), (X2.v 1)]) (.ret (.agg [(.bool (X2.b 0)), (X2.v 1)])) .fail) .fail
theorem w176 (p0_0 : Bool) (p0_1 : zab) (p1_0 : Bool) (p1_1 : zab) {m : Tr zal} {Q : zaw} (h : wp 176 (t176 p0_0 p0_1 p1_0 p1_1) m Q) : Wf 176 [.agg [.bool p0_0, p0_1], .agg [.bool p1_0, p1_1]] m Q := zbu ok176 (by kernel_rfl) (eqT (by kernel_rfl) h)
def t181 (p0 : Int) : T :=
 .ite (iEq p0 1)
 (.ite (iEq p0 1)
 (.ret (.tup [.int .i64 0, .int .i64 0]))
 (.ite (iEq p0 5)
 (.ret (.tup [.int .i64 1, .int .i64 1]))
 (.ite (iEq p0 6)
 (.ret (.tup [.int .i64 1, .int .i64 2]))
 (.ite (iEq p0 15)
 (.ite (iEq p0 15)
 (.ret (.tup [.int .i64 2, .int .i64 2]))
 (.ite (iEq p0 18)
 (.ret (.tup [.int .i64 3, .int .i64 3]))
 (.ite (iLe 27 (zah .i64 p0))
 (.ret (.tup [.int .i64 1, .int .i64 0]))
 (.opt (zaf C19 273 (.ptr 0 0) (.int .u8 p0)) fun a0 => .light (fun m => zap C19 9 ⟨0, m⟩ a0) fun a1 => .asS a1 fun s2 => .ite (zjx s2 [])
 (.ret (.tup [.int .i64 1, .int .i64 0]))
 (.opt (zaf C19 273 (.ptr 0 0) (.int .u8 p0)) fun a3 => .light (fun m => zap C19 9 ⟨0, m⟩ a3) fun a4 => .asS a4 fun s5 => .call 238 [.str s5, .str [32]] fun a6 =>
 .opt (zas 0 a6) fun a7 => .asS a7 fun s8 => .opt (zas 1 a6) fun a9 => .asS a9 fun s10 => .opt (zas 2 a6) fun a11 => .asB a11 fun b12 => .ret (.tup [(.int .i64 (Int.ofNat (zbw s8))), (.int .i64 (Int.ofNat (zbw s8)))]))))))
 (.ite (iEq p0 16)
 (.ret (.tup [.int .i64 2, .int .i64 2]))
 (.ite (iEq p0 18)
 (.ret (.tup [.int .i64 3, .int .i64 3]))
 (.ite (iLe 27 (zah .i64 p0))
 (.ret (.tup [.int .i64 1, .int .i64 0]))
 (.opt (zaf C19 273 (.ptr 0 0) (.int .u8 p0)) fun a13 => .light (fun m => zap C19 9 ⟨0, m⟩ a13) fun a14 => .asS a14 fun s15 => .ite (zjx s15 [])
 (.ret (.tup [.int .i64 1, .int .i64 0]))
 (.opt (zaf C19 273 (.ptr 0 0) (.int .u8 p0)) fun a16 => .light (fun m => zap C19 9 ⟨0, m⟩ a16) fun a17 => .asS a17 fun s18 => .call 238 [.str s18, .str [32]] fun a19 =>
 .opt (zas 0 a19) fun a20 => .asS a20 fun s21 => .opt (zas 1 a19) fun a22 => .asS a22 fun s23 => .opt (zas 2 a19) fun a24 => .asB a24 fun b25 => .ret (.tup [(.int .i64 (Int.ofNat (zbw s21))), (.int .i64 (Int.ofNat (zbw s21)))]))))))))))
 (.ite (iEq p0 2)
 (.ret (.tup [.int .i64 0, .int .i64 0]))
 (.ite (iEq p0 5)
 (.ret (.tup [.int .i64 1, .int .i64 1]))
 (.ite (iEq p0 6)
 (.ret (.tup [.int .i64 1, .int .i64 2]))
 (.ite (iEq p0 15)
 (.ite (iEq p0 15)
 (.ret (.tup [.int .i64 2, .int .i64 2]))
 (.ite (iEq p0 18)
 (.ret (.tup [.int .i64 3, .int .i64 3]))
 (.ite (iLe 27 (zah .i64 p0))
 (.ret (.tup [.int .i64 1, .int .i64 0]))
 (.opt (zaf C19 273 (.ptr 0 0) (.int .u8 p0)) fun a26 => .light (fun m => zap C19 9 ⟨0, m⟩ a26) fun a27 => .asS a27 fun s28 => .ite (zjx s28 [])
 (.ret (.tup [.int .i64 1, .int .i64 0]))
 (.opt (zaf C19 273 (.ptr 0 0) (.int .u8 p0)) fun a29 => .light (fun m => zap C19 9 ⟨0, m⟩ a29) fun a30 => .asS a30 fun s31 => .call 238 [.str s31, .str [32]] fun a32 =>
 .opt (zas 0 a32) fun a33 => .asS a33 fun s34 => .opt (zas 1 a32) fun a35 => .asS a35 fun s36 => .opt (zas 2 a32) fun a37 => .asB a37 fun b38 => .ret (.tup [(.int .i64 (Int.ofNat (zbw s34))), (.int .i64 (Int.ofNat (zbw s34)))]))))))
 (.ite (iEq p0 16)
 (.ret (.tup [.int .i64 2, .int .i64 2]))
 (.ite (iEq p0 18)
 (.ret (.tup [.int .i64 3, .int .i64 3]))
 (.ite (iLe 27 (zah .i64 p0))
 (.ret (.tup [.int .i64 1, .int .i64 0]))
 (.opt (zaf C19 273 (.ptr 0 0) (.int .u8 p0)) fun a39 => .light (fun m => zap C19 9 ⟨0, m⟩ a39) fun a40 => .asS a40 fun s41 => .ite (zjx s41 [])
 (.ret (.tup [.int .i64 1, .int .i64 0]))
 (.opt (zaf C19 273 (.ptr 0 0) (.int .u8 p0)) fun a42 => .light (fun m => zap C19 9 ⟨0, m⟩ a42) fun a43 => .asS a43 fun s44 => .call 238 [.str s44, .str [32]] fun a45 =>
 .opt (zas 0 a45) fun a46 => .asS a46 fun s47 => .opt (zas 1 a45) fun a48 => .asS a48 fun s49 => .opt (zas 2 a45) fun a50 => .asB a50 fun b51 => .ret (.tup [(.int .i64 (Int.ofNat (zbw s47))), (.int .i64 (Int.ofNat (zbw s47)))]))))))))))
theorem w181 (p0 : Int) {m : Tr zal} {Q : zaw} (h : wp 181 (t181 p0) m Q) : Wf 181 [.int .u8 p0] m Q := zbu ok181 (by kernel_rfl) (eqT (by kernel_rfl) h)
def t183 (p0 : zab) : T :=
 .opt (zba p0) fun a0 => .asI .i64 a0 fun n1 => .jump 2 [.int .i64 0, p0, .int .i64 n1, .int .i64 0]
theorem w183 (p0 : zab) {m : Tr zal} {Q : zaw} (h : wp 183 (t183 p0) m Q) : Wf 183 [p0] m Q := zbu ok183 (by kernel_rfl) (eqT (by kernel_rfl) h)
def z6c (v3 : Int) (v6 : zab) (v7 v8 : Int) : T :=
 .ite (iLt v8 v7)
 (.opt (zaf C19 105 v6 (.int .i64 v8)) fun a0 => .light (fun m => zap C19 3 ⟨0, m⟩ a0) fun a1 => .asI .i64 a1 fun n2 => .ite (!iEq n2 v3)
 (.ret (.int .i64 n2))
 (.jump 2 [.int .i64 v3, v6, .int .i64 v7, (.int .i64 (zah .i64 (v8 + 1)))]))
 (.ret (.int .i64 v3))
theorem zzfk (v3 : Int) (v6 : zab) (v7 v8 : Int) {m : Tr zal} {Q : zaw} (h : wp 183 (z6c v3 v6 v7 v8) m Q) : jp 183 2 [.int .i64 v3, v6, .int .i64 v7, .int .i64 v8] m Q := zbp ok183 (by kernel_rfl) h
def t184 (p0 p1 : Int) : T :=
 .call 240 [.int .i64 p0] fun a0 =>
 .asB a0 fun b1 => .call 240 [.int .i64 p1] fun a2 =>
 .asB a2 fun b3 => .ite b1
 (.ite b3
 (.ret (.int .i64 0))
 (.ret (.int .i64 (-1))))
 (.ite b3
 (.ret (.int .i64 1))
 (.ite (iLt p0 p1)
 (.ret (.int .i64 (-1)))
 (.ite (iLt p1 p0)
 (.ret (.int .i64 1))
 (.ret (.int .i64 0)))))
theorem w184 (p0 p1 : Int) {m : Tr zal} {Q : zaw} (h : wp 184 (t184 p0 p1) m Q) : Wf 184 [.int .i64 p0, .int .i64 p1] m Q := zbu ok184 (by kernel_rfl) (eqT (by kernel_rfl) h)
def t185 (p0 p1 : zab) : T :=
 .opt (zba p0) fun a0 => .asI .i64 a0 fun n1 => .jump 2 [p0, p1, .int .i64 n1, .int .i64 0]
theorem w185 (p0 p1 : zab) {m : Tr zal} {Q : zaw} (h : wp 185 (t185 p0 p1) m Q) : Wf 185 [p0, p1] m Q := zbu ok185 (by kernel_rfl) (eqT (by kernel_rfl) h)
def z6b (v0 v1 : zab) (v7 v8 : Int) : T :=
 .ite (iLt v8 v7)
 (.opt (zaf C19 80 v0 (.int .i64 v8)) fun a0 => .light (fun m => zap C19 85 ⟨0, m⟩ a0) fun a1 => .asG [.int .i64 0, .int .i64 0, .int .i64 0, .bool false, .nilslice, .bool false, .nilslice] a1 fun X2 =>
 .callv v1 [(.agg [(.int .i64 (X2.i 0)), (.int .i64 (X2.i 1)), (.int .i64 (X2.i 2)), (.bool (X2.b 3)), (X2.v 4), (.bool (X2.b 5)), (X2.v 6)])] fun a3 =>
 .asB a3 fun b4 => .ite b4
 (.ret (.int .i64 v8))
 (.jump 2 [v0, v1, .int .i64 v7, (.int .i64 (zah .i64 (v8 + 1)))]))
 (.ret (.int .i64 (-1)))
theorem zzfj (v0 v1 : zab) (v7 v8 : Int) {m : Tr zal} {Q : zaw} (h : wp 185 (z6b v0 v1 v7 v8) m Q) : jp 185 2 [v0, v1, .int .i64 v7, .int .i64 v8] m Q := zbp ok185 (by kernel_rfl) h
def t232 (w0 w1 : zab) : T :=
 .light (fun m => zap C19 106 ⟨0, m⟩ w0) fun a0 => .opt (zrn a0) fun a1 => .opt (zaj C19 109 3 a1) fun a2 => .light (fun m => zap C19 37 ⟨0, m⟩ a2) fun a3 => .light (fun m => zap C19 3 ⟨0, m⟩ w1) fun a4 => .asI .i64 a4 fun n5 => .light (fun m => zap C19 106 ⟨0, m⟩ w0) fun a6 => .opt (zrn a6) fun a7 => .opt (zaj C19 109 3 a7) fun a8 => .light (fun m => zap C19 37 ⟨0, m⟩ a8) fun a9 => .opt (zba a9) fun a10 => .asI .i64 a10 fun n11 => .opt (zaf C19 37 a3 (.int .i64 n5)) fun a12 => .opt (zaj C19 54 1 a12) fun a13 => .heavy (zb3 C19 3 a13 (.int .i64 n11)) fun _ =>
 .ret (.tup [])
theorem w232 (w0 w1 : zab) {m : Tr zal} {Q : zaw} (h : wp 232 (t232 w0 w1) m Q) : Wf 232 [w0, w1] m Q := zbu ok232 (by kernel_rfl) (eqT (by kernel_rfl) h)
def t233 (p0 : zab) (p1_0 : Int) (p1_1 : Bool) (p1_2 : zab) (p1_3 : Bool) (p1_4 : zab) (p1_5 : Int) : T :=
 .opt (zrn p0) fun a0 => .opt (zaj C19 109 0 a0) fun a1 => .opt (zaj C19 34 2 a1) fun a2 => .light (fun m => zap C19 31 ⟨0, m⟩ a2) fun a3 => .opt (zrn p0) fun a4 => .opt (zaj C19 109 2 a4) fun a5 => .light (fun m => zap C19 107 ⟨0, m⟩ a5) fun a6 => .call 276 [.agg [.int .u8 p1_0, .bool p1_1, p1_2, .bool p1_3, p1_4, .int .i64 p1_5]] fun a7 =>
 .asS a7 fun s8 => .light (fun m => zap C19 31 ⟨0, m⟩ a2) fun a9 => .ite (same 10 a9 a3) (.light (fun m => zap C19 107 ⟨0, m⟩ a5) fun a10 => .ite (same 10 a10 a6) (.ite (same 10 (.agg [.int .u8 p1_0, .bool p1_1, p1_2, .bool p1_3, p1_4, .int .i64 p1_5]) (.agg [.int .u8 p1_0, .bool p1_1, p1_2, .bool p1_3, p1_4, .int .i64 p1_5])) (.call 102 [.agg [.int .u8 p1_0, .bool p1_1, p1_2, .bool p1_3, p1_4, .int .i64 p1_5]] fun a11 =>
 .asG [.int .u8 0, .bool false, .nilslice, .bool false, .nilslice, .int .i64 0] a11 fun X12 =>
 .light (fun m => zap C19 31 ⟨0, m⟩ a2) fun a13 => .ite (same 10 a13 a3) (.light (fun m => zap C19 107 ⟨0, m⟩ a5) fun a14 => .ite (same 10 a14 a6) (.call 275 [a3, a6, .str s8, (.agg [(.int .u8 (X12.i 0)), (.bool (X12.b 1)), (X12.v 2), (.bool (X12.b 3)), (X12.v 4), (.int .i64 (X12.i 5))])] fun a15 =>
 .opt (zas 0 a15) fun a16 => .opt (zas 1 a15) fun a17 => .asI .i64 a17 fun n18 => .opt (zrn p0) fun a19 => .opt (zaj C19 109 0 a19) fun a20 => .opt (zaj C19 34 2 a20) fun a21 => .heavy (zb3 C19 31 a21 a16) fun _ =>
 .ret (.int .i64 n18)) .fail) .fail) .fail) .fail) .fail
theorem w233 (p0 : zab) (p1_0 : Int) (p1_1 : Bool) (p1_2 : zab) (p1_3 : Bool) (p1_4 : zab) (p1_5 : Int) {m : Tr zal} {Q : zaw} (h : wp 233 (t233 p0 p1_0 p1_1 p1_2 p1_3 p1_4 p1_5) m Q) : Wf 233 [p0, .agg [.int .u8 p1_0, .bool p1_1, p1_2, .bool p1_3, p1_4, .int .i64 p1_5]] m Q := zbu ok233 (by kernel_rfl) (eqT (by kernel_rfl) h)
def t234 (p0 : zab) (p1 : List Nat) : T :=
 .opt (zrn p0) fun a0 => .opt (zaj C19 109 0 a0) fun a1 => .opt (zaj C19 34 1 a1) fun a2 => .light (fun m => zap C19 30 ⟨0, m⟩ a2) fun a3 => .opt (zrn p0) fun a4 => .opt (zaj C19 109 1 a4) fun a5 => .light (fun m => zap C19 107 ⟨0, m⟩ a5) fun a6 => .call 277 [a3, a6, .str p1, .str p1] fun a7 =>
 .opt (zas 0 a7) fun a8 => .opt (zas 1 a7) fun a9 => .asI .i64 a9 fun n10 => .opt (zrn p0) fun a11 => .opt (zaj C19 109 0 a11) fun a12 => .opt (zaj C19 34 1 a12) fun a13 => .heavy (zb3 C19 30 a13 a8) fun _ =>
 .ret (.int .i64 n10)
theorem w234 (p0 : zab) (p1 : List Nat) {m : Tr zal} {Q : zaw} (h : wp 234 (t234 p0 p1) m Q) : Wf 234 [p0, .str p1] m Q := zbu ok234 (by kernel_rfl) (eqT (by kernel_rfl) h)
def t235 (p0_0 : Bool) (p0_1 : zab) (p1_0 : Bool) (p1_1 : zab) : T :=
 .heavy (za0 C19 326 2 [(0, (.agg [.bool p0_0, p0_1])), (1, (.agg [.bool p1_0, p1_1]))]) fun a0 =>
 .call 278 [a0] fun a1 =>
 .asB a1 fun b2 => .ite (!b2)
 (.ite true (.ite true (.ret (.tup [.agg [.bool false, .nilslice], .int .i64 2])) .fail) .fail)
 (.call 281 [p0_1] fun a3 =>
 .ite (same 10 p1_1 p1_1) (.call 281 [p1_1] fun a4 =>
 .call 280 [a3, a4] fun a5 =>
 .call 279 [.bool false, a5] fun a6 =>
 .asG [.bool false, .nilslice] a6 fun X7 =>
 .ite (zeb zab.one [(.bool (X7.b 0)), (X7.v 1)]) (.ret (.tup [(.agg [(.bool (X7.b 0)), (X7.v 1)]), .int .i64 0])) .fail) .fail)
theorem w235 (p0_0 : Bool) (p0_1 : zab) (p1_0 : Bool) (p1_1 : zab) {m : Tr zal} {Q : zaw} (h : wp 235 (t235 p0_0 p0_1 p1_0 p1_1) m Q) : Wf 235 [.agg [.bool p0_0, p0_1], .agg [.bool p1_0, p1_1]] m Q := zbu ok235 (by kernel_rfl) (eqT (by kernel_rfl) h)
def t240 (p0 : Int) : T :=
 .ret (.bool (!iEq p0 p0))
theorem w240 (p0 : Int) {m : Tr zal} {Q : zaw} (h : wp 240 (t240 p0) m Q) : Wf 240 [.int .i64 p0] m Q := zbu ok240 (by kernel_rfl) (eqT (by kernel_rfl) h)
def t246 (p0 : Bool) : T :=
 .call 287 [.bool p0] fun a0 =>
 .asS a0 fun s1 => .ret (.str s1)
theorem w246 (p0 : Bool) {m : Tr zal} {Q : zaw} (h : wp 246 (t246 p0) m Q) : Wf 246 [.bool p0] m Q := zbu ok246 (by kernel_rfl) (eqT (by kernel_rfl) h)
def t275 (p0 p1 : zab) (p2 : List Nat) (p3_0 : Int) (p3_1 : Bool) (p3_2 : zab) (p3_3 : Bool) (p3_4 : zab) (p3_5 : Int) : T :=
 .light (fun m => zia C19 107 ⟨0, m⟩ p1 (.str p2) true) fun a0 => .opt (zas 0 a0) fun a1 => .asI .i64 a1 fun n2 => .opt (zas 1 a0) fun a3 => .asB a3 fun b4 => .ite (!b4)
 (.opt (zba p0) fun a5 => .asI .i64 a5 fun n6 => .heavy (zj4 C19 107 p1 (.str p2) (.int .i64 n6)) fun _ =>
 .heavy (za0 C19 31 1 [(0, (.agg [.int .u8 p3_0, .bool p3_1, p3_2, .bool p3_3, p3_4, .int .i64 p3_5]))]) fun a7 =>
 .heavy (zbn C19 31 31 p0 a7) fun a8 =>
 .ret (.tup [a8, .int .i64 n6]))
 (.ret (.tup [p0, .int .i64 n2]))
theorem w275 (p0 p1 : zab) (p2 : List Nat) (p3_0 : Int) (p3_1 : Bool) (p3_2 : zab) (p3_3 : Bool) (p3_4 : zab) (p3_5 : Int) {m : Tr zal} {Q : zaw} (h : wp 275 (t275 p0 p1 p2 p3_0 p3_1 p3_2 p3_3 p3_4 p3_5) m Q) : Wf 275 [p0, p1, .str p2, .agg [.int .u8 p3_0, .bool p3_1, p3_2, .bool p3_3, p3_4, .int .i64 p3_5]] m Q := zbu ok275 (by kernel_rfl) (eqT (by kernel_rfl) h)
def t276 (p0_0 : Int) (p0_1 : Bool) (p0_2 : zab) (p0_3 : Bool) (p0_4 : zab) (p0_5 : Int) : T :=
 .call 291 [(.int .i64 (zah .i64 p0_0))] fun a0 =>
 .asS a0 fun s1 => .ite (same 10 (.int .i64 p0_5) (.int .i64 p0_5)) (.opt (z6q s1 [44]) fun a2 => .asS a2 fun s3 => .call 291 [.int .i64 p0_5] fun a4 =>
 .asS a4 fun s5 => .opt (z6q s3 s5) fun a6 => .asS a6 fun s7 => .ite true (.jump 2 [.str s7, .agg [.bool p0_1, p0_2, .bool p0_3, p0_4], .int .i64 0]) .fail) .fail
theorem w276 (p0_0 : Int) (p0_1 : Bool) (p0_2 : zab) (p0_3 : Bool) (p0_4 : zab) (p0_5 : Int) {m : Tr zal} {Q : zaw} (h : wp 276 (t276 p0_0 p0_1 p0_2 p0_3 p0_4 p0_5) m Q) : Wf 276 [.agg [.int .u8 p0_0, .bool p0_1, p0_2, .bool p0_3, p0_4, .int .i64 p0_5]] m Q := zbu zzg2 (by kernel_rfl) (eqT (by kernel_rfl) h)
def z6a (v3 : List Nat) (v24_0 : Bool) (v24_1 : zab) (v24_2 : Bool) (v24_3 : zab) (v25 : Int) : T :=
 .ite (iLt v25 2)
 (.opt (zjq C19 325 (.agg [.bool v24_0, v24_1, .bool v24_2, v24_3]) (.int .i64 v25)) fun a0 => .asG [.bool false, .nilslice] a0 fun X1 =>
 .ite (zeb zab.one [(.bool (X1.b 0)), (X1.v 1)]) (.opt (zba (X1.v 1)) fun a2 => .asI .i64 a2 fun n3 => .heavy (zch C19 188 (.int .i64 0) (.int .i64 (zah .i64 ((zah .i64 (2 * n3)) + 1)))) fun a4 =>
 .opt (zba (X1.v 1)) fun a5 => .asI .i64 a5 fun n6 => .jump 6 [.str v3, a4, .agg [.bool v24_0, v24_1, .bool v24_2, v24_3], .int .i64 v25, (X1.v 1), .int .i64 n6, .int .i64 0, (.bool (X1.b 0)), (X1.v 1)]) .fail)
 (.ret (.str v3))
theorem zzfi (v3 : List Nat) (v24_0 : Bool) (v24_1 : zab) (v24_2 : Bool) (v24_3 : zab) (v25 : Int) {m : Tr zal} {Q : zaw} (h : wp 276 (z6a v3 v24_0 v24_1 v24_2 v24_3 v25) m Q) : jp 276 2 [.str v3, .agg [.bool v24_0, v24_1, .bool v24_2, v24_3], .int .i64 v25] m Q := zbp zzg2 (by kernel_rfl) h
def z58 (v3 : List Nat) (v6 : zab) (v24_0 : Bool) (v24_1 : zab) (v24_2 : Bool) (v24_3 : zab) (v25 : Int) (v35 : zab) (v36 v37 : Int) (c5_0 : Bool) (c5_1 : zab) : T :=
 .ite (iLt v37 v36)
 (.opt (zaf C19 41 v35 (.int .i64 v37)) fun a0 => .light (fun m => zap C19 227 ⟨0, m⟩ a0) fun a1 => .asI .u16 a1 fun n2 => .heavy (za0 C19 188 2 [(0, (.int .u8 (zah .u8 (Int.fdiv n2 256)))), (1, (.int .u8 (zah .u8 n2)))]) fun a3 =>
 .heavy (zbn C19 188 188 v6 a3) fun a4 =>
 .jump 6 [.str v3, a4, .agg [.bool v24_0, v24_1, .bool v24_2, v24_3], .int .i64 v25, v35, .int .i64 v36, (.int .i64 (zah .i64 (v37 + 1))), .bool c5_0, c5_1])
 (.opt (zba v6) fun a5 => .asI .i64 a5 fun n6 => .light (fun m => zl6 C19 188 9 ⟨0, m⟩ v6) fun a7 => .asS a7 fun s8 => .call 246 [.bool c5_0] fun a9 =>
 .asS a9 fun s10 => .opt (zba v6) fun a11 => .ite (same 10 a11 (.int .i64 n6)) (.light (fun m => zl6 C19 188 9 ⟨0, m⟩ v6) fun a12 => .ite (same 10 a12 (.str s8)) (.opt (z6q [44] s10) fun a13 => .asS a13 fun s14 => .call 291 [.int .i64 n6] fun a15 =>
 .asS a15 fun s16 => .light (fun m => zl6 C19 188 9 ⟨0, m⟩ v6) fun a17 => .ite (same 10 a17 (.str s8)) (.opt (z6q s14 s16) fun a18 => .asS a18 fun s19 => .opt (z6q s19 [44]) fun a20 => .asS a20 fun s21 => .opt (z6q s21 s8) fun a22 => .asS a22 fun s23 => .opt (z6q v3 s23) fun a24 => .asS a24 fun s25 => .jump 2 [.str s25, .agg [.bool v24_0, v24_1, .bool v24_2, v24_3], (.int .i64 (zah .i64 (v25 + 1)))]) .fail) .fail) .fail)
theorem zzfh (v3 : List Nat) (v6 : zab) (v24_0 : Bool) (v24_1 : zab) (v24_2 : Bool) (v24_3 : zab) (v25 : Int) (v35 : zab) (v36 v37 : Int) (c5_0 : Bool) (c5_1 : zab) {m : Tr zal} {Q : zaw} (h : wp 276 (z58 v3 v6 v24_0 v24_1 v24_2 v24_3 v25 v35 v36 v37 c5_0 c5_1) m Q) : jp 276 6 [.str v3, v6, .agg [.bool v24_0, v24_1, .bool v24_2, v24_3], .int .i64 v25, v35, .int .i64 v36, .int .i64 v37, .bool c5_0, c5_1] m Q := zbp zzg2 (by kernel_rfl) h
def t277 (p0 p1 : zab) (p2 p3 : List Nat) : T :=
 .light (fun m => zia C19 107 ⟨0, m⟩ p1 (.str p2) true) fun a0 => .opt (zas 0 a0) fun a1 => .asI .i64 a1 fun n2 => .opt (zas 1 a0) fun a3 => .asB a3 fun b4 => .ite (!b4)
 (.opt (zba p0) fun a5 => .asI .i64 a5 fun n6 => .heavy (zj4 C19 107 p1 (.str p2) (.int .i64 n6)) fun _ =>
 .heavy (za0 C19 30 1 [(0, (.str p3))]) fun a7 =>
 .heavy (zbn C19 30 30 p0 a7) fun a8 =>
 .ret (.tup [a8, .int .i64 n6]))
 (.ret (.tup [p0, .int .i64 n2]))
theorem w277 (p0 p1 : zab) (p2 p3 : List Nat) {m : Tr zal} {Q : zaw} (h : wp 277 (t277 p0 p1 p2 p3) m Q) : Wf 277 [p0, p1, .str p2, .str p3] m Q := zbu ok277 (by kernel_rfl) (eqT (by kernel_rfl) h)
def t278 (p0 : zab) : T :=
 .opt (zba p0) fun a0 => .asI .i64 a0 fun n1 => .jump 2 [p0, .int .i64 n1, .int .i64 0]
theorem w278 (p0 : zab) {m : Tr zal} {Q : zaw} (h : wp 278 (t278 p0) m Q) : Wf 278 [p0] m Q := zbu ok278 (by kernel_rfl) (eqT (by kernel_rfl) h)
def z57 (v5 : zab) (v6 v7 : Int) : T :=
 .ite (iLt v7 v6)
 (.opt (zaf C19 326 v5 (.int .i64 v7)) fun a0 => .light (fun m => zap C19 43 ⟨0, m⟩ a0) fun a1 => .asG [.bool false, .nilslice] a1 fun X2 =>
 .ite (zeb zab.one [(.bool (X2.b 0)), (X2.v 1)]) (.call 173 [(.agg [(.bool (X2.b 0)), (X2.v 1)])] fun a3 =>
 .asB a3 fun b4 => .ite (!b4)
 (.ret (.bool false))
 (.jump 2 [v5, .int .i64 v6, (.int .i64 (zah .i64 (v7 + 1)))])) .fail)
 (.ret (.bool true))
theorem zzfg (v5 : zab) (v6 v7 : Int) {m : Tr zal} {Q : zaw} (h : wp 278 (z57 v5 v6 v7) m Q) : jp 278 2 [v5, .int .i64 v6, .int .i64 v7] m Q := zbp ok278 (by kernel_rfl) h
def t279 (p0 : Bool) (p1 : zab) : T :=
 .call 313 [p1] fun a0 =>
 .opt (zba a0) fun a1 => .asI .i64 a1 fun n2 => .ite (iEq n2 0)
 (.ite true (.ite true (.ret (.agg [.bool false, .nilslice])) .fail) .fail)
 (.opt (zba a0) fun a3 => .asI .i64 a3 fun n4 => .heavy (zch C19 41 (.int .i64 (zah .i64 (2 * n4))) (.int .i64 (zah .i64 (2 * n4)))) fun a5 =>
 .opt (zba a0) fun a6 => .asI .i64 a6 fun n7 => .jump 2 [.bool p0, a5, a0, .int .i64 n7, .int .i64 0, .bool false, .nilslice])
theorem w279 (p0 : Bool) (p1 : zab) {m : Tr zal} {Q : zaw} (h : wp 279 (t279 p0 p1) m Q) : Wf 279 [.bool p0, p1] m Q := zbu ok279 (by kernel_rfl) (eqT (by kernel_rfl) h)
def z56 (v0 : Bool) (v5 v18 : zab) (v19 v20 : Int) (c4_0 : Bool) (c4_1 : zab) : T :=
 .ite (iLt v20 v19)
 (.opt (zaf C19 305 v18 (.int .i64 v20)) fun a0 => .light (fun m => zap C19 328 ⟨0, m⟩ a0) fun a1 => .asI .u32 a1 fun n2 => .opt (zaf C19 41 v5 (.int .i64 (zah .i64 (2 * v20)))) fun a3 => .heavy (zb3 C19 227 a3 (.int .u16 (zah .u16 n2))) fun _ =>
 .opt (zaf C19 41 v5 (.int .i64 (zah .i64 ((zah .i64 (2 * v20)) + 1)))) fun a4 => .heavy (zb3 C19 227 a4 (.int .u16 (zah .u16 (Int.fdiv n2 65536)))) fun _ =>
 .jump 2 [.bool v0, v5, v18, .int .i64 v19, (.int .i64 (zah .i64 (v20 + 1))), .bool c4_0, c4_1])
 (.opt (zba v5) fun a5 => .asI .i64 a5 fun n6 => .opt (zaf C19 41 v5 (.int .i64 (zah .i64 (n6 - 1)))) fun a7 => .light (fun m => zap C19 227 ⟨0, m⟩ a7) fun a8 => .asI .u16 a8 fun n9 => .ite (iEq n9 0)
 (.opt (zba v5) fun a10 => .asI .i64 a10 fun n11 => .light (fun m => zen C19 41 ⟨0, m⟩ v5 none (some (.int .i64 (zah .i64 (n11 - 1))))) fun a12 => .ite (zeb zab.one [.bool v0, a12]) (.ite (zeb zab.one [.bool v0, a12]) (.ret (.agg [.bool v0, a12])) .fail) .fail)
 (.ite (zeb zab.one [.bool v0, v5]) (.ite (zeb zab.one [.bool v0, v5]) (.ret (.agg [.bool v0, v5])) .fail) .fail))
theorem zzff (v0 : Bool) (v5 v18 : zab) (v19 v20 : Int) (c4_0 : Bool) (c4_1 : zab) {m : Tr zal} {Q : zaw} (h : wp 279 (z56 v0 v5 v18 v19 v20 c4_0 c4_1) m Q) : jp 279 2 [.bool v0, v5, v18, .int .i64 v19, .int .i64 v20, .bool c4_0, c4_1] m Q := zbp ok279 (by kernel_rfl) h
def t280 (p0 p1 : zab) : T :=
 .call 314 [p0, p1] fun a0 =>
 .asI .i64 a0 fun n1 => .ite (iLt n1 0)
 (.jump 2 [p1, p0])
 (.jump 2 [p0, p1])
theorem w280 (p0 p1 : zab) {m : Tr zal} {Q : zaw} (h : wp 280 (t280 p0 p1) m Q) : Wf 280 [p0, p1] m Q := zbu zzcc (by kernel_rfl) (eqT (by kernel_rfl) h)
def zzej (v0 v1 : zab) : T :=
 .opt (zba v1) fun a0 => .asI .i64 a0 fun n1 => .ite (iLt 2 n1)
 (.call 315 [v0, v1] fun a2 =>
 .asG [.int .u64 0, .int .u64 0, .int .u64 0, .int .u64 0, .bool false] a2 fun X3 =>
 .ite true (.ite (iEq (X3.i 2) 0)
 (.call 316 [v0, v1] fun a4 =>
 .opt (zas 0 a4) fun a5 => .opt (zas 1 a4) fun a6 => .jump 2 [v1, a6])
 (.ite (X3.b 4)
 (.call 317 [(.int .u64 (X3.i 0)), v0, (.int .u64 (X3.i 2)), v1] fun a7 =>
 .ite (same 10 (.int .u64 (X3.i 3)) (.int .u64 (X3.i 3))) (.ite (same 10 (.int .u64 (X3.i 1)) (.int .u64 (X3.i 1))) (.call 317 [(.int .u64 (X3.i 3)), v1, (.int .u64 (X3.i 1)), v0] fun a8 =>
 .jump 2 [a7, a8]) .fail) .fail)
 (.call 317 [(.int .u64 (X3.i 2)), v1, (.int .u64 (X3.i 0)), v0] fun a9 =>
 .ite (same 10 (.int .u64 (X3.i 1)) (.int .u64 (X3.i 1))) (.ite (same 10 (.int .u64 (X3.i 3)) (.int .u64 (X3.i 3))) (.call 317 [(.int .u64 (X3.i 1)), v0, (.int .u64 (X3.i 3)), v1] fun a10 =>
 .jump 2 [a9, a10]) .fail) .fail))) .fail)
 (.opt (zba v1) fun a11 => .asI .i64 a11 fun n12 => .ite (iEq n12 0)
 (.ret v0)
 (.opt (zba v0) fun a13 => .asI .i64 a13 fun n14 => .ite (iLt 2 n14)
 (.call 316 [v0, v1] fun a15 =>
 .opt (zas 0 a15) fun a16 => .opt (zas 1 a15) fun a17 => .jump 33 [v1, a17])
 (.jump 33 [v0, v1])))
theorem j280_2 (v0 v1 : zab) {m : Tr zal} {Q : zaw} (h : wp 280 (zzej v0 v1) m Q) : jp 280 2 [v0, v1] m Q := zbp zzcc (by kernel_rfl) h
def z55 (v0 v1 : zab) : T :=
 .call 318 [v0] fun a0 =>
 .asI .u64 a0 fun n1 => .call 318 [v1] fun a2 =>
 .asI .u64 a2 fun n3 => .jump 6 [.int .u64 n1, .int .u64 n3]
theorem zzhp (v0 v1 : zab) {m : Tr zal} {Q : zaw} (h : wp 280 (z55 v0 v1) m Q) : jp 280 33 [v0, v1] m Q := zbp zzcc (by kernel_rfl) h
def zzei (v10 v11 : Int) : T :=
 .ite (!iEq v11 0)
 (.opt (zzc0 .u64 v10 v11) fun a0 => .asI .u64 a0 fun n1 => .jump 6 [.int .u64 v11, .int .u64 n1])
 (.call 319 [.int .u64 v10] fun a2 =>
 .ret a2)
theorem j280_6 (v10 v11 : Int) {m : Tr zal} {Q : zaw} (h : wp 280 (zzei v10 v11) m Q) : jp 280 6 [.int .u64 v10, .int .u64 v11] m Q := zbp zzcc (by kernel_rfl) h
def t281 (p0 : zab) : T :=
 .opt (zba p0) fun a0 => .asI .i64 a0 fun n1 => .heavy (zch C19 305 (.int .i64 (zah .i64 (Int.tdiv (zah .i64 (n1 + 1)) 2))) (.int .i64 (zah .i64 (Int.tdiv (zah .i64 (n1 + 1)) 2)))) fun a2 =>
 .opt (zba p0) fun a3 => .asI .i64 a3 fun n4 => .jump 2 [a2, p0, .int .i64 n4, .int .i64 0]
theorem w281 (p0 : zab) {m : Tr zal} {Q : zaw} (h : wp 281 (t281 p0) m Q) : Wf 281 [p0] m Q := zbu ok281 (by kernel_rfl) (eqT (by kernel_rfl) h)
def z54 (v3 v11 : zab) (v12 v13 : Int) : T :=
 .ite (iLt v13 v12)
 (.opt (zaf C19 41 v11 (.int .i64 v13)) fun a0 => .light (fun m => zap C19 227 ⟨0, m⟩ a0) fun a1 => .asI .u16 a1 fun n2 => .opt (zaf C19 305 v3 (.int .i64 (zah .i64 (Int.tdiv v13 2)))) fun a3 => .light (fun m => zap C19 328 ⟨0, m⟩ a3) fun a4 => .asI .u32 a4 fun n5 => .opt (z3s .u32 (zah .u32 n2) (zah .i64 (16 * (Int.tmod v13 2)))) fun a6 => .asI .u32 a6 fun n7 => .opt (ze0 Nat.lor .u32 n5 n7) fun a8 => .asI .u32 a8 fun n9 => .opt (zaf C19 305 v3 (.int .i64 (zah .i64 (Int.tdiv v13 2)))) fun a10 => .heavy (zb3 C19 328 a10 (.int .u32 n9)) fun _ =>
 .jump 2 [v3, v11, .int .i64 v12, (.int .i64 (zah .i64 (v13 + 1)))])
 (.ret v3)
theorem zzfe (v3 v11 : zab) (v12 v13 : Int) {m : Tr zal} {Q : zaw} (h : wp 281 (z54 v3 v11 v12 v13) m Q) : jp 281 2 [v3, v11, .int .i64 v12, .int .i64 v13] m Q := zbp ok281 (by kernel_rfl) h
def t287 (p0 : Bool) : T :=
 .ite p0
 (.ret (.str [116, 114, 117, 101]))
 (.ret (.str [102, 97, 108, 115, 101]))
theorem w287 (p0 : Bool) {m : Tr zal} {Q : zaw} (h : wp 287 (t287 p0) m Q) : Wf 287 [.bool p0] m Q := zbu ok287 (by kernel_rfl) (eqT (by kernel_rfl) h)
def t313 (p0 : zab) : T :=
 .jump 2 [p0]
theorem w313 (p0 : zab) {m : Tr zal} {Q : zaw} (h : wp 313 (t313 p0) m Q) : Wf 313 [p0] m Q := zbu ok313 (by kernel_rfl) (eqT (by kernel_rfl) h)
def z0l (v0 : zab) : T :=
 .opt (zba v0) fun a0 => .asI .i64 a0 fun n1 => .ite (iLt 0 n1)
 (.opt (zba v0) fun a2 => .asI .i64 a2 fun n3 => .opt (zaf C19 305 v0 (.int .i64 (zah .i64 (n3 - 1)))) fun a4 => .light (fun m => zap C19 328 ⟨0, m⟩ a4) fun a5 => .asI .u32 a5 fun n6 => .ite (iEq n6 0)
 (.opt (zba v0) fun a7 => .asI .i64 a7 fun n8 => .light (fun m => zen C19 305 ⟨0, m⟩ v0 none (some (.int .i64 (zah .i64 (n8 - 1))))) fun a9 => .jump 2 [a9])
 (.ret v0))
 (.ret v0)
theorem z8u (v0 : zab) {m : Tr zal} {Q : zaw} (h : wp 313 (z0l v0) m Q) : jp 313 2 [v0] m Q := zbp ok313 (by kernel_rfl) h
def t314 (p0 p1 : zab) : T :=
 .opt (zba p0) fun a0 => .asI .i64 a0 fun n1 => .opt (zba p1) fun a2 => .asI .i64 a2 fun n3 => .ite (!iEq n1 n3)
 (.opt (zba p0) fun a4 => .asI .i64 a4 fun n5 => .opt (zba p1) fun a6 => .asI .i64 a6 fun n7 => .ite (iLt n5 n7)
 (.ret (.int .i64 (-1)))
 (.ret (.int .i64 1)))
 (.opt (zba p0) fun a8 => .asI .i64 a8 fun n9 => .jump 2 [p0, p1, (.int .i64 (zah .i64 (n9 - 1)))])
theorem w314 (p0 p1 : zab) {m : Tr zal} {Q : zaw} (h : wp 314 (t314 p0 p1) m Q) : Wf 314 [p0, p1] m Q := zbu ok314 (by kernel_rfl) (eqT (by kernel_rfl) h)
def z52 (v0 v1 : zab) (v5 : Int) : T :=
 .ite (iLe 0 v5)
 (.opt (zaf C19 305 v0 (.int .i64 v5)) fun a0 => .light (fun m => zap C19 328 ⟨0, m⟩ a0) fun a1 => .asI .u32 a1 fun n2 => .opt (zaf C19 305 v1 (.int .i64 v5)) fun a3 => .light (fun m => zap C19 328 ⟨0, m⟩ a3) fun a4 => .asI .u32 a4 fun n5 => .ite (!iEq n2 n5)
 (.opt (zaf C19 305 v0 (.int .i64 v5)) fun a6 => .light (fun m => zap C19 328 ⟨0, m⟩ a6) fun a7 => .asI .u32 a7 fun n8 => .opt (zaf C19 305 v1 (.int .i64 v5)) fun a9 => .light (fun m => zap C19 328 ⟨0, m⟩ a9) fun a10 => .asI .u32 a10 fun n11 => .ite (iLt n8 n11)
 (.ret (.int .i64 (-1)))
 (.ret (.int .i64 1)))
 (.jump 2 [v0, v1, (.int .i64 (zah .i64 (v5 - 1)))]))
 (.ret (.int .i64 0))
theorem zzfd (v0 v1 : zab) (v5 : Int) {m : Tr zal} {Q : zaw} (h : wp 314 (z52 v0 v1 v5) m Q) : jp 314 2 [v0, v1, .int .i64 v5] m Q := zbp ok314 (by kernel_rfl) h
def t315 (p0 p1 : zab) : T :=
 .opt (zba p0) fun a0 => .asI .i64 a0 fun n1 => .opt (zaf C19 305 p0 (.int .i64 (zah .i64 (n1 - 1)))) fun a2 => .light (fun m => zap C19 328 ⟨0, m⟩ a2) fun a3 => .asI .u32 a3 fun n4 => .call 337 [.int .u32 n4] fun a5 =>
 .asI .i64 a5 fun n6 => .call 338 [p0, .int .i64 n1, .int .i64 n6] fun a7 =>
 .asI .u64 a7 fun n8 => .call 338 [p1, .int .i64 n1, .int .i64 n6] fun a9 =>
 .asI .u64 a9 fun n10 => .ite true (.ite true (.jump 2 [.int .u64 n8, .int .u64 n10, .int .u64 0, .int .u64 1, .int .u64 0, .int .u64 0, .int .u64 0, .int .u64 0, .bool false, .int .u64 0, .int .u64 1, .int .u64 0, .int .u64 0, .bool false]) .fail) .fail
theorem w315 (p0 p1 : zab) {m : Tr zal} {Q : zaw} (h : wp 315 (t315 p0 p1) m Q) : Wf 315 [p0, p1] m Q := zbu ok315 (by kernel_rfl) (eqT (by kernel_rfl) h)
def zzeh (v7 v8 v10 v11 c4_0 c4_1 c4_2 c4_3 : Int) (c4_4 : Bool) (c9_0 c9_1 c9_2 c9_3 : Int) (c9_4 : Bool) : T :=
 .ite (iLe v11 v8)
 (.ite (iLe (zah .u64 (c9_3 + v11)) (zah .u64 (v7 - v8)))
 (.opt (zzc1 .u64 v7 v8) fun a0 => .asI .u64 a0 fun n1 => .opt (zzc0 .u64 v7 v8) fun a2 => .asI .u64 a2 fun n3 => .ite true (.ite true (.ite true (.ite true (.ite true (.jump 2 [.int .u64 v8, .int .u64 n3, (.int .u64 (zah .u64 (c9_1 + (zah .u64 (n1 * v10))))), (.int .u64 (zah .u64 (c9_3 + (zah .u64 (n1 * v11))))), .int .u64 c4_0, .int .u64 c4_1, .int .u64 c4_2, .int .u64 c4_3, .bool c4_4, .int .u64 c9_1, .int .u64 v10, .int .u64 c9_3, .int .u64 v11, (.bool (!c9_4))]) .fail) .fail) .fail) .fail) .fail)
 (.ite true (.ret (.agg [.int .u64 c9_0, .int .u64 c9_1, .int .u64 c9_2, .int .u64 c9_3, .bool c9_4])) .fail))
 (.ite true (.ret (.agg [.int .u64 c9_0, .int .u64 c9_1, .int .u64 c9_2, .int .u64 c9_3, .bool c9_4])) .fail)
theorem j315_2 (v7 v8 v10 v11 c4_0 c4_1 c4_2 c4_3 : Int) (c4_4 : Bool) (c9_0 c9_1 c9_2 c9_3 : Int) (c9_4 : Bool) {m : Tr zal} {Q : zaw} (h : wp 315 (zzeh v7 v8 v10 v11 c4_0 c4_1 c4_2 c4_3 c4_4 c9_0 c9_1 c9_2 c9_3 c9_4) m Q) : jp 315 2 [.int .u64 v7, .int .u64 v8, .int .u64 v10, .int .u64 v11, .int .u64 c4_0, .int .u64 c4_1, .int .u64 c4_2, .int .u64 c4_3, .bool c4_4, .int .u64 c9_0, .int .u64 c9_1, .int .u64 c9_2, .int .u64 c9_3, .bool c9_4] m Q := zbp ok315 (by kernel_rfl) h
def t316 (p0 p1 : zab) : T :=
 .call 314 [p0, p1] fun a0 =>
 .asI .i64 a0 fun n1 => .ite (iLt n1 0)
 (.call 339 [p0] fun a2 =>
 .ret (.tup [.nilslice, a2]))
 (.opt (zba p1) fun a3 => .asI .i64 a3 fun n4 => .ite (iEq n4 1)
 (.opt (zaf C19 305 p1 (.int .i64 0)) fun a5 => .light (fun m => zap C19 328 ⟨0, m⟩ a5) fun a6 => .asI .u32 a6 fun n7 => .call 321 [p0, .int .u32 n7] fun a8 =>
 .opt (zas 0 a8) fun a9 => .opt (zas 1 a8) fun a10 => .asI .u32 a10 fun n11 => .heavy (za0 C19 305 1 [(0, (.int .u32 n11))]) fun a12 =>
 .call 313 [a12] fun a13 =>
 .ret (.tup [a9, a13]))
 (.opt (zba p1) fun a14 => .asI .i64 a14 fun n15 => .opt (zaf C19 305 p1 (.int .i64 (zah .i64 (n15 - 1)))) fun a16 => .light (fun m => zap C19 328 ⟨0, m⟩ a16) fun a17 => .asI .u32 a17 fun n18 => .call 337 [.int .u32 n18] fun a19 =>
 .asI .i64 a19 fun n20 => .call 340 [p1, .int .i64 n20] fun a21 =>
 .light (fun m => zen C19 305 ⟨0, m⟩ a21 none (some (.int .i64 n15))) fun a22 => .call 340 [p0, .int .i64 n20] fun a23 =>
 .opt (zba p0) fun a24 => .asI .i64 a24 fun n25 => .heavy (zch C19 305 (.int .i64 (zah .i64 ((zah .i64 (n25 - n15)) + 1))) (.int .i64 (zah .i64 ((zah .i64 (n25 - n15)) + 1)))) fun a26 =>
 .opt (zba a26) fun a27 => .asI .i64 a27 fun n28 => .jump 2 [.int .i64 n15, .int .i64 n20, a22, a23, a26, (.int .i64 (zah .i64 (n28 - 1)))]))
theorem w316 (p0 p1 : zab) {m : Tr zal} {Q : zaw} (h : wp 316 (t316 p0 p1) m Q) : Wf 316 [p0, p1] m Q := zbu zzg1 (by kernel_rfl) (eqT (by kernel_rfl) h)
def z50 (v8 v9 : Int) (v10 v11 v12 : zab) (v13 : Int) : T :=
 .ite (iLe 0 v13)
 (.light (fun m => zen C19 305 ⟨0, m⟩ v11 (some (.int .i64 v13)) (some (.int .i64 (zah .i64 ((zah .i64 (v13 + v8)) + 1))))) fun a0 => .call 341 [a0, v10] fun a1 =>
 .asI .u32 a1 fun n2 => .opt (zaf C19 305 v12 (.int .i64 v13)) fun a3 => .heavy (zb3 C19 328 a3 (.int .u32 n2)) fun _ =>
 .jump 2 [.int .i64 v8, .int .i64 v9, v10, v11, v12, (.int .i64 (zah .i64 (v13 - 1)))])
 (.jump 6 [.int .i64 v8, .int .i64 v9, v11, v12, .int .i64 v8, .int .i64 0])
theorem zzfc (v8 v9 : Int) (v10 v11 v12 : zab) (v13 : Int) {m : Tr zal} {Q : zaw} (h : wp 316 (z50 v8 v9 v10 v11 v12 v13) m Q) : jp 316 2 [.int .i64 v8, .int .i64 v9, v10, v11, v12, .int .i64 v13] m Q := zbp zzg1 (by kernel_rfl) h
def z5z (v8 v9 : Int) (v11 v12 : zab) (v77 v78 : Int) : T :=
 .ite (iLt v78 v77)
 (.opt (zaf C19 305 v11 (.int .i64 (zah .i64 (v78 + 1)))) fun a0 => .light (fun m => zap C19 328 ⟨0, m⟩ a0) fun a1 => .asI .u32 a1 fun n2 => .opt (zaf C19 305 v11 (.int .i64 v78)) fun a3 => .light (fun m => zap C19 328 ⟨0, m⟩ a3) fun a4 => .asI .u32 a4 fun n5 => .opt (ze0 Nat.lor .u64 (zah .u64 ((zah .u64 n2) * 4294967296)) (zah .u64 n5)) fun a6 => .asI .u64 a6 fun n7 => .opt (zzhr .u64 n7 v9) fun a8 => .asI .u64 a8 fun n9 => .opt (zaf C19 305 v11 (.int .i64 v78)) fun a10 => .heavy (zb3 C19 328 a10 (.int .u32 (zah .u32 n9))) fun _ =>
 .jump 6 [.int .i64 v8, .int .i64 v9, v11, v12, .int .i64 v77, (.int .i64 (zah .i64 (v78 + 1)))])
 (.light (fun m => zen C19 305 ⟨0, m⟩ v11 none (some (.int .i64 v8))) fun a11 => .call 313 [v12] fun a12 =>
 .light (fun m => zen C19 305 ⟨0, m⟩ v11 none (some (.int .i64 v8))) fun a13 => .ite (same 10 a13 a11) (.call 313 [a11] fun a14 =>
 .ret (.tup [a12, a14])) .fail)
theorem zzfb (v8 v9 : Int) (v11 v12 : zab) (v77 v78 : Int) {m : Tr zal} {Q : zaw} (h : wp 316 (z5z v8 v9 v11 v12 v77 v78) m Q) : jp 316 6 [.int .i64 v8, .int .i64 v9, v11, v12, .int .i64 v77, .int .i64 v78] m Q := zbp zzg1 (by kernel_rfl) h
def t317 (p0 : Int) (p1 : zab) (p2 : Int) (p3 : zab) : T :=
 .opt (zba p1) fun a0 => .asI .i64 a0 fun n1 => .opt (zba p3) fun a2 => .asI .i64 a2 fun n3 => .heavy (zch C19 305 (.int .i64 (zah .i64 ((bif iLt n1 n3 then n3 else n1) + 1))) (.int .i64 (zah .i64 ((bif iLt n1 n3 then n3 else n1) + 1)))) fun a4 =>
 .opt (zba a4) fun a5 => .asI .i64 a5 fun n6 => .jump 2 [.int .u64 p0, p1, .int .u64 p2, p3, a4, .int .u64 0, .int .u64 0, .int .u32 0, .int .i64 n6, .int .i64 0]
theorem w317 (p0 : Int) (p1 : zab) (p2 : Int) (p3 : zab) {m : Tr zal} {Q : zaw} (h : wp 317 (t317 p0 p1 p2 p3) m Q) : Wf 317 [.int .u64 p0, p1, .int .u64 p2, p3] m Q := zbu zzcb (by kernel_rfl) (eqT (by kernel_rfl) h)
def z5x (v0 : Int) (v1 : zab) (v2 : Int) (v3 v9 : zab) (v10 v11 v12 v22 v23 : Int) : T :=
 .ite (iLt v23 v22)
 (.opt (zba v1) fun a0 => .asI .i64 a0 fun n1 => .ite (iLt v23 n1)
 (.opt (zaf C19 305 v1 (.int .i64 v23)) fun a2 => .light (fun m => zap C19 328 ⟨0, m⟩ a2) fun a3 => .asI .u32 a3 fun n4 => .jump 17 [.int .u64 v0, v1, .int .u64 v2, v3, v9, (.int .u64 (zah .u64 (v10 + (zah .u64 (v0 * (zah .u64 n4)))))), .int .u64 v11, .int .u32 v12, .int .i64 v23, .int .i64 v22, .int .i64 v23])
 (.jump 17 [.int .u64 v0, v1, .int .u64 v2, v3, v9, .int .u64 v10, .int .u64 v11, .int .u32 v12, .int .i64 v23, .int .i64 v22, .int .i64 v23]))
 (.call 313 [v9] fun a5 =>
 .ret a5)
theorem zzfa (v0 : Int) (v1 : zab) (v2 : Int) (v3 v9 : zab) (v10 v11 v12 v22 v23 : Int) {m : Tr zal} {Q : zaw} (h : wp 317 (z5x v0 v1 v2 v3 v9 v10 v11 v12 v22 v23) m Q) : jp 317 2 [.int .u64 v0, v1, .int .u64 v2, v3, v9, .int .u64 v10, .int .u64 v11, .int .u32 v12, .int .i64 v22, .int .i64 v23] m Q := zbp zzcb (by kernel_rfl) h
def z5y (v0 : Int) (v1 : zab) (v2 : Int) (v3 v9 : zab) (v10 v11 v12 v13 v22 v23 : Int) : T :=
 .opt (zba v3) fun a0 => .asI .i64 a0 fun n1 => .ite (iLt v13 n1)
 (.opt (zaf C19 305 v3 (.int .i64 v13)) fun a2 => .light (fun m => zap C19 328 ⟨0, m⟩ a2) fun a3 => .asI .u32 a3 fun n4 => .jump 21 [.int .u64 v0, v1, .int .u64 v2, v3, v9, .int .u64 v10, (.int .u64 (zah .u64 (v11 + (zah .u64 (v2 * (zah .u64 n4)))))), .int .u32 v12, .int .i64 v13, .int .i64 v22, .int .i64 v23])
 (.jump 21 [.int .u64 v0, v1, .int .u64 v2, v3, v9, .int .u64 v10, .int .u64 v11, .int .u32 v12, .int .i64 v13, .int .i64 v22, .int .i64 v23])
theorem zzho (v0 : Int) (v1 : zab) (v2 : Int) (v3 v9 : zab) (v10 v11 v12 v13 v22 v23 : Int) {m : Tr zal} {Q : zaw} (h : wp 317 (z5y v0 v1 v2 v3 v9 v10 v11 v12 v13 v22 v23) m Q) : jp 317 17 [.int .u64 v0, v1, .int .u64 v2, v3, v9, .int .u64 v10, .int .u64 v11, .int .u32 v12, .int .i64 v13, .int .i64 v22, .int .i64 v23] m Q := zbp zzcb (by kernel_rfl) h
def z5w (v0 : Int) (v1 : zab) (v2 : Int) (v3 v9 : zab) (v10 v11 v12 v13 v22 v23 : Int) : T :=
 .call 342 [(.int .u32 (zah .u32 v10)), (.int .u32 (zah .u32 v11)), .int .u32 v12] fun a0 =>
 .opt (zas 0 a0) fun a1 => .asI .u32 a1 fun n2 => .opt (zas 1 a0) fun a3 => .asI .u32 a3 fun n4 => .opt (zaf C19 305 v9 (.int .i64 v13)) fun a5 => .heavy (zb3 C19 328 a5 (.int .u32 n2)) fun _ =>
 .jump 2 [.int .u64 v0, v1, .int .u64 v2, v3, v9, (.int .u64 (Int.fdiv v10 4294967296)), (.int .u64 (Int.fdiv v11 4294967296)), .int .u32 n4, .int .i64 v22, (.int .i64 (zah .i64 (v23 + 1)))]
theorem zzhn (v0 : Int) (v1 : zab) (v2 : Int) (v3 v9 : zab) (v10 v11 v12 v13 v22 v23 : Int) {m : Tr zal} {Q : zaw} (h : wp 317 (z5w v0 v1 v2 v3 v9 v10 v11 v12 v13 v22 v23) m Q) : jp 317 21 [.int .u64 v0, v1, .int .u64 v2, v3, v9, .int .u64 v10, .int .u64 v11, .int .u32 v12, .int .i64 v13, .int .i64 v22, .int .i64 v23] m Q := zbp zzcb (by kernel_rfl) h
def t319 (p0 : Int) : T :=
 .heavy (za0 C19 305 2 [(0, (.int .u32 (zah .u32 p0))), (1, (.int .u32 (zah .u32 (Int.fdiv p0 4294967296))))]) fun a0 =>
 .call 313 [a0] fun a1 =>
 .ret a1
theorem w319 (p0 : Int) {m : Tr zal} {Q : zaw} (h : wp 319 (t319 p0) m Q) : Wf 319 [.int .u64 p0] m Q := zbu ok319 (by kernel_rfl) (eqT (by kernel_rfl) h)
def t321 (p0 : zab) (p1 : Int) : T :=
 .opt (zba p0) fun a0 => .asI .i64 a0 fun n1 => .heavy (zch C19 305 (.int .i64 n1) (.int .i64 n1)) fun a2 =>
 .opt (zba p0) fun a3 => .asI .i64 a3 fun n4 => .jump 2 [p0, .int .u32 p1, a2, .int .u32 0, (.int .i64 (zah .i64 (n4 - 1)))]
theorem w321 (p0 : zab) (p1 : Int) {m : Tr zal} {Q : zaw} (h : wp 321 (t321 p0 p1) m Q) : Wf 321 [p0, .int .u32 p1] m Q := zbu ok321 (by kernel_rfl) (eqT (by kernel_rfl) h)
def z5v (v0 : zab) (v1 : Int) (v6 : zab) (v7 v8 : Int) : T :=
 .ite (iLe 0 v8)
 (.opt (zaf C19 305 v0 (.int .i64 v8)) fun a0 => .light (fun m => zap C19 328 ⟨0, m⟩ a0) fun a1 => .asI .u32 a1 fun n2 => .call 347 [.int .u32 v7, .int .u32 n2, .int .u32 v1] fun a3 =>
 .opt (zas 0 a3) fun a4 => .asI .u32 a4 fun n5 => .opt (zas 1 a3) fun a6 => .asI .u32 a6 fun n7 => .opt (zaf C19 305 v6 (.int .i64 v8)) fun a8 => .heavy (zb3 C19 328 a8 (.int .u32 n5)) fun _ =>
 .jump 2 [v0, .int .u32 v1, v6, .int .u32 n7, (.int .i64 (zah .i64 (v8 - 1)))])
 (.call 313 [v6] fun a9 =>
 .ret (.tup [a9, .int .u32 v7]))
theorem zze9 (v0 : zab) (v1 : Int) (v6 : zab) (v7 v8 : Int) {m : Tr zal} {Q : zaw} (h : wp 321 (z5v v0 v1 v6 v7 v8) m Q) : jp 321 2 [v0, .int .u32 v1, v6, .int .u32 v7, .int .i64 v8] m Q := zbp ok321 (by kernel_rfl) h
def t337 (p0 : Int) : T :=
 .call 360 [.int .u32 p0] fun a0 =>
 .asI .i64 a0 fun n1 => .ret (.int .i64 (zah .i64 (32 - n1)))
theorem w337 (p0 : Int) {m : Tr zal} {Q : zaw} (h : wp 337 (t337 p0) m Q) : Wf 337 [.int .u32 p0] m Q := zbu ok337 (by kernel_rfl) (eqT (by kernel_rfl) h)
def t338 (p0 : zab) (p1 p2 : Int) : T :=
 .heavy (z44 p0) fun a0 =>
 .callv (.func (.func 361) [] [a0]) [(.int .i64 (zah .i64 (p1 - 1)))] fun a1 =>
 .asI .u64 a1 fun n2 => .callv (.func (.func 361) [] [a0]) [(.int .i64 (zah .i64 (p1 - 2)))] fun a3 =>
 .asI .u64 a3 fun n4 => .opt (ze0 Nat.lor .u64 (zah .u64 (n2 * 4294967296)) n4) fun a5 => .asI .u64 a5 fun n6 => .opt (z3s .u64 n6 p2) fun a7 => .asI .u64 a7 fun n8 => .callv (.func (.func 361) [] [a0]) [(.int .i64 (zah .i64 (p1 - 3)))] fun a9 =>
 .asI .u64 a9 fun n10 => .opt (zzhr .u64 n10 (zah .i64 (32 - p2))) fun a11 => .asI .u64 a11 fun n12 => .opt (ze0 Nat.lor .u64 n8 n12) fun a13 => .asI .u64 a13 fun n14 => .ret (.int .u64 n14)
theorem e338 (p0 : zab) (p1 p2 : Int) : entT C19 Tryz.f338 8 338 a338 [p0, .int .i64 p1, .int .i64 p2] = t338 p0 p1 p2 := by kernel_rfl
theorem w338 (p0 : zab) (p1 p2 : Int) {m : Tr zal} {Q : zaw} (h : wp 338 (t338 p0 p1 p2) m Q) : Wf 338 [p0, .int .i64 p1, .int .i64 p2] m Q := zbu ok338 (by kernel_rfl) (by rw [e338]; exact h)
def t339 (p0 : zab) : T :=
 .opt ((zxd .eql).f C19 305 (.tmp 3) (.const (.slice none 0 0)) p0 .nilslice) fun a0 => .asB a0 fun b1 => .ite b1
 (.ret .nilslice)
 (.heavy (za0 C19 305 0 []) fun a2 =>
 .heavy (zbn C19 305 305 a2 p0) fun a3 =>
 .ret a3)
theorem w339 (p0 : zab) {m : Tr zal} {Q : zaw} (h : wp 339 (t339 p0) m Q) : Wf 339 [p0] m Q := zbu ok339 (by kernel_rfl) (eqT (by kernel_rfl) h)
def t340 (p0 : zab) (p1 : Int) : T :=
 .opt (zba p0) fun a0 => .asI .i64 a0 fun n1 => .heavy (zch C19 305 (.int .i64 (zah .i64 (n1 + 1))) (.int .i64 (zah .i64 (n1 + 1)))) fun a2 =>
 .opt (zba p0) fun a3 => .asI .i64 a3 fun n4 => .jump 2 [.int .i64 p1, a2, p0, .int .i64 n4, .int .i64 0]
theorem w340 (p0 : zab) (p1 : Int) {m : Tr zal} {Q : zaw} (h : wp 340 (t340 p0 p1) m Q) : Wf 340 [p0, .int .i64 p1] m Q := zbu ok340 (by kernel_rfl) (eqT (by kernel_rfl) h)
def z5u (v1 : Int) (v5 v13 : zab) (v14 v15 : Int) : T :=
 .ite (iLt v15 v14)
 (.opt (zaf C19 305 v13 (.int .i64 v15)) fun a0 => .light (fun m => zap C19 328 ⟨0, m⟩ a0) fun a1 => .asI .u32 a1 fun n2 => .opt (z3s .u64 (zah .u64 n2) v1) fun a3 => .asI .u64 a3 fun n4 => .opt (zaf C19 305 v5 (.int .i64 v15)) fun a5 => .light (fun m => zap C19 328 ⟨0, m⟩ a5) fun a6 => .asI .u32 a6 fun n7 => .opt (ze0 Nat.lor .u32 n7 (zah .u32 n4)) fun a8 => .asI .u32 a8 fun n9 => .opt (zaf C19 305 v5 (.int .i64 v15)) fun a10 => .heavy (zb3 C19 328 a10 (.int .u32 n9)) fun _ =>
 .opt (zaf C19 305 v5 (.int .i64 (zah .i64 (v15 + 1)))) fun a11 => .heavy (zb3 C19 328 a11 (.int .u32 (zah .u32 (Int.fdiv n4 4294967296)))) fun _ =>
 .jump 2 [.int .i64 v1, v5, v13, .int .i64 v14, (.int .i64 (zah .i64 (v15 + 1)))])
 (.ret v5)
theorem zze8 (v1 : Int) (v5 v13 : zab) (v14 v15 : Int) {m : Tr zal} {Q : zaw} (h : wp 340 (z5u v1 v5 v13 v14 v15) m Q) : jp 340 2 [.int .i64 v1, v5, v13, .int .i64 v14, .int .i64 v15] m Q := zbp ok340 (by kernel_rfl) h
def t341 (p0 p1 : zab) : T :=
 .opt (zba p1) fun a0 => .asI .i64 a0 fun n1 => .opt (zaf C19 305 p0 (.int .i64 n1)) fun a2 => .light (fun m => zap C19 328 ⟨0, m⟩ a2) fun a3 => .asI .u32 a3 fun n4 => .opt (zaf C19 305 p0 (.int .i64 (zah .i64 (n1 - 1)))) fun a5 => .light (fun m => zap C19 328 ⟨0, m⟩ a5) fun a6 => .asI .u32 a6 fun n7 => .opt (ze0 Nat.lor .u64 (zah .u64 ((zah .u64 n4) * 4294967296)) (zah .u64 n7)) fun a8 => .asI .u64 a8 fun n9 => .opt (zaf C19 305 p1 (.int .i64 (zah .i64 (n1 - 1)))) fun a10 => .light (fun m => zap C19 328 ⟨0, m⟩ a10) fun a11 => .asI .u32 a11 fun n12 => .opt (zzc1 .u64 n9 (zah .u64 n12)) fun a13 => .asI .u64 a13 fun n14 => .opt (zzc0 .u64 n9 (zah .u64 n12)) fun a15 => .asI .u64 a15 fun n16 => .jump 2 [p0, p1, .int .i64 n1, (.int .u64 (zah .u64 n12)), .int .u64 n14, .int .u64 n16]
theorem w341 (p0 p1 : zab) {m : Tr zal} {Q : zaw} (h : wp 341 (t341 p0 p1) m Q) : Wf 341 [p0, p1] m Q := zbu z7m (by kernel_rfl) (eqT (by kernel_rfl) h)
def z5s (v0 v1 : zab) (v5 v7 v8 v9 : Int) : T :=
 .ite (iLe 4294967296 v8)
 (.ite (iLe 4294967296 (zah .u64 (v9 + v7)))
 (.jump 19 [v0, v1, .int .i64 v5, (.int .u64 (zah .u64 (v8 - 1)))])
 (.jump 2 [v0, v1, .int .i64 v5, .int .u64 v7, (.int .u64 (zah .u64 (v8 - 1))), (.int .u64 (zah .u64 (v9 + v7)))]))
 (.opt (zaf C19 305 v1 (.int .i64 (zah .i64 (v5 - 2)))) fun a0 => .light (fun m => zap C19 328 ⟨0, m⟩ a0) fun a1 => .asI .u32 a1 fun n2 => .opt (zaf C19 305 v0 (.int .i64 (zah .i64 (v5 - 2)))) fun a3 => .light (fun m => zap C19 328 ⟨0, m⟩ a3) fun a4 => .asI .u32 a4 fun n5 => .opt (ze0 Nat.lor .u64 (zah .u64 (v9 * 4294967296)) (zah .u64 n5)) fun a6 => .asI .u64 a6 fun n7 => .ite (iLt n7 (zah .u64 (v8 * (zah .u64 n2))))
 (.ite (iLe 4294967296 (zah .u64 (v9 + v7)))
 (.jump 19 [v0, v1, .int .i64 v5, (.int .u64 (zah .u64 (v8 - 1)))])
 (.jump 2 [v0, v1, .int .i64 v5, .int .u64 v7, (.int .u64 (zah .u64 (v8 - 1))), (.int .u64 (zah .u64 (v9 + v7)))]))
 (.jump 19 [v0, v1, .int .i64 v5, .int .u64 v8]))
theorem zze7 (v0 v1 : zab) (v5 v7 v8 v9 : Int) {m : Tr zal} {Q : zaw} (h : wp 341 (z5s v0 v1 v5 v7 v8 v9) m Q) : jp 341 2 [v0, v1, .int .i64 v5, .int .u64 v7, .int .u64 v8, .int .u64 v9] m Q := zbp z7m (by kernel_rfl) h
def z5t (v0 v1 : zab) (v5 v8 : Int) : T :=
 .opt (zba v1) fun a0 => .asI .i64 a0 fun n1 => .jump 6 [v0, v1, .int .i64 v5, .int .u64 v8, .int .u64 0, .int .u64 0, v1, .int .i64 n1, .int .i64 0]
theorem zzhm (v0 v1 : zab) (v5 v8 : Int) {m : Tr zal} {Q : zaw} (h : wp 341 (z5t v0 v1 v5 v8) m Q) : jp 341 19 [v0, v1, .int .i64 v5, .int .u64 v8] m Q := zbp z7m (by kernel_rfl) h
def z5r (v0 v1 : zab) (v5 v8 v10 v11 : Int) (v76 : zab) (v77 v78 : Int) : T :=
 .ite (iLt v78 v77)
 (.opt (zaf C19 305 v76 (.int .i64 v78)) fun a0 => .light (fun m => zap C19 328 ⟨0, m⟩ a0) fun a1 => .asI .u32 a1 fun n2 => .opt (zaf C19 305 v0 (.int .i64 v78)) fun a3 => .light (fun m => zap C19 328 ⟨0, m⟩ a3) fun a4 => .asI .u32 a4 fun n5 => .opt (zaf C19 305 v0 (.int .i64 v78)) fun a6 => .heavy (zb3 C19 328 a6 (.int .u32 (zah .u32 (zah .u64 ((zah .u64 ((zah .u64 n5) - (zah .u64 (zah .u32 (zah .u64 ((zah .u64 (v8 * (zah .u64 n2))) + v10)))))) - v11))))) fun _ =>
 .jump 6 [v0, v1, .int .i64 v5, .int .u64 v8, (.int .u64 (Int.fdiv (zah .u64 ((zah .u64 (v8 * (zah .u64 n2))) + v10)) 4294967296)), (.int .u64 (Int.fdiv (zah .u64 ((zah .u64 ((zah .u64 n5) - (zah .u64 (zah .u32 (zah .u64 ((zah .u64 (v8 * (zah .u64 n2))) + v10)))))) - v11)) 9223372036854775808)), v76, .int .i64 v77, (.int .i64 (zah .i64 (v78 + 1)))])
 (.opt (zaf C19 305 v0 (.int .i64 v5)) fun a7 => .light (fun m => zap C19 328 ⟨0, m⟩ a7) fun a8 => .asI .u32 a8 fun n9 => .opt (zaf C19 305 v0 (.int .i64 v5)) fun a10 => .heavy (zb3 C19 328 a10 (.int .u32 (zah .u32 (zah .u64 ((zah .u64 ((zah .u64 n9) - v10)) - v11))))) fun _ =>
 .ite (iEq (Int.fdiv (zah .u64 ((zah .u64 ((zah .u64 n9) - v10)) - v11)) 9223372036854775808) 0)
 (.ret (.int .u32 (zah .u32 v8)))
 (.opt (zba v1) fun a11 => .asI .i64 a11 fun n12 => .jump 10 [v0, .int .i64 v5, .int .u64 v8, .int .u32 0, v1, .int .i64 n12, .int .i64 0]))
theorem zze6 (v0 v1 : zab) (v5 v8 v10 v11 : Int) (v76 : zab) (v77 v78 : Int) {m : Tr zal} {Q : zaw} (h : wp 341 (z5r v0 v1 v5 v8 v10 v11 v76 v77 v78) m Q) : jp 341 6 [v0, v1, .int .i64 v5, .int .u64 v8, .int .u64 v10, .int .u64 v11, v76, .int .i64 v77, .int .i64 v78] m Q := zbp z7m (by kernel_rfl) h
def zx8 (v0 : zab) (v5 v8 v17 : Int) (v129 : zab) (v130 v131 : Int) : T :=
 .ite (iLt v131 v130)
 (.opt (zaf C19 305 v129 (.int .i64 v131)) fun a0 => .light (fun m => zap C19 328 ⟨0, m⟩ a0) fun a1 => .asI .u32 a1 fun n2 => .opt (zaf C19 305 v0 (.int .i64 v131)) fun a3 => .light (fun m => zap C19 328 ⟨0, m⟩ a3) fun a4 => .asI .u32 a4 fun n5 => .call 362 [.int .u32 n5, .int .u32 n2, .int .u32 v17] fun a6 =>
 .opt (zas 0 a6) fun a7 => .asI .u32 a7 fun n8 => .opt (zas 1 a6) fun a9 => .asI .u32 a9 fun n10 => .opt (zaf C19 305 v0 (.int .i64 v131)) fun a11 => .heavy (zb3 C19 328 a11 (.int .u32 n8)) fun _ =>
 .jump 10 [v0, .int .i64 v5, .int .u64 v8, .int .u32 n10, v129, .int .i64 v130, (.int .i64 (zah .i64 (v131 + 1)))])
 (.opt (zaf C19 305 v0 (.int .i64 v5)) fun a12 => .light (fun m => zap C19 328 ⟨0, m⟩ a12) fun a13 => .asI .u32 a13 fun n14 => .opt (zaf C19 305 v0 (.int .i64 v5)) fun a15 => .heavy (zb3 C19 328 a15 (.int .u32 (zah .u32 (n14 + v17)))) fun _ =>
 .ret (.int .u32 (zah .u32 (zah .u64 (v8 - 1)))))
theorem z8t (v0 : zab) (v5 v8 v17 : Int) (v129 : zab) (v130 v131 : Int) {m : Tr zal} {Q : zaw} (h : wp 341 (zx8 v0 v5 v8 v17 v129 v130 v131) m Q) : jp 341 10 [v0, .int .i64 v5, .int .u64 v8, .int .u32 v17, v129, .int .i64 v130, .int .i64 v131] m Q := zbp z7m (by kernel_rfl) h
def t342 (p0 p1 p2 : Int) : T :=
 .opt (zx3 (.int .u32 p0)) fun a0 => .asI .u32 a0 fun n1 => .opt (ze0 Nat.land .u32 n1 p1) fun a2 => .asI .u32 a2 fun n3 => .opt (ze0 Nat.xor .u32 p0 p1) fun a4 => .asI .u32 a4 fun n5 => .opt (zx3 (.int .u32 n5)) fun a6 => .asI .u32 a6 fun n7 => .opt (ze0 Nat.land .u32 n7 (zah .u32 ((zah .u32 (p0 - p1)) - p2))) fun a8 => .asI .u32 a8 fun n9 => .opt (ze0 Nat.lor .u32 n3 n9) fun a10 => .asI .u32 a10 fun n11 => .ret (.tup [(.int .u32 (zah .u32 ((zah .u32 (p0 - p1)) - p2))), (.int .u32 (Int.fdiv n11 2147483648))])
theorem w342 (p0 p1 p2 : Int) {m : Tr zal} {Q : zaw} (h : wp 342 (t342 p0 p1 p2) m Q) : Wf 342 [.int .u32 p0, .int .u32 p1, .int .u32 p2] m Q := zbu ok342 (by kernel_rfl) (eqT (by kernel_rfl) h)
def t347 (p0 p1 p2 : Int) : T :=
 .ite (!iEq p2 0)
 (.ite (iLe p2 p0)
 (.light (fun m => zap C19 245 ⟨0, m⟩ (.ptr 3 0)) fun a0 => .fail)
 (.jump 7 [.int .u32 p0, .int .u32 p1, .int .u32 p2]))
 (.jump 7 [.int .u32 p0, .int .u32 p1, .int .u32 p2])
theorem w347 (p0 p1 p2 : Int) {m : Tr zal} {Q : zaw} (h : wp 347 (t347 p0 p1 p2) m Q) : Wf 347 [.int .u32 p0, .int .u32 p1, .int .u32 p2] m Q := zbu ok347 (by kernel_rfl) (eqT (by kernel_rfl) h)
def zzeg (v0 v1 v2 : Int) : T :=
 .opt (ze0 Nat.lor .u64 (zah .u64 ((zah .u64 v0) * 4294967296)) (zah .u64 v1)) fun a0 => .asI .u64 a0 fun n1 => .opt (zzc1 .u64 n1 (zah .u64 v2)) fun a2 => .asI .u64 a2 fun n3 => .opt (zzc0 .u64 n1 (zah .u64 v2)) fun a4 => .asI .u64 a4 fun n5 => .ret (.tup [(.int .u32 (zah .u32 n3)), (.int .u32 (zah .u32 n5))])
theorem j347_7 (v0 v1 v2 : Int) {m : Tr zal} {Q : zaw} (h : wp 347 (zzeg v0 v1 v2) m Q) : jp 347 7 [.int .u32 v0, .int .u32 v1, .int .u32 v2] m Q := zbp ok347 (by kernel_rfl) h
def t360 (p0 : Int) : T :=
 .ite (iLe 65536 p0)
 (.jump 9 [(.int .u32 (Int.fdiv p0 65536)), .int .i64 16])
 (.jump 9 [.int .u32 p0, .int .i64 0])
theorem w360 (p0 : Int) {m : Tr zal} {Q : zaw} (h : wp 360 (t360 p0) m Q) : Wf 360 [.int .u32 p0] m Q := zbu zzg0 (by kernel_rfl) (eqT (by kernel_rfl) h)
def z5p (v0 v2 : Int) : T :=
 .ite (iLe 256 v0)
 (.jump 15 [(.int .u32 (Int.fdiv v0 256)), (.int .i64 (zah .i64 (v2 + 8)))])
 (.jump 15 [.int .u32 v0, .int .i64 v2])
theorem zze5 (v0 v2 : Int) {m : Tr zal} {Q : zaw} (h : wp 360 (z5p v0 v2) m Q) : jp 360 9 [.int .u32 v0, .int .i64 v2] m Q := zbp zzg0 (by kernel_rfl) h
def z5q (v0 v2 : Int) : T :=
 .opt (zjq C19 9 (.str [0, 1, 2, 2, 3, 3, 3, 3, 4, 4, 4, 4, 4, 4, 4, 4, 5, 5, 5, 5, 5, 5, 5, 5, 5, 5, 5, 5, 5, 5, 5, 5, 6, 6, 6, 6, 6, 6, 6, 6, 6, 6, 6, 6, 6, 6, 6, 6, 6, 6, 6, 6, 6, 6, 6, 6, 6, 6, 6, 6, 6, 6, 6, 6, 7, 7, 7, 7, 7, 7, 7, 7, 7, 7, 7, 7, 7, 7, 7, 7, 7, 7, 7, 7, 7, 7, 7, 7, 7, 7, 7, 7, 7, 7, 7, 7, 7, 7, 7, 7, 7, 7, 7, 7, 7, 7, 7, 7, 7, 7, 7, 7, 7, 7, 7, 7, 7, 7, 7, 7, 7, 7, 7, 7, 7, 7, 7, 7, 8, 8, 8, 8, 8, 8, 8, 8, 8, 8, 8, 8, 8, 8, 8, 8, 8, 8, 8, 8, 8, 8, 8, 8, 8, 8, 8, 8, 8, 8, 8, 8, 8, 8, 8, 8, 8, 8, 8, 8, 8, 8, 8, 8, 8, 8, 8, 8, 8, 8, 8, 8, 8, 8, 8, 8, 8, 8, 8, 8, 8, 8, 8, 8, 8, 8, 8, 8, 8, 8, 8, 8, 8, 8, 8, 8, 8, 8, 8, 8, 8, 8, 8, 8, 8, 8, 8, 8, 8, 8, 8, 8, 8, 8, 8, 8, 8, 8, 8, 8, 8, 8, 8, 8, 8, 8, 8, 8, 8, 8, 8, 8, 8, 8, 8, 8, 8, 8, 8, 8, 8, 8, 8, 8, 8, 8, 8, 8]) (.int .u8 (zah .u8 v0))) fun a0 => .asI .u8 a0 fun n1 => .ret (.int .i64 (zah .i64 (v2 + (zah .i64 n1))))
theorem zzhl (v0 v2 : Int) {m : Tr zal} {Q : zaw} (h : wp 360 (z5q v0 v2) m Q) : jp 360 15 [.int .u32 v0, .int .i64 v2] m Q := zbp zzg0 (by kernel_rfl) h
def t361 (p0 : Int) (w0 : zab) : T :=
 .light (fun m => zap C19 305 ⟨0, m⟩ w0) fun a0 => .opt (zba a0) fun a1 => .asI .i64 a1 fun n2 => .ite (iLe n2 p0)
 (.ret (.int .u64 0))
 (.light (fun m => zap C19 305 ⟨0, m⟩ w0) fun a3 => .opt (zaf C19 305 a3 (.int .i64 p0)) fun a4 => .light (fun m => zap C19 328 ⟨0, m⟩ a4) fun a5 => .asI .u32 a5 fun n6 => .ret (.int .u64 (zah .u64 n6)))
theorem w361 (p0 : Int) (w0 : zab) {m : Tr zal} {Q : zaw} (h : wp 361 (t361 p0 w0) m Q) : Wf 361 [.int .i64 p0, w0] m Q := zbu ok361 (by kernel_rfl) (eqT (by kernel_rfl) h)
def t362 (p0 p1 p2 : Int) : T :=
 .ret (.tup [(.int .u32 (zah .u32 (zah .u64 ((zah .u64 ((zah .u64 p0) + (zah .u64 p1))) + (zah .u64 p2))))), (.int .u32 (zah .u32 (Int.fdiv (zah .u64 ((zah .u64 ((zah .u64 p0) + (zah .u64 p1))) + (zah .u64 p2))) 4294967296)))])
theorem e362 (p0 p1 p2 : Int) : entT C19 Tryz.f362 9 362 a362 [.int .u32 p0, .int .u32 p1, .int .u32 p2] = t362 p0 p1 p2 := by kernel_rfl
theorem w362 (p0 p1 p2 : Int) {m : Tr zal} {Q : zaw} (h : wp 362 (t362 p0 p1 p2) m Q) : Wf 362 [.int .u32 p0, .int .u32 p1, .int .u32 p2] m Q := zbu ok362 (by kernel_rfl) (by rw [e362]; exact h)
end Go.Proofs
