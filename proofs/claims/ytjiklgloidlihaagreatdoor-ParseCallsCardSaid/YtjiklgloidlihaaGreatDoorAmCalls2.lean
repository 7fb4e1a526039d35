/- ParseCalls: what a call is worth. -/
import Derived.Test.YtjiklgloidlihaaGreatDoorAmCallsRun0
import Derived.Test.YtjiklgloidlihaaGreatDoorAmCallsRun1
import Derived.Test.YtjiklgloidlihaaGreatDoorAmCallsRun2
set_option maxRecDepth 100000
namespace Go.Am
open Go Go.RowKit Go.Proofs
theorem slot11_all (w m : Int) : ∀ k, k < 12 → slotOf 11 (c2 w m k) = some (.int .i64 (wrapF .i64 (m.tmod 6)))
  | 0, _ => slot11_0 w m
  | 1, _ => slot11_1 w m
  | 2, _ => slot11_2 w m
  | 3, _ => slot11_3 w m
  | 4, _ => slot11_4 w m
  | 5, _ => slot11_5 w m
  | 6, _ => slot11_6 w m
  | 7, _ => slot11_7 w m
  | 8, _ => slot11_8 w m
  | 9, _ => slot11_9 w m
  | 10, _ => slot11_10 w m
  | 11, _ => slot11_11 w m
  | n + 12, h => absurd h (by omega)
theorem run9_all (w m : Int) : ∀ k, k < 12 → ((List.range 6).all fun n => Nat.beq (fin (c3 w m k n)) 1) = true
  | 0, _ => run9_0 w m
  | 1, _ => run9_1 w m
  | 2, _ => run9_2 w m
  | 3, _ => run9_3 w m
  | 4, _ => run9_4 w m
  | 5, _ => run9_5 w m
  | 6, _ => run9_6 w m
  | 7, _ => run9_7 w m
  | 8, _ => run9_8 w m
  | 9, _ => run9_9 w m
  | 10, _ => run9_10 w m
  | 11, _ => run9_11 w m
  | n + 12, h => absurd h (by omega)
theorem startO_ok {P : Program} {C : Ctx} {N : Nat} {μ : Mu} {w : World} {base : List Frame} (hF : FnsOk P C) {f : Nat} {args : List AVal} {args' : Array Value} {H : AHeap} (hH : HRel N μ H w) (hl : LRel μ args args'.toList) :
    OutOk P C N μ base (lone (Frame.enter P f args' .normal) base w) w (startO C f args H) := by
  unfold startO
  cases he : enterA C f args false with
  | none => exact trivial
  | some g => exact start_ok hF hH hl he
theorem calls9 {W : World} (hw : LaidW W) (w m : Int) (hw0 : 0 ≤ w) (hm0 : 0 ≤ m) : Calls Tryz.prog 9 #[.int .u8 w, .int .u8 m] W fun e W' => e = .returned (.bool true) ∧ Below W.heap.size W W' := by
  obtain ⟨a, rfl⟩ := Int.eq_ofNat_of_zero_le hw0
  obtain ⟨b, rfl⟩ := Int.eq_ofNat_of_zero_le hm0
  have hS := sim1 9 _ hw.size
  have hk : a % 12 < 12 := Nat.mod_lt _ (by decide)
  have hn : b % 6 < 6 := Nat.mod_lt _ (by decide)
  have e1 : ((a : Int).tmod 12) = Int.ofNat (a % 12) := rfl
  have e2 : ((b : Int).tmod 6) = Int.ofNat (b % 6) := rfl
  have e3 : wrapF .i64 (Int.ofNat (b % 6)) = Int.ofNat (b % 6) := by
    unfold wrapF
    simp only [kHi]
    rw [cond_if, if_pos (blts.2 (by omega))]
  have fin := beqs.1 (List.all_eq_true.1 (run9_all a b (a % 12) hk) (b % 6) (List.mem_range.2 hn))
  obtain ⟨H', ho⟩ := fin_one fin
  refine calls_of_out (P := Tryz.prog) (C := ctx1 9) (N := W.heap.size) (μ := mu0) rfl (fun base => ?_) ho fun μ' v' w' _ hv _ hb => ?_
  · have hl : LRel mu0 [.int .u8 (a : Int), .int .u8 (b : Int)] (#[Value.int .u8 (a : Int), .int .u8 (b : Int)] : Array Value).toList := .cons (by rw [VRel]) (.single (by rw [VRel]))
    have h0 : OutOk Tryz.prog (ctx1 9) W.heap.size mu0 base (lone (Frame.enter Tryz.prog 9 #[.int .u8 (a : Int), .int .u8 (b : Int)] .normal) base W) W (startO (ctx1 9) 9 [.int .u8 (a : Int), .int .u8 (b : Int)] H0) := startO_ok hS.fns (hrel0 hw) hl
    have h1 : OutOk Tryz.prog (ctx1 9) W.heap.size mu0 base (lone (Frame.enter Tryz.prog 9 #[.int .u8 (a : Int), .int .u8 (b : Int)] .normal) base W) W (c1 a b) := by
      unfold c1
      exact runTo_ok hS hw 60 h0
    have s5 : slotOf 5 (c1 a b) = some (.int .u8 (Int.ofNat (a % 12))) := by rw [slot5, e1]
    have s11 : slotOf 11 (c2 a b (a % 12)) = some (.int .i64 (Int.ofNat (b % 6))) := by rw [slot11_all a b _ hk, e2, e3]
    have h2 : OutOk Tryz.prog (ctx1 9) W.heap.size mu0 base (lone (Frame.enter Tryz.prog 9 #[.int .u8 (a : Int), .int .u8 (b : Int)] .normal) base W) W (c2 a b (a % 12)) := by
      unfold c2
      exact runTo_ok hS hw 100 (patch_ok h1 s5)
    unfold c3
    exact runA_ok hS hw 14 (patch_ok h2 s11)
  · rw [VRel] at hv
    exact ⟨by rw [hv], hb⟩
end Go.Am
