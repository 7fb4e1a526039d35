/- ParseWords: the runs. -/
import Derived.Test.YtjiklgloidlihaaGreatDoorAmParse3
import Derived.Test.YtjiklgloidlihaaGreatDoorAmAwake
set_option maxRecDepth 100000
namespace Go.Am
open Go Go.RowKit Go.Proofs
theorem awake_calls {w : World} (hw : LaidW w) : Calls Tryz.prog 13 #[] w fun e w' => e = .returned (.bool true) ∧ Below w.heap.size w w' :=
  true_of_run hw (sim0 13 _ hw.size) rfl .nil awake_run
theorem prims1_ok (root N : Nat) : PrimsOk Tryz.prog (ctx1 root) N LaidW := by
  intro f g hg args H v hv μ w args' hH hI hl
  have hg1 : prims1.get f = some g := hg
  unfold prims1 at hg1
  rw [Tr.get_set] at hg1
  split at hg1
  · rename_i e
    subst e
    cases hg1
    refine .inr ⟨enters (fn := Tryz.f13) Tryz.func13 (by kernel_rfl), ?_⟩
    unfold pTrue at hv
    split at hv
    case h_2 => cases hv
    cases hv
    rw [LRel] at hl
    have : args' = #[] := by apply Array.toList_inj.1; simpa using hl
    subst this
    exact (awake_calls hI).mono fun e w' ⟨h1, h2⟩ => ⟨_, h1, by rw [VRel], h2⟩
  · exact prims0_ok root N f g hg1 args H v hv μ w args' hH hI hl
theorem sim1 (root N : Nat) (hN : 4 ≤ N) : Sim Tryz.prog (ctx1 root) N LaidW :=
  ⟨tys_ok, fns_ok, prims1_ok root N, Nat.le_refl _, by kernel_rfl, fun _ _ hb h => h.below hN hb⟩
theorem words_run : ((List.range 256).all fun n => Nat.beq (fin (runA (ctx1 4) 8 (startO (ctx1 4) 4 [.int .u8 (.ofNat n)] H0))) 1) = true := by kernel_rfl
theorem words_calls {w : World} (hw : LaidW w) (n : Int) (h0 : 0 ≤ n) (h1 : n < 256) : Calls Tryz.prog 4 #[.int .u8 n] w fun e w' => e = .returned (.bool true) ∧ Below w.heap.size w w' := by
  obtain ⟨k, rfl⟩ := Int.eq_ofNat_of_zero_le h0
  have hk : k < 256 := by omega
  have := List.all_eq_true.1 words_run k (List.mem_range.2 hk)
  exact true_of_run hw (sim1 4 _ hw.size) rfl (.single (by rw [VRel]; rfl)) (beqs.1 this)
end Go.Am
