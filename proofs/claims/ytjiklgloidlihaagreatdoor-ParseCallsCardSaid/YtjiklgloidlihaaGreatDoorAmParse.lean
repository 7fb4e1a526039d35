/- The abstract machine over the parse seat: its context is the program's. -/
import Derived.Test.YtjiklgloidlihaaGreatDoorAmSim8
import Derived.Test.YtjiklgloidlihaaGreatDoorAmCtx
import Derived.Test.YtjiklgloidlihaaGreatDoorTryzShelf
import Derived.Test.YtjiklgloidlihaaGreatDoorRows
import Derived.ProofKit
import Derived.LaidMore
import Derived.OpenShut
import Derived.Stop.Joined
set_option maxRecDepth 100000
namespace Go.Am
open Go Go.RowKit
/- what the library's functions compute -/
theorem isPre_eq : ∀ (c s : List UInt8), Proofs.isPre (c.map UInt8.toNat) (s.map UInt8.toNat) = c.isPrefixOf s
  | [], _ => by simp [Proofs.isPre]
  | _ :: _, [] => rfl
  | a :: x, b :: y => by
    simp only [List.map_cons, Proofs.isPre, cond_if, isPre_eq x y, List.isPrefixOf]
    by_cases h : a = b
    · subst h; simp
    · have : ¬ Nat.beq a.toNat b.toNat = true := fun e => h (UInt8.toNat_inj.1 (beqs.1 e))
      rw [if_neg this]
      simp [h]
theorem contains_eq (c : List UInt8) : ∀ s : List UInt8, Proofs.containsL (c.map UInt8.toNat) (s.map UInt8.toNat) = Lib.contains s c
  | [] => by cases c <;> simp [Proofs.containsL, Lib.contains, Lib.index]
  | b :: l => by
    have ih := contains_eq c l
    have hp := isPre_eq c (b :: l)
    simp only [List.map_cons] at hp ⊢
    simp only [Proofs.containsL, cond_if, hp, ih]
    unfold Lib.contains
    have ge := Lib.index_ge l c
    rw [Lib.index]
    split
    · simp
    · split
      · rename_i e; simp at e; simp [e]
      · rename_i e; simp at e; simp; omega
theorem index_eq (c : UInt8) : ∀ s : List UInt8, (match Proofs.idxByte c.toNat (s.map UInt8.toNat) with | some n => Int.ofNat n | none => .negSucc 0) = Lib.indexByte s c
  | [] => rfl
  | b :: l => by
    have ih := index_eq c l
    simp only [List.map_cons, Proofs.idxByte, cond_if]
    rw [Lib.indexByte]
    by_cases h : b = c
    · subst h; simp
    · have : ¬ Nat.beq b.toNat c.toNat = true := fun e => h (UInt8.toNat_inj.1 (beqs.1 e))
      rw [if_neg this]
      simp only [beq_iff_eq, h, if_false]
      cases hx : Proofs.idxByte c.toNat (l.map UInt8.toNat) with
      | none => rw [hx] at ih; rw [← ih]; rfl
      | some n =>
        rw [hx] at ih
        rw [← ih]
        simp only [ob_some']
        rw [if_neg (by intro e; simp at e)]
        rfl
theorem count_eq (c : UInt8) : ∀ s : List UInt8, Proofs.countB c.toNat (s.map UInt8.toNat) = Lib.countByte s c
  | [] => rfl
  | b :: l => by
    have ih := count_eq c l
    unfold Lib.countByte at ih ⊢
    simp only [List.map_cons, Proofs.countB, cond_if]
    rw [List.count_cons]
    by_cases h : b = c
    · subst h; simp [ih]
    · have : ¬ Nat.beq b.toNat c.toNat = true := fun e => h (UInt8.toNat_inj.1 (beqs.1 e))
      rw [if_neg this, ih]; simp [h]
theorem cut_eq (c : List UInt8) : ∀ s : List UInt8, match Proofs.cutL (c.map UInt8.toNat) (s.map UInt8.toNat) with
    | some p => ∃ x y, p = (x.map UInt8.toNat, y.map UInt8.toNat) ∧ 0 ≤ Lib.index s c ∧ x = s.take (Lib.index s c).toNat ∧ y = s.drop ((Lib.index s c).toNat + c.length)
    | none => Lib.index s c = -1
  | [] => by
    cases c with
    | nil => exact ⟨[], [], by simp, by simp [Lib.index], by simp, by simp⟩
    | cons a c => simp [Proofs.cutL, Lib.index]
  | b :: l => by
    have ih := cut_eq c l
    have hp := isPre_eq c (b :: l)
    have ge := Lib.index_ge l c
    simp only [List.map_cons] at hp ⊢
    simp only [Proofs.cutL, cond_if, hp]
    rw [Lib.index]
    by_cases h : c.isPrefixOf (b :: l) = true
    · rw [if_pos h, if_pos h]
      refine ⟨[], (b :: l).drop c.length, ?_, by simp, by simp, by simp⟩
      rw [ldrop_eq, llen_eq, List.length_map, ← List.map_cons (f := UInt8.toNat), List.map_drop]
      rfl
    · rw [if_neg h, if_neg h]
      cases hx : Proofs.cutL (c.map UInt8.toNat) (l.map UInt8.toNat) with
      | none => rw [hx] at ih; simp only [] at ih; simp [ih]
      | some p =>
        rw [hx] at ih
        obtain ⟨x, y, rfl, h1, h2, h3⟩ := ih
        have e : ¬ ((Lib.index l c == -1) = true) := by simp; omega
        rw [if_neg e]
        obtain ⟨n, hn⟩ : ∃ n : Nat, Lib.index l c = n := ⟨_, (Int.toNat_of_nonneg h1).symm⟩
        rw [hn] at h2 h3 ⊢
        have e2 : ((n : Int) + 1).toNat = n + 1 := by omega
        have e3 : ((n : Int)).toNat = n := by omega
        rw [e2]
        rw [e3] at h2 h3
        refine ⟨b :: x, y, by simp, by omega, by simp [h2], ?_⟩
        rw [h3, show n + 1 + c.length = (n + c.length) + 1 by omega]
        simp
end Go.Am
