/- Proved here: annuitantlaw12.ParseCalls returns true for any two numbers, and they read afterwards as they did (the tied card Rows.ParseCallsCardSaid). Conditions: none beside the card's own: the package-level variables lengths, kindWords, modeWords hold what the program's text lays. -/
import Derived.Test.YtjiklgloidlihaaGreatDoorAmCalls2
import Derived.Test.YtjiklgloidlihaaGreatDoorAmParseRow
import Derived.Test.YtjiklgloidlihaaGreatDoorTie
import Derived.Test.YtjiklgloidlihaaGreatDoorCards
import Derived.SevenTiedAt
set_option maxRecDepth 100000
namespace Go.Proofs.YtjiklgloidlihaaGreatDoor
open Go Go.Am Go.RowKit Go.ChangeShapes Go.WideShapes Go.ChangeAt
theorem calls_params : ∀ t ∈ Tryz.f9.params.toList, Tryz.prog.readableRec t = true ∧ t < Tryz.prog.types.size := by
  rw [Tryz.params9]
  intro t ht
  have e : t = 5 := by simpa using ht
  subst e
  exact ⟨by kernel_rfl, of_decide_eq_true (by kernel_rfl)⟩
theorem calls_lifted (os : Os) (started : os.Started) (H : Type) (enc : TypeId × Value → H) :
    ReturnsInHanded {} Tryz.checked os 9 .any (fun w args => (Rows.parseCallsSpec.pre enc Tryz.prog Tryz.f9 [] false w args ∧ laidMetH Tryz.prog laid3 w) ∧ sizedMet enc Tryz.prog Tryz.f9 (OpenSpec.ofChange Rows.parseCallsSpec) false w args)
      (Rows.parseCallsSpec.post enc Tryz.prog Tryz.f9 false true false false) := by
  refine returns_and_shaped (C := Tryz.checked) (X := fun w _ => laidMetH Tryz.prog laid3 w) (fun _ _ _ hh h => h.of_heap hh) own started (by kernel_rfl) Tryz.func9
    (ChangeSpec.witness_shaped (enc := enc) (C := Tryz.checked) (os := os) (X := fun w _ => laidMetH Tryz.prog laid3 w) false (World.doorLaid Tryz.prog 24 os) #[.int .u8 0, .int .u8 0] 8 rfl (World.shaped_of_RefB (by kernel_rfl) (by kernel_rfl)) (by kernel_rfl) (by kernel_rfl) (by kernel_rfl) (door_met os _)) ?_
  intro W base args ds gs before hval0 hW _ hL hsh
  have hval : ∀ (j : Nat) t v, Tryz.f9.params[j]? = some t → args[j]? = some v → Value.okWide Tryz.prog W .any base t v := hval0
  have hW' := hW
  obtain ⟨p, q, hA0, hV, rfl, hfz, hnd⟩ := hW
  have hA : DataW.TrodAll enc Tryz.prog W 0 (fun _ => true) true Tryz.f9.params.toList args.toList ds p := hA0
  rw [Tryz.params9] at hA hval
  obtain ⟨v0, v1, d0, d1, p0, p1, rfl, rfl, rfl, h0, h1⟩ := trodAll_two hA
  obtain ⟨n, rfl, rfl, rfl, wn⟩ := open_int Tryz.underlying5 (hval 0 5 v0 rfl rfl) h0
  obtain ⟨m, rfl, rfl, rfl, wm⟩ := open_int Tryz.underlying5 (hval 1 5 v1 rfl rfl) h1
  refine (calls9 (laid_of hL hsh) n m ?_ ?_).mono fun e W' ⟨he, hb⟩ => ⟨_, he, ?_⟩
  · exact (u8_bounds wn).1
  · exact (u8_bounds wm).1
  · exact law_post (tb := 4) laidOut calls_params rfl (by kernel_rfl) bool4 rfl hW' hb
theorem cf1 : (Rows.parseCallsRow.inPlace == Tryz.prog.inPlace 9) = true := by kernel_rfl
theorem cf2 : (Rows.parseCallsRow.unfollowed == Tryz.prog.unfollowed 9) = true := by kernel_rfl
theorem cf3 : (Rows.parseCallsRow.recurses == Tryz.prog.recurses 9) = true := by kernel_rfl
theorem cf4 : (Rows.parseCallsRow.named == Tryz.prog.varsNamed 9) = true := by kernel_rfl
theorem cf5 : (Rows.parseCallsRow.plainKeys == Tryz.prog.plainKeys) = true := by kernel_rfl
theorem cf6 : (Rows.parseCallsRow.lifted == Tryz.prog.liftsFinal) = true := by kernel_rfl
theorem calls_facts : joinedFacts Tryz.prog 9 Tryz.f9 Rows.parseCallsSpec Rows.parseCallsRow = true :=
  joined_of (by kernel_rfl) cf1 cf2 cf3 cf4 (by kernel_rfl) cf5 stopsHeard mayEnter cf6 (by kernel_rfl)
theorem calls_holds : Rows.ParseCallsSaid :=
  OpenClaim.holds_of_wide 9 Tryz.f9 rfl rfl rfl rfl rfl rfl rfl ⟨rfl, rfl, rfl, rfl, rfl⟩ rfl rfl rfl rfl rfl (by kernel_rfl) Tryz.func9 calls_facts
    (of_decide_eq_true (by kernel_rfl)) (by unfold Func.isWrapper; first | (rw [if_pos (by decide +kernel)]; kernel_rfl) | (rw [if_neg (by decide +kernel)]; exact ⟨rfl, rfl⟩))
    (fun os started H enc _ => calls_lifted os started H enc)
theorem calls_card : Rows.ParseCallsCardSaid :=
  Claim7.holds_tied_plain_at .later [] [.data, .data, .data] true (true, "5d6e487a3c592f1d6a4b46021aa5f9458bf95ee44f3adb4696c0399b7b50f335") true
    calls_holds (fun _ h => by cases h) (by kernel_rfl) (fun _ h => by cases h) parseCalls_row_tie rfl ⟨rfl, rfl⟩ (by kernel_rfl) rfl
    (fun f fn hf hfn => by
      obtain rfl : f = 9 := Option.some.inj ((show Tryz.prog.funcNamed "annuitant/annuitantlaw12.ParseCalls" = some 9 by kernel_rfl).symm.trans hf) |>.symm
      obtain rfl : fn = Tryz.f9 := (Option.some.inj (Tryz.func9.symm.trans hfn)).symm
      exact ⟨by kernel_rfl, fun j t ht => by
        rw [Tryz.params9] at ht
        have hm : t ∈ [5] := by simpa using Array.mem_of_getElem? ht
        have hall : ([5].all fun u => !Tryz.prog.wantsStandIn u) = true := by kernel_rfl
        exact (show Tryz.prog.wantsStandIn t = false by simpa using List.all_eq_true.1 hall t hm)⟩)
    (by kernel_rfl)
#print axioms calls_card
end Go.Proofs.YtjiklgloidlihaaGreatDoor
