/- Proved here: annuitantlaw12.ParseWords returns true for every number, and the number reads afterwards as it did (the tied card Rows.ParseWordsCardSaid). Conditions: none beside the card's own: the package-level variables lengths, kindWords, modeWords hold what the program's text lays. -/
import Derived.Test.YtjiklgloidlihaaGreatDoorAmWords
import Derived.Test.YtjiklgloidlihaaGreatDoorAmParseRow
import Derived.Test.YtjiklgloidlihaaGreatDoorTie
import Derived.Test.YtjiklgloidlihaaGreatDoorCards
import Derived.SevenTiedAt
set_option maxRecDepth 100000
namespace Go.Proofs.YtjiklgloidlihaaGreatDoor
open Go Go.Am Go.RowKit Go.ChangeShapes Go.WideShapes Go.ChangeAt
theorem words_params : ∀ t ∈ Tryz.f4.params.toList, Tryz.prog.readableRec t = true ∧ t < Tryz.prog.types.size := by
  rw [Tryz.params4]
  intro t ht
  have e : t = 5 := by simpa using ht
  subst e
  exact ⟨by kernel_rfl, of_decide_eq_true (by kernel_rfl)⟩
theorem words_lifted (os : Os) (started : os.Started) (H : Type) (enc : TypeId × Value → H) :
    ReturnsInHanded {} Tryz.checked os 4 .any (fun w args => (Rows.parseWordsSpec.pre enc Tryz.prog Tryz.f4 [] false w args ∧ laidMetH Tryz.prog laid3 w) ∧ sizedMet enc Tryz.prog Tryz.f4 (OpenSpec.ofChange Rows.parseWordsSpec) false w args)
      (Rows.parseWordsSpec.post enc Tryz.prog Tryz.f4 false true false false) := by
  refine returns_and_shaped (C := Tryz.checked) (X := fun w _ => laidMetH Tryz.prog laid3 w) (fun _ _ _ hh h => h.of_heap hh) own started (by kernel_rfl) Tryz.func4
    (ChangeSpec.witness_shaped (enc := enc) (C := Tryz.checked) (os := os) (X := fun w _ => laidMetH Tryz.prog laid3 w) false (World.doorLaid Tryz.prog 24 os) #[.int .u8 0] 8 rfl (World.shaped_of_RefB (by kernel_rfl) (by kernel_rfl)) (by kernel_rfl) (by kernel_rfl) (by kernel_rfl) (door_met os _)) ?_
  intro W base args ds gs before hval0 hW _ hL hsh
  have hval : ∀ (j : Nat) t v, Tryz.f4.params[j]? = some t → args[j]? = some v → Value.okWide Tryz.prog W .any base t v := hval0
  have hW' := hW
  obtain ⟨p, q, hA0, hV, rfl, hfz, hnd⟩ := hW
  have hA : DataW.TrodAll enc Tryz.prog W 0 (fun _ => true) true Tryz.f4.params.toList args.toList ds p := hA0
  rw [Tryz.params4] at hA hval
  obtain ⟨v0, d0, rfl, rfl, h0⟩ := trodAll_one hA
  obtain ⟨n, rfl, rfl, rfl, wn⟩ := open_int Tryz.underlying5 (hval 0 5 v0 rfl rfl) h0
  refine (words_calls (laid_of hL hsh) n ?_ ?_).mono fun e W' ⟨he, hb⟩ => ⟨_, he, ?_⟩
  · exact (u8_bounds wn).1
  · exact (u8_bounds wn).2
  · exact law_post (tb := 4) laidOut words_params rfl (by kernel_rfl) bool4 rfl hW' hb
theorem wf1 : (Rows.parseWordsRow.inPlace == Tryz.prog.inPlace 4) = true := by kernel_rfl
theorem wf2 : (Rows.parseWordsRow.unfollowed == Tryz.prog.unfollowed 4) = true := by kernel_rfl
theorem wf3 : (Rows.parseWordsRow.recurses == Tryz.prog.recurses 4) = true := by kernel_rfl
theorem wf4 : (Rows.parseWordsRow.named == Tryz.prog.varsNamed 4) = true := by kernel_rfl
theorem wf5 : (Rows.parseWordsRow.plainKeys == Tryz.prog.plainKeys) = true := by kernel_rfl
theorem wf6 : (Rows.parseWordsRow.lifted == Tryz.prog.liftsFinal) = true := by kernel_rfl
theorem words_facts : joinedFacts Tryz.prog 4 Tryz.f4 Rows.parseWordsSpec Rows.parseWordsRow = true :=
  joined_of (by kernel_rfl) wf1 wf2 wf3 wf4 (by kernel_rfl) wf5 stopsHeard mayEnter wf6 (by kernel_rfl)
theorem words_holds : Rows.ParseWordsSaid :=
  OpenClaim.holds_of_wide 4 Tryz.f4 rfl rfl rfl rfl rfl rfl rfl ⟨rfl, rfl, rfl, rfl, rfl⟩ rfl rfl rfl rfl rfl (by kernel_rfl) Tryz.func4 words_facts
    (of_decide_eq_true (by kernel_rfl)) (by unfold Func.isWrapper; first | (rw [if_pos (by decide +kernel)]; kernel_rfl) | (rw [if_neg (by decide +kernel)]; exact ⟨rfl, rfl⟩))
    (fun os started H enc _ => words_lifted os started H enc)
theorem words_card : Rows.ParseWordsCardSaid :=
  Claim7.holds_tied_plain_at .later [] [.data, .data, .data] true (true, "5d6e487a3c592f1d6a4b46021aa5f9458bf95ee44f3adb4696c0399b7b50f335") true
    words_holds (fun _ h => by cases h) (by kernel_rfl) (fun _ h => by cases h) parseWords_row_tie rfl ⟨rfl, rfl⟩ (by kernel_rfl) rfl
    (fun f fn hf hfn => by
      obtain rfl : f = 4 := Option.some.inj ((show Tryz.prog.funcNamed "annuitant/annuitantlaw12.ParseWords" = some 4 by kernel_rfl).symm.trans hf) |>.symm
      obtain rfl : fn = Tryz.f4 := (Option.some.inj (Tryz.func4.symm.trans hfn)).symm
      exact ⟨by kernel_rfl, fun j t ht => by
        rw [Tryz.params4] at ht
        have hm : t ∈ [5] := by simpa using Array.mem_of_getElem? ht
        have hall : ([5].all fun u => !Tryz.prog.wantsStandIn u) = true := by kernel_rfl
        exact (show Tryz.prog.wantsStandIn t = false by simpa using List.all_eq_true.1 hall t hm)⟩)
    (by kernel_rfl)
#print axioms words_card
end Go.Proofs.YtjiklgloidlihaaGreatDoor
