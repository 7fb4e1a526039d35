/- Proved here: annuitantlaw13.FormatSigns returns true for every number, and the number reads afterwards as it did (the tied card Rows.FormatSignsCardSaid). Conditions: none beside the card's own: the package-level variables it names hold what the program's text lays. -/
import Derived.SevenTiedAt
import Derived.Test.YtbgilkcahebbfaaGreatDoorCards
import Derived.Test.YtbgilkcahebbfaaGreatDoorTie
import Derived.Test.YtbgilkcahebbfaaGreatDoorA23
set_option linter.all false
noncomputable section
set_option maxRecDepth 100000
namespace Go.Proofs.YtbgilkcahebbfaaGreatDoor
open Go Go.Am Go.RowKit Go.ChangeShapes Go.WideShapes Go.ChangeAt
theorem law_params : ∀ t ∈ Tryz.f5.params.toList, Tryz.prog.readableRec t = true /\ t < Tryz.prog.types.size := by
 rw [Tryz.params5]; intro t ht; have e : t = 3 := by simpa using ht
 subst e; exact ⟨by kernel_rfl, of_decide_eq_true (by kernel_rfl)⟩
theorem i64_bounds {n : Int} (h : (Lit.int .i64 n).wf = true) : -9223372036854775808 <= n /\ n < 9223372036854775808 := by
 simp only [Lit.wf, yac, decide_eq_true_eq] at h; have h1 : IntKind.i64.min = -9223372036854775808 := rfl
 have h2 : IntKind.i64.max = 9223372036854775807 := rfl
 rw [h1, h2] at h; omega
theorem law_lifted (os : Os) (started : os.Started) (H : Type) (enc : TypeId × Value -> H) :
  ReturnsInHanded {} Tryz.checked os 5 .any (fun w args => (Rows.formatSignsSpec.pre enc Tryz.prog Tryz.f5 [] false w args /\ laidMetH Tryz.prog laid6 w) /\ sizedMet enc Tryz.prog Tryz.f5 (OpenSpec.ofChange Rows.formatSignsSpec) false w args)
   (Rows.formatSignsSpec.post enc Tryz.prog Tryz.f5 false true false false) := by
 refine z0o (C := Tryz.checked) (X := fun w _ => laidMetH Tryz.prog laid6 w) (fun _ _ _ hh h => h.of_heap hh) own started (by kernel_rfl) Tryz.func5
  (ChangeSpec.witness_shaped (enc := enc) (C := Tryz.checked) (os := os) (X := fun w _ => laidMetH Tryz.prog laid6 w) false (World.doorLaid Tryz.prog 100 os) #[.int .i64 0] 8 rfl (World.shaped_of_RefB (by kernel_rfl) (by kernel_rfl)) (by kernel_rfl) (by kernel_rfl) (by kernel_rfl) (door_met os _)) ?_
 intro W base args ds gs before hval0 hW _ hL hsh; have hval : ∀ (j : Nat) t v, Tryz.f5.params[j]? = some t -> args[j]? = some v -> Value.okWide Tryz.prog W .any base t v := hval0
 have hW' := hW
 obtain ⟨p, q, hA0, hV, rfl, hfz, hnd⟩ := hW
 have hA : DataW.TrodAll enc Tryz.prog W 0 (fun _ => true) true Tryz.f5.params.toList args.toList ds p := hA0
 rw [Tryz.params5] at hA hval; obtain ⟨v0, d0, rfl, rfl, h0⟩ := trodAll_one hA
 obtain ⟨n, rfl, rfl, rfl, wn⟩ := open_int Tryz.underlying3 (hval 0 3 v0 rfl rfl) h0
 obtain ⟨b1, b2⟩ := i64_bounds wn
 refine (signs5 (laid_of hL hsh) b1 b2).mono fun e W' ⟨he, hb⟩ => ⟨_, he, ?_⟩
 exact law_post (tb := 4) laidOut law_params rfl (by kernel_rfl) bool4 rfl hW' hb
theorem wf1 : (Rows.formatSignsRow.inPlace == Tryz.prog.inPlace 5) = true := by kernel_rfl
theorem wf2 : (Rows.formatSignsRow.unfollowed == Tryz.prog.unfollowed 5) = true := by kernel_rfl
theorem wf3 : (Rows.formatSignsRow.recurses == Tryz.prog.recurses 5) = true := by kernel_rfl
theorem wf4 : (Rows.formatSignsRow.named == Tryz.prog.varsNamed 5) = true := by kernel_rfl
theorem wf5 : (Rows.formatSignsRow.plainKeys == Tryz.prog.plainKeys) = true := by kernel_rfl
theorem wf6 : (Rows.formatSignsRow.lifted == Tryz.prog.liftsFinal) = true := by kernel_rfl
theorem law_facts : joinedFacts Tryz.prog 5 Tryz.f5 Rows.formatSignsSpec Rows.formatSignsRow = true :=
 joined_of (by kernel_rfl) wf1 wf2 wf3 wf4 (by kernel_rfl) wf5 stopsHeard mayEnter wf6 (by kernel_rfl)
theorem law_holds : Rows.FormatSignsSaid :=
 OpenClaim.holds_of_wide 5 Tryz.f5 rfl rfl rfl rfl rfl rfl rfl ⟨rfl, rfl, rfl, rfl, rfl⟩ rfl rfl rfl rfl rfl (by kernel_rfl) Tryz.func5 law_facts
  (of_decide_eq_true (by kernel_rfl)) (by unfold Func.isWrapper; first | (rw [if_pos (by decide +kernel)]; kernel_rfl) | (rw [if_neg (by decide +kernel)]; exact ⟨rfl, rfl⟩))
  (fun os started H enc _ => law_lifted os started H enc)
theorem law_named : Tryz.prog.funcNamed "annuitant/annuitantlaw13.FormatSigns" = some 5 := by kernel_rfl
theorem law_stands : ([3].all fun u => !Tryz.prog.wantsStandIn u) = true := by kernel_rfl
theorem signs_card : Rows.FormatSignsCardSaid :=
 Claim7.holds_tied_plain_at .later [] [.data, .data, .data, .data, .data, .data] true (true, "a90169cb6b294a1368fa9437746e4850c5745bc59b1a8e9d5ebb831fa7598500") false
  law_holds (fun _ h => by cases h) (by as_aux_lemma => kernel_rfl) (fun _ h => by cases h) formatSigns_row_tie rfl ⟨rfl, rfl⟩ (by as_aux_lemma => kernel_rfl) rfl
  (fun f fn hf hfn => by
   obtain rfl : f = 5 := ybj (law_named.symm.trans hf) |>.symm
   obtain rfl : fn = Tryz.f5 := (ybj (Tryz.func5.symm.trans hfn)).symm
   exact ⟨by as_aux_lemma => kernel_rfl, fun j t ht => by
    rw [Tryz.params5] at ht; have hm : t ∈ [3] := by simpa using Array.mem_of_getElem? ht
    exact (show Tryz.prog.wantsStandIn t = false by simpa using ybc.1 law_stands t hm)⟩)
  (by as_aux_lemma => kernel_rfl)
end Go.Proofs.YtbgilkcahebbfaaGreatDoor
