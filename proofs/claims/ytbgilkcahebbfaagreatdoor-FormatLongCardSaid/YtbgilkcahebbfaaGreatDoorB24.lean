/- Proved here: annuitantlaw13.FormatLong returns true for every number of rows and with a byte more or none, and its arguments read afterwards as they did (the tied card Rows.FormatLongCardSaid). Conditions: none beside the card's own: the package-level variables it names hold what the program's text lays. -/
import Derived.SevenTiedAt
import Derived.Test.YtbgilkcahebbfaaGreatDoorCards
import Derived.Test.YtbgilkcahebbfaaGreatDoorTie
import Derived.Test.YtbgilkcahebbfaaGreatDoorB23
set_option linter.all false
noncomputable section
set_option maxRecDepth 100000
namespace Go.Proofs.YtbgilkcahebbfaaGreatDoor
open Go Go.Am Go.RowKit Go.ChangeShapes Go.WideShapes Go.ChangeAt
theorem law_params : ∀ t ∈ Tryz.f4.params.toList, Tryz.prog.readableRec t = true /\ t < Tryz.prog.types.size := by
 rw [Tryz.params4]; have h : ([5, 4].all fun t => Tryz.prog.readableRec t && Nat.blt t Tryz.prog.types.size) = true := by kernel_rfl
 intro t ht; have := ybc.1 h t (by simpa using ht)
 rw [yac] at this; exact ⟨this.1, by simpa using this.2⟩
theorem u8_bounds {n : Int} (h : (Lit.int .u8 n).wf = true) : ∃ b : Nat, n = (b : Int) /\ b < 256 := by
 simp only [Lit.wf, yac, decide_eq_true_eq] at h; have h1 : IntKind.u8.min = 0 := rfl
 have h2 : IntKind.u8.max = 255 := rfl
 rw [h1, h2] at h; exact ⟨n.toNat, by omega, by omega⟩
theorem law_lifted (os : Os) (started : os.Started) (H : Type) (enc : TypeId × Value -> H) :
  ReturnsInHanded {} Tryz.checked os 4 .any (fun w args => (Rows.formatLongSpec.pre enc Tryz.prog Tryz.f4 [] false w args /\ laidMetH Tryz.prog laid6 w) /\ sizedMet enc Tryz.prog Tryz.f4 (OpenSpec.ofChange Rows.formatLongSpec) false w args)
   (Rows.formatLongSpec.post enc Tryz.prog Tryz.f4 false true false false) := by
 refine z3b (C := Tryz.checked) (X := fun w _ => laidMetH Tryz.prog laid6 w) (fun _ _ _ hh h => h.of_heap hh) own started (by kernel_rfl) Tryz.func4
  (ChangeSpec.witness_shaped (enc := enc) (C := Tryz.checked) (os := os) (X := fun w _ => laidMetH Tryz.prog laid6 w) false (World.doorLaid Tryz.prog 100 os) #[.int .u8 0, .bool false] 8 rfl (World.shaped_of_RefB (by kernel_rfl) (by kernel_rfl)) (by kernel_rfl) (by kernel_rfl) (by kernel_rfl) (door_met os _)) ?_
 intro W base args ds gs before hval0 hW _ hL hsh; have hval : ∀ (j : Nat) t v, Tryz.f4.params[j]? = some t -> args[j]? = some v -> Value.okWide Tryz.prog W .any base t v := hval0
 have hW' := hW
 obtain ⟨p, q, hA0, hV, rfl, hfz, hnd⟩ := hW
 have hA : DataW.TrodAll enc Tryz.prog W 0 (fun _ => true) true Tryz.f4.params.toList args.toList ds p := hA0
 rw [Tryz.params4] at hA hval; obtain ⟨v0, v1, d0, d1, p0, p1, rfl, rfl, rfl, h0, h1⟩ := trodAll_two hA
 obtain ⟨n, rfl, rfl, rfl, wn⟩ := open_int Tryz.underlying5 (hval 0 5 v0 rfl rfl) h0
 obtain ⟨m, rfl, _⟩ := open_bool Tryz.underlying4 (hval 1 4 v1 rfl rfl) h1
 obtain ⟨b, rfl, hb⟩ := u8_bounds wn
 refine (long4 (laid_of hL hsh) hb).mono fun e W' ⟨he, hb⟩ => ⟨_, he, ?_⟩
 exact law_post (tb := 4) laidOut law_params rfl (by kernel_rfl) bool4 rfl hW' hb
theorem wf1 : (Rows.formatLongRow.inPlace == Tryz.prog.inPlace 4) = true := by kernel_rfl
theorem wf2 : (Rows.formatLongRow.unfollowed == Tryz.prog.unfollowed 4) = true := by kernel_rfl
theorem wf3 : (Rows.formatLongRow.recurses == Tryz.prog.recurses 4) = true := by kernel_rfl
theorem wf4 : (Rows.formatLongRow.named == Tryz.prog.varsNamed 4) = true := by kernel_rfl
theorem wf5 : (Rows.formatLongRow.plainKeys == Tryz.prog.plainKeys) = true := by kernel_rfl
theorem wf6 : (Rows.formatLongRow.lifted == Tryz.prog.liftsFinal) = true := by kernel_rfl
theorem law_facts : joinedFacts Tryz.prog 4 Tryz.f4 Rows.formatLongSpec Rows.formatLongRow = true :=
 joined_of (by kernel_rfl) wf1 wf2 wf3 wf4 (by kernel_rfl) wf5 stopsHeard mayEnter wf6 (by kernel_rfl)
theorem law_holds : Rows.FormatLongSaid :=
 OpenClaim.holds_of_wide 4 Tryz.f4 rfl rfl rfl rfl rfl rfl rfl ⟨rfl, rfl, rfl, rfl, rfl⟩ rfl rfl rfl rfl rfl (by kernel_rfl) Tryz.func4 law_facts
  (of_decide_eq_true (by kernel_rfl)) (by unfold Func.isWrapper; first | (rw [if_pos (by decide +kernel)]; kernel_rfl) | (rw [if_neg (by decide +kernel)]; exact ⟨rfl, rfl⟩))
  (fun os started H enc _ => law_lifted os started H enc)
theorem law_named : Tryz.prog.funcNamed "annuitant/annuitantlaw13.FormatLong" = some 4 := by kernel_rfl
theorem law_stands : ([5, 4].all fun u => !Tryz.prog.wantsStandIn u) = true := by kernel_rfl
theorem long_card : Rows.FormatLongCardSaid :=
 Claim7.holds_tied_plain_at .later [] [.data, .data, .data, .data, .data, .data] true (true, "a90169cb6b294a1368fa9437746e4850c5745bc59b1a8e9d5ebb831fa7598500") false
  law_holds (fun _ h => by cases h) (by as_aux_lemma => kernel_rfl) (fun _ h => by cases h) formatLong_row_tie rfl ⟨rfl, rfl⟩ (by as_aux_lemma => kernel_rfl) rfl
  (fun f fn hf hfn => by
   obtain rfl : f = 4 := ybj (law_named.symm.trans hf) |>.symm
   obtain rfl : fn = Tryz.f4 := (ybj (Tryz.func4.symm.trans hfn)).symm
   exact ⟨by as_aux_lemma => kernel_rfl, fun j t ht => by
    rw [Tryz.params4] at ht; have hm : t ∈ [5, 4] := by simpa using Array.mem_of_getElem? ht
    exact (show Tryz.prog.wantsStandIn t = false by simpa using ybc.1 law_stands t hm)⟩)
  (by as_aux_lemma => kernel_rfl)
end Go.Proofs.YtbgilkcahebbfaaGreatDoor
