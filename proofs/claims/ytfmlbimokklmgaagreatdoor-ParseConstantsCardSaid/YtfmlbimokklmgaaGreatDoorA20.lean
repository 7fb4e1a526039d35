/- Proved here: annuitantlaw12.ParseConstants returns true for any two numbers and any two truth values, and its arguments read afterwards as they did (the tied card Rows.ParseConstantsCardSaid). Conditions: none beside the card's own: the package-level variables it names hold what the program's text lays. -/
import Derived.SevenTiedAt
import Derived.Test.YtfmlbimokklmgaaGreatDoorCards
import Derived.Test.YtfmlbimokklmgaaGreatDoorTie
import Derived.Test.YtfmlbimokklmgaaGreatDoorA19
set_option linter.all false
noncomputable section
set_option maxRecDepth 100000
namespace Go.Proofs.YtfmlbimokklmgaaGreatDoor
open Go Go.Am Go.RowKit Go.ChangeShapes Go.WideShapes Go.ChangeAt
theorem has_nat {k : IntKind} {n : Int} {m : Nat} (h : k.has n) (h0 : k.min = 0) (h1 : k.max = (m : Int)) : ∃ b : Nat, n = (b : Int) /\ b < m + 1 := by
 obtain ⟨g1, g2⟩ := h
 rw [h0] at g1; rw [h1] at g2; exact ⟨n.toNat, by omega, by omega⟩
theorem law_params : ∀ t ∈ Tryz.f5.params.toList, Tryz.prog.readableRec t = true /\ t < Tryz.prog.types.size := by
 rw [Tryz.params5]; have h : ([57, 58].all fun t => Tryz.prog.readableRec t && Nat.blt t Tryz.prog.types.size) = true := by kernel_rfl
 intro t ht; have := ycb.1 h t (by simpa using ht)
 rw [ybb] at this; exact ⟨this.1, by simpa using this.2⟩
theorem law_lifted (os : Os) (started : os.Started) (H : Type) (enc : TypeId × Value -> H) :
  ReturnsInHanded {} Tryz.checked os 5 .any (fun w args => (Rows.parseConstantsSpec.pre enc Tryz.prog Tryz.f5 [] false w args /\ laidMetH Tryz.prog laid3 w) /\ sizedMet enc Tryz.prog Tryz.f5 (OpenSpec.ofChange Rows.parseConstantsSpec) false w args)
   (Rows.parseConstantsSpec.post enc Tryz.prog Tryz.f5 false true false false) := by
 refine z4g (C := Tryz.checked) (X := fun w _ => laidMetH Tryz.prog laid3 w) (fun _ _ _ hh h => h.of_heap hh) own started (by kernel_rfl) Tryz.func5
  (ChangeSpec.witness_shaped (enc := enc) (C := Tryz.checked) (os := os) (X := fun w _ => laidMetH Tryz.prog laid3 w) false (World.doorLaid Tryz.prog 24 os) #[.agg #[.int .u32 0, .int .u32 0], .agg #[.bool false, .bool false]] 8 rfl (World.shaped_of_RefB (by kernel_rfl) (by kernel_rfl)) (by kernel_rfl) (by kernel_rfl) (by kernel_rfl) (door_met os _)) ?_
 intro W base args ds gs before hval0 hW _ hL hsh; have hval : ∀ (j : Nat) t v, Tryz.f5.params[j]? = some t -> args[j]? = some v -> Value.okWide Tryz.prog W .any base t v := hval0
 have hW' := hW
 obtain ⟨p, q, hA0, hV, rfl, hfz, hnd⟩ := hW
 have hA : DataW.TrodAll enc Tryz.prog W 0 (fun _ => true) true Tryz.f5.params.toList args.toList ds p := hA0
 rw [Tryz.params5] at hA hval; obtain ⟨v0, v1, d0, d1, p0, p1, rfl, rfl, rfl, h0, h1⟩ := trodAll_two hA
 obtain ⟨a, b, rfl, ka, kb⟩ := open_two ⟨_, Tryz.underlying57⟩ (by kernel_rfl) (by kernel_rfl) (hval 0 57 v0 rfl rfl)
 obtain ⟨c, d, rfl, kc, kd⟩ := open_two ⟨_, Tryz.underlying58⟩ (by kernel_rfl) (by kernel_rfl) (hval 1 58 v1 rfl rfl)
 obtain ⟨n0, rfl, wa⟩ := cell_int Tryz.underlying56 ka
 obtain ⟨n1, rfl, wb⟩ := cell_int Tryz.underlying56 kb
 obtain ⟨n, rfl, hn⟩ := has_nat (m := 4294967295) wa rfl rfl
 obtain ⟨m, rfl, hm⟩ := has_nat (m := 4294967295) wb rfl rfl
 obtain ⟨x, rfl⟩ := cell_bool Tryz.underlying4 kc
 obtain ⟨y, rfl⟩ := cell_bool Tryz.underlying4 kd
 refine (consts5 (laid_of hL hsh) hn hm).mono fun e W' ⟨he, hb⟩ => ⟨_, he, ?_⟩
 exact law_post (tb := 4) laidOut law_params rfl (by kernel_rfl) bool4 rfl hW' hb
theorem wf1 : (Rows.parseConstantsRow.inPlace == Tryz.prog.inPlace 5) = true := by kernel_rfl
theorem wf2 : (Rows.parseConstantsRow.unfollowed == Tryz.prog.unfollowed 5) = true := by kernel_rfl
theorem wf3 : (Rows.parseConstantsRow.recurses == Tryz.prog.recurses 5) = true := by kernel_rfl
theorem wf4 : (Rows.parseConstantsRow.named == Tryz.prog.varsNamed 5) = true := by kernel_rfl
theorem wf5 : (Rows.parseConstantsRow.plainKeys == Tryz.prog.plainKeys) = true := by kernel_rfl
theorem wf6 : (Rows.parseConstantsRow.lifted == Tryz.prog.liftsFinal) = true := by kernel_rfl
theorem law_facts : joinedFacts Tryz.prog 5 Tryz.f5 Rows.parseConstantsSpec Rows.parseConstantsRow = true :=
 joined_of (by kernel_rfl) wf1 wf2 wf3 wf4 (by kernel_rfl) wf5 stopsHeard mayEnter wf6 (by kernel_rfl)
theorem law_holds : Rows.ParseConstantsSaid :=
 OpenClaim.holds_of_wide 5 Tryz.f5 rfl rfl rfl rfl rfl rfl rfl ⟨rfl, rfl, rfl, rfl, rfl⟩ rfl rfl rfl rfl rfl (by kernel_rfl) Tryz.func5 law_facts
  (of_decide_eq_true (by kernel_rfl)) (by unfold Func.isWrapper; first | (rw [yab (by decide +kernel)]; kernel_rfl) | (rw [yaa (by decide +kernel)]; exact ⟨rfl, rfl⟩))
  (fun os started H enc _ => law_lifted os started H enc)
theorem law_named : Tryz.prog.funcNamed "annuitant/annuitantlaw12.ParseConstants" = some 5 := by kernel_rfl
theorem law_stands : ([57, 58].all fun u => !Tryz.prog.wantsStandIn u) = true := by kernel_rfl
theorem constants_card : Rows.ParseConstantsCardSaid :=
 Claim7.holds_tied_plain_at .later [] [.data, .data, .data] true (true, "02e22dc9e263e1aa98c66175805efa30025401d5425beb95ddb3447ac4931bba") true
  law_holds (fun _ h => by cases h) (by as_aux_lemma => kernel_rfl) (fun _ h => by cases h) parseConstants_row_tie rfl ⟨rfl, rfl⟩ (by as_aux_lemma => kernel_rfl) rfl
  (fun f fn hf hfn => by
   obtain rfl : f = 5 := yci (law_named.symm.trans hf) |>.symm
   obtain rfl : fn = Tryz.f5 := (yci (Tryz.func5.symm.trans hfn)).symm
   exact ⟨by as_aux_lemma => kernel_rfl, fun j t ht => by
    rw [Tryz.params5] at ht; have hm : t ∈ [57, 58] := by simpa using Array.mem_of_getElem? ht
    exact (show Tryz.prog.wantsStandIn t = false by simpa using ycb.1 law_stands t hm)⟩)
  (by as_aux_lemma => kernel_rfl)
end Go.Proofs.YtfmlbimokklmgaaGreatDoor
