/- Proved here: annuitantlaw12.ParsePlaces returns true for every text, and its arguments read afterwards as they did (the tied card Rows.ParsePlacesCardSaid). Conditions: none beside the card's own: the package-level variables it names hold what the program's text lays. -/
import Derived.SevenTiedAt
import Derived.Test.YtfmlbimokklmgaaGreatDoorCards
import Derived.Test.YtfmlbimokklmgaaGreatDoorTie
import Derived.Test.YtfmlbimokklmgaaGreatDoorE20
set_option linter.all false
noncomputable section
set_option maxRecDepth 100000
namespace Go.Proofs.YtfmlbimokklmgaaGreatDoor
open Go Go.Am Go.RowKit Go.ChangeShapes Go.WideShapes Go.ChangeAt
theorem law_params:∀t∈Tryz.f8.params.toList,Tryz.prog.readableRec t=true/\t<Tryz.prog.types.size:=by
 rw[Tryz.params8];have h:([9].all fun t=>Tryz.prog.readableRec t&&Nat.blt t Tryz.prog.types.size)=true:=by kernel_rfl
 intro t ht;have:=ycb.1 h t (by simpa using ht)
 rw[ybb]at this;exact⟨this.1,by simpa using this.2⟩
theorem law_lifted(os:Os)(started:os.Started)(H:Type)(enc:TypeId × Value->H) :
  ReturnsInHanded {} Tryz.checked os 8 .any (fun w args=>(Rows.parsePlacesSpec.pre enc Tryz.prog Tryz.f8 [] false w args/\laidMetH Tryz.prog laid3 w)/\sizedMet enc Tryz.prog Tryz.f8 (OpenSpec.ofChange Rows.parsePlacesSpec) false w args)
   (Rows.parsePlacesSpec.post enc Tryz.prog Tryz.f8 false true false false):=by
 refine ZZ (C:=Tryz.checked) (X:=fun w _=>laidMetH Tryz.prog laid3 w) (fun _ _ _ hh h=>h.of_heap hh) own started (by kernel_rfl) Tryz.func8
  (ChangeSpec.witness_shaped (enc:=enc) (C:=Tryz.checked) (os:=os) (X:=fun w _=>laidMetH Tryz.prog laid3 w) false (World.doorLaid Tryz.prog 24 os) #[.string ⟨#[]⟩] 8 rfl (World.shaped_of_RefB (by kernel_rfl) (by kernel_rfl)) (by kernel_rfl) (by kernel_rfl) (by kernel_rfl) (door_met os _)) ?_
 intro W base args ds gs before hval0 hW _ hL hsh;have hval:∀(j:Nat) t v,Tryz.f8.params[j]?=some t->args[j]?=some v->Value.okWide Tryz.prog W .any base t v:=hval0
 have hW':=hW
 obtain⟨p,q,hA0,hV,rfl,hfz,hnd⟩:=hW
 have hA:DataW.TrodAll enc Tryz.prog W 0 (fun _=>true) true Tryz.f8.params.toList args.toList ds p:=hA0
 rw[Tryz.params8]at hA hval;obtain⟨v0,d0,rfl,rfl,h0⟩:=trodAll_one hA
 obtain⟨x,rfl⟩:=val_str (hval 0 9 v0 rfl rfl)
 refine(places8 (laid_of hL hsh)).mono fun e W' ⟨he,hb⟩=>⟨_,he,?_⟩
 exact law_post (tb:=4) laidOut law_params rfl (by kernel_rfl) bool4 rfl hW' hb
theorem wf1:(Rows.parsePlacesRow.inPlace == Tryz.prog.inPlace 8)=true:=by kernel_rfl
theorem wf2:(Rows.parsePlacesRow.unfollowed == Tryz.prog.unfollowed 8)=true:=by kernel_rfl
theorem wf3:(Rows.parsePlacesRow.recurses == Tryz.prog.recurses 8)=true:=by kernel_rfl
theorem wf4:(Rows.parsePlacesRow.named == Tryz.prog.varsNamed 8)=true:=by kernel_rfl
theorem wf5:(Rows.parsePlacesRow.plainKeys == Tryz.prog.plainKeys)=true:=by kernel_rfl
theorem wf6:(Rows.parsePlacesRow.lifted == Tryz.prog.liftsFinal)=true:=by kernel_rfl
theorem law_facts:joinedFacts Tryz.prog 8 Tryz.f8 Rows.parsePlacesSpec Rows.parsePlacesRow=true:=
 joined_of (by kernel_rfl) wf1 wf2 wf3 wf4 (by kernel_rfl) wf5 stopsHeard mayEnter wf6 (by kernel_rfl)
theorem law_holds:Rows.ParsePlacesSaid:=
 OpenClaim.holds_of_wide 8 Tryz.f8 rfl rfl rfl rfl rfl rfl rfl ⟨rfl,rfl,rfl,rfl,rfl⟩ rfl rfl rfl rfl rfl (by kernel_rfl) Tryz.func8 law_facts
  (of_decide_eq_true (by kernel_rfl)) (by unfold Func.isWrapper;first | (rw[yab (by decide +kernel)];kernel_rfl) | (rw[yaa (by decide +kernel)];exact⟨rfl,rfl⟩))
  (fun os started H enc _=>law_lifted os started H enc)
theorem law_named : Tryz.prog.funcNamed "annuitant/annuitantlaw12.ParsePlaces" = some 8 := by kernel_rfl
theorem law_stands:([9].all fun u => !Tryz.prog.wantsStandIn u)=true:=by kernel_rfl
theorem places_card:Rows.ParsePlacesCardSaid:=
 Claim7.holds_tied_plain_at .later [] [.data, .data, .data] true (true, "02e22dc9e263e1aa98c66175805efa30025401d5425beb95ddb3447ac4931bba") true
  law_holds (fun _ h=>by cases h) (by as_aux_lemma=>kernel_rfl) (fun _ h=>by cases h) parsePlaces_row_tie rfl ⟨rfl,rfl⟩ (by as_aux_lemma=>kernel_rfl) rfl
  (fun f fn hf hfn=>by
   obtain rfl:f=8:=yci (law_named.symm.trans hf) |>.symm
   obtain rfl:fn=Tryz.f8:=(yci (Tryz.func8.symm.trans hfn)).symm
   exact⟨by as_aux_lemma=>kernel_rfl,fun j t ht=>by
    rw[Tryz.params8]at ht;have hm:t∈[9]:=by simpa using Array.mem_of_getElem? ht
    exact(show Tryz.prog.wantsStandIn t=false by simpa using ycb.1 law_stands t hm)⟩)
  (by as_aux_lemma=>kernel_rfl)
end Go.Proofs.YtfmlbimokklmgaaGreatDoor
