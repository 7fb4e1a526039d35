/- Proved here: annuitantlaw12.ParseExtends returns true for every two texts, and its arguments read afterwards as they did (the tied card Rows.ParseExtendsCardSaid). Conditions: none beside the card's own: the package-level variables it names hold what the program's text lays. -/
import Derived.SevenTiedAt
import Derived.Test.YtfmlbimokklmgaaGreatDoorCards
import Derived.Test.YtfmlbimokklmgaaGreatDoorTie
import Derived.Test.YtfmlbimokklmgaaGreatDoorF20
set_option linter.all false
noncomputable section
set_option maxRecDepth 100000
namespace Go.Proofs.YtfmlbimokklmgaaGreatDoor
open Go Go.Am Go.RowKit Go.ChangeShapes Go.WideShapes Go.ChangeAt
theorem law_params:∀t∈Tryz.f3.params.toList,Tryz.prog.readableRec t=true/\t<Tryz.prog.types.size:=by
 rw[Tryz.params3];have h:([9,9].all fun t=>Tryz.prog.readableRec t&&Nat.blt t Tryz.prog.types.size)=true:=by kernel_rfl
 intro t ht;have:=ycb.1 h t (by simpa using ht)
 rw[ybb]at this;exact⟨this.1,by simpa using this.2⟩
theorem law_lifted(os:Os)(started:os.Started)(H:Type)(enc:TypeId × Value->H) :
  ReturnsInHanded {} Tryz.checked os 3 .any (fun w args=>(Rows.parseExtendsSpec.pre enc Tryz.prog Tryz.f3 [] false w args/\laidMetH Tryz.prog laid3 w)/\sizedMet enc Tryz.prog Tryz.f3 (OpenSpec.ofChange Rows.parseExtendsSpec) false w args)
   (Rows.parseExtendsSpec.post enc Tryz.prog Tryz.f3 false true false false):=by
 refine ZZ (C:=Tryz.checked) (X:=fun w _=>laidMetH Tryz.prog laid3 w) (fun _ _ _ hh h=>h.of_heap hh) own started (by kernel_rfl) Tryz.func3
  (ChangeSpec.witness_shaped (enc:=enc) (C:=Tryz.checked) (os:=os) (X:=fun w _=>laidMetH Tryz.prog laid3 w) false (World.doorLaid Tryz.prog 24 os) #[.string ⟨#[]⟩,.string ⟨#[]⟩] 8 rfl (World.shaped_of_RefB (by kernel_rfl) (by kernel_rfl)) (by kernel_rfl) (by kernel_rfl) (by kernel_rfl) (door_met os _)) ?_
 intro W base args ds gs before hval0 hW _ hL hsh;have hval:∀(j:Nat) t v,Tryz.f3.params[j]?=some t->args[j]?=some v->Value.okWide Tryz.prog W .any base t v:=hval0
 have hW':=hW
 obtain⟨p,q,hA0,hV,rfl,hfz,hnd⟩:=hW
 have hA:DataW.TrodAll enc Tryz.prog W 0 (fun _=>true) true Tryz.f3.params.toList args.toList ds p:=hA0
 rw[Tryz.params3]at hA hval;obtain⟨v0,v1,d0,d1,p0,p1,rfl,rfl,rfl,h0,h1⟩:=trodAll_two hA
 obtain⟨x,rfl⟩:=val_str (hval 0 9 v0 rfl rfl)
 obtain⟨y,rfl⟩:=val_str (hval 1 9 v1 rfl rfl)
 refine(extends3 (laid_of hL hsh)).mono fun e W' ⟨he,hb⟩=>⟨_,he,?_⟩
 exact law_post (tb:=4) laidOut law_params rfl (by kernel_rfl) bool4 rfl hW' hb
theorem wf1:(Rows.parseExtendsRow.inPlace == Tryz.prog.inPlace 3)=true:=by kernel_rfl
theorem wf2:(Rows.parseExtendsRow.unfollowed == Tryz.prog.unfollowed 3)=true:=by kernel_rfl
theorem wf3:(Rows.parseExtendsRow.recurses == Tryz.prog.recurses 3)=true:=by kernel_rfl
theorem wf4:(Rows.parseExtendsRow.named == Tryz.prog.varsNamed 3)=true:=by kernel_rfl
theorem wf5:(Rows.parseExtendsRow.plainKeys == Tryz.prog.plainKeys)=true:=by kernel_rfl
theorem wf6:(Rows.parseExtendsRow.lifted == Tryz.prog.liftsFinal)=true:=by kernel_rfl
theorem law_facts:joinedFacts Tryz.prog 3 Tryz.f3 Rows.parseExtendsSpec Rows.parseExtendsRow=true:=
 joined_of (by kernel_rfl) wf1 wf2 wf3 wf4 (by kernel_rfl) wf5 stopsHeard mayEnter wf6 (by kernel_rfl)
theorem law_holds:Rows.ParseExtendsSaid:=
 OpenClaim.holds_of_wide 3 Tryz.f3 rfl rfl rfl rfl rfl rfl rfl ⟨rfl,rfl,rfl,rfl,rfl⟩ rfl rfl rfl rfl rfl (by kernel_rfl) Tryz.func3 law_facts
  (of_decide_eq_true (by kernel_rfl)) (by unfold Func.isWrapper;first | (rw[yab (by decide +kernel)];kernel_rfl) | (rw[yaa (by decide +kernel)];exact⟨rfl,rfl⟩))
  (fun os started H enc _=>law_lifted os started H enc)
theorem law_named : Tryz.prog.funcNamed "annuitant/annuitantlaw12.ParseExtends" = some 3 := by kernel_rfl
theorem law_stands:([9,9].all fun u => !Tryz.prog.wantsStandIn u)=true:=by kernel_rfl
theorem extends_card:Rows.ParseExtendsCardSaid:=
 Claim7.holds_tied_plain_at .later [] [.data, .data, .data] true (true, "02e22dc9e263e1aa98c66175805efa30025401d5425beb95ddb3447ac4931bba") true
  law_holds (fun _ h=>by cases h) (by as_aux_lemma=>kernel_rfl) (fun _ h=>by cases h) parseExtends_row_tie rfl ⟨rfl,rfl⟩ (by as_aux_lemma=>kernel_rfl) rfl
  (fun f fn hf hfn=>by
   obtain rfl:f=3:=yci (law_named.symm.trans hf) |>.symm
   obtain rfl:fn=Tryz.f3:=(yci (Tryz.func3.symm.trans hfn)).symm
   exact⟨by as_aux_lemma=>kernel_rfl,fun j t ht=>by
    rw[Tryz.params3]at ht;have hm:t∈[9,9]:=by simpa using Array.mem_of_getElem? ht
    exact(show Tryz.prog.wantsStandIn t=false by simpa using ycb.1 law_stands t hm)⟩)
  (by as_aux_lemma=>kernel_rfl)
end Go.Proofs.YtfmlbimokklmgaaGreatDoor
