/- Proved here: annuitantlaw14.TypesParts returns true for any expression, and its argument reads afterwards as it did (the tied card Rows.TypesPartsCardSaid). Conditions: none beside the card's own: the package-level variables it names hold what the program's text lays. -/
import Derived.SevenTiedAt
import Derived.Test.YtfijloeeppcipaaGreatDoorCards
import Derived.Test.YtfijloeeppcipaaGreatDoorTie
import Derived.Test.YtfijloeeppcipaaGreatDoorA24
set_option linter.all false
noncomputable section
set_option maxRecDepth 100000
namespace Go.Proofs.YtfijloeeppcipaaGreatDoor
open Go Go.Am Go.RowKit Go.ChangeShapes Go.WideShapes Go.ChangeAt
def zeroWhole:List Value:=[.bool false,.slice none 0 0]
def zeroExpr:Value:=.agg (#[.int .u8 0,.string ⟨#[]⟩,.int .u8 0]++zeroWhole.toArray++zeroWhole.toArray ++ #[.int .i64 0,.slice none 0 0])
theorem law_params:∀t∈Tryz.f7.params.toList,Tryz.prog.readableRec t=true/\t<Tryz.prog.types.size:=by
 rw[Tryz.params7];have h:([36].all fun t=>Tryz.prog.readableRec t&&Nat.blt t Tryz.prog.types.size)=true:=by kernel_rfl
 intro t ht;have:=ybc.1 h t (by simpa using ht)
 rw[yac]at this;exact⟨this.1,by simpa using this.2⟩
theorem law_lifted(os:Os)(started:os.Started)(H:Type)(enc:TypeId × Value->H) :
  ReturnsInHanded {} Tryz.checked os 7 .any (fun w args=>(Rows.typesPartsSpec.pre enc Tryz.prog Tryz.f7 [] false w args/\laidMetH Tryz.prog laid5 w)/\sizedMet enc Tryz.prog Tryz.f7 (OpenSpec.ofChange Rows.typesPartsSpec) false w args)
   (Rows.typesPartsSpec.post enc Tryz.prog Tryz.f7 false true false false):=by
 refine zpw (C:=Tryz.checked) (X:=fun w _=>laidMetH Tryz.prog laid5 w) (fun _ _ _ hh h=>h.of_heap hh) own started (by kernel_rfl) Tryz.func7
  (ChangeSpec.witness_shaped (enc:=enc) (C:=Tryz.checked) (os:=os) (X:=fun w _=>laidMetH Tryz.prog laid5 w) false (World.doorLaid Tryz.prog 100 os) #[zeroExpr] 8 rfl (World.shaped_of_RefB (by kernel_rfl) (by kernel_rfl)) (by kernel_rfl) (by kernel_rfl) (by kernel_rfl) (door_met os _)) ?_
 intro W base args ds gs before hval0 hW hwt hL hsh;have hval:∀(j:Nat) t v,Tryz.f7.params[j]?=some t->args[j]?=some v->Value.okWide Tryz.prog W .any base t v:=hval0
 have hwt:(DataW.weightsEach Tryz.prog (Tryz.f7.params.toList++Rows.typesPartsSpec.plain.varTypes Tryz.prog) (ds++gs)).all (· <= reachBytes)=true:=hwt
 have hW':=hW
 obtain⟨p,q,hA0,hV,rfl,hfz,hnd⟩:=hW
 have hA:DataW.TrodAll enc Tryz.prog W 0 (fun _=>true) true Tryz.f7.params.toList args.toList ds p:=hA0
 rw[Tryz.params7]at hA hval hwt;obtain⟨v0,d0,rfl,rfl,h0⟩:=trodAll_one hA
 have hL':=laid_of hL hsh
 obtain⟨cs,x,rfl,hp,hh,hrd⟩:=open_expr hL' (hval 0 36 v0 rfl rfl) h0 (lZ hwt (i:=0) rfl rfl)
 refine(tparts7 hL' hp hh hrd).mono fun e W' ⟨he,hb⟩=>⟨_,he,?_⟩
 exact law_post (tb:=4) laidOut law_params rfl (by kernel_rfl) bool4 rfl hW' hb
theorem wf1:(Rows.typesPartsRow.inPlace == Tryz.prog.inPlace 7)=true:=by kernel_rfl
theorem wf2:(Rows.typesPartsRow.unfollowed == Tryz.prog.unfollowed 7)=true:=by kernel_rfl
theorem wf3:(Rows.typesPartsRow.recurses == Tryz.prog.recurses 7)=true:=by kernel_rfl
theorem wf4:(Rows.typesPartsRow.named == Tryz.prog.varsNamed 7)=true:=by kernel_rfl
theorem wf5:(Rows.typesPartsRow.plainKeys == Tryz.prog.plainKeys)=true:=by kernel_rfl
theorem wf6:(Rows.typesPartsRow.lifted == Tryz.prog.liftsFinal)=true:=by kernel_rfl
theorem law_facts:joinedFacts Tryz.prog 7 Tryz.f7 Rows.typesPartsSpec Rows.typesPartsRow=true:=
 joined_of (by kernel_rfl) wf1 wf2 wf3 wf4 (by kernel_rfl) wf5 stopsHeard mayEnter wf6 (by kernel_rfl)
theorem law_holds:Rows.TypesPartsSaid:=
 OpenClaim.holds_of_wide 7 Tryz.f7 rfl rfl rfl rfl rfl rfl rfl ⟨rfl,rfl,rfl,rfl,rfl⟩ rfl rfl rfl rfl rfl (by kernel_rfl) Tryz.func7 law_facts
  (of_decide_eq_true (by kernel_rfl)) (by unfold Func.isWrapper;first | (rw[if_pos (by decide +kernel)];kernel_rfl) | (rw[if_neg (by decide +kernel)];exact⟨rfl,rfl⟩))
  (fun os started H enc _=>law_lifted os started H enc)
theorem law_named : Tryz.prog.funcNamed "annuitant/annuitantlaw14.TypesParts" = some 7 := by kernel_rfl
theorem law_stands:([36].all fun u => !Tryz.prog.wantsStandIn u)=true:=by kernel_rfl
theorem parts_card:Rows.TypesPartsCardSaid:=
 Claim7.holds_tied_plain_at .later [] [.data, .data, .data, .data, .data] true (true, "4ca4bae741df3ee67646995a9230b32134802d275fbc993d6af49cb48b595e22") false
  law_holds (fun _ h=>by cases h) (by as_aux_lemma=>kernel_rfl) (fun _ h=>by cases h) typesParts_row_tie rfl ⟨rfl,rfl⟩ (by as_aux_lemma=>kernel_rfl) rfl
  (fun f fn hf hfn=>by
   obtain rfl:f=7:=ybj (law_named.symm.trans hf) |>.symm
   obtain rfl:fn=Tryz.f7:=(ybj (Tryz.func7.symm.trans hfn)).symm
   exact⟨by as_aux_lemma=>kernel_rfl,fun j t ht=>by
    rw[Tryz.params7]at ht;have hm:t∈[36]:=by simpa using Array.mem_of_getElem? ht
    exact(show Tryz.prog.wantsStandIn t=false by simpa using ybc.1 law_stands t hm)⟩)
  (by as_aux_lemma=>kernel_rfl)
end Go.Proofs.YtfijloeeppcipaaGreatDoor
