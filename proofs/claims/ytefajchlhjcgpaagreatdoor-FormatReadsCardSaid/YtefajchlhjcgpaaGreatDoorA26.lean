/- Proved here: annuitantlaw13.FormatReads returns true for every expression: the texts of an expression and of its value are read back, and its arguments read afterwards as they did (the tied card Rows.FormatReadsCardSaid). Conditions: none beside the card's own: the package-level variables it names hold what the program's text lays. -/
import Derived.SevenTiedAt
import Derived.Test.YtefajchlhjcgpaaGreatDoorCards
import Derived.Test.YtefajchlhjcgpaaGreatDoorTie
import Derived.Test.YtefajchlhjcgpaaGreatDoorA25
set_option linter.all false
noncomputable section
set_option maxRecDepth 100000
namespace Go.Proofs.YtefajchlhjcgpaaGreatDoor
open Go Go.Am Go.RowKit Go.ChangeShapes Go.WideShapes Go.ChangeAt
def zeroWhole:List Value:=[.bool false,.slice none 0 0]
def zeroExpr:Value:=.agg (#[.int .u8 0,.string ⟨#[]⟩,.int .u8 0]++zeroWhole.toArray++zeroWhole.toArray ++ #[.int .i64 0,.slice none 0 0])
theorem law_params:∀t∈Tryz.f4.params.toList,Tryz.prog.readableRec t=true/\t<Tryz.prog.types.size:=by
 rw[Tryz.params4];have h:([31].all fun t=>Tryz.prog.readableRec t&&Nat.blt t Tryz.prog.types.size)=true:=by kernel_rfl
 intro t ht;have:=ycb.1 h t (by simpa using ht)
 rw[ybb]at this;exact⟨this.1,by simpa using this.2⟩
theorem law_lifted(os:Os)(started:os.Started)(H:Type)(enc:TypeId × Value->H) :
  ReturnsInHanded {} Tryz.checked os 4 .any (fun w args=>(Rows.formatReadsSpec.pre enc Tryz.prog Tryz.f4 [] false w args/\laidMetH Tryz.prog laid6 w)/\sizedMet enc Tryz.prog Tryz.f4 (OpenSpec.ofChange Rows.formatReadsSpec) false w args)
   (Rows.formatReadsSpec.post enc Tryz.prog Tryz.f4 false true false false):=by
 refine ZZ (C:=Tryz.checked) (X:=fun w _=>laidMetH Tryz.prog laid6 w) (fun _ _ _ hh h=>h.of_heap hh) own started (by kernel_rfl) Tryz.func4
  (ChangeSpec.witness_shaped (enc:=enc) (C:=Tryz.checked) (os:=os) (X:=fun w _=>laidMetH Tryz.prog laid6 w) false (World.doorLaid Tryz.prog 100 os) #[zeroExpr] 8 rfl (World.shaped_of_RefB (by kernel_rfl) (by kernel_rfl)) (by kernel_rfl) (by kernel_rfl) (by kernel_rfl) (door_met os _)) ?_
 intro W base args ds gs before hval0 hW hwt hL hsh;have hval:∀(j:Nat) t v,Tryz.f4.params[j]?=some t->args[j]?=some v->Value.okWide Tryz.prog W .any base t v:=hval0
 have hwt:(DataW.weightsEach Tryz.prog (Tryz.f4.params.toList++Rows.formatReadsSpec.plain.varTypes Tryz.prog) (ds++gs)).all (· <= reachBytes)=true:=hwt
 have hW':=hW
 obtain⟨p,q,hA0,hV,rfl,hfz,hnd⟩:=hW
 have hA:DataW.TrodAll enc Tryz.prog W 0 (fun _=>true) true Tryz.f4.params.toList args.toList ds p:=hA0
 rw[Tryz.params4]at hA hval hwt;obtain⟨v0,d0,rfl,rfl,h0⟩:=trodAll_one hA
 have hL':=laid_of hL hsh
 obtain⟨cs0,x0,rfl,hp0,hh0,hrd0⟩:=open_expr hL' (hval 0 31 v0 rfl rfl) h0 (EN hwt (i:=0) rfl rfl)
 refine(freads4 hL' hp0 hh0 hrd0).mono fun e W' ⟨he,hb⟩=>⟨_,he,?_⟩
 exact law_post (tb:=4) laidOut law_params rfl (by kernel_rfl) bool4 rfl hW' hb
theorem wf1:(Rows.formatReadsRow.inPlace == Tryz.prog.inPlace 4)=true:=by kernel_rfl
theorem wf2:(Rows.formatReadsRow.unfollowed == Tryz.prog.unfollowed 4)=true:=by kernel_rfl
theorem wf3:(Rows.formatReadsRow.recurses == Tryz.prog.recurses 4)=true:=by kernel_rfl
theorem wf4:(Rows.formatReadsRow.named == Tryz.prog.varsNamed 4)=true:=by kernel_rfl
theorem wf5:(Rows.formatReadsRow.plainKeys == Tryz.prog.plainKeys)=true:=by kernel_rfl
theorem wf6:(Rows.formatReadsRow.lifted == Tryz.prog.liftsFinal)=true:=by kernel_rfl
theorem law_facts:joinedFacts Tryz.prog 4 Tryz.f4 Rows.formatReadsSpec Rows.formatReadsRow=true:=
 joined_of (by kernel_rfl) wf1 wf2 wf3 wf4 (by kernel_rfl) wf5 stopsHeard mayEnter wf6 (by kernel_rfl)
theorem law_holds:Rows.FormatReadsSaid:=
 OpenClaim.holds_of_wide 4 Tryz.f4 rfl rfl rfl rfl rfl rfl rfl ⟨rfl,rfl,rfl,rfl,rfl⟩ rfl rfl rfl rfl rfl (by kernel_rfl) Tryz.func4 law_facts
  (of_decide_eq_true (by kernel_rfl)) (by unfold Func.isWrapper;first | (rw[yab (by decide +kernel)];kernel_rfl) | (rw[yaa (by decide +kernel)];exact⟨rfl,rfl⟩))
  (fun os started H enc _=>law_lifted os started H enc)
theorem law_named : Tryz.prog.funcNamed "annuitant/annuitantlaw13.FormatReads" = some 4 := by kernel_rfl
theorem law_stands:([31].all fun u => !Tryz.prog.wantsStandIn u)=true:=by kernel_rfl
theorem reads_card:Rows.FormatReadsCardSaid:=
 Claim7.holds_tied_plain_at .later [] [.data, .data, .data, .data, .data, .data] true (true, "6b0823cb8924700f545c450c584c2b8ab8a86323679b05588ebd6422043737a1") true
  law_holds (fun _ h=>by cases h) (by as_aux_lemma=>kernel_rfl) (fun _ h=>by cases h) formatReads_row_tie rfl ⟨rfl,rfl⟩ (by as_aux_lemma=>kernel_rfl) rfl
  (fun f fn hf hfn=>by
   obtain rfl:f=4:=yci (law_named.symm.trans hf) |>.symm
   obtain rfl:fn=Tryz.f4:=(yci (Tryz.func4.symm.trans hfn)).symm
   exact⟨by as_aux_lemma=>kernel_rfl,fun j t ht=>by
    rw[Tryz.params4]at ht;have hm:t∈[31]:=by simpa using Array.mem_of_getElem? ht
    exact(show Tryz.prog.wantsStandIn t=false by simpa using ycb.1 law_stands t hm)⟩)
  (by as_aux_lemma=>kernel_rfl)
end Go.Proofs.YtefajchlhjcgpaaGreatDoor
