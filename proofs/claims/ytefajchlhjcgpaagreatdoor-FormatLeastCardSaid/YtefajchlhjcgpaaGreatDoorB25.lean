/- Proved here: annuitantlaw13.FormatLeast returns true for every expression: no pair of parentheses in its text can be left out, and its arguments read afterwards as they did (the tied card Rows.FormatLeastCardSaid). Conditions: none beside the card's own: the package-level variables it names hold what the program's text lays. -/
import Derived.SevenTiedAt
import Derived.Test.YtefajchlhjcgpaaGreatDoorCards
import Derived.Test.YtefajchlhjcgpaaGreatDoorTie
import Derived.Test.YtefajchlhjcgpaaGreatDoorB24
set_option linter.all false
noncomputable section
set_option maxRecDepth 100000
namespace Go.Proofs.YtefajchlhjcgpaaGreatDoor
open Go Go.Am Go.RowKit Go.ChangeShapes Go.WideShapes Go.ChangeAt
def zeroWhole:List Value:=[.bool false,.slice none 0 0]
def zeroExpr:Value:=.agg (#[.int .u8 0,.string ⟨#[]⟩,.int .u8 0]++zeroWhole.toArray++zeroWhole.toArray ++ #[.int .i64 0,.slice none 0 0])
theorem law_params:∀t∈Tryz.f3.params.toList,Tryz.prog.readableRec t=true/\t<Tryz.prog.types.size:=by
 rw[Tryz.params3];have h:([31].all fun t=>Tryz.prog.readableRec t&&Nat.blt t Tryz.prog.types.size)=true:=by kernel_rfl
 intro t ht;have:=ycb.1 h t (by simpa using ht)
 rw[ybb]at this;exact⟨this.1,by simpa using this.2⟩
theorem law_lifted(os:Os)(started:os.Started)(H:Type)(enc:TypeId × Value->H) :
  ReturnsInHanded {} Tryz.checked os 3 .any (fun w args=>(Rows.formatLeastSpec.pre enc Tryz.prog Tryz.f3 [] false w args/\laidMetH Tryz.prog laid6 w)/\sizedMet enc Tryz.prog Tryz.f3 (OpenSpec.ofChange Rows.formatLeastSpec) false w args)
   (Rows.formatLeastSpec.post enc Tryz.prog Tryz.f3 false true false false):=by
 refine ZZ (C:=Tryz.checked) (X:=fun w _=>laidMetH Tryz.prog laid6 w) (fun _ _ _ hh h=>h.of_heap hh) own started (by kernel_rfl) Tryz.func3
  (ChangeSpec.witness_shaped (enc:=enc) (C:=Tryz.checked) (os:=os) (X:=fun w _=>laidMetH Tryz.prog laid6 w) false (World.doorLaid Tryz.prog 100 os) #[zeroExpr] 8 rfl (World.shaped_of_RefB (by kernel_rfl) (by kernel_rfl)) (by kernel_rfl) (by kernel_rfl) (by kernel_rfl) (door_met os _)) ?_
 intro W base args ds gs before hval0 hW hwt hL hsh;have hval:∀(j:Nat) t v,Tryz.f3.params[j]?=some t->args[j]?=some v->Value.okWide Tryz.prog W .any base t v:=hval0
 have hwt:(DataW.weightsEach Tryz.prog (Tryz.f3.params.toList++Rows.formatLeastSpec.plain.varTypes Tryz.prog) (ds++gs)).all (· <= reachBytes)=true:=hwt
 have hW':=hW
 obtain⟨p,q,hA0,hV,rfl,hfz,hnd⟩:=hW
 have hA:DataW.TrodAll enc Tryz.prog W 0 (fun _=>true) true Tryz.f3.params.toList args.toList ds p:=hA0
 rw[Tryz.params3]at hA hval hwt;obtain⟨v0,d0,rfl,rfl,h0⟩:=trodAll_one hA
 have hL':=laid_of hL hsh
 obtain⟨cs0,x0,rfl,hp0,hh0,hrd0⟩:=open_expr hL' (hval 0 31 v0 rfl rfl) h0 (CS hwt (i:=0) rfl rfl)
 refine(fleast3 hL' hp0 hh0 hrd0).mono fun e W' ⟨he,hb⟩=>⟨_,he,?_⟩
 exact law_post (tb:=4) laidOut law_params rfl (by kernel_rfl) bool4 rfl hW' hb
theorem wf1:(Rows.formatLeastRow.inPlace == Tryz.prog.inPlace 3)=true:=by kernel_rfl
theorem wf2:(Rows.formatLeastRow.unfollowed == Tryz.prog.unfollowed 3)=true:=by kernel_rfl
theorem wf3:(Rows.formatLeastRow.recurses == Tryz.prog.recurses 3)=true:=by kernel_rfl
theorem wf4:(Rows.formatLeastRow.named == Tryz.prog.varsNamed 3)=true:=by kernel_rfl
theorem wf5:(Rows.formatLeastRow.plainKeys == Tryz.prog.plainKeys)=true:=by kernel_rfl
theorem wf6:(Rows.formatLeastRow.lifted == Tryz.prog.liftsFinal)=true:=by kernel_rfl
theorem law_facts:joinedFacts Tryz.prog 3 Tryz.f3 Rows.formatLeastSpec Rows.formatLeastRow=true:=
 joined_of (by kernel_rfl) wf1 wf2 wf3 wf4 (by kernel_rfl) wf5 stopsHeard mayEnter wf6 (by kernel_rfl)
theorem law_holds:Rows.FormatLeastSaid:=
 OpenClaim.holds_of_wide 3 Tryz.f3 rfl rfl rfl rfl rfl rfl rfl ⟨rfl,rfl,rfl,rfl,rfl⟩ rfl rfl rfl rfl rfl (by kernel_rfl) Tryz.func3 law_facts
  (of_decide_eq_true (by kernel_rfl)) (by unfold Func.isWrapper;first | (rw[yab (by decide +kernel)];kernel_rfl) | (rw[yaa (by decide +kernel)];exact⟨rfl,rfl⟩))
  (fun os started H enc _=>law_lifted os started H enc)
theorem law_named : Tryz.prog.funcNamed "annuitant/annuitantlaw13.FormatLeast" = some 3 := by kernel_rfl
theorem law_stands:([31].all fun u => !Tryz.prog.wantsStandIn u)=true:=by kernel_rfl
theorem least_card:Rows.FormatLeastCardSaid:=
 Claim7.holds_tied_plain_at .later [] [.data, .data, .data, .data, .data, .data] true (true, "6b0823cb8924700f545c450c584c2b8ab8a86323679b05588ebd6422043737a1") true
  law_holds (fun _ h=>by cases h) (by as_aux_lemma=>kernel_rfl) (fun _ h=>by cases h) formatLeast_row_tie rfl ⟨rfl,rfl⟩ (by as_aux_lemma=>kernel_rfl) rfl
  (fun f fn hf hfn=>by
   obtain rfl:f=3:=yci (law_named.symm.trans hf) |>.symm
   obtain rfl:fn=Tryz.f3:=(yci (Tryz.func3.symm.trans hfn)).symm
   exact⟨by as_aux_lemma=>kernel_rfl,fun j t ht=>by
    rw[Tryz.params3]at ht;have hm:t∈[31]:=by simpa using Array.mem_of_getElem? ht
    exact(show Tryz.prog.wantsStandIn t=false by simpa using ycb.1 law_stands t hm)⟩)
  (by as_aux_lemma=>kernel_rfl)
end Go.Proofs.YtefajchlhjcgpaaGreatDoor
