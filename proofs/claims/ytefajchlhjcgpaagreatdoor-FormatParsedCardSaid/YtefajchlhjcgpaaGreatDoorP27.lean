/- Proved here: annuitantlaw13.FormatParsed returns true for every source of up to 3000 bytes: what is parsed can be written exactly if it is not too deep, and its text is read as it, and its arguments read afterwards as they did (the tied card Rows.FormatParsedCardSaid). Conditions: none beside the card's own: the package-level variables it names hold what the program's text lays. -/
import Derived.SevenTiedAt
import Derived.Test.YtefajchlhjcgpaaGreatDoorCards
import Derived.Test.YtefajchlhjcgpaaGreatDoorTie
import Derived.Test.YtefajchlhjcgpaaGreatDoorP26
set_option linter.all false
noncomputable section
set_option maxRecDepth 100000
namespace Go.Proofs.YtefajchlhjcgpaaGreatDoor
open Go Go.Am Go.RowKit Go.ChangeShapes Go.WideShapes Go.ChangeAt
theorem law_params:∀t∈Tryz.f6.params.toList,Tryz.prog.readableRec t=true/\t<Tryz.prog.types.size:=by
 rw[Tryz.params6];have h:([9].all λt=>Tryz.prog.readableRec t&&Nat.blt t Tryz.prog.types.size)=true:=by kernel_rfl
 intro t a;have:=C8.1 h t (by simpa using a);rw[B3]at this;exact⟨this.1,by simpa using this.2⟩
theorem law_lifted(os:Os)(a:os.Started)(H:Type)(enc:TypeId × Value->H) :
  ReturnsInHanded {} Tryz.checked os 6 .any (λw args=>(Rows.formatParsedSpec.pre enc Tryz.prog Tryz.f6 [] false w args/\laidMetH Tryz.prog laid6 w)/\sizedMet enc Tryz.prog Tryz.f6 (OpenSpec.ofChange Rows.formatParsedSpec) false w args)
   (Rows.formatParsedSpec.post enc Tryz.prog Tryz.f6 false true false false):=by
 refine zaa (C:=Tryz.checked) (X:=λw _=>laidMetH Tryz.prog laid6 w) (λ_ _ _ A h=>h.of_heap A) own a (by kernel_rfl) Tryz.func6
  (ChangeSpec.witness_shaped (enc:=enc) (C:=Tryz.checked) (os:=os) (X:=λw _=>laidMetH Tryz.prog laid6 w) false (World.doorLaid Tryz.prog 100 os) #[.string ⟨#[]⟩] 8 rfl (World.shaped_of_RefB (by kernel_rfl) (by kernel_rfl)) (by kernel_rfl) (by kernel_rfl) (by kernel_rfl) (door_met os _)) ?_
 intro W f args m r g c o d s l;have b:∀(j:Nat) t v,Tryz.f6.params[j]?=some t->args[j]?=some v->Value.okWide Tryz.prog W .any f t v:=c;have d:(DataW.weightsEach Tryz.prog (Tryz.f6.params.toList++Rows.formatParsedSpec.plain.varTypes Tryz.prog) (m++r)).all (· <= reachBytes)=true:=d;have k:=o;obtain⟨p,q,i,J,rfl,z,B⟩:=o;have n:DataW.TrodAll enc Tryz.prog W 0 (λ_=>true) true Tryz.f6.params.toList args.toList m p:=i
 rw[Tryz.params6]at n b d;obtain⟨D,F,rfl,rfl,I⟩:=trodAll_one n;obtain⟨x,rfl⟩:=val_str (b 0 9 D rfl rfl);refine(P5 (laid_of s l)).mono λe E ⟨y,u⟩=>⟨_,y,?_⟩;exact P4 (tb:=4) laidOut law_params rfl (by kernel_rfl) bool4 rfl k u
theorem wf1:(Rows.formatParsedRow.inPlace == Tryz.prog.inPlace 6)=true:=by kernel_rfl
theorem wf2:(Rows.formatParsedRow.unfollowed == Tryz.prog.unfollowed 6)=true:=by kernel_rfl
theorem wf3:(Rows.formatParsedRow.recurses == Tryz.prog.recurses 6)=true:=by kernel_rfl
theorem wf4:(Rows.formatParsedRow.named == Tryz.prog.varsNamed 6)=true:=by kernel_rfl
theorem wf5:(Rows.formatParsedRow.plainKeys == Tryz.prog.plainKeys)=true:=by kernel_rfl
theorem wf6:(Rows.formatParsedRow.lifted == Tryz.prog.liftsFinal)=true:=by kernel_rfl
theorem law_facts:joinedFacts Tryz.prog 6 Tryz.f6 Rows.formatParsedSpec Rows.formatParsedRow=true:=
 K6 (by kernel_rfl) wf1 wf2 wf3 wf4 (by kernel_rfl) wf5 stopsHeard mayEnter wf6 (by kernel_rfl)
theorem law_holds:Rows.FormatParsedSaid:=
 OpenClaim.holds_of_wide 6 Tryz.f6 rfl rfl rfl rfl rfl rfl rfl ⟨rfl,rfl,rfl,rfl,rfl⟩ rfl rfl rfl rfl rfl (by kernel_rfl) Tryz.func6 law_facts
  (of_decide_eq_true (by kernel_rfl)) (by unfold Func.isWrapper;first | (rw[A5 (by decide +kernel)];kernel_rfl) | (rw[A3 (by decide +kernel)];exact⟨rfl,rfl⟩))
  (λc a H b _=>law_lifted c a H b)
theorem law_named : Tryz.prog.funcNamed "annuitant/annuitantlaw13.FormatParsed" = some 6 := by kernel_rfl
theorem law_stands:([9].all λu => !Tryz.prog.wantsStandIn u)=true:=by kernel_rfl
theorem parsed_card:Rows.FormatParsedCardSaid:=
 Claim7.holds_tied_plain_at .later [] [.data, .data, .data, .data, .data, .data] true (true, "6b0823cb8924700f545c450c584c2b8ab8a86323679b05588ebd6422043737a1") true
  law_holds (λ_ h=>by cases h) (by as_aux_lemma=>kernel_rfl) (λ_ h=>by cases h) formatParsed_row_tie rfl ⟨rfl,rfl⟩ (by as_aux_lemma=>kernel_rfl) rfl
  (λf c d a=>by
   obtain rfl:f=6:=D9 (law_named.symm.trans d) |>.symm;obtain rfl:c=Tryz.f6:=(D9 (Tryz.func6.symm.trans a)).symm;exact⟨by as_aux_lemma=>kernel_rfl,λj t b=>by
    rw[Tryz.params6]at b;have e:t∈[9]:=by simpa using Array.mem_of_getElem? b
    exact(show Tryz.prog.wantsStandIn t=false by simpa using C8.1 law_stands t e)⟩)
  (by as_aux_lemma=>kernel_rfl)
end Go.Proofs.YtefajchlhjcgpaaGreatDoor
