/- Proved here: annuitantlaw13.FormatBack returns true for every plan: its text is read back, and its arguments read afterwards as they did (the tied card Rows.FormatBackCardSaid). Conditions: none beside the card's own: the package-level variables it names hold what the program's text lays. -/
import Derived.SevenTiedAt
import Derived.Test.YtefajchlhjcgpaaGreatDoorCards
import Derived.Test.YtefajchlhjcgpaaGreatDoorTie
import Derived.Test.YtefajchlhjcgpaaGreatDoorC26
set_option linter.all false
noncomputable section
set_option maxRecDepth 100000
namespace Go.Proofs.YtefajchlhjcgpaaGreatDoor
open Go Go.Am Go.RowKit Go.ChangeShapes Go.WideShapes Go.ChangeAt
def zeroPlan:Value:=.agg #[.string ⟨#[]⟩,.slice none 0 0,.slice none 0 0,.slice none 0 0]
theorem law_params:∀t∈Tryz.f5.params.toList,Tryz.prog.readableRec t=true/\t<Tryz.prog.types.size:=by
 rw[Tryz.params5];have h:([52].all λt=>Tryz.prog.readableRec t&&Nat.blt t Tryz.prog.types.size)=true:=by kernel_rfl
 intro t a;have:=C9.1 h t (by simpa using a);rw[B2]at this;exact⟨this.1,by simpa using this.2⟩
theorem law_lifted(os:Os)(a:os.Started)(H:Type)(enc:TypeId × Value->H) :
  ReturnsInHanded {} Tryz.checked os 5 .any (λw args=>(Rows.formatBackSpec.pre enc Tryz.prog Tryz.f5 [] false w args/\laidMetH Tryz.prog laid6 w)/\sizedMet enc Tryz.prog Tryz.f5 (OpenSpec.ofChange Rows.formatBackSpec) false w args)
   (Rows.formatBackSpec.post enc Tryz.prog Tryz.f5 false true false false):=by
 refine zaa (C:=Tryz.checked) (X:=λw _=>laidMetH Tryz.prog laid6 w) (λ_ _ _ J h=>h.of_heap J) own a (by kernel_rfl) Tryz.func5
  (ChangeSpec.witness_shaped (enc:=enc) (C:=Tryz.checked) (os:=os) (X:=λw _=>laidMetH Tryz.prog laid6 w) false (World.doorLaid Tryz.prog 100 os) #[zeroPlan] 8 rfl (World.shaped_of_RefB (by kernel_rfl) (by kernel_rfl)) (by kernel_rfl) (by kernel_rfl) (by kernel_rfl) (door_met os _)) ?_
 intro W f args u A l d y b D s;have c:∀(j:Nat) t v,Tryz.f5.params[j]?=some t->args[j]?=some v->Value.okWide Tryz.prog W .any f t v:=d;have b:(DataW.weightsEach Tryz.prog (Tryz.f5.params.toList++Rows.formatBackSpec.plain.varTypes Tryz.prog) (u++A)).all (· <= reachBytes)=true:=b;have n:=y;obtain⟨p,q,m,Q,rfl,I,K⟩:=y;have x:DataW.TrodAll enc Tryz.prog W 0 (λ_=>true) true Tryz.f5.params.toList args.toList u p:=m
 rw[Tryz.params5]at x c b;obtain⟨M,P,rfl,rfl,B⟩:=trodAll_one x;have g:=laid_of D s;obtain⟨z,L,rfl,r,o,k⟩:=open_plan g (c 0 52 M rfl rfl) B (HH b (i:=0) rfl rfl);refine(l9 g r o k).mono λe N ⟨F,E⟩=>⟨_,F,?_⟩;exact O7 (tb:=4) laidOut law_params rfl (by kernel_rfl) bool4 rfl n E
theorem wf1:(Rows.formatBackRow.inPlace == Tryz.prog.inPlace 5)=true:=by kernel_rfl
theorem wf2:(Rows.formatBackRow.unfollowed == Tryz.prog.unfollowed 5)=true:=by kernel_rfl
theorem wf3:(Rows.formatBackRow.recurses == Tryz.prog.recurses 5)=true:=by kernel_rfl
theorem wf4:(Rows.formatBackRow.named == Tryz.prog.varsNamed 5)=true:=by kernel_rfl
theorem wf5:(Rows.formatBackRow.plainKeys == Tryz.prog.plainKeys)=true:=by kernel_rfl
theorem wf6:(Rows.formatBackRow.lifted == Tryz.prog.liftsFinal)=true:=by kernel_rfl
theorem law_facts:joinedFacts Tryz.prog 5 Tryz.f5 Rows.formatBackSpec Rows.formatBackRow=true:=
 K0 (by kernel_rfl) wf1 wf2 wf3 wf4 (by kernel_rfl) wf5 stopsHeard mayEnter wf6 (by kernel_rfl)
theorem law_holds:Rows.FormatBackSaid:=
 OpenClaim.holds_of_wide 5 Tryz.f5 rfl rfl rfl rfl rfl rfl rfl ⟨rfl,rfl,rfl,rfl,rfl⟩ rfl rfl rfl rfl rfl (by kernel_rfl) Tryz.func5 law_facts
  (of_decide_eq_true (by kernel_rfl)) (by unfold Func.isWrapper;first | (rw[A5 (by decide +kernel)];kernel_rfl) | (rw[A3 (by decide +kernel)];exact⟨rfl,rfl⟩))
  (λc a H b _=>law_lifted c a H b)
theorem law_named : Tryz.prog.funcNamed "annuitant/annuitantlaw13.FormatBack" = some 5 := by kernel_rfl
theorem law_stands:([52].all λu => !Tryz.prog.wantsStandIn u)=true:=by kernel_rfl
theorem back_card:Rows.FormatBackCardSaid:=
 Claim7.holds_tied_plain_at .later [] [.data, .data, .data, .data, .data, .data] true (true, "6b0823cb8924700f545c450c584c2b8ab8a86323679b05588ebd6422043737a1") true
  law_holds (λ_ h=>by cases h) (by as_aux_lemma=>kernel_rfl) (λ_ h=>by cases h) formatBack_row_tie rfl ⟨rfl,rfl⟩ (by as_aux_lemma=>kernel_rfl) rfl
  (λf c d a=>by
   obtain rfl:f=5:=D6 (law_named.symm.trans d) |>.symm;obtain rfl:c=Tryz.f5:=(D6 (Tryz.func5.symm.trans a)).symm;exact⟨by as_aux_lemma=>kernel_rfl,λj t b=>by
    rw[Tryz.params5]at b;have e:t∈[52]:=by simpa using Array.mem_of_getElem? b
    exact(show Tryz.prog.wantsStandIn t=false by simpa using C9.1 law_stands t e)⟩)
  (by as_aux_lemma=>kernel_rfl)
end Go.Proofs.YtefajchlhjcgpaaGreatDoor
