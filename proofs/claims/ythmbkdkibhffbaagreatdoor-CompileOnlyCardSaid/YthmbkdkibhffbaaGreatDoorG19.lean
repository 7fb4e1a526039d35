/- Proved here: annuitantlaw19.CompileOnly returns true for any program and any number, and its arguments read afterwards as they did (the tied card Rows.CompileOnlyCardSaid). Conditions: none beside the card's own: the package-level variables it names hold what the program's text lays. -/
import Derived.SevenTiedAt
import Derived.Test.YthmbkdkibhffbaaGreatDoorCards
import Derived.Test.YthmbkdkibhffbaaGreatDoorTie
import Derived.Test.YthmbkdkibhffbaaGreatDoorG18
set_option linter.all false
noncomputable section
set_option maxRecDepth 100000
namespace Go.Proofs.YthmbkdkibhffbaaGreatDoor
open Go Go.Am Go.RowKit Go.ChangeShapes Go.WideShapes Go.ChangeAt
def zeroProg:Value:=.agg #[.string ⟨#[]⟩,.slice none 0 0,.slice none 0 0,.slice none 0 0,.slice none 0 0,.slice none 0 0,.slice none 0 0,.slice none 0 0]
theorem law_params:∀t∈Tryz.f11.params.toList,Tryz.prog.readableRec t=true/\t<Tryz.prog.types.size:=by
 rw[Tryz.params11];have h:([34,3].all fun t=>Tryz.prog.readableRec t&&Nat.blt t Tryz.prog.types.size)=true:=by kernel_rfl
 intro t ht;have:=ybc.1 h t (by simpa using ht)
 rw[yac]at this;exact⟨this.1,by simpa using this.2⟩
theorem law_lifted(os:Os)(started:os.Started)(H:Type)(enc:TypeId × Value->H) :
  ReturnsInHanded {} Tryz.checked os 11 .any (fun w args=>(Rows.compileOnlySpec.pre enc Tryz.prog Tryz.f11 [] false w args/\laidMetH Tryz.prog laid4 w)/\sizedMet enc Tryz.prog Tryz.f11 (OpenSpec.ofChange Rows.compileOnlySpec) false w args)
   (Rows.compileOnlySpec.post enc Tryz.prog Tryz.f11 false true false false):=by
 refine zn8 (C:=Tryz.checked) (X:=fun w _=>laidMetH Tryz.prog laid4 w) (fun _ _ _ hh h=>h.of_heap hh) own started (by kernel_rfl) Tryz.func11
  (ChangeSpec.witness_shaped (enc:=enc) (C:=Tryz.checked) (os:=os) (X:=fun w _=>laidMetH Tryz.prog laid4 w) false (World.doorLaid Tryz.prog 60 os) #[zeroProg,.int .i64 0] 8 rfl (World.shaped_of_RefB (by kernel_rfl) (by kernel_rfl)) (by kernel_rfl) (by kernel_rfl) (by kernel_rfl) (door_met os _)) ?_
 intro W base args ds gs before hval0 hW hwt hL hsh;have hval:∀(j:Nat) t v,Tryz.f11.params[j]?=some t->args[j]?=some v->Value.okWide Tryz.prog W .any base t v:=hval0
 have hwt:(DataW.weightsEach Tryz.prog (Tryz.f11.params.toList++Rows.compileOnlySpec.plain.varTypes Tryz.prog) (ds++gs)).all (· <= reachBytes)=true:=hwt
 have hW':=hW
 obtain⟨p,q,hA0,hV,rfl,hfz,hnd⟩:=hW
 have hA:DataW.TrodAll enc Tryz.prog W 0 (fun _=>true) true Tryz.f11.params.toList args.toList ds p:=hA0
 rw[Tryz.params11]at hA hval hwt;obtain⟨v0,v1,d0,d1,p0,p1,rfl,rfl,rfl,h0,h1⟩:=trodAll_two hA
 obtain⟨n,rfl,rfl,rfl,wn⟩:=open_int Tryz.underlying3 (hval 1 3 v1 rfl rfl) h1
 have hL':=laid_of hL hsh
 obtain⟨cs,pl,rfl,hp,hh,hrd⟩:=open_prog hL' (hval 0 34 v0 rfl rfl) h0 (hZ hwt (i:=0) rfl rfl)
 refine(only11 hL' hp hh hrd).mono fun e W' ⟨he,hb⟩=>⟨_,he,?_⟩
 exact law_post (tb:=4) laidOut law_params rfl (by kernel_rfl) bool4 rfl hW' hb
theorem cf1:(Rows.compileOnlyRow.inPlace == Tryz.prog.inPlace 11)=true:=by kernel_rfl
theorem cf2:(Rows.compileOnlyRow.unfollowed == Tryz.prog.unfollowed 11)=true:=by kernel_rfl
theorem cf3:(Rows.compileOnlyRow.recurses == Tryz.prog.recurses 11)=true:=by kernel_rfl
theorem cf4:(Rows.compileOnlyRow.named == Tryz.prog.varsNamed 11)=true:=by kernel_rfl
theorem cf5:(Rows.compileOnlyRow.plainKeys == Tryz.prog.plainKeys)=true:=by kernel_rfl
theorem cf6:(Rows.compileOnlyRow.lifted == Tryz.prog.liftsFinal)=true:=by kernel_rfl
theorem law_facts:joinedFacts Tryz.prog 11 Tryz.f11 Rows.compileOnlySpec Rows.compileOnlyRow=true:=
 joined_of (by kernel_rfl) cf1 cf2 cf3 cf4 (by kernel_rfl) cf5 stopsHeard mayEnter cf6 (by kernel_rfl)
theorem law_holds:Rows.CompileOnlySaid:=
 OpenClaim.holds_of_wide 11 Tryz.f11 rfl rfl rfl rfl rfl rfl rfl ⟨rfl,rfl,rfl,rfl,rfl⟩ rfl rfl rfl rfl rfl (by kernel_rfl) Tryz.func11 law_facts
  (of_decide_eq_true (by kernel_rfl)) (by unfold Func.isWrapper;first | (rw[if_pos (by decide +kernel)];kernel_rfl) | (rw[if_neg (by decide +kernel)];exact⟨rfl,rfl⟩))
  (fun os started H enc _=>law_lifted os started H enc)
theorem law_named : Tryz.prog.funcNamed "annuitant/annuitantlaw19.CompileOnly" = some 11 := by kernel_rfl
theorem law_stands:([34,3].all fun u => !Tryz.prog.wantsStandIn u)=true:=by kernel_rfl
theorem only_card:Rows.CompileOnlyCardSaid:=
 Claim7.holds_tied_plain_at .later [] [.data, .data, .data, .data] true (true, "de73e16d1e4db2c14a8198ea6980b3954d8aef82a2fdce1ca783859b51da1afc") false
  law_holds (fun _ h=>by cases h) (by as_aux_lemma=>kernel_rfl) (fun _ h=>by cases h) compileOnly_row_tie rfl ⟨rfl,rfl⟩ (by as_aux_lemma=>kernel_rfl) rfl
  (fun f fn hf hfn=>by
   obtain rfl:f=11:=ybj (law_named.symm.trans hf) |>.symm
   obtain rfl:fn=Tryz.f11:=(ybj (Tryz.func11.symm.trans hfn)).symm
   exact⟨by as_aux_lemma=>kernel_rfl,fun j t ht=>by
    rw[Tryz.params11]at ht;have hm:t∈[34,3]:=by simpa using Array.mem_of_getElem? ht
    exact(show Tryz.prog.wantsStandIn t=false by simpa using ybc.1 law_stands t hm)⟩)
  (by as_aux_lemma=>kernel_rfl)
end Go.Proofs.YthmbkdkibhffbaaGreatDoor
