/- Proved here: annuitantlaw14.TypesFirst returns true for every plan, two expressions and every operation, and its arguments read afterwards as they did (the tied card Rows.TypesFirstCardSaid). Conditions: none beside the card's own: the package-level variables it names hold what the program's text lays. -/
import Derived.SevenTiedAt
import Derived.Test.YtfijloeeppcipaaGreatDoorCards
import Derived.Test.YtfijloeeppcipaaGreatDoorTie
import Derived.Test.YtfijloeeppcipaaGreatDoorB24
set_option linter.all false
noncomputable section
set_option maxRecDepth 100000
namespace Go.Proofs.YtfijloeeppcipaaGreatDoor
open Go Go.Am Go.RowKit Go.ChangeShapes Go.WideShapes Go.ChangeAt
def zeroWhole:List Value:=[.bool false,.slice none 0 0]
def zeroPair:Value:=.agg (#[.int .u8 0,.string ⟨#[]⟩,.int .u8 0]++zeroWhole.toArray++zeroWhole.toArray ++ #[.int .i64 0,.slice none 0 0] ++ #[.int .u8 0,.string ⟨#[]⟩,.int .u8 0]++zeroWhole.toArray++zeroWhole.toArray ++ #[.int .i64 0,.slice none 0 0])
def zeroPlan:Value:=.agg #[.string ⟨#[]⟩,.slice none 0 0,.slice none 0 0,.slice none 0 0]
theorem law_params:∀t∈Tryz.f4.params.toList,Tryz.prog.readableRec t=true/\t<Tryz.prog.types.size:=by
 rw[Tryz.params4];have h:([26,37,5].all fun t=>Tryz.prog.readableRec t&&Nat.blt t Tryz.prog.types.size)=true:=by kernel_rfl
 intro t ht;have:=ybc.1 h t (by simpa using ht)
 rw[yac]at this;exact⟨this.1,by simpa using this.2⟩
theorem z47{n:Int}(h:(Lit.int .u8 n).wf=true):∃b:Nat,n=(b:Int)/\b<256:=by
 simp only[Lit.wf,yac,decide_eq_true_eq]at h;have h1:IntKind.u8.min=0:=rfl
 have h2:IntKind.u8.max=255:=rfl
 rw[h1,h2]at h;exact⟨n.toNat,by omega,by omega⟩
theorem law_lifted(os:Os)(started:os.Started)(H:Type)(enc:TypeId × Value->H) :
  ReturnsInHanded {} Tryz.checked os 4 .any (fun w args=>(Rows.typesFirstSpec.pre enc Tryz.prog Tryz.f4 [] false w args/\laidMetH Tryz.prog laid5 w)/\sizedMet enc Tryz.prog Tryz.f4 (OpenSpec.ofChange Rows.typesFirstSpec) false w args)
   (Rows.typesFirstSpec.post enc Tryz.prog Tryz.f4 false true false false):=by
 refine zpv (C:=Tryz.checked) (X:=fun w _=>laidMetH Tryz.prog laid5 w) (fun _ _ _ hh h=>h.of_heap hh) own started (by kernel_rfl) Tryz.func4
  (ChangeSpec.witness_shaped (enc:=enc) (C:=Tryz.checked) (os:=os) (X:=fun w _=>laidMetH Tryz.prog laid5 w) false (World.doorLaid Tryz.prog 100 os) #[zeroPlan,zeroPair,.int .u8 0] 8 rfl (World.shaped_of_RefB (by kernel_rfl) (by kernel_rfl)) (by kernel_rfl) (by kernel_rfl) (by kernel_rfl) (door_met os _)) ?_
 intro W base args ds gs before hval0 hW hwt hL hsh;have hval:∀(j:Nat) t v,Tryz.f4.params[j]?=some t->args[j]?=some v->Value.okWide Tryz.prog W .any base t v:=hval0
 have hwt:(DataW.weightsEach Tryz.prog (Tryz.f4.params.toList++Rows.typesFirstSpec.plain.varTypes Tryz.prog) (ds++gs)).all (· <= reachBytes)=true:=hwt
 have hW':=hW
 obtain⟨p,q,hA0,hV,rfl,hfz,hnd⟩:=hW
 have hA:DataW.TrodAll enc Tryz.prog W 0 (fun _=>true) true Tryz.f4.params.toList args.toList ds p:=hA0
 rw[Tryz.params4]at hA hval hwt;obtain⟨v0,v1,v2,d0,d1,d2,p0,p1,p2,rfl,rfl,rfl,h0,h1,h2⟩:=trodAll_three hA
 obtain⟨n2,rfl,rfl,rfl,wn2⟩:=open_int Tryz.underlying5 (hval 2 5 v2 rfl rfl) h2
 obtain⟨b2,rfl,hb2⟩:=z47 wn2
 have hL':=laid_of hL hsh
 obtain⟨cs0,pl0,rfl,hp0,hh0,hrd0⟩:=open_plan hL' (hval 0 26 v0 rfl rfl) h0 (iZ hwt (i:=0) rfl rfl)
 obtain⟨cs1,x1,y1,a1,c1,rfl,hx1,hy1,hk1,hab1,ha1,hc1⟩:=open_pair hL' (hval 1 37 v1 rfl rfl) h1 (iZ hwt (i:=1) rfl rfl)
 refine(tfirst4 hL' hp0 hx1 hy1 hh0 hrd0 hk1 hab1 ha1 hc1).mono fun e W' ⟨he,hb⟩=>⟨_,he,?_⟩
 exact law_post (tb:=4) laidOut law_params rfl (by kernel_rfl) bool4 rfl hW' hb
theorem wf1:(Rows.typesFirstRow.inPlace == Tryz.prog.inPlace 4)=true:=by kernel_rfl
theorem wf2:(Rows.typesFirstRow.unfollowed == Tryz.prog.unfollowed 4)=true:=by kernel_rfl
theorem wf3:(Rows.typesFirstRow.recurses == Tryz.prog.recurses 4)=true:=by kernel_rfl
theorem wf4:(Rows.typesFirstRow.named == Tryz.prog.varsNamed 4)=true:=by kernel_rfl
theorem wf5:(Rows.typesFirstRow.plainKeys == Tryz.prog.plainKeys)=true:=by kernel_rfl
theorem wf6:(Rows.typesFirstRow.lifted == Tryz.prog.liftsFinal)=true:=by kernel_rfl
theorem law_facts:joinedFacts Tryz.prog 4 Tryz.f4 Rows.typesFirstSpec Rows.typesFirstRow=true:=
 joined_of (by kernel_rfl) wf1 wf2 wf3 wf4 (by kernel_rfl) wf5 stopsHeard mayEnter wf6 (by kernel_rfl)
theorem law_holds:Rows.TypesFirstSaid:=
 OpenClaim.holds_of_wide 4 Tryz.f4 rfl rfl rfl rfl rfl rfl rfl ⟨rfl,rfl,rfl,rfl,rfl⟩ rfl rfl rfl rfl rfl (by kernel_rfl) Tryz.func4 law_facts
  (of_decide_eq_true (by kernel_rfl)) (by unfold Func.isWrapper;first | (rw[if_pos (by decide +kernel)];kernel_rfl) | (rw[if_neg (by decide +kernel)];exact⟨rfl,rfl⟩))
  (fun os started H enc _=>law_lifted os started H enc)
theorem law_named : Tryz.prog.funcNamed "annuitant/annuitantlaw14.TypesFirst" = some 4 := by kernel_rfl
theorem law_stands:([26,37,5].all fun u => !Tryz.prog.wantsStandIn u)=true:=by kernel_rfl
theorem first_card:Rows.TypesFirstCardSaid:=
 Claim7.holds_tied_plain_at .later [] [.data, .data, .data, .data, .data] true (true, "4ca4bae741df3ee67646995a9230b32134802d275fbc993d6af49cb48b595e22") false
  law_holds (fun _ h=>by cases h) (by as_aux_lemma=>kernel_rfl) (fun _ h=>by cases h) typesFirst_row_tie rfl ⟨rfl,rfl⟩ (by as_aux_lemma=>kernel_rfl) rfl
  (fun f fn hf hfn=>by
   obtain rfl:f=4:=ybj (law_named.symm.trans hf) |>.symm
   obtain rfl:fn=Tryz.f4:=(ybj (Tryz.func4.symm.trans hfn)).symm
   exact⟨by as_aux_lemma=>kernel_rfl,fun j t ht=>by
    rw[Tryz.params4]at ht;have hm:t∈[26,37,5]:=by simpa using Array.mem_of_getElem? ht
    exact(show Tryz.prog.wantsStandIn t=false by simpa using ybc.1 law_stands t hm)⟩)
  (by as_aux_lemma=>kernel_rfl)
end Go.Proofs.YtfijloeeppcipaaGreatDoor
