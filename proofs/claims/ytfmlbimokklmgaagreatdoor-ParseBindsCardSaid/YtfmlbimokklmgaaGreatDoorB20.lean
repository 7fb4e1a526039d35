/- Proved here: annuitantlaw12.ParseBinds returns true for any two numbers of one byte and any two texts, and its arguments read afterwards as they did (the tied card Rows.ParseBindsCardSaid). Conditions: none beside the card's own: the package-level variables it names hold what the program's text lays. -/
import Derived.SevenTiedAt
import Derived.Test.YtfmlbimokklmgaaGreatDoorCards
import Derived.Test.YtfmlbimokklmgaaGreatDoorTie
import Derived.Test.YtfmlbimokklmgaaGreatDoorB19
set_option linter.all false
noncomputable section
set_option maxRecDepth 100000
namespace Go.Proofs.YtfmlbimokklmgaaGreatDoor
open Go Go.Am Go.RowKit Go.ChangeShapes Go.WideShapes Go.ChangeAt
theorem has_nat{k:IntKind}{n:Int}{m:Nat}(h:k.has n)(h0:k.min=0)(h1:k.max=(m:Int)):∃b:Nat,n=(b:Int)/\b<m+1:=by
 obtain⟨g1,g2⟩:=h
 rw[h0]at g1;rw[h1]at g2;exact⟨n.toNat,by omega,by omega⟩
theorem law_params:∀t∈Tryz.f4.params.toList,Tryz.prog.readableRec t=true/\t<Tryz.prog.types.size:=by
 rw[Tryz.params4];have h:([36,37].all fun t=>Tryz.prog.readableRec t&&Nat.blt t Tryz.prog.types.size)=true:=by kernel_rfl
 intro t ht;have:=ycb.1 h t (by simpa using ht)
 rw[ybb]at this;exact⟨this.1,by simpa using this.2⟩
theorem law_lifted(os:Os)(started:os.Started)(H:Type)(enc:TypeId × Value->H) :
  ReturnsInHanded {} Tryz.checked os 4 .any (fun w args=>(Rows.parseBindsSpec.pre enc Tryz.prog Tryz.f4 [] false w args/\laidMetH Tryz.prog laid3 w)/\sizedMet enc Tryz.prog Tryz.f4 (OpenSpec.ofChange Rows.parseBindsSpec) false w args)
   (Rows.parseBindsSpec.post enc Tryz.prog Tryz.f4 false true false false):=by
 refine ZZ (C:=Tryz.checked) (X:=fun w _=>laidMetH Tryz.prog laid3 w) (fun _ _ _ hh h=>h.of_heap hh) own started (by kernel_rfl) Tryz.func4
  (ChangeSpec.witness_shaped (enc:=enc) (C:=Tryz.checked) (os:=os) (X:=fun w _=>laidMetH Tryz.prog laid3 w) false (World.doorLaid Tryz.prog 24 os) #[.agg #[.int .u8 0,.int .u8 0],.agg #[.string ⟨#[]⟩,.string ⟨#[]⟩]] 8 rfl (World.shaped_of_RefB (by kernel_rfl) (by kernel_rfl)) (by kernel_rfl) (by kernel_rfl) (by kernel_rfl) (door_met os _)) ?_
 intro W base args ds gs before hval0 hW _ hL hsh;have hval:∀(j:Nat) t v,Tryz.f4.params[j]?=some t->args[j]?=some v->Value.okWide Tryz.prog W .any base t v:=hval0
 have hW':=hW
 obtain⟨p,q,hA0,hV,rfl,hfz,hnd⟩:=hW
 have hA:DataW.TrodAll enc Tryz.prog W 0 (fun _=>true) true Tryz.f4.params.toList args.toList ds p:=hA0
 rw[Tryz.params4]at hA hval;obtain⟨v0,v1,d0,d1,p0,p1,rfl,rfl,rfl,h0,h1⟩:=trodAll_two hA
 obtain⟨a,b,rfl,ka,kb⟩:=open_two ⟨_,Tryz.underlying36⟩ (by kernel_rfl) (by kernel_rfl) (hval 0 36 v0 rfl rfl)
 obtain⟨c,d,rfl,kc,kd⟩:=open_two ⟨_,Tryz.underlying37⟩ (by kernel_rfl) (by kernel_rfl) (hval 1 37 v1 rfl rfl)
 obtain⟨n0,rfl,wa⟩:=cell_int Tryz.underlying5 ka
 obtain⟨n1,rfl,wb⟩:=cell_int Tryz.underlying5 kb
 obtain⟨n,rfl,hn⟩:=has_nat (m:=255) wa rfl rfl
 obtain⟨m,rfl,hm⟩:=has_nat (m:=255) wb rfl rfl
 obtain⟨x,rfl⟩:=cell_str Tryz.underlying9 kc
 obtain⟨y,rfl⟩:=cell_str Tryz.underlying9 kd
 refine(binds4 (laid_of hL hsh)).mono fun e W' ⟨he,hb⟩=>⟨_,he,?_⟩
 exact law_post (tb:=4) laidOut law_params rfl (by kernel_rfl) bool4 rfl hW' hb
theorem wf1:(Rows.parseBindsRow.inPlace == Tryz.prog.inPlace 4)=true:=by kernel_rfl
theorem wf2:(Rows.parseBindsRow.unfollowed == Tryz.prog.unfollowed 4)=true:=by kernel_rfl
theorem wf3:(Rows.parseBindsRow.recurses == Tryz.prog.recurses 4)=true:=by kernel_rfl
theorem wf4:(Rows.parseBindsRow.named == Tryz.prog.varsNamed 4)=true:=by kernel_rfl
theorem wf5:(Rows.parseBindsRow.plainKeys == Tryz.prog.plainKeys)=true:=by kernel_rfl
theorem wf6:(Rows.parseBindsRow.lifted == Tryz.prog.liftsFinal)=true:=by kernel_rfl
theorem law_facts:joinedFacts Tryz.prog 4 Tryz.f4 Rows.parseBindsSpec Rows.parseBindsRow=true:=
 joined_of (by kernel_rfl) wf1 wf2 wf3 wf4 (by kernel_rfl) wf5 stopsHeard mayEnter wf6 (by kernel_rfl)
theorem law_holds:Rows.ParseBindsSaid:=
 OpenClaim.holds_of_wide 4 Tryz.f4 rfl rfl rfl rfl rfl rfl rfl ⟨rfl,rfl,rfl,rfl,rfl⟩ rfl rfl rfl rfl rfl (by kernel_rfl) Tryz.func4 law_facts
  (of_decide_eq_true (by kernel_rfl)) (by unfold Func.isWrapper;first | (rw[yab (by decide +kernel)];kernel_rfl) | (rw[yaa (by decide +kernel)];exact⟨rfl,rfl⟩))
  (fun os started H enc _=>law_lifted os started H enc)
theorem law_named : Tryz.prog.funcNamed "annuitant/annuitantlaw12.ParseBinds" = some 4 := by kernel_rfl
theorem law_stands:([36,37].all fun u => !Tryz.prog.wantsStandIn u)=true:=by kernel_rfl
theorem binds_card:Rows.ParseBindsCardSaid:=
 Claim7.holds_tied_plain_at .later [] [.data, .data, .data] true (true, "02e22dc9e263e1aa98c66175805efa30025401d5425beb95ddb3447ac4931bba") true
  law_holds (fun _ h=>by cases h) (by as_aux_lemma=>kernel_rfl) (fun _ h=>by cases h) parseBinds_row_tie rfl ⟨rfl,rfl⟩ (by as_aux_lemma=>kernel_rfl) rfl
  (fun f fn hf hfn=>by
   obtain rfl:f=4:=yci (law_named.symm.trans hf) |>.symm
   obtain rfl:fn=Tryz.f4:=(yci (Tryz.func4.symm.trans hfn)).symm
   exact⟨by as_aux_lemma=>kernel_rfl,fun j t ht=>by
    rw[Tryz.params4]at ht;have hm:t∈[36,37]:=by simpa using Array.mem_of_getElem? ht
    exact(show Tryz.prog.wantsStandIn t=false by simpa using ycb.1 law_stands t hm)⟩)
  (by as_aux_lemma=>kernel_rfl)
end Go.Proofs.YtfmlbimokklmgaaGreatDoor
