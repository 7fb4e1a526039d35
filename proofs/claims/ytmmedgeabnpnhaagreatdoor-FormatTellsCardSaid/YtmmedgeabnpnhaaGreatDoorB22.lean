/- Seat 23: the ground of what is proved by trees: the context's prims are worth what they say; what a call is worth. -/
import Derived.Carry
import Derived.HandedShaped
import Derived.JoinedOf
import Derived.LaidMore
import Derived.OpenShut
import Derived.ProofKit
import Derived.Stop.Joined
import Derived.Test.YtmmedgeabnpnhaaGreatDoorRows
import Derived.Test.YtmmedgeabnpnhaaGreatDoorB21
set_option linter.all false
noncomputable section
set_option maxRecDepth 100000
namespace Go.Am
open Go Go.RowKit Go.Proofs
theorem UD[kC](B N:Nat)(hb:B<=256+kC.n):Hv Tryz.prog yA B N vI:=by
 intro f g hg args H v H' hv μ w args' hH hI hl;have hg:Xc.get f=some g:=hg;unfold Xc at hg;rcases bQ hg with⟨rfl,rfl⟩ | hg
 ·grind [fX,FZ]
 rcases bQ hg with⟨rfl,rfl⟩ | hg
 ·exact .inr (FX hb hH hv hl)
 rcases bQ hg with⟨rfl,rfl⟩ | hg
 ·exact .inr (GA hb hH hv hl)
 rcases bQ hg with⟨rfl,rfl⟩ | hg
 ·grind [fX,FW]
 rcases bQ hg with⟨rfl,rfl⟩ | hg
 ·grind [fX,FY]
 rcases bQ hg with⟨rfl,rfl⟩ | hg
 all_goals grind [fX,UG,Tr.get_leaf]
def sim23[kC](hN:6<=kC.n):rJ Tryz.prog yA (256+kC.n) kC.n vI:=
 ⟨Sx rfl,Qw rfl,UD _ _ (ybk _),ybk _,by kernel_rfl,fun _ _ hb h=>h.below hN hb⟩
section
variable {w:World}
theorem zic{b:Nat}{y:sA}(h:(rI w).get b=some y):b<256+w.heap.size:=by
 grind [rI,qR]
def QN(hL:vI w)(f:Nat)(args:List zA)(args':Array Value)(hp:∀ [kC],yA.prims.get f=none)(hl:iB (muW w) args args'.toList)
  (h:∀ [kC],∃Q:wC,Wc yA F f args (rI w) Q/\∀v t,Q v t->v=.bool true) (hf:Nat.blt f yo=true:=by rfl) :
  Calls Tryz.prog f args' w fun e w'=>e=.returned (.bool true)/\Below w.heap.size w w':=by
 letI:kC:=⟨w.heap.size⟩
 obtain⟨Q,h1,h2⟩:=h;refine(YW (H:=⟨256+w.heap.size,rI w⟩) (sim23 hL.size) hL zjv hp (ybk _) (fun b y hb=>zic hb) hrelW hl h1 hf).mono fun e w' ⟨v,v',t',μ',g1,g2,g3,g4,g5⟩=>?_;have:=h2 v t' g4;subst this;rw[uA]at g3;exact⟨by rw[g1,g3],g5⟩
theorem zjb(h:vI w):∀ [kC],pK (rI w):=by
 intro _;obtain⟨t,h⟩:=h.lens;have hb:=(ybe.1 h).1;have e:(rI w).get 2=some (.cells (fV (fun j=>((Al yQ).toArray[j]?).bind (wP w.heap.size)) (Al yQ).toArray.size) (Al yQ).toArray.size none):=by
  unfold rI;rw[qR,yab (by omega),yab (by omega),h];rfl
 refine⟨_,_,_,e,fun j a ha=>?_⟩
 grind [qR,Cz,yQ,Al,wP]
theorem zdf(h:vI w):∀ [kC],sP (rI w):=by
 intro _;obtain⟨t,h⟩:=h.modes;have hb:=(ybe.1 h).1;have e:(rI w).get 1=some (.cells (fV (fun j=>((jM jO).toArray[j]?).bind (wP w.heap.size)) (jM jO).toArray.size) (jM jO).toArray.size none):=by
  unfold rI;rw[qR,yab (by omega),yab (by omega),h];rfl
 refine⟨_,_,_,e,fun j a ha=>?_⟩;rw[qR,ybw];have hj:j<dT.length:=by
  grind
 rw[ybu]at ha;have hL:dT=jO.map fun b=>b.map UInt8.toNat:=rfl;rw[hL]at ha hj;rw[ybu]at ha
 cases hbt:jO[j]? with
 | none=>simp_all
 | some b=>
  rw[hbt]at ha;obtain rfl:=yci ha;rw[yab (by grind [jM])];simp only[jM,List.getElem?_toArray,ybu,hbt,Option.map_some,yai,wP];rfl
theorem KS(h:vI w):∀ [kC],bW (rI w):=by
 intro _;obtain⟨t,h⟩:=h.kinds;have hb:=(ybe.1 h).1;have e:(rI w).get 0=some (.cells (fV (fun j=>((jM eO).toArray[j]?).bind (wP w.heap.size)) (jM eO).toArray.size) (jM eO).toArray.size none):=by
  unfold rI;rw[qR,yab (by omega),yab (by omega),h];rfl
 refine⟨_,_,_,e,fun j a ha=>?_⟩;rw[qR,ybw];have hj:j<qS.length:=by
  grind
 rw[ybu]at ha;have hL:qS=eO.map fun b=>b.map UInt8.toNat:=rfl;rw[hL]at ha hj;rw[ybu]at ha
 cases hbt:eO[j]? with
 | none=>simp_all
 | some b=>
  rw[hbt]at ha;obtain rfl:=yci ha;rw[yab (by grind [jM])];simp only[jM,List.getElem?_toArray,ybu,hbt,Option.map_some,yai,wP];rfl
theorem zi8{cs:List Value}(h:Has w.heap.size cs):iB (muW w) (cs.map (av w.heap.size)) cs:=by
 induction cs with
 | nil=>exact .nil
 | cons v l ih=>exact .cons (OL (h v (by simp))) (ih fun u hu=>h u (ybr _ hu))
theorem zch{cs:Array Value}(h:Has w.heap.size cs.toList):uA (muW w) (.agg (cs.toList.map (av w.heap.size))) (.agg cs):=by
 grind [uA,zi8]
end
end Go.Am
namespace Go.Am
open Go Go.RowKit Go.ChangeShapes Go.WideShapes Go.ChangeAt
section
variable {H:Type}{enc:TypeId × Value->H}{P:Program}
def CD(hl:laidOutB P=true){W W':World}(hb:Below W.heap.size W W'):∀ {ts:List TypeId} {vs:List Value} {ds:List (DataW H)} {ps:List MemPlace},(∀t∈ts,P.readableRec t=true/\t<P.types.size) →
  DataW.TrodAll enc P W 0 (fun _=>true) true ts vs ds ps->(∀x∈ps,x.block<W.heap.size)->DataW.TrodAll enc P W' 0 (fun b=>decide (b<W.heap.size)) true ts vs ds ps
 | [],[],[],_,_,h,_=>h
 | t::ts,_::_,_::_,_,ht,⟨p,q,h1,h2,e⟩,hs=>by
  subst e;exact⟨p,q,Below.trod hl (ht t (by simp)).1 (ht t (by simp)).2 h1 hb fun x hx=>hs x (ydc _ hx),
   CD hl hb (fun t ht'=>ht t (ybr _ ht')) h2 fun x hx=>hs x (ycf _ hx),rfl⟩
 | [],_::_,_,_,_,h,_=>by simp[DataW.TrodAll]at h
 | [],[],_::_,_,_,h,_=>by simp[DataW.TrodAll]at h
 | _::_,[],_,_,_,h,_=>by simp[DataW.TrodAll]at h
 | _::_,_::_,[],_,_,h,_=>by simp[DataW.TrodAll]at h
theorem law_post(hl:laidOutB P=true){f:Func}{s:ChangeSpec}{tb:TypeId}(hp:∀t∈f.params.toList,P.readableRec t=true/\t<P.types.size)(hv:s.vars=[])(hres:f.resultTypes = #[tb])(htb:P.underlying tb=some .bool)
  {W W':World} {args:Array Value} {ds gs:List (DataW H)} {before:List MemPlace} (hfn:s.fn H ds={ results:=[.lit (.bool true)],args:=ds })
  (hW:DataW.Whole enc P f.params.toList s.vars false W args.toList ds gs before) (hb:Below W.heap.size W W') :
  s.post enc P f false true false false W args (.bool true) W':=by
 have hW0:=hW;obtain⟨p,q,hA,hV,rfl,hfz,hnd⟩:=hW;rw[hv]at hV;obtain⟨rfl,rfl⟩:=trodVars_none hV;refine⟨ds,[],p++[],[],p,[],hW0,?_,?_,?_,hb.frame _,fun h=>by cases h⟩
 ·rw[ycd,hfn,hres];exact trodAll_mk1 (shut_bool htb _)
 ·rw[ycd,hfn];exact CD hl hb hp hA fun x hx=>hW0.lt x (by simp_all)
 ·rw[ycd,hfn,hv];exact rfl
theorem ZZ{a:Assume}{C:Checked}{os:Os}{f:FuncId}{fn:Func}{s:ChangeSpec}{conds:List PathCond}{apart fresh handsOn again:Bool}{X:World->Array Value->Prop}
  (hX:∀(w w':World) (args:Array Value),w.heap=w'.heap->X w args->X w' args)
  (own:ownKnob C.prog.godebug=none) (started:os.Started) (noInit:C.prog.inits.idxOf? f=none) (hfn:C.prog.funcs[f]?=some fn)
  (witness:∃(w:World) (tape:Tape) (i:Input),w.os=os/\(w.forCall tape i).Shaped C.prog/\i.vars=[]/\Input.okWide C.prog (w.forCall tape i) .any w.heap.size f i ∧
   ((s.pre enc C.prog fn conds apart (w.forCall tape i).memory i.args/\X (w.forCall tape i).memory i.args)/\sizedMet enc C.prog fn (OpenSpec.ofChange s) apart (w.forCall tape i).memory i.args)/\a.holds C.prog (lone (Frame.enter C.prog f i.args .normal) [] (w.forCall tape i)))
  (contract:∀(W:World) (base:Nat) (args:Array Value) (ds gs:List (DataW H)) (before:List MemPlace),
   (∀(j:Nat) t v,fn.params[j]?=some t->args[j]?=some v->Value.okWide C.prog W .any base t v) →
   DataW.Whole enc C.prog fn.params.toList s.vars apart W args.toList ds gs before →
   (DataW.weightsEach C.prog (fn.params.toList++s.plain.varTypes C.prog) (ds++gs)).all (· <= reachBytes)=true->X W args->W.ShapedOpen C.prog →
   Calls C.prog f args W fun e W'=>∃v,e=.returned v/\s.post enc C.prog fn apart fresh handsOn again W args v W') :
  ReturnsInHanded a C os f .any (fun w args=>(s.pre enc C.prog fn conds apart w args/\X w args)/\sizedMet enc C.prog fn (OpenSpec.ofChange s) apart w args) (s.post enc C.prog fn apart fresh handsOn again):=by
 refine returnsInHanded_of_calls own started noInit witness ?_;intro w tape i _ hsh _ hok hpre _;obtain⟨_,_,_,fn',hfn',_,_,_,_,hval⟩:=hok;have e:fn'=fn:=yci (hfn'.symm.trans hfn);subst e;obtain⟨⟨⟨ds,gs,before,hw,hc⟩,hx⟩,hz⟩:=hpre;have hw':=DataW.Whole.of_heap (w':=w.forCall tape i) (by rfl) hw;refine(contract (w.forCall tape i) w.heap.size i.args ds gs before hval hw' (hz.weights hw) (hX _ _ _ (by rfl) hx) hsh).mono fun e W' ⟨v,he,hp⟩=>?_
 grind [ChangeSpec.post_blind]
variable {w:World}{base:Nat}{spare:Nat->Bool}{held:Bool}{fuel:Nat}{t e:TypeId}{cs:List Value}{ps:List MemPlace}
theorem Sb{α:Type}{g:α->DataW H}{u:α->Value}{l:List α}{n:Nat}(ht:P.underlying t=some (.array n e))(hc:P.cellsOf e=1)(hn:P.cellsOf t=n)
  (h1:∀(m:Nat) (c:List Value) (x:DataW H × List MemPlace) (a:α),DataW.trod enc P w base spare held m e c=some x->x.1=g a->c=[u a])
  (h:DataW.trod enc P w base spare held fuel t cs=some (.agg (l.map g),ps)):cs=l.map u:=by
 obtain⟨xs,m,_,hx,hlen,hxs,hel⟩:=DataW.trod_array ht h;simp only[Prod.mk.injEq,DataW.agg.injEq]at hx;have hl:l.length=n:=by have:=congrArg List.length hx.1;grind
 rw[hn]at hlen;refine List.ext_getElem (by rw[hlen,ybf,hl]) fun i hi1 hi2=>?_;have hi:i<n:=by omega
 have:=hel i hi;rw[hc]at this;have hc1:((cs.drop (i*1)).take 1)=[cs[i]]:=by
  grind [List.drop_eq_getElem_cons]
 rw[hc1,ybd (by omega)]at this;have hxi:xs[i].1=g (l[i]'(by omega)):=by
  have:=congrArg (fun z=>z[i]?) hx.1
  grind
 grind
def DF(he:P.underlying e=some .string)(m:Nat)(c:List Value)(x:DataW H × List MemPlace)(b:List UInt8)(h:DataW.trod enc P w base spare held m e c=some x)(hx:x.1=.lit (.string b)):c=[.string ⟨b.toArray⟩]:=by
 obtain⟨s,rfl,rfl,_⟩:=DataW.trod_string he h;simp at hx;rw[<- hx]
def zc6(he:P.underlying e=some (.int .i64))(m:Nat)(c:List Value)(x:DataW H × List MemPlace)(n:Int)(h:DataW.trod enc P w base spare held m e c=some x)(hx:x.1=.lit (.int .i64 n)):c=[.int .i64 n]:=by
 obtain⟨k,rfl,rfl,_⟩:=DataW.trod_int he h;simp at hx;rw[hx]
end
theorem joined_of{P:Program}{f:FuncId}{fn:Func}{s:ChangeSpec}{c:OpenClaim}
  (A:(c.wf (OpenSpec.ofChange s)&&laidOutB P&&mapsRowed P&&fn.params.all (P.readableRec ·)&&namedTie P c.named s.vars&&(c.stops == [])&&(P.stops == [])&&(c.knobs == [])&&(P.stopKnobs == []))=true)
  (h1:(c.inPlace == P.inPlace f)=true) (h2:(c.unfollowed == P.unfollowed f)=true) (h3:(c.recurses == P.recurses f)=true) (h4:(c.named == P.varsNamed f)=true)
  (E:((c.maps == (fn.params.toList++s.plain.varTypes P).any (P.mapsRec ·))&&(c.ifaces == (fn.params.toList++s.plain.varTypes P).any (P.ifacesRec ·))&&(c.mapsOut == P.mapsAmong fn.resultTypes.toList) &&
   (c.loops == (fn.params.toList++s.plain.varTypes P).any (P.loopsFrom ·))&&(c.wideKeys == (fn.params.toList++s.plain.varTypes P++fn.resultTypes.toList).any (P.wideKeysFrom ·)) &&
   s.vars.all (P.varReadable ·)&&fn.resultTypes.all (fun t=>P.readableRec t&&decide (t<P.types.size))&&(c.ifacesOut == fn.resultTypes.toList.any (P.ifacesRec ·))&&(c.loopsOut == fn.resultTypes.toList.any (P.loopsFrom ·))&&c.shortTexts.isNone)=true)
  (h5:(c.plainKeys == P.plainKeys)=true) (h6:P.stopsHeard=true) (h7:P.mayEnter=true) (h8:(c.lifted == P.liftsFinal)=true)
  (R:((P.make == some c.make)&&(c.kinds == (if c.domain.isEmpty then []else fn.params.toList.map fun t=>match P.underlying t with | some (.int k)=>some k | _=>none))&&(c.pinned == c.pinnedBy) &&
   (c.veiled == (fn.params.toList++s.plain.varTypes P++fn.resultTypes.toList).any (P.veiledRec ·))&&c.veiledFits P fn.params.toList (fn.params.toList++s.plain.varTypes P++fn.resultTypes.toList))=true) :
  joinedFacts P f fn s c=true:=by
 unfold joinedFacts;simp only[ybb]at A E R ⊢
 grind
end Go.Am
namespace Go.Proofs.YtmmedgeabnpnhaaGreatDoor
open Go Go.Am Go.RowKit Go.ChangeShapes Go.WideShapes Go.ChangeAt
def own:ownKnob Tryz.prog.godebug=none:=by kernel_rfl
def laidOut:laidOutB Tryz.prog=true:=by kernel_rfl
def gPow : Tryz.prog.globalNamed "internal/strconv.uint64pow10" = some 4 := by kernel_rfl
def gLens : Tryz.prog.globalNamed "annuitant/calendar.lengths" = some 2 := by kernel_rfl
def gKinds : Tryz.prog.globalNamed "annuitant/parse.kindWords" = some 0 := by kernel_rfl
def gModes : Tryz.prog.globalNamed "annuitant/parse.modeWords" = some 1 := by kernel_rfl
def tPow:(Tryz.prog.globals[4]?).map (·.type)=some 267:=by kernel_rfl
def tLens:(Tryz.prog.globals[2]?).map (·.type)=some 257:=by kernel_rfl
def tKinds:(Tryz.prog.globals[0]?).map (·.type)=some 194:=by kernel_rfl
def tModes:(Tryz.prog.globals[1]?).map (·.type)=some 194:=by kernel_rfl
def laid6 : List (String × DataW Unit) := [("math/bits.deBruijn32tab", Rows.laid_math_bits_deBruijn32tab), ("math/bits.deBruijn64tab", Rows.laid_math_bits_deBruijn64tab), ("internal/strconv.uint64pow10", Rows.laid_internal_strconv_uint64pow10), ("annuitant/calendar.lengths", Rows.laid_annuitant_calendar_lengths), ("annuitant/parse.kindWords", Rows.laid_annuitant_parse_kindWords), ("annuitant/parse.modeWords", Rows.laid_annuitant_parse_modeWords)]
def door_met(os:Os)(args:Array Value):laidMetH Tryz.prog laid6 ((World.doorLaid Tryz.prog 100 os).forCall (fun _ _=>0) ⟨#[],args,[]⟩).memory:=
 laidMetH_of_parts3 (fuel:=8) (laidMet_of_run' 8 (by kernel_rfl) (by kernel_rfl)) (by kernel_rfl) (by kernel_rfl)
def Mq{W:World}{n:String}{g:Nat}{cs:Array Value}(hg:Tryz.prog.globalNamed n=some g)(hv:W.var? Tryz.prog n=some cs)(hc:∃c t,W.heap[g]?=some (.cells c t (0,0))):∃t,W.heap[g]?=some (.cells cs t (0,0)):=by
 obtain⟨c,t,hc⟩:=hc;unfold World.var? at hv;rw[hg]at hv;simp only[yai,hc,Option.some.injEq]at hv;subst hv;exact⟨t,hc⟩
def Oc{g n:Nat}{p q:List MemPlace}(h:0<n):MemPlace.cell g 0∈MemPlace.row ⟨g,0,none⟩ n++p++q:=
 ydc _ (ydc _ (yaq.2 ⟨0,List.mem_range.2 h,rfl⟩))
def zio:Rows.laid_internal_strconv_uint64pow10 (H:=Unit)=.agg (jV.map fun n=>.lit (.int .u64 n)):=by kernel_rfl
def zcz:Rows.laid_annuitant_calendar_lengths (H:=Unit)=.agg (yQ.map fun n=>.lit (.int .i64 n)):=by kernel_rfl
def WE:Rows.laid_annuitant_parse_kindWords (H:=Unit)=.agg (eO.map fun b=>.lit (.string b)):=by kernel_rfl
def WD:Rows.laid_annuitant_parse_modeWords (H:=Unit)=.agg (jO.map fun b=>.lit (.string b)):=by kernel_rfl
def zbj{H:Type}{enc:TypeId × Value->H}{P:Program}{w:World}{base:Nat}{spare:Nat->Bool}{held:Bool}{e:TypeId}(he:P.underlying e=some (.int .u64))(m:Nat)(c:List Value)(x:DataW H × List MemPlace)(n:Int)(h:DataW.trod enc P w base spare held m e c=some x)(hx:x.1=.lit (.int .u64 n)):c=[.int .u64 n]:=by
 obtain⟨k,rfl,rfl,_⟩:=DataW.trod_int he h;simp at hx;rw[hx]
def laid_of{W:World}(h:laidMetH Tryz.prog laid6 W)(hsh:W.ShapedOpen Tryz.prog):vI W:=by
 rw[MakeChecks.laidMetH_plain _ _ _ (by kernel_rfl)]at h;obtain⟨ps,⟨_,_,_,_,_,_,_,_,_,_,⟨_,_,_,_,_,_,_,_,_,_,⟨g0,t0,cs0,f0,p0,q0,hg0,ht0,hv0,hd0,⟨g1,t1,cs1,f1,p1,q1,hg1,ht1,hv1,hd1,⟨g2,t2,cs2,f2,p2,q2,hg2,ht2,hv2,hd2,⟨g3,t3,cs3,f3,p3,q3,hg3,ht3,hv3,hd3,_,hp3⟩,hp2⟩,hp1⟩,hp0⟩,hpb⟩,hpa⟩,_,hcell⟩:=h;obtain rfl:=yci (gPow.symm.trans hg0);obtain rfl:=yci (gLens.symm.trans hg1);obtain rfl:=yci (gKinds.symm.trans hg2)
 obtain rfl:=yci (gModes.symm.trans hg3);obtain rfl:=yci (tPow.symm.trans ht0);obtain rfl:=yci (tLens.symm.trans ht1);obtain rfl:=yci (tKinds.symm.trans ht2);obtain rfl:=yci (tModes.symm.trans ht3);have c3:Tryz.prog.cellsOf 3=1:=by kernel_rfl
 have c9:Tryz.prog.cellsOf 9=1:=by kernel_rfl
 have c209:Tryz.prog.cellsOf 209=1:=by kernel_rfl
 have c267:Tryz.prog.cellsOf 267=20:=by kernel_rfl
 have c257:Tryz.prog.cellsOf 257=12:=by kernel_rfl
 have c194:Tryz.prog.cellsOf 194=7:=by kernel_rfl
 rw[zio]at hd0;rw[zcz]at hd1;rw[WE]at hd2;rw[WD]at hd3;have e0:cs0.toList=u64s jV:=Sb (l:=jV) (g:=fun n=>.lit (.int .u64 n)) (u:=fun n=>.int .u64 n) Tryz.underlying267 c209 c267 (fun m c x a=>zbj Tryz.underlying209 m c x a) hd0;have e1:cs1.toList=Al yQ:=Sb (l:=yQ) (g:=fun n=>.lit (.int .i64 n)) (u:=fun n=>.int .i64 n) Tryz.underlying257 c3 c257 (fun m c x a=>zc6 Tryz.underlying3 m c x a) hd1
 have e2:cs2.toList=jM eO:=Sb (l:=eO) (g:=fun b=>.lit (.string b)) (u:=fun b=>.string ⟨b.toArray⟩) Tryz.underlying194 c9 c194 (fun m c x a=>DF Tryz.underlying9 m c x a) hd2;have e3:cs3.toList=jM jO:=Sb (l:=jO) (g:=fun b=>.lit (.string b)) (u:=fun b=>.string ⟨b.toArray⟩) Tryz.underlying194 c9 c194 (fun m c x a=>DF Tryz.underlying9 m c x a) hd3;have s0:cs0=(u64s jV).toArray:=by rw[<- e0]
 have s1:cs1=(Al yQ).toArray:=by rw[<- e1]
 have s2:cs2=(jM eO).toArray:=by rw[<- e2]
 have s3:cs3=(jM jO).toArray:=by rw[<- e3]
 subst s0 s1 s2 s3;have m0:MemPlace.cell 4 0∈ps:=by
  rw[hpa,hpb,hp0];exact ycf _ (ycf _ (Oc (by decide)))
 have m1:MemPlace.cell 2 0∈ps:=by
  rw[hpa,hpb,hp0,hp1];exact ycf _ (ycf _ (ycf _ (Oc (by decide))))
 have m2:MemPlace.cell 0 0∈ps:=by
  rw[hpa,hpb,hp0,hp1,hp2];exact ycf _ (ycf _ (ycf _ (ycf _ (Oc (by decide)))))
 have m3:MemPlace.cell 1 0∈ps:=by
  rw[hpa,hpb,hp0,hp1,hp2,hp3];exact ycf _ (ycf _ (ycf _ (ycf _ (ycf _ (Oc (by decide))))))
 exact⟨Mq hg2 hv2 (hcell 0 0 m2).1,Mq hg3 hv3 (hcell 1 0 m3).1,Mq hg1 hv1 (hcell 2 0 m1).1,Tryz.laysM144.s1_3 W hsh,Mq hg0 hv0 (hcell 4 0 m0).1⟩
def stopsHeard:Tryz.prog.stopsHeard=true:=by kernel_rfl
def mayEnter:Tryz.prog.mayEnter=true:=by kernel_rfl
def bool4:Tryz.prog.underlying 4=some .bool:=Tryz.underlying4
def api23:Sl Tryz.prog:={
 b:=4,i:=3,u8:=5,u16:=72,s:=9,limbs:=30,whole:=32,frac:=34,val:=36,expr:=39,exprs:=37,row:=53,rows:=48,table:=50,tables:=23,dfn:=47,dfns:=22,clause:=55,clauses:=24,plan:=26,
 hb:=Tryz.underlying4,hi:=Tryz.underlying3,hu8:=Tryz.underlying5,hu16:=Tryz.underlying72,hs:=Tryz.underlying9,hlimbs:=Tryz.underlying30,hexprs:=Tryz.underlying37,hrows:=Tryz.underlying48,htables:=Tryz.underlying23,hdfns:=Tryz.underlying22,hclauses:=Tryz.underlying24,
 hwhole:=⟨_,Tryz.underlying32,rfl⟩,hfrac:=⟨_,Tryz.underlying34,rfl⟩,hval:=⟨_,Tryz.underlying36,rfl⟩,hexpr:=⟨_,Tryz.underlying39,rfl⟩,hrow:=⟨_,Tryz.underlying53,rfl⟩,htable:=⟨_,Tryz.underlying50,rfl⟩,hdfn:=⟨_,Tryz.underlying47,rfl⟩,hclause:=⟨_,Tryz.underlying55,rfl⟩,hplan:=⟨_,Tryz.underlying26,rfl⟩,
 cu16:=by kernel_rfl,cexpr:=by kernel_rfl,crow:=by kernel_rfl,ctable:=by kernel_rfl,cdfn:=by kernel_rfl,cclause:=by kernel_rfl,
 bytes:=⟨of_decide_eq_true (by kernel_rfl),of_decide_eq_true (by kernel_rfl),of_decide_eq_true (by kernel_rfl),of_decide_eq_true (by kernel_rfl),of_decide_eq_true (by kernel_rfl),of_decide_eq_true (by kernel_rfl)⟩ }
def Ou:List Nat:=[4,3,5,72,9,30,32,34,36,39,37,53,48,50,23,47,22,55,24,26]
def partB(t:TypeId):Bool:=match Tryz.prog.underlying t with
 | some .bool=>true
 | some (.int _)=>true
 | some .string=>true
 | some (.slice e)=>Ou.contains e&&Nat.blt 0 (Tryz.prog.cellsOf e)
 | some (.struct fs)=>fs.toList.all (fun f=>Ou.contains f.type)&&Ex Tryz.prog 0 fs.toList (Tryz.prog.cellsOf t)
 | _=>false
def UL:Ou.all partB=true:=by kernel_rfl
def zh4:Plain Tryz.prog (fun t=>t∈Ou):=⟨fun t ht=>by
 have h:=ycb.1 UL t ht;unfold partB at h
 cases hu:Tryz.prog.underlying t with
 | none=>simp_all
 | some d=>
  rw[hu]at h
  cases d with
  | bool=>trivial
  | int k=>trivial
  | string=>trivial
  | slice e=>
   simp_all
  | struct fs=>
   grind
  | _=>cases h⟩
def open_plan{H:Type}{enc:TypeId × Value->H}{W:World}{base:Nat}{v:Value}{d:DataW H}{ps:List MemPlace}(hL:vI W)(hok:Value.okWide Tryz.prog W .any base 26 v)(h:DataW.Trod enc Tryz.prog W 0 (fun _=>true) true 26 v d ps)(hw:(DataW.weights Tryz.prog 26 d).all (· <= reachBytes)=true) :
  ∃(cs:Array Value) (p:wF),v=.agg cs/\p.fit/\Has W.heap.size cs.toList/\RD (rI W) p.d (cs.toList.map (av W.heap.size)):=by
 obtain⟨cs,rfl,_,_⟩:∃cs,v=.agg cs/\cs.size=Tryz.prog.cellsOf 26/\Row.okWide Tryz.prog W .any base 26 cs:=by
  grind [Value.okWide,Tryz.underlying26]
 obtain⟨fuel,h⟩:=h;obtain⟨c,n,lo,hc,_⟩:=@KS W hL ⟨0⟩;obtain⟨h1,x,h2,h3⟩:=zh1 zh4 ⟨c,n,lo,hc⟩ fuel 26 cs.toList (d,ps) (by decide) h hw;obtain⟨p,rfl,hp⟩:=api23.dPlan h3
 grind
end Go.Proofs.YtmmedgeabnpnhaaGreatDoor
namespace Go.Proofs
open Go Go.Am
variable [kC]
variable {t tf:Tr sA}
def rl27:gL yA 30 72 1:=⟨⟨_,tV,rfl,rfl⟩,⟨_,lM,rfl,rfl,by decide,by decide⟩,fun y h=>by rw[lM]at h;cases h;rfl⟩
theorem tm65(x:Nat):Int.tmod (x:Int) 65536=((x%65536:Nat):Int):=by
 grind
theorem td65(x:Nat):Int.tdiv (x:Int) 65536=((x / 65536:Nat):Int):=by
 simp_all
theorem Sr(B:Nat)(a:List Nat)(i:Nat):val B (a.take (i+1))=val B (a.take i)+B^i*(a[i]?.getD 0):=by
 cases h:a[i]? with
 | none=>
  grind [List.take_of_length_le]
 | some x=>
  have:=(ybc.1 h).1;rw[uT h,mK,yda,Nat.min_eq_left (by omega)];rfl
theorem GZ{B:Nat}{r:List Nat}(hB:0<B)(hr:wB B r)(h:r≠[]->B^(r.length-1)<=val B r):norm r:=by
 intro hne h0;obtain⟨m,x,rfl⟩:=Cy hne;have hx:x=0:=by simp_all
 subst hx;have h1:=h hne;rw[mK,yat,yct]at h1;have h2:=lK hB (l:=m) fun y hy=>hr y (ydc _ hy)
 grind
theorem SP:∀(n:Nat) (l:List Nat) (v:zA),l.length=n->n<1125899906842624->mA t 1 (sB .u16 l) v->∃v',jp 203 2 [v,.int .i64 (n:Nat)] t (fun u m=>u=v'/\m=t)/\mA t 1 (sB .u16 (eD l)) v':=by
 have key:∀(n:Nat) (l:List Nat) (v:zA),n<=l.length->l.length<1125899906842624->mA t 1 (sB .u16 l) v->∃v',jp 203 2 [v,.int .i64 (n:Nat)] t (fun u m=>u=v'/\m=t)/\mA t 1 (sB .u16 (eD (l.take n))) v':=by
  intro n;induction n with
  | zero=>
   intro l v hn hl hv;obtain⟨u,g3,g4⟩:=rD.front zI hv (k:=0) (by omega);rw[Rm]at g4;refine⟨u,Yr ?_,g4⟩;unfold Nj uH uZ uW;exact bA (fun e=>by grind [uC]) (sC g3 ⟨rfl,rfl⟩)
  | succ n ih=>
   intro l v hn hl hv;obtain⟨x,hx⟩:=getElem?_of_lt (l:=l) (i:=n) (by omega);obtain⟨b,off,g1,g2⟩:=hv.idx zI hx;have e1:iA .i64 (((n+1:Nat):Int)-1)=(n:Int):=by grind [wrap_i64]
   have ht:l.take (n+1)=l.take n++[x]:=uT hx;by_cases hx0:x=0
   ·subst hx0;obtain⟨w,h1,h2⟩:=ih l v (by omega) hl hv;refine⟨w,Yr ?_,by grind [Nl]⟩;unfold Nj uH uZ uW;grind [tA,uC,vA,sC,tB,tE,zC]
   ·obtain⟨u,g3,g4⟩:=rD.front zI hv (k:=n+1) (by rw[pD];omega);rw[Rm]at g4;refine⟨u,Yr ?_,?_⟩
    ·unfold Nj uH uZ uW;rw[e1];exact tA (uC.2 (by omega)) (vA g1 (sC g2 (tB (bA (fun e=>by grind [tE]) (sC g3 ⟨rfl,rfl⟩)))))
    ·rw[Ci]
     ·exact g4
     ·rw[ht];intro _;simp_all
 intro n l v hl hn hv;have:=key n l v (by omega) (by omega) hv
 rwa [yca (by omega)]at this
def Ob{l:List Nat}{v:zA}(hl:l.length<1125899906842624)(hv:mA t 1 (sB .u16 l) v):∃v',vB yA F 203 [v] t=some v'/\mA t 1 (sB .u16 (eD l)) v':=by
 obtain⟨v',h1,h2⟩:=SP _ l v rfl hl hv;refine⟨v',bB.2 (w203 ?_),h2⟩;unfold t203 uI uZ;exact vA (by rw[hv.len,pD]) (tB (zC h1))
theorem zdx:∀(a b:List Nat) (x y:Nat),a.length=b.length->dH.go (a++[x]) (b++[y])=if x<y then -1 else if y<x then 1 else dH.go a b:=by
 intro a;induction a with
 | nil=>
  grind [dH.go]
 | cons p a ih=>
  intro b x y h
  cases b with
  | nil=>simp at h
  | cons q b=>
   grind [dH.go]
theorem SY{a b:List Nat}{u v:zA}(hu:mA t 1 (sB .u16 a) u)(hv:mA t 1 (sB .u16 b) v)(hl:a.length=b.length):∀(n:Nat),n<=a.length->n<1125899906842624->jp 255 2 [u,v,.int .i64 ((n:Int)-1)] t (fun w m=>w=.bool (decide (dH.go (a.take n) (b.take n)<0))/\m=t):=by
 intro n;induction n with
 | zero=>
  intro _ _;refine zfv ?_;unfold Uc uH jA uZ uW;refine bA (fun e=>by grind [mD]) ⟨?_,rfl⟩;simp[dH.go]
 | succ n ih=>
  intro hn hn2;obtain⟨x,hx⟩:=getElem?_of_lt (l:=a) (i:=n) (by omega);obtain⟨y,hy⟩:=getElem?_of_lt (l:=b) (i:=n) (by omega);obtain⟨c,off,g1,g2⟩:=hu.idx zI hx;obtain⟨d,off',g3,g4⟩:=hv.idx zI hy;have e1:(((n+1:Nat):Int)-1)=(n:Int):=by omega
  have e2:dH.go (a.take (n+1)) (b.take (n+1))=if x<y then -1 else if y<x then 1 else dH.go (a.take n) (b.take n):=by
   simp_all [uT,zdx]
  rw[e1,e2];refine zfv ?_;unfold Uc uH jA uZ uW;refine tA (mD.2 (by omega)) (vA g1 (sC g2 (tB (vA g3 (sC g4 (tB ?_))))));by_cases c0:x=y
  ·subst c0
   grind [bA,tE,zC,wrap_i64]
  ·refine tA (oN.2 (by omega)) (vA g1 (sC g2 (tB (vA g3 (sC g4 (tB ⟨?_,rfl⟩))))))
   grind [Ao,decide_eq_false]
theorem Wp{a b:List Nat}{u v:zA}(ha:a.length<1125899906842624)(hu:mA t 1 (sB .u16 a) u)(hv:mA t 1 (sB .u16 b) v):vB yA F 255 [u,v] t=some (.bool (decide (dH a b<0))):=by
 refine bB.2 (w255 ?_);unfold t255 uI uZ uW;have h1:aA u=some (.int .i64 (a.length:Int)):=by rw[hu.len,pD]
 have h2:aA v=some (.int .i64 (b.length:Int)):=by rw[hv.len,pD]
 refine vA h1 (tB (vA h2 (tB ?_)));unfold dH;by_cases hl:a.length=b.length
 ·refine bA (by grind [tE]) (vA h1 (tB (zC ?_)));rw[yaa (by omega),wrap_i64 (by omega) (by omega)];have:=SY hu hv hl a.length (ybk _) ha
  rwa [List.take_length,hl,List.take_length,<- hl]at this
 ·refine tA (oN.2 (by omega)) (vA h1 (tB (vA h2 (tB ⟨?_,rfl⟩))))
  grind [Ao,decide_eq_false]
theorem Wz{W J:pI}{l:List Nat}{x:Nat}{v:zA}{K:zA->T}{Q:wC}(hv:Bn yA.base tf t 1 (sB .u16 l) v)(ht:yB tf t)(hl:l.length<300000)
  (hK:∀t' v',Bn yA.base tf t' 1 (sB .u16 (l++[x])) v'->yB tf t'->lA yA.base W J (K v') t' Q) :
  lA yA.base W J (.heavy (jE yA 30 1 [(0,.int .u16 (x:Int))]) fun a0=>.heavy (vF yA 30 30 v a0) K) t Q:=by
 refine jG fun b hb _=>?_;obtain⟨H1,e1,e2,e3⟩:=Cx (k:=.u16) tV rfl lM rfl rfl x trivial hb;refine⟨_,_,e1,jG fun b2 hb2 hbase2=>?_⟩;have hne:∀b',dM v b'->H1.t.get b'=t.get b':=fun b' h=>by
  obtain⟨_,_,y,hy⟩:=hv.none h;rw[e3 _ _ hy,hy]
 have hv':=hv.keep' hne;have hx:mA H1.t 1 (sB .u16 [x]) (.slice b 0 1 1):=e2.all (cap:=1) (ybk _);have hcd:∀z,yA.tys.get 72=some z->cK 72 z=.sz 1:=fun z h=>by
  rw[rl27.nb.code h];grind [lM]
 obtain⟨t',a1,a2,a3,a4⟩:=AR ⟨rl27.ty,rl27.el⟩ hcd hv' hx (by simp) (by grind) hb2 hbase2 (ht.trans e3)
 grind
section
variable {a b:List Nat}{u v:zA}{Q:wC}
theorem UJ(hu:mA t 1 (sB .u16 a) u)(hv:mA t 1 (sB .u16 b) v)(ha:wB 65536 a)(hb:wB 65536 b)(hla:a.length<200000)(hlb:b.length<200000)
  (hQ:∀t' v' r,yB t t'->mA t' 1 (sB .u16 r) v'->wB 65536 r->val 65536 r=val 65536 a+val 65536 b->(norm a->norm b->norm r)->Q v' t') :
  ∀(k i n:Nat) (t':Tr sA) (P:List Nat) (w:zA),i+k=max a.length b.length+1->yB t t'->Bn yA.base t t' 1 (sB .u16 P) w->P.length=i->wB 65536 P->n<=1->(i=max a.length b.length+1->n=0/\65536^max a.length b.length<=val 65536 a+val 65536 b) →
   val 65536 P+65536^i*n=val 65536 (a.take i)+val 65536 (b.take i)->jp 201 2 [u,v,w,.int .i64 (n:Int),.int .i64 (i:Int)] t' Q:=by
 intro k;induction k with
 | zero=>
  intro i n t' P w hi ht hw hP hPl hn hend hval;obtain⟨h0,hge⟩:=hend (by omega);subst h0;refine zf7 ?_;unfold Uq uQ7 uI uH uZ uW;refine vA (by rw[hu.len,pD]) (tB (bA (fun e=>by grind [uC]) (vA (by rw[hv.len,pD]) (tB (bA (fun e=>by grind [uC]) (bA (fun e=>by grind [uC]) ?_))))));rw[yca (by omega),yca (by omega),yat,yct]at hval;refine hQ t' w P ht (hw.read ht) hPl hval fun _ _=>GZ (by omega) hPl fun _=>?_
  simp_all
 | succ k ih=>
  intro i n t' P w hi ht hw hP hPl hn _ hval;have hu':=hu.mono ht;have hv':=hv.mono ht;have l1:aA u=some (.int .i64 (a.length:Int)):=by rw[hu.len,pD]
  have l2:aA v=some (.int .i64 (b.length:Int)):=by rw[hv.len,pD]
  have hxl:a[i]?.getD 0<65536:=by
   cases h:a[i]? with
   | none=>simp
   | some x=>exact xI ha h
  have hyl:b[i]?.getD 0<65536:=by
   cases h:b[i]? with
   | none=>simp
   | some x=>exact xI hb h
  have cC:(i=max a.length b.length->n=1)->∀s:Nat,s=n+a[i]?.getD 0+b[i]?.getD 0->jp 201 21 [u,v,w,.int .i64 (s:Int),.int .i64 (i:Int)] t' Q:=by
   intro hmax s hs;refine zi0 ?_;unfold CZ qB uZ uW;rw[tm65,td65,Bv (by omega) (by omega)];refine Wz hw ht (by omega) fun t2 w2 h1 h2=>zC ?_;rw[wrap_i64 (by omega) (by omega),wrap_i64 (by omega) (by omega),show(i:Int)+1=((i+1:Nat):Int) by omega];have hv2:val 65536 (P++[s%65536])+65536^(i+1)*(s / 65536)=val 65536 (a.take (i+1))+val 65536 (b.take (i+1)):=by
    grind [mK,Sr,Nat.mod_add_div]
   refine ih (i+1) (s / 65536) t2 _ w2 (by omega) h2 h1 (by simp;omega) (aS hPl (by omega)) (by omega) (fun hE=>?_) hv2;have hiM:i=max a.length b.length:=by omega
   have h0:a[i]?.getD 0=0:=by rw[List.getElem?_eq_none (by omega)];rfl
   have h0':b[i]?.getD 0=0:=by rw[List.getElem?_eq_none (by omega)];rfl
   have hn1:=hmax hiM;refine⟨by omega,?_⟩;rw[yca (by omega),yca (by omega)]at hval
   grind
  have mid:(i=max a.length b.length->n=1)->jp 201 17 [u,v,w,.int .i64 ((n+a[i]?.getD 0:Nat):Int),.int .i64 (i:Int)] t' Q:=by
   intro hmax;refine zi1 ?_;unfold DA uI uH uZ uW;by_cases h2:i<b.length
   ·obtain⟨y,hy⟩:=getElem?_of_lt h2;obtain⟨c,off,g1,g2⟩:=hv'.idx zI hy;have hy':b[i]?.getD 0=y:=by grind
    refine vA l2 (tB (tA (uC.2 (by omega)) (vA g1 (sC g2 (tB (zC ?_))))));rw[wrap_i64 (n:=(y:Int)) (by omega) (by omega),wrap_i64 (by omega) (by omega)]
    simp_all
   grind [vA,tB,bA,uC,zC]
  have low:¬ i<a.length->a[i]?.getD 0=0:=fun h=>by simp_all
  refine zf7 ?_;unfold Uq uQ7 uI uH uZ uW;refine vA l1 (tB ?_);by_cases h1:i<a.length
  ·obtain⟨x,hx⟩:=getElem?_of_lt h1;obtain⟨c,off,g1,g2⟩:=hu'.idx zI hx;have hx':a[i]?.getD 0=x:=by grind
   refine tA (uC.2 (by omega)) (vA l1 (tB (tA (uC.2 (by omega)) (vA g1 (sC g2 (tB (zC ?_)))))));rw[wrap_i64 (n:=(x:Int)) (by omega) (by omega),wrap_i64 (by omega) (by omega)];have:=mid (by omega)
   simp_all
  ·refine bA (fun e=>by grind [uC]) (vA l2 (tB ?_));by_cases h2:i<b.length
   ·refine tA (uC.2 (by omega)) (vA l1 (tB (bA (fun e=>by grind [uC]) (zC ?_))));have:=mid (by omega)
    rwa [low h1]at this
   ·refine bA (fun e=>by grind [uC]) ?_;by_cases h3:0<n
    ·refine tA (uC.2 (by omega)) (vA l1 (tB (bA (fun e=>by grind [uC]) (zC ?_))));have:=mid (by omega)
     rwa [low h1]at this
    ·refine bA (fun e=>by grind [uC]) ?_;have hn0:n=0:=by omega
     subst hn0;rw[yca (by omega),yca (by omega),yat,yct]at hval;refine hQ t' w P ht (hw.read ht) hPl hval fun na nb=>GZ (by omega) hPl fun hne=>?_;have hi0:0<i:=by
      grind
     rw[hP,hval];rcases yau a.length b.length with e | e
     ·have:=El (B:=65536) nb (fun e2=>by simp_all)
      grind
     ·have:=El (B:=65536) na (fun e2=>by grind);rw[show i-1=a.length-1 by omega];omega
def Ot(hu:mA t 1 (sB .u16 a) u)(hv:mA t 1 (sB .u16 b) v)(ha:wB 65536 a)(hb:wB 65536 b)(hla:a.length<200000)(hlb:b.length<200000)
  (hQ:∀t' v' r,yB t t'->mA t' 1 (sB .u16 r) v'->wB 65536 r->val 65536 r=val 65536 a+val 65536 b->(norm a->norm b->norm r)->Q v' t'):Wc yA F 201 [u,v] t Q:=by
 refine w201 ?_;unfold t201 uZ;exact zC (UJ hu hv ha hb hla hlb hQ (max a.length b.length+1) 0 0 t [] .nilslice (by omega) (yB.refl _) Kp rfl (fun x hx=>by cases hx) (by omega) (by omega) (by simp[val]))
end
end Go.Proofs
namespace Go.Proofs
open Go Go.Am
section
variable [kC]
variable {t tf:Tr sA}
section
variable {a b:List Nat}{u v:zA}{Q:wC}
theorem VQ(hu:mA t 1 (sB .u16 a) u)(hv:mA t 1 (sB .u16 b) v)(ha:wB 65536 a)(hb:wB 65536 b)(hla:a.length<200000)(hlb:b.length<=a.length)(hle:val 65536 b<=val 65536 a)
  (hQ:∀t' v' r,yB t t'->mA t' 1 (sB .u16 r) v'->wB 65536 r->val 65536 r+val 65536 b=val 65536 a->norm r->Q v' t') :
  ∀(k i n:Nat) (t':Tr sA) (P:List Nat) (w:zA),i+k=a.length->yB t t'->Bn yA.base t t' 1 (sB .u16 P) w->P.length=i->wB 65536 P->n<=1 →
   val 65536 (a.take i)+65536^i*n=val 65536 (b.take i)+val 65536 P->jp 257 2 [u,v,w,.int .i64 (n:Int),.int .i64 (i:Int)] t' Q:=by
 intro k;induction k with
 | zero=>
  intro i n t' P w hi ht hw hP hPl hn hval;refine zft ?_;unfold Ua uI uH uZ uW;refine vA (by rw[hu.len,pD]) (tB (bA (fun e=>by grind [uC]) (cA ?_)));rw[yca (by omega),yca (by omega)]at hval;obtain⟨v',g1,g2⟩:=Ob (by omega) (hw.read ht);rw[q203,g1,xA];have hPv:=lK (B:=65536) (by omega) hPl;rw[hP]at hPv;have hn0:n=0:=by
   grind
  subst hn0;refine hQ t' v' (eD P) ht g2 (bS hPl) ?_ (yR P)
  grind [gQ]
 | succ k ih=>
  intro i n t' P w hi ht hw hP hPl hn hval;have l1:aA u=some (.int .i64 (a.length:Int)):=by rw[hu.len,pD]
  have l2:aA v=some (.int .i64 (b.length:Int)):=by rw[hv.len,pD]
  obtain⟨x,hx⟩:=getElem?_of_lt (l:=a) (i:=i) (by omega);have hxl:=xI ha hx;obtain⟨c,off,g1,g2⟩:=(hu.mono ht).idx zI hx;have hyl:b[i]?.getD 0<65536:=by
   cases h:b[i]? with
   | none=>simp
   | some x=>exact xI hb h
  have cC:∀m:Nat,m+n+b[i]?.getD 0=65536+x->jp 257 19 [u,v,w,.int .i64 (i:Int),.int .i64 (m:Int)] t' Q:=by
   intro m hm;refine ziy ?_;unfold CX qB uZ uW;rw[tm65,td65,Bv (by omega) (by omega)];refine Wz hw ht (by omega) fun t2 w2 h1 h2=>zC ?_;rw[wrap_i64 (n:=((m / 65536:Nat):Int)) (by omega) (by omega),show(1:Int)-((m / 65536:Nat):Int)=((1-m / 65536:Nat):Int) by omega,wrap_i64 (by omega) (by omega),wrap_i64 (by omega) (by omega),show(i:Int)+1=((i+1:Nat):Int) by omega];refine ih (i+1) (1-m / 65536) t2 _ w2 (by omega) h2 h1 (by grind) (aS hPl (by omega)) (by omega) ?_
   rw[mK,Sr,Sr,hP,yag,ybj,show a[i]?.getD 0=x by grind];have e:x+65536*(1-m / 65536)=n+b[i]?.getD 0+m%65536:=by omega
   grind
  refine zft ?_;unfold Ua uI uH uZ uW;refine vA l1 (tB (tA (uC.2 (by omega)) (vA g1 (sC g2 (tB (vA l2 (tB ?_)))))));have w1:iA .i64 (iA .i64 (65536+iA .i64 (x:Int))-(n:Int))=((65536+x-n:Nat):Int):=by
   rw[wrap_i64 (n:=(x:Int)) (by omega) (by omega),wrap_i64 (n:=65536+(x:Int)) (by omega) (by omega),wrap_i64 (by omega) (by omega)];omega
  rw[w1];by_cases h2:i<b.length
  ·obtain⟨y,hy⟩:=getElem?_of_lt h2;obtain⟨c',off',g3,g4⟩:=(hv.mono ht).idx zI hy;have hy':b[i]?.getD 0=y:=by grind
   refine tA (uC.2 (by omega)) (vA g3 (sC g4 (tB (zC ?_))));rw[wrap_i64 (n:=(y:Int)) (by omega) (by omega),wrap_i64 (by omega) (by omega),show((65536+x-n:Nat):Int)-(y:Int)=((65536+x-n-y:Nat):Int) by omega]
   grind
  grind [bA,uC,zC]
def zcp(hu:mA t 1 (sB .u16 a) u)(hv:mA t 1 (sB .u16 b) v)(ha:wB 65536 a)(hb:wB 65536 b)(hla:a.length<200000)(nb:norm b)(hle:val 65536 b<=val 65536 a)
  (hQ:∀t' v' r,yB t t'->mA t' 1 (sB .u16 r) v'->wB 65536 r->val 65536 r+val 65536 b=val 65536 a->norm r->Q v' t'):Wc yA F 257 [u,v] t Q:=by
 refine w257 ?_;unfold t257 uZ;exact zC (VQ hu hv ha hb hla (eM (by omega) ha nb hle) hle hQ a.length 0 0 t [] .nilslice (by omega) (yB.refl _) Kp rfl (fun x hx=>by cases hx) (by omega) (by simp[val]))
theorem zi6{T el:Nat}(h:rD yA T el 1 false){b n cap j:Nat}(hj:j<n):rB yA T (.slice b 0 n cap) (.int .i64 (j:Int))=some (.ptr b j):=by
 have:=Ep (b:=b) (off:=0) (cap:=cap) h hj
 simp_all
theorem LP{W J:pI}{t':Tr sA}{b i n x:Nat}{q:List Nat}{K:T}(hbase:yA.base<=b)(hb:t.get b=none)(ht:yB t t')(ho:jF t' b .u16 (List.replicate (i+1) 0++q))(hq:i+1+q.length=n)
  (hK:∀t2,yB t t2->jF t2 b .u16 (List.replicate i 0++(x::q))->lA yA.base W J K t2 Q) :
  lA yA.base W J (.opt (rB yA 30 (.slice b 0 n n) (.int .i64 (i:Int))) fun a=>.heavy (pE yA 72 a (.int .u16 (x:Int))) fun _=>K) t' Q:=by
 have hlen:(List.replicate (i+1) 0++q).length=n:=by grind
 obtain⟨t1,s1,s2,s3⟩:=ho.store (C:=yA) hbase (j:=i) (by omega) x lM rfl;have hs2:(List.replicate (i+1) 0++q).set i x=List.replicate i 0++(x::q):=by
  grind [List.replicate_succ',set_append_right]
 rw[hs2]at s2;exact vA (zi6 zI (by omega)) (jG fun p _ _=>⟨_,_,s1 p,hK t1 (ht.off hb s3) s2⟩)
theorem TA{bk:Nat}(hu:mA t 1 (sB .u16 a) u)(ha:wB 65536 a)(hla:a.length<900000)(hbase:yA.base<=bk)(hbk:t.get bk=none)
  (hQ:∀t' v' r,yB t t'->mA t' 1 (sB .u16 r) v'->wB 65536 r->val 65536 r=val 65536 a / 2->norm r->Q v' t') :
  ∀(i:Nat) (t':Tr sA) (q:List Nat) (n:Nat),i+q.length=a.length->yB t t'->jF t' bk .u16 (List.replicate i 0++q)->wB 65536 q->n<131072->val 65536 (a.drop i)=2*val 65536 q+n%2 →
   jp 256 2 [u,.slice bk 0 a.length a.length,.int .i64 (n:Int),.int .i64 ((i:Int)-1)] t' Q:=by
 intro i;induction i with
 | zero=>
  intro t' q n hi ht ho hq hn hval;refine zfu ?_;unfold Ub uH uZ uW;refine bA (fun e=>by grind [mD]) (cA ?_);rw[List.replicate_zero,yah]at ho;have hread:=ho.all (ybk _);rw[show q.length=a.length by omega]at hread;obtain⟨v',h1,h2⟩:=Ob (l:=q) (by omega) hread;rw[q203,h1,xA];refine hQ t' v' (eD q) ht h2 (bS hq) ?_ (yR q)
  grind [gQ]
 | succ i ih=>
  intro t' q n hi ht ho hq hn hval;obtain⟨x,hx⟩:=getElem?_of_lt (l:=a) (i:=i) (by omega);have hxl:=xI ha hx;obtain⟨c,off,g1,g2⟩:=(hu.mono ht).idx zI hx;refine zfu ?_;unfold Ub uH uZ uW;have hm:Int.tmod (n:Int) 2=((n%2:Nat):Int):=by grind
  have w1:iA .i64 (iA .i64 (Int.tmod (n:Int) 2*65536)+iA .i64 (x:Int))=((n%2*65536+x:Nat):Int):=by
   grind [wrap_i64]
  have w2:iA .u16 (iA .i64 (Int.tdiv ((n%2*65536+x:Nat):Int) 2))=(((n%2*65536+x) / 2:Nat):Int):=by
   grind [wrap_i64,Bv]
  rw[show((i+1:Nat):Int)-1=(i:Int) by omega];refine tA (mD.2 (by omega)) (vA g1 (sC g2 (tB ?_)));rw[w1,w2];refine LP hbase hbk ht ho (by omega) fun t2 h1 h2=>zC ?_;rw[wrap_i64 (by omega) (by omega)];refine ih t2 _ _ (by grind) h1 h2 ?_ (by omega) ?_
  ·intro y hy;rcases ybs.1 hy with rfl | hy
   ·omega
   ·exact hq y hy
  ·rw[drop_cons' hx]
   grind [val]
theorem zca(hu:mA t 1 (sB .u16 a) u)(ha:wB 65536 a)(hla:a.length<900000)
  (hQ:∀t' v' r,yB t t'->mA t' 1 (sB .u16 r) v'->wB 65536 r->val 65536 r=val 65536 a / 2->norm r->Q v' t'):Wc yA F 256 [u] t Q:=by
 have l1:aA u=some (.int .i64 (a.length:Int)):=by rw[hu.len,pD]
 refine w256 ?_;unfold t256 uI uZ uW;refine vA l1 (tB (jG fun b hb hbase=>?_));obtain⟨t',g1,g2,g3,g4⟩:=Af (C:=yA) (k:=.u16) tV rfl lM rfl rfl (by decide) (n:=a.length) (by omega) hb;refine⟨_,_,g1,vA l1 (tB (zC ?_))⟩;rw[wrap_i64 (by omega) (by omega)];exact TA hu ha hla hbase hb hQ a.length t' [] 0 (by simp) g3 (by simp_all) (fun x hx=>by cases hx) (by omega) (by simp[val])
def w64n{q:Nat}(h:q<65536):iA .i64 (q:Int)=q:=wrap_i64 (by omega) (by omega)
def w16n{q:Nat}(h:q<65536):iA .u16 (q:Int)=q:=Bv (by omega) (by omega)
theorem SR{bk d:Nat}(hu:mA t 1 (sB .u16 a) u)(ha:wB 65536 a)(hla:a.length<900000)(hd0:0<d)(hd:d<65536)(hbase:yA.base<=bk)(hbk:t.get bk=none)
  (hQ:∀t' v1 v2 q r,yB t t'->mA t' 1 (sB .u16 (eD q)) v1->mA t' 1 (sB .u16 (eD [r])) v2->wB 65536 q->r<d->val 65536 a=val 65536 q*d+r->Q (.tup [v1,v2]) t') :
  ∀(i:Nat) (t':Tr sA) (q:List Nat) (r:Nat),i+q.length=a.length->yB t t'->jF t' bk .u16 (List.replicate i 0++q)->wB 65536 q->r<d->val 65536 (a.drop i)=val 65536 q*d+r →
   jp 223 2 [u,.int .i64 (d:Int),.slice bk 0 a.length a.length,.int .i64 (r:Int),.int .i64 ((i:Int)-1)] t' Q:=by
 intro i;induction i with
 | zero=>
  intro t' q r hi ht ho hq hr hval;refine zf5 ?_;unfold Un uI uH uZ uW;refine bA (fun e=>by grind [mD]) (cA ?_);rw[List.replicate_zero,yah]at ho;have hread:=ho.all (ybk _);rw[show q.length=a.length by omega]at hread;obtain⟨v1,h1,h2⟩:=Ob (l:=q) (by omega) hread;rw[q203,h1,xA,Bv (by omega) (by omega)];refine jG fun b2 hb2 _=>?_;obtain⟨H1,e1,e2,e3⟩:=Cx (k:=.u16) tV rfl lM rfl rfl r trivial hb2
  refine⟨_,_,e1,cA ?_⟩;obtain⟨v2,h3,h4⟩:=Ob (l:=[r]) (by simp) (e2.all (cap:=1) (ybk _));have h3:vB yA F 203 [.slice b2 0 1 1] H1.t=some v2:=h3;rw[q203,h3,xA];exact hQ H1.t v1 v2 q r (ht.trans e3) (h2.mono e3) h4 hq hr (by simp_all)
 | succ i ih=>
  intro t' q r hi ht ho hq hr hval;obtain⟨x,hx⟩:=getElem?_of_lt (l:=a) (i:=i) (by omega);have hxl:=xI ha hx;obtain⟨c,off,g1,g2⟩:=(hu.mono ht).idx zI hx;refine zf5 ?_;unfold Un uI uH uZ uW;have hrd:r*65536<65536*65536:=by omega
  have w1:iA .i64 (iA .i64 ((r:Int)*65536)+iA .i64 (x:Int))=((r*65536+x:Nat):Int):=by
   grind [wrap_i64]
  have hqlt:(r*65536+x) / d<65536:=DU hr hxl;have hrlt:(r*65536+x)%d<d:=ycy _ hd0;rw[show((i+1:Nat):Int)-1=(i:Int) by omega];refine tA (mD.2 (by omega)) (vA g1 (sC g2 (tB ?_)));rw[w1];refine vA (Qn hd0 (w64n hqlt)) (tB ?_);rw[w16n hqlt];refine LP hbase hbk ht ho (by omega) fun t2 h1 h2=>vA (Lg hd0) (tB (zC ?_));rw[wrap_i64 (by omega) (by omega)]
  refine ih t2 _ _ (by grind) h1 h2 ?_ hrlt ?_
  ·intro y hy;rcases ybs.1 hy with rfl | hy
   ·exact hqlt
   ·exact hq y hy
  ·rw[drop_cons' hx]
   grind [val,Nat.div_add_mod]
theorem EN{d:Nat}(hu:mA t 1 (sB .u16 a) u)(ha:wB 65536 a)(hla:a.length<900000)(hd0:0<d)(hd:d<65536)
  (hQ:∀t' v1 v2 q r,yB t t'->mA t' 1 (sB .u16 (eD q)) v1->mA t' 1 (sB .u16 (eD [r])) v2->wB 65536 q->r<d->val 65536 a=val 65536 q*d+r->Q (.tup [v1,v2]) t'):Wc yA F 223 [u,.int .i64 (d:Int)] t Q:=by
 have l1:aA u=some (.int .i64 (a.length:Int)):=by rw[hu.len,pD]
 refine w223 ?_;unfold t223 uI uZ uW;refine vA l1 (tB (jG fun b hb hbase=>?_));obtain⟨t',g1,g2,g3,g4⟩:=Af (C:=yA) (k:=.u16) tV rfl lM rfl rfl (by decide) (n:=a.length) (by omega) hb;refine⟨_,_,g1,vA l1 (tB (zC ?_))⟩;rw[wrap_i64 (by omega) (by omega)];exact SR hu ha hla hd0 hd hbase hb hQ a.length t' [] 0 (by simp) g3 (by simp_all) (fun x hx=>by cases hx) hd0 (by simp[val])
end
end
section
variable [kC]
variable {t tf:Tr sA}
structure zG (l:List Nat):Prop where
 lt:wB 65536 l
 nm:norm l
def Pi{l:List Nat}(h:wB 65536 l):zG (eD l):=⟨bS h,yR l⟩
theorem zG.len{l m:List Nat}(hm:norm m)(h:wB 65536 l)(hv:val 65536 m<=val 65536 l):m.length<=l.length:=eM (by omega) h hm hv
theorem zil{l m:List Nat}(h:zG l)(hm:zG m)(hv:val 65536 m<=2*val 65536 l):m.length<=l.length+1:=by
 have h1:=lK (B:=65536) (by omega) h.lt;have:=eM (B:=65536) (l:=l++[1]) (m:=m) (by omega) (aS h.lt (by omega)) hm.nm (by rw[mK];omega)
 simp_all
def Ya{a b:List Nat}(ha:zG a)(hb:zG b):decide (dH a b<0)=decide (val 65536 a<val 65536 b):=by
 congr 1;exact propext (AE (by omega) ha.lt hb.lt ha.nm hb.nm)
def GF{n m x:Nat}(h:2^n<=x)(k:x<65536^m):n<16*m:=by
 have e:(65536:Nat)^m=2^(16*m):=by rw[Nat.pow_mul]
 rw[e]at k;exact(Nat.pow_lt_pow_iff_right (by omega)).1 (yam h k)
section
variable {a b:List Nat}{u v:zA}{Q:wC}
theorem zb3(hu:mA t 1 (sB .u16 a) u)(ha:zG a)(hb:zG b)(hla:a.length<100000)(hb0:0<val 65536 b)
  (hQ:∀(t':Tr sA) (n:Nat),yB t t'->val 65536 a<val 65536 b*2^n->(n=0\/val 65536 b*2^(n-1)<=val 65536 a)->jp 235 6 [u,.int .i64 (n:Int),v,.int .i64 0] t' Q) :
  ∀(k n:Nat) (t':Tr sA) (d:List Nat) (w:zA),val 65536 a<val 65536 d+k->yB t t'->mA t' 1 (sB .u16 d) w->zG d->val 65536 d=val 65536 b*2^n->(n=0\/val 65536 b*2^(n-1)<=val 65536 a) →
   jp 235 2 [u,v,.int .i64 (n:Int),w] t' Q:=by
 intro k;induction k with
 | zero=>
  intro n t' d w hk ht hw hd hval hn;refine zf2 ?_;unfold Uj uB qB uZ;refine cA ?_;rw[q255,Wp (by omega) (hu.mono ht) hw,xA,Ya ha hd]
  grind [yC,bA,zC]
 | succ k ih=>
  intro n t' d w hk ht hw hd hval hn;refine zf2 ?_;unfold Uj uB qB uZ;refine cA ?_;rw[q255,Wp (by omega) (hu.mono ht) hw,xA,Ya ha hd];by_cases hlt:val 65536 a<val 65536 d
  ·grind [yC,bA,zC]
  ·refine yC (tA (by simp_all) (cA ?_));have hdl:=zG.len hd.nm ha.lt (by omega);have hd0:0<val 65536 d:=by simp_all [Nat.pow_pos]
   have hn64:n<16*a.length:=by
    refine GF (x:=val 65536 a) ?_ (lK (by omega) ha.lt);have:1*2^n<=val 65536 b*2^n:=ybi _ hb0;omega
   rw[q201];refine Ot hw hw hd.lt hd.lt (by omega) (by omega) fun t2 w2 r h1 h2 h3 h4 h5=>zC ?_;rw[wrap_i64 (by omega) (by omega),show(n:Int)+1=((n+1:Nat):Int) by omega];refine ih (n+1) t2 r w2 (by omega) (ht.trans h1) h2 ⟨h3,h5 hd.nm hd.nm⟩ (by grind) (.inr (by simp_all))
theorem TV{n:Nat}(ha:zG a)(hla:a.length<100000)(hn64:n<2000000)(hn:n=0\/val 65536 b*2^(n-1)<=val 65536 a)
  (hQ:∀t' w d,yB t t'->mA t' 1 (sB .u16 d) w->zG d->val 65536 d=val 65536 b*2^n->wp 235 (.heavy (jE yA 30 0 []) fun a1=>.heavy (vF yA 30 30 a1 u) fun a2=>.jump 10 [.int .i64 (n:Int),w,.nilslice,a2,.int .i64 0]) t' Q) :
  ∀(k i:Nat) (t':Tr sA) (d:List Nat) (w:zA),i+k=n->yB t t'->mA t' 1 (sB .u16 d) w->zG d->val 65536 d=val 65536 b*2^i →
   jp 235 6 [u,.int .i64 (n:Int),w,.int .i64 (i:Int)] t' Q:=by
 intro k;induction k with
 | zero=>
  intro i t' d w hi ht hw hd hval;refine zf1 ?_;unfold Ui qB uZ;grind [bA,uC]
 | succ k ih=>
  intro i t' d w hi ht hw hd hval;refine zf1 ?_;unfold Ui qB uZ;refine tA (uC.2 (by omega)) (cA ?_);have hle:val 65536 d<=val 65536 a:=by
   rcases hn with e | e
   ·omega
   ·have:val 65536 b*2^i<=val 65536 b*2^(n-1):=ybv _ (yao (by omega) (by omega));omega
  have hdl:=zG.len hd.nm ha.lt hle;rw[q201];refine Ot hw hw hd.lt hd.lt (by omega) (by omega) fun t2 w2 r h1 h2 h3 h4 h5=>zC ?_;rw[wrap_i64 (by omega) (by omega),show(i:Int)+1=((i+1:Nat):Int) by omega];exact ih (i+1) t2 r w2 (by omega) (ht.trans h1) h2 ⟨h3,h5 hd.nm hd.nm⟩ (by grind)
theorem TN{n:Nat}(ha:zG a)(hla:a.length<100000)(hn64:n<2000000)(hb0:0<val 65536 b)
  (hQ:∀t' v1 v2 q r,yB t t'->mA t' 1 (sB .u16 q) v1->mA t' 1 (sB .u16 r) v2->zG q->zG r->val 65536 a=val 65536 q*val 65536 b+val 65536 r->val 65536 r<val 65536 b->Q (.tup [v1,v2]) t') :
  ∀(k:Nat) (t':Tr sA) (d q r:List Nat) (wd wq wr:zA),k<=n->yB t t'->mA t' 1 (sB .u16 d) wd->mA t' 1 (sB .u16 q) wq->mA t' 1 (sB .u16 r) wr->zG d->zG q->zG r →
   val 65536 d=val 65536 b*2^k->val 65536 d<=2*val 65536 a\/k=0->val 65536 a=val 65536 q*val 65536 d+val 65536 r->val 65536 r<val 65536 d →
   jp 235 10 [.int .i64 (n:Int),wd,wq,wr,.int .i64 ((n-k:Nat):Int)] t' Q:=by
 intro k;induction k with
 | zero=>
  intro t' d q r wd wq wr hk ht hd hq hr nd nq nr hval _ hqr hlt;refine JU ?_;unfold Uk uB qB uZ;rw[Nat.pow_zero,Nat.mul_one]at hval;rw[hval]at hqr hlt;exact bA (fun e=>by grind [uC]) (hQ t' wq wr q r ht hq hr nq nr hqr hlt)
 | succ k ih=>
  intro t' d q r wd wq wr hk ht hd hq hr nd nq nr hval h2a hqr hlt;refine JU ?_;unfold Uk uB qB uZ;have hd2:val 65536 d=2*(val 65536 b*2^k):=by grind
  have hp:0<val 65536 b*2^k:=Nat.mul_pos hb0 (Nat.pow_pos (by omega));have hdl:d.length<=a.length+1:=zil ha nd (by omega);have hql:q.length<=a.length:=zG.len nq.nm ha.lt (by
   have:val 65536 q*1<=val 65536 q*val 65536 d:=ybv _ (by omega);omega)
  have hrl:r.length<=a.length:=zG.len nr.nm ha.lt (by
   omega)
  refine tA (uC.2 (by omega)) (cA ?_);rw[q256];refine zca hd nd.lt (by omega) fun t1 w1 d1 g1 g2 g3 g4 g5=>cA ?_;have hd1:val 65536 d1=val 65536 b*2^k:=by omega
  have n1:zG d1:=⟨g3,g5⟩;rw[q201];refine Ot (hq.mono g1) (hq.mono g1) nq.lt nq.lt (by omega) (by omega) fun t2 w2 q2 f1 f2 f3 f4 f5=>cA ?_;have nq2:zG q2:=⟨f3,f5 nq.nm nq.nm⟩;have hr2:=(hr.mono g1).mono f1;have hd1r:=g2.mono f1;rw[q255,Wp (by omega) hr2 hd1r,xA,Ya nr n1];have hidx:((n-(k+1):Nat):Int)+1=((n-k:Nat):Int):=by omega
  have hq2v:val 65536 q2*val 65536 d1=val 65536 q*val 65536 d:=by
   rw[f4,hd1,hd2,ybo,Nat.mul_left_comm (val 65536 q) 2,Nat.two_mul]
  by_cases hl:val 65536 r<val 65536 d1
  ·refine yC (bA (by simp_all) (zC ?_));rw[wrap_i64 (by omega) (by omega),hidx];exact ih t2 d1 q2 r w1 w2 wr (by omega) (ht.trans (g1.trans f1)) hd1r f2 hr2 n1 nq2 nr hd1 (.inl (by omega)) (by omega) hl
  ·refine yC (tA (by simp_all) (cA ?_));rw[q257];refine zcp hr2 hd1r nr.lt g3 (by omega) g5 (by omega) fun t3 w3 r3 e1 e2 e3 e4 e5=>jG fun b1 hb1 _=>?_;obtain⟨H1,c1,c2,c3⟩:=Cx (k:=.u16) tV rfl lM rfl rfl 1 trivial hb1;have o1:mA H1.t 1 (sB .u16 [1]) (.slice b1 0 1 1):=c2.all (cap:=1) (ybk _);refine⟨_,_,c1,cA ?_⟩;have hq2l:q2.length<=a.length:=zG.len nq2.nm ha.lt (by
    have:val 65536 q2*1<=val 65536 q2*val 65536 d1:=ybv _ (by omega);omega)
   rw[q201];refine Ot ((f2.mono e1).mono c3) o1 nq2.lt (by intro x hx;simp_all) (by omega) (by simp) fun t4 w4 q4 k1 k2 k3 k4 k5=>zC ?_;rw[wrap_i64 (by omega) (by omega),hidx];have n1':norm [1]:=by intro _;simp
   have v1:val 65536 [1]=1:=rfl;refine ih t4 d1 q4 r3 w1 w4 w3 (by omega) (ht.trans (g1.trans (f1.trans (e1.trans (c3.trans k1))))) (((hd1r.mono e1).mono c3).mono k1) k2 ((e2.mono c3).mono k1) n1 ⟨k3,k5 nq2.nm n1'⟩ ⟨e3,e5⟩ hd1 (.inl (by omega)) ?_ (by omega)
   grind
theorem YD(hu:mA t 1 (sB .u16 a) u)(hv:mA t 1 (sB .u16 b) v)(ha:zG a)(hb:zG b)(hla:a.length<100000)(hlb:b.length<100000)(hne:b≠[])
  (hQ:∀t' v1 v2 q r,yB t t'->mA t' 1 (sB .u16 q) v1->mA t' 1 (sB .u16 r) v2->zG q->zG r->val 65536 a=val 65536 q*val 65536 b+val 65536 r->val 65536 r<val 65536 b->Q (.tup [v1,v2]) t'):Wc yA F 235 [u,v] t Q:=by
 have hb0:0<val 65536 b:=by
  rcases yav (val 65536 b)with e | e
  ·exact absurd (Gc (by omega) hb.nm e) hne
  ·exact e
 refine w235 ?_;unfold t235 uI uH uX uZ uW;refine vA (by rw[hv.len,pD]) (tB ?_);by_cases h1:b.length=1
 ·obtain⟨x,rfl⟩:=List.length_eq_one_iff.1 h1;have hx:=hb.lt x (by simp);have hx0:0<x:=by grind [val]
  obtain⟨c,off,g1,g2⟩:=hv.idx zI (i:=0) (x:=x) rfl;refine tA (tE.2 (by simp)) (vA g1 (sC g2 (tB (cA ?_))));rw[w64n hx,q223];refine EN hu ha.lt (by omega) hx0 hx fun t' v1 v2 q r k1 k2 k3 k4 k5 k6=>vA rfl (vA rfl ?_);have hr:wB 65536 [r]:=by intro y hy;grind
  have e1:val 65536 [x]=x:=by simp[val]
  have e2:val 65536 [r]=r:=by simp[val]
  refine hQ t' v1 v2 _ _ k1 k2 k3 (Pi k4) (Pi hr) ?_ ?_
  all_goals grind [gQ]
 ·refine bA (fun e=>h1 (by grind [tE])) (zC ?_);refine zb3 hu ha hb hla hb0 (fun t1 n h2 h3 h4=>?_) (val 65536 a+1) 0 t b v (by omega) (yB.refl _) hv hb (by simp) (.inl rfl);have hn64:n<2000000:=by
   rcases h4 with e | e
   ·omega
   ·have:n-1<16*a.length:=by
     refine GF (x:=val 65536 a) ?_ (lK (by omega) ha.lt);have:1*2^(n-1)<=val 65536 b*2^(n-1):=ybi _ hb0;omega
    omega
  refine TV (t:=t1) (u:=u) (b:=b) ha hla hn64 h4 (fun t2 w d k1 k2 k3 k4=>?_) n 0 t1 b v (by omega) (yB.refl _) (hv.mono h2) hb (by simp);refine jG fun b1 hb1 _=>?_;have hbs:jE yA 30 0 [] ⟨b1,t2⟩=some (.slice b1 0 0 0,uF ⟨b1,t2⟩ [] none):=by
   unfold jE;rw[tV,pA];simp only[lD.asSlice,pA];rw[lM,pA];rfl
  obtain⟨t3,c1,c2,c3,c4⟩:=aX hb1 [] none;rw[c1]at hbs;refine⟨_,_,hbs,jG fun b2 hb2 _=>?_⟩;obtain⟨c0,c5,_⟩:=c2;have hu3:mA t3 1 (sB .u16 a) u:=((hu.mono h2).mono k1).mono c3;obtain⟨w2,H2,d1,d2,d3,d4⟩:=OB (s:=.slice b1 0 0 0) rl27 hu3 (by rw[pD];omega) hb2 (.inr ⟨b1,_,_,rfl,c5⟩);refine⟨_,_,d1,zC ?_⟩;have hnil:mA H2.t 1 (sB .u16 []) .nilslice:=⟨[],.inl ⟨rfl,rfl⟩,wI.2 rfl⟩
  have:=TN (t:=t) (b:=b) (Q:=Q) ha hla hn64 hb0 hQ n H2.t d [] a w .nilslice w2 (ybk _) (h2.trans (k1.trans (c3.trans d3))) ((k2.mono c3).mono d3) hnil d2 k3 ⟨(fun x hx=>by cases hx),fun h=>(h rfl).elim⟩ ha k4 ?_ (by simp[val]) (by omega)
  ·rwa [Nat.sub_self]at this
  ·rcases h4 with e | e
   ·omega
   ·left
    rw[k4];have hn1:1<=n\/n=0:=by omega
    rcases hn1 with hn1 | hn1
    ·obtain⟨m,rfl⟩:∃m,n=m+1:=⟨n-1,by omega⟩;rw[Nat.add_sub_cancel]at e;rw[yag,<- ybj];omega
    grind
end
theorem YN{Q:wC}:∀(k:Nat) (t':Tr sA) (a b:List Nat) (u v:zA),val 65536 b<k->yB t t'->mA t' 1 (sB .u16 a) u->mA t' 1 (sB .u16 b) v->zG a->zG b->a.length<100000->b.length<100000 →
  (∀t2 w g,yB t t2->mA t2 1 (sB .u16 g) w->zG g->val 65536 g=Nat.gcd (val 65536 a) (val 65536 b)->Q w t2)->jp 226 2 [u,v] t' Q:=by
 intro k;induction k with
 | zero=>omega
 | succ k ih=>
  intro t' a b u v hk ht hu hv ha hb hla hlb hQ;refine j226_2 ?_;unfold zew uI uX;refine vA (by rw[hv.len,pD]) (tB ?_);by_cases h0:b=[]
  ·subst h0;refine bA (fun e=>by grind [uC]) ?_;exact hQ t' u a ht hu ha (by simp[val])
  ·have hl0:0<b.length:=List.length_pos_iff.2 h0;refine tA (uC.2 (by omega)) (cA ?_);rw[q235];refine YD hu hv ha hb hla hlb h0 fun t2 v1 v2 q r k1 k2 k3 k4 k5 k6 k7=>vA rfl (vA rfl (zC ?_));refine ih t2 b r v v2 (by omega) (ht.trans k1) (hv.mono k1) k3 hb k5 hlb (by have:=zG.len k5.nm hb.lt (by omega);omega) fun t3 w g e1 e2 e3 e4=>hQ t3 w g e1 e2 e3 ?_;rw[e4,k6,Nat.gcd_comm,ybh,Nat.gcd_comm (val 65536 b*val 65536 q+val 65536 r),Nat.gcd_mul_left_add_right,Nat.gcd_comm]
def zau{a b:List Nat}{u v:zA}{Q:wC}(hu:mA t 1 (sB .u16 a) u)(hv:mA t 1 (sB .u16 b) v)(ha:zG a)(hb:zG b)(hla:a.length<100000)(hlb:b.length<100000)
  (hQ:∀t2 w g,yB t t2->mA t2 1 (sB .u16 g) w->zG g->val 65536 g=Nat.gcd (val 65536 a) (val 65536 b)->Q w t2):Wc yA F 226 [u,v] t Q:=by
 refine w226 ?_;unfold t226;exact zC (YN _ t a b u v (Nat.lt_succ_self _) (yB.refl _) hu hv ha hb hla hlb hQ)
end
section
variable [kC]
variable {t tf:Tr sA}
theorem We{neg:Bool}{l:List Nat}{v:zA}(hl:l.length<1125899906842624)(hv:mA t 1 (sB .u16 l) v):vB yA F 179 [.agg [.bool neg,v]] t=some (.bool (tI neg l)):=by
 have l1:aA v=some (.int .i64 (l.length:Int)):=by rw[hv.len,pD]
 refine bB.2 (w179 ?_);unfold t179 tI uI uH jA uZ uW;refine vA l1 (tB ?_);by_cases h0:l=[]
 ·subst h0;exact tA (tE.2 rfl) ⟨by rw[yab rfl],rfl⟩
 ·obtain⟨m,x,rfl⟩:=Cy h0;have hx:(m++[x])[m.length]?=some x:=by simp
  obtain⟨b,off,g1,g2⟩:=hv.idx zI hx;have hlm:m.length<1125899906842624:=by grind
  have e1:iA .i64 ((((m++[x]).length:Nat):Int)-1)=(m.length:Int):=by grind [wrap_i64]
  rw[yaa h0];refine bA (fun e=>by grind [tE]) (vA l1 (tB ?_));by_cases h1:(m++[x]).length<=1024
  ·refine tA (mD.2 (by omega)) (vA l1 (tB ?_));rw[e1];refine vA g1 (sC g2 (tB ⟨?_,rfl⟩))
   simp_all [rR]
  ·refine bA (fun e=>by grind [mD]) ⟨?_,rfl⟩
   grind
theorem ET{l:List Nat}{v:zA}(hv:mA t 1 (sB .u16 l) v):vB yA F 184 [v] t=some (.bool (decide (l=[1]))):=by
 refine bB.2 (w184 ?_);unfold t184 uQ16 uI uH jA uZ;refine vA (by rw[hv.len,pD]) (tB ?_);by_cases h:l.length=1
 ·obtain⟨x,rfl⟩:=List.length_eq_one_iff.1 h;obtain⟨b,off,g1,g2⟩:=hv.idx zI (i:=0) (x:=x) rfl;refine tA (tE.2 (by simp)) (vA g1 (sC g2 (tB ⟨?_,rfl⟩)));rw[rR];congr 1
  grind
 ·refine bA (fun e=>h (by grind [tE])) ⟨?_,rfl⟩;rw[decide_eq_false];grind
theorem Sq{neg:Bool}{l:List Nat}(h:tI neg l=true)(hl:wB 65536 l):zG l/\l.length<=1024:=by
 refine⟨⟨hl,Pl h⟩,?_⟩
 grind [tI]
theorem SM{f:fC}{u v:zA}(hu:mA t 1 (jC f.n.limbs) u)(hv:mA t 1 (jC f.d.limbs) v)(hf:fC.fit f):vB yA F 183 [.agg [.bool f.n.neg,u,.bool f.d.neg,v]] t=some (.bool (iH f)):=by
 obtain⟨h1,h2,h3⟩:=hf;unfold fC.ok dD at h1;have c1:=We (neg:=f.n.neg) (by omega) hu;have c2:=We (neg:=f.d.neg) (by omega) hv;have c3:vB yA F 225 [.agg [.bool f.n.neg,u,.bool f.d.neg,v]] t=some (.bool (decide (f.n.limbs.length<=256)&&decide (f.d.limbs.length<=256))):=by
  refine bB.2 (w225 ?_);unfold t225 uI jA;refine vA (by rw[hu.len,fN]) (tB ?_);by_cases g:f.n.limbs.length<=256
  ·refine tA (mD.2 (by omega)) (vA (by rw[hv.len,fN]) (tB ⟨?_,rfl⟩));rw[decide_eq_true g,ycn,mY];congr 1
   grind
  ·refine bA (fun e=>g (by grind [mD])) ⟨?_,rfl⟩
   grind
 refine rN (w183 ?_);unfold t183 uI uB jA;have cC:∀ {b:Bool} (_:iH f=b),wp 183 (.ret (.bool b)) t (fun v' t'=>v'=.bool (iH f)/\∀b y,t.get b=some y->t'.get b=some y):=fun e=>⟨by rw[e],fun _ _ h=>h⟩;refine cA ?_;rw[q179,c1,xA];refine yC ?_
 cases hn:tI f.n.neg f.n.limbs with
 | false=>grind [tA,iH]
 | true=>
 refine bA (by simp) (cA ?_);rw[q179,c2,xA];refine yC ?_
 cases hd:tI f.d.neg f.d.limbs with
 | false=>grind [tA,iH]
 | true=>
 refine bA (by simp) (cA ?_);rw[q225,c3,xA];refine yC ?_
 cases hfit:(decide (f.n.limbs.length<=256)&&decide (f.d.limbs.length<=256))with
 | false=>grind [tA,iH]
 | true=>
 refine bA (by simp) ?_
 cases hg:f.d.neg with
 | true=>grind [tA,iH]
 | false=>
 refine bA (by simp) (vA (by rw[hv.len,fN]) (tB ?_));by_cases h0:f.d.limbs=[]
 ·grind [tA,tE,iH]
 ·have hl0:0<f.d.limbs.length:=List.length_pos_iff.2 h0;refine bA (fun e=>by grind [tE]) (cA ?_);obtain⟨n1,n2⟩:=Sq hn h2;obtain⟨m1,m2⟩:=Sq hd h3;rw[q226];refine zau hu hv n1 m1 (by omega) (by omega) fun t2 w g k1 k2 k3 k4=>cA ?_;rw[q184,ET k2,xA];refine yC ⟨?_,k1⟩;have e1:decide (g=[1])=decide (Nat.gcd (val 65536 f.n.limbs) (val 65536 f.d.limbs)=1):=by
   refine decide_eq_decide.2 ⟨fun e=>?_,fun e=>?_⟩
   ·rw[<- k4,e];rfl
   ·rw[<- k4]at e;have hl:g.length=[1].length:=by
     have a1:=eM (B:=65536) (l:=[1]) (m:=g) (by omega) (by intro x hx;grind) k3.nm (by grind [val]);have a2:=eM (B:=65536) (l:=g) (m:=[1]) (by omega) k3.lt (by intro _;simp) (by grind [val]);omega
    exact Su (by omega) k3.lt (by intro x hx;grind) hl (by rw[e];rfl)
  rw[e1];unfold iH;rw[hn,hd,hfit,hg,show decide (f.d.limbs≠[])=true from decide_eq_true h0]
  simp_all [sR,val]
theorem CM{a:List Nat}{u:zA}{Q:wC}(hu:mA t 1 (sB .u16 a) u)(ha:wB 65536 a)(hla:a.length<900000)
  (hQ:∀t' v q,yB t t'->mA t' 1 (sB .u16 q) v->zG q->q.length<=a.length->val 65536 q=val 65536 a / 10->Q (.tup [v,.int .i64 ((val 65536 a%10:Nat):Int)]) t'):Wc yA F 180 [u] t Q:=by
 refine w180 ?_;unfold t180 uI uH uX uZ uW;refine cA ?_;rw[q223,show(10:Int)=((10:Nat):Int) from rfl];refine EN (d:=10) hu ha hla (by omega) (by omega) fun t' v1 v2 q r k1 k2 k3 k4 k5 k6=>vA rfl (vA rfl ?_);have hq:val 65536 (eD q)=val 65536 a / 10:=by rw[gQ];omega
 have hr:val 65536 a%10=r:=by omega
 have hql:(eD q).length<=a.length:=by
  have hv:=eM (B:=65536) (l:=a) (m:=eD q) (by omega) ha (yR q) (by omega);exact hv
 rw[hr]at hQ;by_cases h0:r=0
 ·subst h0;refine vA (v:=.int .i64 ((0:Nat):Int)) (by rw[k3.len,pD];rfl) (tB (tA (tE.2 rfl) ?_));exact hQ t' v1 (eD q) k1 k2 (Pi k4) hql hq
 ·have hs:eD [r]=[r]:=Ci (by intro _;simp_all);rw[hs]at k3;obtain⟨b,off,g1,g2⟩:=k3.idx zI (i:=0) (x:=r) rfl;refine vA (v:=.int .i64 ((1:Nat):Int)) (by rw[k3.len,pD];rfl) (tB (bA (fun e=>by grind [tE]) (vA g1 (sC g2 (tB ?_)))));rw[wrap_i64 (by omega) (by omega)];exact hQ t' v1 (eD q) k1 k2 (Pi k4) hql hq
theorem Wo{x n:Nat}(hx:x<256)(hn:t.get n=none):∃H1,jE yA 90 1 [(0,.int .u8 (x:Int))] ⟨n,t⟩=some (.slice n 0 1 1,H1)/\kK yA 90 9 ⟨0,H1.t⟩ (.slice n 0 1 1)=some (.str [x])/\yB t H1.t:=by
 obtain⟨H1,c1,c2,c3⟩:=Cx (k:=.u8) sO rfl tN rfl rfl x trivial hn;exact⟨H1,c1,MO sO gH rfl rfl rfl tN rfl (c2.all (cap:=1) (ybk _)) (fun y hy=>by simp_all),c3⟩
theorem Zw{d:Nat}(h:d<10):iA .u8 (iA .i64 (48+(d:Int)))=((48+d:Nat):Int):=by
 grind [wrap_i64,Eg]
def digF (u:Nat)(s:List Nat):List Nat:=if u=0 then(if s=[]then [48]else s)else eE u++s
theorem MG{u:Nat}{s:List Nat}:digF (u / 10) ([48+u%10]++s)=eE u++s:=by
 grind [digF,Lt,Ha]
theorem SQ{neg:Bool}{u0:zA}{D:List Nat}{t0:Tr sA}{Q:wC}(hQ:∀t',yB t0 t'->Q (.tup [.str ((if neg then [45]else [])++D),.int .i64 0]) t')(hD:D.length<1000000) :
  ∀(k:Nat) (t':Tr sA) (q:List Nat) (v:zA) (s:List Nat),val 65536 q<k->yB t0 t'->mA t' 1 (sB .u16 q) v->zG q->q.length<900000->s≠[]->s.length<=D.length->digF (val 65536 q) s=D →
   jp 118 2 [v,.str s,.bool neg,u0] t' Q:=by
 intro k;induction k with
 | zero=>omega
 | succ k ih=>
  intro t' q v s hk ht hv nq hql hs hsl hd;refine j118_2 ?_;unfold ze0 uI uS uX uZ uY uW;refine vA (by rw[hv.len,pD]) (tB ?_);by_cases h0:q=[]
  ·subst h0;have e:s=D:=by unfold digF at hd;rw[yab (by rfl),yaa hs]at hd;exact hd
   subst e;refine bA (fun e=>by grind [uC]) ?_;have:=hQ t' ht
   cases neg with
   | true=>
    refine tA rfl (vA (pC (by grind)) (pB ?_));exact this
   | false=>exact bA (by simp) this
  ·have hl0:0<q.length:=List.length_pos_iff.2 h0;have hpos:0<val 65536 q:=by
    rcases yav (val 65536 q)with e | e
    ·exact absurd (Gc (by omega) nq.nm e) h0
    ·exact e
   refine tA (uC.2 (by omega)) (cA ?_);rw[q180];refine CM hv nq.lt hql fun t2 v2 q2 k1 k2 k3 k4 k5=>vA rfl (vA rfl (tB (jG fun b hb _=>?_)));have hd10:val 65536 q%10<10:=ycy _ (by omega);obtain⟨H1,c1,c2,c3⟩:=Wo (x:=48+val 65536 q%10) (by omega) hb;rw[Zw hd10];have hstep:=MG (u:=val 65536 q) (s:=s);have hDq:eE (val 65536 q)++s=D:=by grind [digF]
   have hlen:s.length+1<=D.length:=by
    grind [qW]
   refine⟨_,_,c1,sC c2 (pB (vA (pC (by grind)) (pB (zC ?_))))⟩;refine ih H1.t q2 v2 _ (by omega) (ht.trans (k1.trans c3)) (k2.mono c3) k3 (by omega) (by simp) (by grind) ?_;rw[k5,hstep,hDq]
theorem Wi{neg:Bool}{l:List Nat}{v:zA}(hv:mA t 1 (sB .u16 l) v)(hlt:wB 65536 l)(hval:tI neg l=true):vB yA F 118 [.agg [.bool neg,v]] t=some (.tup [.str (vN neg l),.int .i64 0]):=by
 obtain⟨n1,n2⟩:=Sq hval hlt;have hw:=Bz (neg:=neg) hlt n2;refine rN (w118 ?_);unfold t118 uI uB uS uX uZ uY uW;refine cA ?_;rw[q179,We (by omega) hv,hval,xA];refine yC (bA (by simp) (cA ?_));rw[q180];refine CM hv hlt (by omega) fun t2 v2 q2 k1 k2 k3 k4 k5=>vA rfl (vA rfl (tB (jG fun b hb _=>?_)));have hd10:val 65536 l%10<10:=ycy _ (by omega)
 obtain⟨H1,c1,c2,c3⟩:=Wo (x:=48+val 65536 l%10) (by omega) hb;rw[Zw hd10];have hDl:(eE (val 65536 l)).length<=10000:=by
  grind [vN,lU]
 refine⟨_,_,c1,sC c2 (pB (zC ?_))⟩;have hstep:=MG (u:=val 65536 l) (s:=[]);rw[<- k5,ycd,ycd]at hstep;refine SQ (t0:=t) (D:=eE (val 65536 l)) (fun t' h=>⟨?_,h⟩) (by omega) _ H1.t q2 v2 [48+val 65536 l%10] (Nat.lt_succ_self _) (k1.trans c3) (k2.mono c3) k3 (by omega) (by simp) (by grind [qW]) hstep;unfold vN lU;cases neg<;>rfl
theorem zcb{f:fC}{u v:zA}(hu:mA t 1 (jC f.n.limbs) u)(hv:mA t 1 (jC f.d.limbs) v)(hf:fC.fit f):vB yA F 122 [.agg [.bool f.n.neg,u,.bool f.d.neg,v]] t=some (if iH f then .tup [.str (mE f),.int .i64 0]else .tup [.str [],.int .i64 2]):=by
 have c1:=SM hu hv hf;refine bB.2 (w122 ?_);unfold t122 uI uB uS uX uZ;refine cA ?_;rw[q183,c1,xA];refine yC ?_
 cases hval:iH f with
 | false=>exact tA rfl ⟨rfl,rfl⟩
 | true=>
  obtain⟨p1,p2,p3,p4⟩:=Ms hval;have w1:=Bz (neg:=f.n.neg) hf.2.1 p3;have w2:=Bz (neg:=f.d.neg) hf.2.2 p4;have hdn:f.d.neg=false:=by
   grind [iH]
  refine bA (by simp) (cA ?_);rw[q118,Wi hu hf.2.1 p1,xA];refine vA rfl (pB (vA rfl (tB (cA ?_))));rw[q184,ET hv,xA];refine yC ?_;by_cases ho:f.d.limbs=[1]
  ·refine tA (decide_eq_true ho) ⟨?_,rfl⟩
   grind [mE,sR]
  ·refine bA (by simp_all) (cA ?_);rw[q118,Wi hv hf.2.2 p2,xA];refine vA rfl (pB (vA rfl (tB (vA (pC (by grind)) (pB (vA (pC (by grind)) (pB ⟨?_,rfl⟩)))))))
   grind [mE,sR]
end
end Go.Proofs
namespace Go.Am
open Go Go.RowKit
def nC (_:Nat)(_:List zA):Option zA:=none
def bM (c j:Nat->List zA->Option zA):T->Option zA
 | .ret v=>some v
 | .ite b x y=>bif b then bM c j x else bM c j y
 | .opt x K=>ob x fun v=>bM c j (K v)
 | .call f a K=>ob (c f a) fun v=>bM c j (K v)
 | .asI k v K=>ob (Dc k v) fun n=>bM c j (K n)
 | .asB v K=>ob v.asBool fun n=>bM c j (K n)
 | .asS v K=>ob v.asStr fun n=>bM c j (K n)
 | .jump i a=>j i a
 | _=>none
def Kh{α β:Type}{x:Option α}{f:α->Option β}{v:β}(h:ob x f=some v):∃a,x=some a/\f a=some v:=by
 cases x with
 | none=>cases h
 | some a=>simp_all
def ev_ok{base:Nat}{W J:pI}{t:Tr sA}{Q:wC}{c j:Nat->List zA->Option zA}(hc:∀f a v R,c f a=some v->R v t->W f a t R)(hj:∀f a v R,j f a=some v->R v t->J f a t R):∀(x:T) {v:zA},bM c j x=some v->Q v t->lA base W J x t Q:=by
 intro x;induction x with
 | ret u=>intro v h q;cases h;exact q
 | ite b x y ihx ihy=>
  intro v h q
  cases b with
  | true=>exact tA rfl (ihx h q)
  | false=>exact bA (by simp) (ihy h q)
 | opt x K ih=>
  intro v h q;obtain⟨a,h1,h2⟩:=Kh h
  grind [vA]
 | call f a K ih=>
  intro v h q;obtain⟨u,h1,h2⟩:=Kh h
  grind [cA]
 | asI k u K ih=>
  intro v h q;obtain⟨a,h1,h2⟩:=Kh h;show oE (Dc k u) _
  simp_all
 | asB u K ih=>
  intro v h q;obtain⟨a,h1,h2⟩:=Kh h;show oE u.asBool _;rw[h1];exact ih a h2 q
 | asS u K ih=>
  intro v h q;obtain⟨a,h1,h2⟩:=Kh h;show oE u.asStr _
  simp_all
 | jump i a=>intro v h q;exact hj i a v Q h q
 | _=>intro v h q;cases h
end Go.Am
namespace Go.Proofs
open Go Go.Am
variable [kC]
variable {t tf:Tr sA}
def Ks(y:Nat):Bool:=decide (y%400=0)||(decide (y%4=0) && !decide (y%100=0))
theorem tmd(x k:Nat)(hk:0<k):zB (Int.tmod (x:Int) (k:Int)) 0=decide (x%k=0):=by
 grind [rR]
def zb9(y:Nat):vB yA F 224 [.int .i64 (y:Int)] t=some (.bool (Ks y)):=by
 refine bB.2 (w224 ?_);have h1:=tmd y 400 (by omega);have h2:=tmd y 4 (by omega);have h3:=tmd y 100 (by omega);unfold t224 Ks jA cD;show wp 224 (.ite (zB (Int.tmod (y:Int) ((400:Nat):Int)) 0) _ (.ite (zB (Int.tmod (y:Int) ((4:Nat):Int)) 0) (.ret (.bool (!zB (Int.tmod (y:Int) ((100:Nat):Int)) 0))) _)) t _;rw[h1,h2,h3];cases decide (y%400=0)<;>cases decide (y%4=0)<;>exact⟨rfl,rfl⟩
def vM (y m:Nat):Nat:=if m=2 then(bif Ks y then 29 else 28)else if m=4\/m=6\/m=9\/m=11 then 30 else 31
theorem Wx(y m:Nat):28<=vM y m/\vM y m<=31:=by
 grind [vM]
def Rs(f:Nat)(a:List zA):Option zA:=bif Nat.beq f 224 then(match a with
 | [.int .i64 (.ofNat z)]=>some (.bool (Ks z))
 | _=>none)else none
theorem zd1{f:Nat}{a:List zA}{v:zA}{R:wC}(h:Rs f a=some v)(hR:R v t):Wq yA F gE f a t R:=by
 unfold Rs at h
 cases hf:Nat.beq f 224 with
 | false=>simp_all
 | true=>
  rw[hf,cond_true]at h;have:f=224:=bC.1 hf;subst this;split at h
  ·rename_i z;cases h;have:=zb9 (t:=t) z;rw[q224,show(zA.int .i64 (Int.ofNat z))=.int .i64 (z:Int) from rfl,this,xA];exact hR
  ·cases h
theorem zhz{y m:Nat}(h1:1<=m)(h2:m<=12):vB yA F 182 [.int .i64 (y:Int),.int .i64 (m:Int)] t=some (.int .i64 (vM y m:Nat)):=by
 refine bB.2 (w182 ?_);have key:∀v,bM Rs nC (t182 (y:Int) (m:Int))=some v->v=.int .i64 (vM y m:Nat)->wp 182 (t182 (y:Int) (m:Int)) t (fun v' t'=>v'=.int .i64 (vM y m:Nat)/\t'=t):=fun v hv he=>ev_ok (fun f a u R hc hR=>zd1 hc hR) (fun f a u R hc _=>by cases hc) _ hv ⟨he,rfl⟩;have hm:m=1\/m=2\/m=3\/m=4\/m=5\/m=6\/m=7\/m=8\/m=9\/m=10\/m=11\/m=12:=by omega
 rcases hm with e | e | e | e | e | e | e | e | e | e | e | e
 all_goals subst e
 ·exact key (.int .i64 31) (by kernel_rfl) rfl
 ·have e:bM Rs nC (t182 (y:Int) ((2:Nat):Int))=(bif Ks y then some (.int .i64 29)else some (.int .i64 28)):=by kernel_rfl
  grind [vM]
 ·exact key (.int .i64 31) (by kernel_rfl) rfl
 ·exact key (.int .i64 30) (by kernel_rfl) rfl
 ·exact key (.int .i64 31) (by kernel_rfl) rfl
 ·exact key (.int .i64 30) (by kernel_rfl) rfl
 ·exact key (.int .i64 31) (by kernel_rfl) rfl
 ·exact key (.int .i64 31) (by kernel_rfl) rfl
 ·exact key (.int .i64 30) (by kernel_rfl) rfl
 ·exact key (.int .i64 31) (by kernel_rfl) rfl
 ·exact key (.int .i64 30) (by kernel_rfl) rfl
 ·exact key (.int .i64 31) (by kernel_rfl) rfl
def aK:Nat->Nat->Nat->Nat->Nat × Nat × Nat
 | 0,y,m,l=>(y,m,l+1)
 | k+1,y,m,l=>if vM y m<=l then(if m=12 then aK k (y+1) 1 (l-vM y m)else aK k y (m+1) (l-vM y m))else(y,m,l+1)
theorem BF:∀(k y m l:Nat),l<k->1<=m->m<=12->y+l<1000000->jp 120 2 [.int .i64 (y:Int),.int .i64 (m:Int),.int .i64 (l:Int)] t (fun v t'=>v=.tup [.int .i64 ((aK k y m l).1:Nat),.int .i64 ((aK k y m l).2.1:Nat),.int .i64 ((aK k y m l).2.2:Nat),.int .i64 0]/\t'=t)/\(aK k y m l).1<=y+l/\(aK k y m l).2.1<=12/\(aK k y m l).2.2<=l+1:=by
 intro k;induction k with
 | zero=>omega
 | succ k ih=>
  intro y m l hk h1 h2 hb;have hl:=Wx y m;have e:=zhz (t:=t) (y:=y) h1 h2;unfold aK;by_cases hc:vM y m<=l
  ·rw[yab hc];by_cases h12:m=12
   ·rw[yab h12];obtain⟨i1,i2,i3,i4⟩:=ih (y+1) 1 (l-vM y m) (by omega) (by omega) (by omega) (by omega);refine⟨Ys ?_,by omega,by omega,by omega⟩;unfold Nk uI qB uZ uW;refine cA ?_;rw[q182,e,xA];refine tB (tA (mD.2 (by omega)) (cA ?_));rw[q182,e,xA];grind [tB,tA,uC,wrap_i64,zC]
   ·rw[yaa h12];obtain⟨i1,i2,i3,i4⟩:=ih y (m+1) (l-vM y m) (by omega) (by omega) (by omega) (by omega);refine⟨Ys ?_,by omega,by omega,by omega⟩;unfold Nk uI qB uZ uW;refine cA ?_;rw[q182,e,xA];refine tB (tA (mD.2 (by omega)) (cA ?_));rw[q182,e,xA];grind [tB,bA,uC,wrap_i64,zC]
  ·rw[yaa hc];refine⟨Ys ?_,by simp,by omega,by simp⟩;unfold Nk uI qB uZ uW;refine cA ?_;rw[q182,e,xA];refine tB (bA (fun x=>by grind [mD]) ⟨?_,rfl⟩);rw[wrap_i64 (by omega) (by omega),show(l:Int)+1=((l+1:Nat):Int) by omega]
def iS:Nat->Nat->List Nat->List Nat
 | 0,_,s=>s
 | k+1,n,s=>iS k (n / 10) ([48+n%10]++s)
theorem Zy:∀(k n:Nat) (s:List Nat),(iS k n s).length=k+s.length
 | 0,n,s=>by simp[iS]
 | k+1,n,s=>by unfold iS;rw[Zy k];grind
theorem zdp{t0:Tr sA}{v1:Nat}:∀(k n i:Nat) (s:List Nat) (t:Tr sA),i+k=v1->v1<100->s.length<=i->n<1000000000->yB t0 t->jp 121 2 [.int .i64 (n:Int),.int .i64 (v1:Int),.str s,.int .i64 (i:Int)] t (fun v t'=>v=.str (iS k n s)/\∀b y,t0.get b=some y->t'.get b=some y):=by
 intro k;induction k with
 | zero=>
  intro n i s t hi hv hs hn ht;refine zge ?_;unfold Uw uS qB uZ uY uW;exact bA (fun e=>by grind [uC]) ⟨rfl,ht⟩
 | succ k ih=>
  intro n i s t hi hv hs hn ht;refine zge ?_;unfold Uw uS qB uZ uY uW;have hm:Int.tmod (n:Int) 10=((n%10:Nat):Int):=by grind
  have hd:Int.tdiv (n:Int) 10=((n / 10:Nat):Int):=by simp_all
  rw[hm,hd,Zw (ycy _ (by omega))];refine tA (uC.2 (by omega)) (jG fun b hb _=>?_);obtain⟨H1,c1,c2,c3⟩:=Wo (x:=48+n%10) (by omega) hb;refine⟨_,_,c1,sC c2 (pB (vA (pC (by grind)) (pB (zC ?_))))⟩;rw[wrap_i64 (by omega) (by omega),wrap_i64 (by omega) (by omega),show(i:Int)+1=((i+1:Nat):Int) by omega];exact ih (n / 10) (i+1) _ H1.t (by omega) hv (by grind) (by omega) (ht.trans c3)
def Zx{n k:Nat}(hk:k<100)(hn:n<1000000000):vB yA F 121 [.int .i64 (n:Int),.int .i64 (k:Int)] t=some (.str (iS k n [])):=by
 refine rN (w121 ?_);unfold t121 uZ;exact zC (zdp k n 0 [] t (by omega) hk (by simp) hn (yB.refl _))
theorem ze4{n:Int}:vB yA F 60 [.int .i64 n] t=some (.bool (decide (0<=n)&&decide (n<65536))):=by
 refine bB.2 (w60 ?_);unfold t60 jA;by_cases h:0<=n
 ·refine tA (mD.2 h) ⟨?_,rfl⟩;rw[decide_eq_true h,ycn,Ao]
 ·exact bA (fun e=>h (mD.1 e)) ⟨by grind,rfl⟩
def Dn(n:Nat):List Nat:=iS 4 (aK (n+1) 1900 1 n).1 []++[45]++iS 2 (aK (n+1) 1900 1 n).2.1 []++[45]++iS 2 (aK (n+1) 1900 1 n).2.2 []
theorem FG{n:Int}:vB yA F 55 [.int .i64 n] t=some (.str (if 0<=n/\n<65536 then Dn n.toNat else [])):=by
 refine bB.2 (w55 ?_);unfold t55 uI uS uX uZ;refine cA ?_;have c1:vB yA F 120 [.int .i64 n] t=some (if 0<=n/\n<65536 then .tup [.int .i64 ((aK (n.toNat+1) 1900 1 n.toNat).1:Nat),.int .i64 ((aK (n.toNat+1) 1900 1 n.toNat).2.1:Nat),.int .i64 ((aK (n.toNat+1) 1900 1 n.toNat).2.2:Nat),.int .i64 0]else .tup [.int .i64 0,.int .i64 0,.int .i64 0,.int .i64 2]):=by
  refine bB.2 (w120 ?_);unfold t120 uB uZ;refine cA ?_;rw[q60,ze4,xA];refine yC ?_;by_cases h:0<=n/\n<65536
  ·rw[yab h];refine bA (by simp_all) (zC ?_);have:=(BF (t:=t) (n.toNat+1) 1900 1 n.toNat (by omega) (by omega) (by omega) (by omega)).1
   grind
  ·rw[yaa h];refine tA ?_ ⟨rfl,rfl⟩
   grind
 rw[q120,c1,xA];by_cases h:0<=n/\n<65536
 ·rw[yab h,yab h];obtain⟨_,b1,b2,b3⟩:=BF (t:=t) (n.toNat+1) 1900 1 n.toNat (by omega) (by omega) (by omega) (by omega);unfold Dn;generalize aK (n.toNat+1) 1900 1 n.toNat=r at *;obtain⟨y,m,d⟩:=r;simp only at b1 b2 b3 ⊢;have l4:∀n:Nat,(iS 4 n []).length=4:=fun n=>by rw[Zy];rfl
  have l2:∀n:Nat,(iS 2 n []).length=2:=fun n=>by rw[Zy];rfl
  refine vA rfl (tB (vA rfl (tB (vA rfl (tB (vA rfl (tB (bA (by grind [tE]) (cA ?_)))))))));rw[q121,show(4:Int)=((4:Nat):Int) from rfl,Zx (by omega) (by omega),xA];refine pB (vA (pC (by grind)) (pB (cA ?_)));rw[q121,show(2:Int)=((2:Nat):Int) from rfl,Zx (by omega) (by omega),xA];refine pB (vA (pC (by simp_all)) (pB (vA (pC (by simp_all)) (pB (cA ?_)))))
  rw[q121,Zx (by omega) (by omega),xA];exact pB (vA (pC (by simp_all)) (pB ⟨rfl,rfl⟩))
 ·rw[yaa h,yaa h];exact vA rfl (tB (vA rfl (tB (vA rfl (tB (vA rfl (tB (tA rfl ⟨rfl,rfl⟩))))))))
end Go.Proofs
namespace Go.Proofs
open Go Go.Am
section
variable [kC]
variable {t tf:Tr sA}
theorem zib{neg:Bool}{l:List Nat}{v:zA}(hv:mA t 1 (sB .u16 l) v):vB yA F 181 [.bool neg,v] t=some (.agg [.bool (neg&&decide (0<l.length)),v]):=by
 refine bB.2 (w181 ?_);unfold t181 uI mC;have h1:∀b:Bool,nE zA.one [.bool b,v]=true:=fun b=>by rw[iI];simp only[ycg,yck,hv.one];rfl
 cases neg with
 | true=>
  refine tA rfl (vA (by rw[hv.len,pD]) (tB ?_));have e:lB 0 (l.length:Int)=decide (0<l.length):=by grind [Ao]
  rw[e];exact tA (h1 _) (tA (h1 _) ⟨rfl,rfl⟩)
 | false=>exact bA (by simp) (tA (h1 _) (tA (h1 _) ⟨rfl,rfl⟩))
def tm65i(x:Nat):iA .u16 (Int.tmod (x:Int) 65536)=((x%65536:Nat):Int):=by
 rw[tm65,Bv (by omega) (by omega)]
theorem zac{t0:Tr sA}{n:Int}{w0:Bool}{v0:zA}{Q:wC}(hn1 : -2147483649<n)(hn2:n<2147483649)
  (hQ:∀t' v l,yB t0 t'->mA t' 1 (sB .u16 l) v->zG l->l.length<=4->val 65536 l=n.natAbs->Q (.agg [.bool (decide (n<0)),v]) t') :
  ∀(j u:Nat) (t:Tr sA) (P:List Nat) (w:zA),P.length+j=4->u<65536^j->yB t0 t->Bn yA.base t0 t 1 (sB .u16 P) w->wB 65536 P->(u=0->norm P)->val 65536 P+65536^P.length*u=n.natAbs →
   jp 119 2 [.int .i64 n,.int .u64 (u:Int),w,.bool w0,v0] t Q:=by
 have cC:∀(t:Tr sA) (P:List Nat) (w:zA),P.length<=4->yB t0 t->Bn yA.base t0 t 1 (sB .u16 P) w->wB 65536 P->norm P->val 65536 P=n.natAbs->jp 119 2 [.int .i64 n,.int .u64 0,w,.bool w0,v0] t Q:=by
  intro t P w hP ht hw hPl hnm hval;refine zgf ?_;unfold Ux uG mC uZ pP nP;refine bA (fun e=>by grind [uC]) (cA ?_);have hr:=hw.read ht;have hm:=zib (t:=t) (neg:=lB n 0) hr;rw[q181];refine Wc_pv hm ?_;have e:(lB n 0&&decide (0<P.length))=decide (n<0):=by
   grind [Ao,List.length_eq_zero_iff,val]
  rw[e];have hrd:RD t (nF.d ⟨decide (n<0),P⟩) [.bool (decide (n<0)),w]:=by
   unfold nF.d;rw[qJ];exact⟨[[.bool (decide (n<0))],[w]],rfl,jH.2 ⟨_,_,rfl,oQ.2 rfl,jH.2 ⟨_,_,rfl,qM.2 ⟨_,rfl,hr⟩,wI.2 rfl⟩⟩⟩
  refine dF (aF hrd (nF.zs _)) (tA hrd.all ?_);exact hQ t w P ht hr ⟨hPl,hnm⟩ hP hval
 intro j;induction j with
 | zero=>
  grind
 | succ j ih=>
  intro u t P w hP hu ht hw hPl hnm hval;by_cases h0:u=0
  ·grind
  ·refine zgf ?_;unfold Ux uG mC uZ pP nP;have hu64:u<18446744073709551616:=by
    have:65536^(j+1)<=65536^4:=yao (by omega) (by omega);omega
   refine tA (uC.2 (by omega)) ?_;rw[tm65i,td65,yG (by omega) (by omega)];refine Wz hw ht (by omega) fun t2 w2 h1 h2=>zC ?_;refine ih (u / 65536) t2 _ w2 (by grind) ?_ h2 h1 (aS hPl (by omega)) (fun e=>?_) ?_
   ·omega
   ·intro hne
    grind
   ·rw[mK,ybg,List.length_singleton,yag,ybj]
    grind [Nat.mod_add_div]
theorem zjd{n:Int}{Q:wC}(hn1 : -2147483649<n)(hn2:n<2147483649)
  (hQ:∀t' v l,yB t t'->mA t' 1 (sB .u16 l) v->zG l->l.length<=4->val 65536 l=n.natAbs->Q (.agg [.bool (decide (n<0)),v]) t'):Wc yA F 119 [.int .i64 n] t Q:=by
 refine w119 ?_;unfold t119 uZ;have key:∀m:Int,m=(n.natAbs:Int)->jp 119 9 [.int .i64 n,.int .u64 m,.bool false,.nilslice] t Q:=fun m hm=>by
  refine j119_9 ?_;unfold zez uZ;refine zC ?_;rw[hm];exact zac hn1 hn2 hQ 4 n.natAbs t [] .nilslice rfl (by omega) (yB.refl _) Kp (fun x hx=>by cases hx) (fun _ h=>(h rfl).elim) (by simp[val])
 grind [tA,uC,zC,Il,bA]
def yW(n:Int):List Nat:=(if n<0 then [109,105,110,117,115,32]else [])++eE n.natAbs
theorem PG{neg:Bool}{l:List Nat}(h:zG l)(hl:l.length<=1024)(hn:neg=true->l≠[]):tI neg l=true:=by
 unfold tI;split
 ·simp_all
 ·rename_i hne;rw[decide_eq_true hl,ycn];obtain⟨m,x,rfl⟩:=Cy hne;have:=h.nm (by simp)
  simp_all
theorem KG{n:Int}(hn1 : -2147483649<n)(hn2:n<2147483649):vB yA F 54 [.int .i64 n] t=some (.str (yW n)):=by
 refine rN (w54 ?_);unfold t54 uI uS uG uX uZ nP;refine cA ?_;rw[q119];refine zjd hn1 hn2 fun t' v l k1 k2 k3 k4 k5=>?_;have hrd:RD t' (nF.d ⟨decide (n<0),l⟩) [.bool (decide (n<0)),v]:=by
  unfold nF.d;rw[qJ];exact⟨[[.bool (decide (n<0))],[v]],rfl,jH.2 ⟨_,_,rfl,oQ.2 rfl,jH.2 ⟨_,_,rfl,qM.2 ⟨_,rfl,k2⟩,wI.2 rfl⟩⟩⟩
 refine dF (aF hrd (nF.zs _)) (cA ?_);have hv:=PG (neg:=decide (n<0)) k3 (by omega) (fun h e=>by
  grind [val])
 have ht:vB yA F 118 [.agg [.bool (decide (n<0)),v]] t'=_:=Wi k2 k3.lt hv;have hl:=Dk (u:=n.natAbs) (k:=11) (by omega) (by omega);rw[q118];show oE (vB yA F 118 [.agg [.bool (decide (n<0)),v]] t') _;rw[ht,xA];unfold yW vN lU;rw[k5];refine vA rfl (pB (vA rfl (tB ?_)));by_cases h:n<0
 ·rw[decide_eq_true h,yab rfl,yab h];have hs:=Ns (s:=[45]++eE n.natAbs) (k:=1) (by simp);exact tA (uC.2 h) (vA hs (pB (vA (pC (by grind)) (pB ⟨rfl,k1⟩))))
 ·rw[decide_eq_false h,yaa (by simp),yaa h];exact bA (fun e=>h (uC.1 e)) ⟨rfl,k1⟩
def xM(f:fC):List Nat:=if (iH f&&decide ((if tK (mE f) [45]then(mE f).drop 1 else mE f).length<=200))=true then lF (mE f)else []
theorem KX(f:fC):∃x l,mE f=x::l:=by
 unfold mE vN lU;have:=qW (val 65536 f.n.limbs)
 cases f.n.neg with
 | true=>simp_all
 | false=>
  cases h:eE (val 65536 f.n.limbs)with
  | nil=>simp_all
  | cons x l=>simp_all
theorem Lh{x:Nat}{l:List Nat}:tK (x::l) [45]=decide (x=45):=by
 grind [tK,rH]
theorem Vo{f:fC}{u v:zA}(hu:mA t 1 (jC f.n.limbs) u)(hv:mA t 1 (jC f.d.limbs) v)(hf:fC.fit f):vB yA F 56 [.agg [.bool f.n.neg,u,.bool f.d.neg,v]] t=some (.str (xM f)):=by
 have c1:=zcb hu hv hf;refine bB.2 (w56 ?_);unfold t56 uI uU uS uX uZ;refine cA ?_;rw[q122,c1,xA]
 cases hval:iH f with
 | false=>
  refine vA rfl (pB (vA rfl (tB (tA rfl ⟨?_,rfl⟩))));unfold xM;rw[hval,yaa (by simp)]
 | true=>
  have hl:=Qu hf hval;unfold xM;rw[hval,ycn];obtain⟨x,l,hx⟩:=KX f;rw[yab rfl,hx];rw[hx]at hl;refine vA rfl (pB (vA rfl (tB (bA (by grind [tE]) ?_))));have hi:=Ld (s:=x::l) (i:=0) (x:=x) rfl;rw[show((0:Nat):Int)=0 from rfl]at hi;refine vA hi (tB ?_);unfold lF;rw[Lh];simp at hl;have cC:∀(s m:List Nat),s.length<=30000->m.length<=10->jp 56 17 [.str s,.str m] t (fun v' t'=>v'=.str (if (decide (s.length<=200))=true then m++s else [])/\t'=t):=fun s m h1 h2=>by
   refine j56_17 ?_;unfold zen uS;by_cases h:s.length<=200
   ·rw[decide_eq_true h,yab rfl];exact bA (fun e=>by grind [uC,vJ]) (vA (pC (by omega)) (pB ⟨rfl,rfl⟩))
   ·rw[decide_eq_false h,yaa (by simp)];exact tA (uC.2 (by rw[vJ];omega)) ⟨rfl,rfl⟩
  by_cases h45:x=45
  ·simp only[decide_eq_true h45,if_true];have hs:=Ns (s:=x::l) (k:=1) (by simp);refine tA (tE.2 (by omega)) (vA hs (pB (zC ?_)))
   grind
  ·simp only[decide_eq_false h45,ybq,if_false];refine bA (fun e=>h45 (by grind [tE])) (zC ?_);have:=cC (x::l) [] (by grind) (by simp)
   rwa [yah]at this
theorem ME:∀(k u:Nat),(eE u).length<=k->u<10^k
 | 0,u,h=>by grind [qW]
 | k+1,u,h=>by
  by_cases hs:u<10
  ·grind
  ·rw[Ha hs,ybg,List.length_singleton]at h;have:=ME k (u / 10) (by omega);omega
def pow_42:10^200<=65536^42:=Nat.le_of_ble_eq_true (by kernel_rfl)
theorem zag{l:List Nat}(h:norm l)(hd:(eE (val 65536 l)).length<=200):l.length<=42:=by
 by_cases h0:l=[]
 ·grind
 ·have h1:=ME 200 _ hd;have h2:=El (B:=65536) h h0;have h3:=pow_42;rcases yau 42 l.length with e | e
  ·have:65536^42<=65536^(l.length-1):=yao (by omega) (by omega);omega
  ·exact e
theorem Xa{f:fC}(hf:f.fit):gM f=(iH f&&decide ((if tK (mE f) [45]then(mE f).drop 1 else mE f).length<=200)):=by
 unfold gM
 cases hval:iH f with
 | false=>simp
 | true=>
  obtain⟨p1,p2,p3,p4⟩:=Ms hval;rw[Bool.and_true,ycn];by_cases h:(if tK (mE f) [45]then(mE f).drop 1 else mE f).length<=200
  ·have hn:(eE (val 65536 f.n.limbs)).length<=200/\(sR f.d=true\/(eE (val 65536 f.d.limbs)).length<=200):=by
    have hr:(if tK (mE f) [45]then(mE f).drop 1 else mE f)=eE (val 65536 f.n.limbs)++(if sR f.d then []else 47::vN f.d.neg f.d.limbs):=by
     have hfr:mE f=(if f.n.neg then [45]else [])++(eE (val 65536 f.n.limbs)++(if sR f.d then []else 47::vN f.d.neg f.d.limbs)):=by
      unfold mE;rw[show vN f.n.neg f.n.limbs=(if f.n.neg then [45]else [])++eE (val 65536 f.n.limbs) from rfl,ybz]
     rw[hfr]
     cases f.n.neg with
     | true=>
      grind [Lh]
     | false=>
      show(if tK (eE _++_) [45]=true then _ else eE _++_)=_
      cases hd:eE (val 65536 f.n.limbs)with
      | nil=>grind [qW]
      | cons x l=>
       have hx:=Gz (val 65536 f.n.limbs) x (by grind);rw[List.cons_append,Lh,decide_eq_false (by omega),yaa (by simp)]
    grind [vN,lU]
   grind [zag,Pl,sR]
  grind
theorem Vp{f:fC}(hf:f.fit):zD (xM f) [] = !gM f:=by
 unfold xM;rw[<- Xa hf]
 cases h:gM f with
 | false=>rw[yaa (by simp)];rfl
 | true=>
  rw[yab rfl]
  cases hq:zD (lF (mE f)) []with
  | false=>rfl
  | true=>
   exfalso;have:=(rH _ _).1 hq;unfold lF at this;obtain⟨x,l,hx⟩:=KX f
   grind
end
section
variable [kC]
variable {t tf:Tr sA}
def EU{n:Nat}:vB yA F 123 [.int .u8 (n:Int)] t=some (.bool (mL n)):=by
 refine bB.2 (w123 ?_);unfold t123 mL jA cD;have e1:decide (97<=(n:Int))=decide (97<=n):=decide_eq_decide.2 (by omega);have e2:decide ((n:Int)<=122)=decide (n<=122):=decide_eq_decide.2 (by omega);have e3:decide (65<=(n:Int))=decide (65<=n):=decide_eq_decide.2 (by omega);have e4:decide ((n:Int)<=90)=decide (n<=90):=decide_eq_decide.2 (by omega);rw[mY,mY,mY,mY,e1,e2,e3,e4];cases decide (97<=n)<;>cases decide (n<=122)<;>cases decide (65<=n)<;>cases decide (n<=90)<;>exact⟨rfl,rfl⟩
def TP{n:Nat}:vB yA F 197 [.int .u8 (n:Int)] t=some (.bool (Db n)):=by
 refine bB.2 (w197 ?_);unfold t197 Db jA;have e1:decide (48<=(n:Int))=decide (48<=n):=decide_eq_decide.2 (by omega);have e2:decide ((n:Int)<=57)=decide (n<=57):=decide_eq_decide.2 (by omega);rw[mY,mY,e1,e2];cases decide (48<=n)<;>cases decide (n<=57)<;>exact⟨rfl,rfl⟩
theorem EP{n:Nat}:vB yA F 185 [.int .u8 (n:Int)] t=some (.bool (cM n)):=by
 refine bB.2 (w185 ?_);unfold t185 cM uB cD uY;refine cA ?_;rw[q123,EU,xA];refine yC ?_
 cases mL n with
 | true=>exact tA rfl ⟨rfl,rfl⟩
 | false=>
  refine bA (by simp) (cA ?_);rw[q197,TP,xA];refine yC ?_
  cases Db n with
  | true=>exact tA rfl ⟨rfl,rfl⟩
  | false=>
   refine bA (by simp) ⟨?_,rfl⟩;rw[rR];congr 1
   grind
theorem ze6{s:List Nat}{i:Nat}:vB yA F 149 [.str s,.int .i64 (i:Int)] t=some (.int .u8 (s[i]?.getD 0:Nat)):=by
 refine bB.2 (w149 ?_);unfold t149 uU uZ uY;by_cases h:i<s.length
 ·obtain⟨x,hx⟩:=getElem?_of_lt h;rw[hx];exact tA (uC.2 (by rw[vJ];omega)) (vA (Ld hx) (tB ⟨rfl,rfl⟩))
 ·rw[List.getElem?_eq_none (by omega)];exact bA (fun e=>h (by grind [uC,vJ])) ⟨rfl,rfl⟩
theorem SJ{s:List Nat}(hs:s.length<1000000):∀(k i:Nat),i+k=s.length->jp 124 2 [.str s,.int .i64 (i:Int)] t (fun v t'=>v=.int .i64 ((i+((s.drop i).takeWhile cM).length:Nat):Int)/\t'=t):=by
 intro k;induction k with
 | zero=>
  intro i hi;refine zgd ?_;unfold Uv uU uB qB uZ uY;refine cA ?_;rw[q149,ze6,xA,List.getElem?_eq_none (by omega)];refine tB (cA ?_);rw[q185,EP,xA];refine yC (bA (by decide) ⟨?_,rfl⟩)
  simp_all
 | succ k ih=>
  intro i hi;obtain⟨x,hx⟩:=getElem?_of_lt (l:=s) (i:=i) (by omega);refine zgd ?_;unfold Uv uU uB qB uZ uY;refine cA ?_;rw[q149,ze6,xA,hx];refine tB (cA ?_);rw[q185,show(Option.getD (some x) 0)=x from rfl,EP,xA];have hd:s.drop i=x::s.drop (i+1):=Go.Am.drop_cons' hx;rw[hd,List.takeWhile_cons];refine yC ?_
  cases hw:cM x with
  | true=>
   refine tA rfl (zC ?_);rw[wrap_i64 (by omega) (by omega),show(i:Int)+1=((i+1:Nat):Int) by omega];refine Jq.mono (ih (i+1) (by omega)) fun v t' h=>⟨?_,h.2⟩;rw[h.1,yab rfl,ybn];grind
  | false=>
   refine bA (by simp) ⟨?_,rfl⟩
   simp_all
def zb1{s:List Nat}(hs:s.length<1000000):vB yA F 124 [.str s,.int .i64 0] t=some (.int .i64 (((zL cM s).length:Nat):Int)):=by
 refine bB.2 (w124 ?_);unfold t124 uZ;refine zC ?_;have:=SJ (t:=t) hs s.length 0 (by omega);rw[ycr,ybw]at this;exact this
def Cp:List (List Nat):=[[112,108,97,110],[102,97,99,116],[100,101,102],[116,97,98,108,101],[114,111,119],[99,108,97,117,115,101],[111,110,101],[116,119,111],[102,114,111,109],[116,111],[101,110,100],[107,110,111,119,110],[111,102,102],[119,104,101,110],[116,104,101,110],[105,115],[116,114,117,116,104],[110,117,109,98,101,114],[109,111,110,101,121],[100,97,116,101],[100,97,121,115],[109,111,110,116,104,115],[116,114,117,101],[102,97,108,115,101],[109,105,110,117,115],[116,111,100,97,121],[97,116],[104,97,115],[108,111,111,107],[109,105,110],[109,97,120],[105,102],[114,111,117,110,100],[98,101,116,119,101,101,110],[115,101,114,118,105,99,101],[98,101,115,116],[103,114,111,119],[115,116,97,114,116],[97,110,100],[111,114],[110,111,116],[100,111,119,110],[117,112],[102,108,111,111,114],[99,101,105,108],[104,97,108,102],[101,118,101,110]]
def Jf(l:List (List Nat)):List D:=l.map D.str
theorem zbd{Q:wC}(hQ:∀t' v,yB t t'->mA t' 1 (Jf Cp) v->Q v t'):Wc yA F 186 [] t Q:=by
 refine w186 ?_;unfold t186;refine jG fun b hb _=>?_;obtain⟨t',h1,h2,h3,h4⟩:=Pq (C:=yA) (T:=42) (el:=9) (sz:=1) (n:=47) (ps:=(List.range 47).zip (Cp.map zA.str)) (cl:=Cp.map fun s=>[zA.str s]) ty42 rfl gH rfl rfl (by decide) (by kernel_rfl) (fun i cs hi=>by
  grind) (by kernel_rfl) hb
 refine⟨_,_,h1,?_⟩;refine hQ t' _ h3 ⟨_,h2,?_⟩;have:∀l:List (List Nat),iC t' (Jf l) (l.map fun s=>[zA.str s]):=by
  intro l;induction l with
  | nil=>exact wI.2 rfl
  | cons s l ih=>exact jH.2 ⟨_,_,rfl,mR.2 rfl,ih⟩
 simp_all
theorem zcc{s:List Nat}{W:List (List Nat)}{v:zA}{t0:Tr sA}(ht:yB t0 t)(hv:mA t 1 (Jf W) v)(hW:W.length<1000):∀(k i:Nat),i+k=W.length->jp 125 2 [.str s,v,.int .i64 (i:Int)] t (fun r t'=>r=.bool ((W.drop i).any fun w=>zD w s)/\∀b y,t0.get b=some y->t'.get b=some y):=by
 have hl:aA v=some (.int .i64 (W.length:Int)):=by rw[hv.len];simp[Jf]
 intro k;induction k with
 | zero=>
  intro i hi;refine zgc ?_;unfold Uu uI uS qB jA cD uZ;refine vA hl (tB (bA (fE (by omega)) ⟨?_,ht⟩))
  simp_all
 | succ k ih=>
  intro i hi;have hlt:i<W.length:=by omega
  have hx:W[i]?=some W[i]:=ybd hlt;obtain⟨b,off,cs,g1,g2,g3,g4,g5⟩:=rD.at sl42 (by simp) hv (i:=i) (d:=.str W[i]) (by simp[Jf,hx]);have hcs:cs=[.str W[i]]:=mR.1 g5;subst hcs;refine zgc ?_;unfold Uu uI uS qB jA cD uZ;refine vA hl (tB (tA (qE (by omega)) (vA g1 (sC g2 (pB ?_)))));rw[ybl hlt,List.any_cons]
  cases he:zD W[i] s with
  | true=>exact tA rfl ⟨rfl,ht⟩
  | false=>
   refine bA (by simp) (zC ?_);rw[wrap_i64 (by omega) (by omega),show(i:Int)+1=((i+1:Nat):Int) by omega,Bool.false_or];exact ih (i+1) (by omega)
def GC:∀ {p l:List Nat},mU p l=true->l.take p.length=p
 | [],l,_=>rfl
 | x::p,[],h=>by cases h
 | x::p,y::l,h=>by
  have h:(Nat.beq x y&&mU p l)=true:=by
   revert h;show(bif Nat.beq x y then mU p l else false)=true->_;cases Nat.beq x y<;>exact id
  rw[ybb]at h;have e:x=y:=bC.1 h.1;rw[ybn,List.take_succ_cons,GC h.2,e]
theorem MR:∀ {l p:List Nat},p≠[]->zZ p l=true->∃i,i<l.length/\mU p (l.drop i)=true
 | [],p,hp,h=>by
  cases p with
  | nil=>simp_all
  | cons=>cases h
 | y::l,p,hp,h=>by
  unfold zZ at h
  cases hq:mU p (y::l)with
  | true=>exact⟨0,by simp,hq⟩
  | false=>
   rw[hq,cond_false]at h;obtain⟨i,h1,h2⟩:=MR hp h;exact⟨i+1,by simp_all,h2⟩
def AI(n:Nat):Bool:=(List.range (zS n).length).all fun i => !(((zS n).drop (i+1)).take n).all mL || !decide (((((zS n).drop (i+1)).take n)).length=n) || !decide ((zS n)[i]?=some 32) || !decide ((zS n)[i+n+1]?=some 32)||Cp.any fun w=>zD w (((zS n).drop (i+1)).take n)
def zjx:([2,3,4,5,6,7].all AI)=true:=by kernel_rfl
def zj4:(Cp.all mX)=true:=by kernel_rfl
theorem res_eq{s:List Nat}:(Cp.any fun w=>zD w s)=mX s:=by
 cases h:mX s with
 | false=>
  cases hq:Cp.any fun w=>zD w s with
  | false=>rfl
  | true=>
   obtain⟨w,h1,h2⟩:=List.any_eq_true.1 hq;have:=ycb.1 zj4 w h1
   grind [rH]
 | true=>
  unfold mX at h;simp only[ybb,decide_eq_true_eq]at h;obtain⟨⟨⟨h1,h2⟩,h3⟩,h4⟩:=h;have h3:=(rH _ _).1 h3;obtain⟨i,hi,hp⟩:=MR (by simp) h4;have hn:s.length=2\/s.length=3\/s.length=4\/s.length=5\/s.length=6\/s.length=7:=by omega
  have hc:AI s.length=true:=ycb.1 zjx s.length (by rcases hn with e | e | e | e | e | e<;>rw[e]<;>simp);generalize hW:zS s.length=T at *;have hpt:=GC hp;have e32:([32]++s++[32]:List Nat).length=s.length+2:=by simp
  rw[e32]at hpt;have g1:T[i]?=some 32:=by
   have:=congrArg (fun l=>l[0]?) hpt
   grind
  have g2:(T.drop (i+1)).take s.length=s:=by
   have:=congrArg (fun l=>(l.drop 1).take s.length) hpt
   grind [List.drop_take,List.drop_drop]
  have g3:T[i+s.length+1]?=some 32:=by
   have:=congrArg (fun l=>l[s.length+1]?) hpt
   grind
  unfold AI at hc;rw[hW]at hc;have:=ycb.1 hc i (List.mem_range.2 hi);rw[g2,g1,g3]at this;have hl:s.all mL=true:=by
   rw[ycb];intro x hx;have h5:∀(l:List Nat),x∈l.takeWhile mL->mL x=true:=by
    intro l;induction l with
    | nil=>simp_all
    | cons z l ih=>
     intro h;rw[List.takeWhile_cons]at h;split at h
     all_goals grind
   grind [zL]
  simp_all
theorem SS{s:List Nat}:vB yA F 125 [.str s] t=some (.bool (mX s)):=by
 refine rN (w125 ?_);unfold t125 uZ;refine cA ?_;rw[q186];refine zbd fun t' v h1 h2=>zC ?_;have:=zcc (s:=s) (t0:=t) h1 h2 (by decide) 47 0 rfl
 grind [res_eq]
theorem Fl{s:List Nat}:vB yA F 58 [.str s] t=some (.bool (nH s)):=by
 refine bB.2 (w58 ?_);unfold t58 uI uU uB jA uZ uY
 cases s with
 | nil=>exact bA (fun e=>by grind [mD,vJ]) ⟨rfl,rfl⟩
 | cons x r=>
  have hN:nH (x::r)=(decide ((x::r).length<=24)&&mL x&&zD (zL cM (x::r)) (x::r) && !mX (x::r)):=rfl;rw[hN];refine tA (mD.2 (by grind [vJ])) ?_;by_cases h1:(x::r).length<=24
  ·rw[decide_eq_true h1,ycn];have hx:=Ld (s:=x::r) (i:=0) (x:=x) rfl;rw[show((0:Nat):Int)=0 from rfl]at hx;refine tA (mD.2 (by rw[vJ];omega)) (vA hx (tB (cA ?_)));rw[q123,EU,xA];refine yC ?_
   cases h2:mL x with
   | false=>exact bA (by simp) ⟨rfl,rfl⟩
   | true=>
    refine tA rfl (cA ?_);rw[q124,zb1 (by omega),xA];refine tB ?_;have e3:zD (zL cM (x::r)) (x::r)=decide ((zL cM (x::r)).length=(x::r).length):=by
     cases hq:zD (zL cM (x::r)) (x::r)with
     | true=>grind [rH]
     | false=>
      refine(decide_eq_false fun e=>?_).symm;have:zL cM (x::r)=x::r:=by
       unfold zL at e  ⊢;exact(List.takeWhile_prefix _).eq_of_length e
      grind [rH]
    rw[e3];by_cases h3:(zL cM (x::r)).length=(x::r).length
    ·rw[decide_eq_true h3];refine tA (bG (by rw[vJ];omega)) (cA ?_);rw[q125,SS,xA];exact yC ⟨rfl,rfl⟩
    ·rw[decide_eq_false h3];exact bA (cF (by rw[vJ];omega)) ⟨rfl,rfl⟩
  ·rw[decide_eq_false h1];exact bA (fun e=>h1 (by grind [mD,vJ])) ⟨rfl,rfl⟩
end
section
variable [kC]
def yI:Nat->Nat
 | 0=>0
 | M+1=>yI M+vM (1900+M / 12) (M%12+1)
def chkS:Nat->Nat->Nat->Bool
 | 0,_,_=>true
 | k+1,M,c=>zB (oT (M:Int)) (c:Int)&&chkS k (M+1) (c+vM (1900+M / 12) (M%12+1))
def zd0:chkS 2155 0 0=true:=by kernel_rfl
def MY:∀(k M:Nat),chkS k M (yI M)=true->∀j,j<k->oT ((M+j:Nat):Int)=(yI (M+j):Nat)
 | 0,_,_,j,hj=>by omega
 | k+1,M,h,j,hj=>by
  unfold chkS at h;rw[ybb]at h;rcases j with _ | j
  ·exact(jU _ _).1 h.1
  ·have:=MY k (M+1) h.2 j (by omega);rw[show M+1+j=M+(j+1) by omega]at this;exact this
def DN{M:Nat}(h:M<2155):oT (M:Int)=(yI M:Nat):=by
 have:=MY 2155 0 zd0 M h
 rwa [ybw]at this
def MM{a b:Nat}(h:a<=b):yI a<=yI b:=by
 induction h with
 | refl=>exact ybk _
 | step _ ih=>exact Nat.le_trans ih (Nat.le_add_right _ _)
def zdv:Nat.blt 65535 (yI 2154)=true:=by kernel_rfl
def BG:∀(j M n k:Nat),yI (M+j)<=n->n<yI (M+j+1)->n-yI M<k->aK k (1900+M / 12) (M%12+1) (n-yI M)=(1900+(M+j) / 12,(M+j)%12+1,n-yI (M+j)+1)
 | 0,M,n,k,h1,h2,h3=>by
  obtain⟨k,rfl⟩:∃k',k=k'+1:=⟨k-1,by omega⟩;simp only[yct]at h1 h2 ⊢;have h2:n<yI M+vM (1900+M / 12) (M%12+1):=h2;unfold aK;rw[yaa (by omega)]
 | j+1,M,n,k,h1,h2,h3=>by
  obtain⟨k,rfl⟩:∃k',k=k'+1:=⟨k-1,by omega⟩;have hm:=MM (show M+1<=M+(j+1) by omega);have e:yI (M+1)=yI M+vM (1900+M / 12) (M%12+1):=rfl;have hb:=Wx (1900+M / 12) (M%12+1);have ih:=BG j (M+1) n k (by rw[show M+1+j=M+(j+1) by omega];exact h1) (by rw[show M+1+j+1=M+(j+1)+1 by omega];exact h2) (by omega);rw[show M+1+j=M+(j+1) by omega,e,<- Nat.sub_sub]at ih;unfold aK;rw[yab (by omega)]
  by_cases h12:M%12+1=12
  ·rw[yab h12,<- ih,show 1900+M / 12+1=1900+(M+1) / 12 by omega,show(1:Nat)=(M+1)%12+1 by omega];congr 1;omega
  ·rw[yaa h12,<- ih,show 1900+(M+1) / 12=1900+M / 12 by omega,show(M+1)%12+1=M%12+1+1 by omega]
def Vu{P:Int->Bool}(hP:∀x y:Nat,x<=y->y<2154->P (y:Int)=false->P (x:Int)=false) :
  ∀(k i j:Nat),j-i<=k->i<=j->j<=2154->(∀x:Nat,x<i->P (x:Int)=false)->(j<2154->P (j:Int)=true) →
   ∃r:Nat,Cm P k i j=(r:Int)/\r<=2154/\(∀x:Nat,x<r->P (x:Int)=false)/\(r<2154->P (r:Int)=true)
 | 0,i,j,h1,h2,h3,h4,h5=>⟨i,rfl,by omega,h4,by rw[show i=j by omega];exact h5⟩
 | k+1,i,j,h1,h2,h3,h4,h5=>by
  unfold Cm;by_cases h:i<j
  ·rw[yab h];by_cases hp:P (((i+j) / 2:Nat):Int)=true
   ·rw[yab hp];exact Vu hP k i _ (by omega) (by omega) (by omega) h4 fun _=>hp
   ·rw[yaa hp];exact Vu hP k _ j (by omega) (by omega) h3 (fun x hx=>hP x _ (by omega) (by omega) (Bool.eq_false_iff.2 hp)) h5
  ·rw[yaa h];exact⟨i,rfl,by omega,h4,by rw[show i=j by omega];exact h5⟩
def VL{n:Nat}(hn:n<65536):∃M:Nat,aP (n:Int)=(M:Int)/\M<2154/\yI M<=n/\n<yI (M+1):=by
 have hP:∀y:Nat,y<2154->lB (n:Int) (oT (iA .i64 ((y:Int)+1)))=decide (n<yI (y+1)):=fun y hy=>by
  rw[wrap_i64 (by omega) (by omega),show(y:Int)+1=((y+1:Nat):Int) by omega,DN (by omega)];by_cases h:n<yI (y+1)
  ·rw[decide_eq_true h];exact(An _ _).2 (by omega)
  ·rw[decide_eq_false h];exact Bool.eq_false_iff.2 fun hh=>h (by have:=(An _ _).1 hh;omega)
 obtain⟨r,h1,h2,h3,h4⟩:=Vu (P:=fun m=>lB (n:Int) (oT (iA .i64 (m+1)))) (fun x y hxy hy h=>by
  simp only[hP y hy,decide_eq_false_iff_not]at h;simp only[hP x (by omega),decide_eq_false_iff_not];have:=MM (show x+1<=y+1 by omega);omega) 2154 0 2154 (by omega) (by omega) (by omega) (fun x hx=>by omega) (fun h=>by omega)
 have hl:=lC.1 zdv;have hr:r<2154:=by
  refine Nat.lt_of_not_le fun h=>?_;have:=h3 2153 (by omega);simp only[hP 2153 (by omega),decide_eq_false_iff_not]at this;have e:yI (2153+1)=yI 2154:=rfl;rw[e]at this;omega
 refine⟨r,h1,hr,?_,?_⟩
 ·rcases r with _ | r
  ·exact yaw _
  ·have:=h3 r (by omega);simp only[hP r (by omega),decide_eq_false_iff_not]at this;omega
 ·have:=h4 hr;simpa only[hP r hr,decide_eq_true_eq]using this
def iZ{k x i:Nat}{l:List Nat}(hx:x<1000000000):vO (k+1) (x:Int) i l=vO k ((x / 10:Nat):Int) (i-1) (l.set i (48+x%10)):=by
 have e1:Int.tdiv (x:Int) 10=((x / 10:Nat):Int):=by rw[Int.tdiv_eq_ediv_of_nonneg (by omega)];omega
 have e2:rW (x:Int)=48+x%10:=by
  unfold rW;rw[Int.tmod_eq_emod_of_nonneg (by omega)];omega
 show vO k (iA .i64 (Int.tdiv (x:Int) 10)) (i-1) (l.set i (rW x))=_;rw[e1,e2,wrap_i64 (by omega) (by omega)]
def NL{n:Nat}(hn:n<65536):lJ (n:Int)=Dn n:=by
 obtain⟨M,h1,h2,h3,h4⟩:=VL hn;have hy:=BG M 0 n (n+1) (by rw[ybw];exact h3) (by rw[ybw];exact h4) (by show n-0<_;omega);simp only[ybw,Nat.zero_div,Nat.zero_mod,yct]at hy;have hy:aK (n+1) 1900 1 n=(1900+M / 12,M%12+1,n-yI M+1):=hy;have hb:=Wx (1900+M / 12) (M%12+1);have e:yI (M+1)=yI M+vM (1900+M / 12) (M%12+1):=rfl;unfold lJ Dn;rw[hy,h1,DN (by omega)];have e1:Int.tdiv (M:Int) 12=((M / 12:Nat):Int):=by rw[Int.tdiv_eq_ediv_of_nonneg (by omega)];omega
 have e2:Int.tmod (M:Int) 12=((M%12:Nat):Int):=by rw[Int.tmod_eq_emod_of_nonneg (by omega)];omega
 rw[e1,e2,wrap_i64 (n:=(n:Int)-(yI M:Nat)) (by omega) (by omega),wrap_i64 (n:=((M / 12:Nat):Int)) (by omega) (by omega),wrap_i64 (by omega) (by omega),wrap_i64 (by omega) (by omega),wrap_i64 (by omega) (by omega)];rw[show(n:Int)-(yI M:Nat)+1=((n-yI M+1:Nat):Int) by omega,show((M%12:Nat):Int)+1=((M%12+1:Nat):Int) by omega,show(1900:Int)+((M / 12:Nat):Int)=((1900+M / 12:Nat):Int) by omega];have b1:1900+M / 12<10000:=by omega
 have b2:M%12+1<100:=by omega
 have b3:n-yI M+1<100:=by omega
 clear hy h1 h3 h4 hb e e1 e2;generalize 1900+M / 12=y at *;generalize M%12+1=m at *;generalize n-yI M+1=d at *;rw[iZ (by omega),iZ (by omega),iZ (by omega),iZ (by omega),iZ (by omega),iZ (by omega),iZ (by omega),iZ (by omega)];simp[vO,iS]
end
section
variable [kC]
variable {t tf:Tr sA}
def Gv{f:Nat}{x:T}{v:zA}(h:bM nC nC x=some v):wp f x t (fun u t'=>u=v/\t'=t):=ev_ok (fun f a u R hc _=>by cases hc) (fun f a u R hc _=>by cases hc) x h ⟨rfl,rfl⟩
def Ly(op:Nat):Nat:=bif Nat.blt op 27 && !Nat.beq (oB op).style 0 then(oB op).least else 1
def Lz(op:Nat):Nat:=bif Nat.blt op 27 && !Nat.beq (oB op).style 0 then(oB op).most else 0
def zd5:((List.range 256).map fun(op:Nat)=>bM nC nC (entT yA (fo 138) (ko 138) 81 (ao 138) [.int .u8 (op:Int)]))=(List.range 256).map fun op=>some (.tup [.int .i64 (Ly op:Nat),.int .i64 (Lz op:Nat)]):=by kernel_rfl
def zj2{op:Nat}(h:op<256):vB yA F 138 [.int .u8 (op:Int)] t=some (.tup [.int .i64 (Ly op:Nat),.int .i64 (Lz op:Nat)]):=
 bB.2 (zj7 (oA 138) (by kernel_rfl) (Gv (List.map_inj_left.1 zd5 op (List.mem_range.2 h))))
def VJ:((List.range 27).map fun op=>bM nC nC (t139 (op:Nat)))=(List.range 27).map fun op=>some (.bool (oB op).named):=by kernel_rfl
def SX{op:Nat}(h:op<27):vB yA F 139 [.int .u8 (op:Int)] t=some (.bool (oB op).named):=
 bB.2 (w139 (Gv (List.map_inj_left.1 VJ op (List.mem_range.2 h))))
theorem Wb{f:fC}{u v:zA}(hu:mA t 1 (jC f.n.limbs) u)(hv:mA t 1 (jC f.d.limbs) v):vB yA F 72 [.agg [.bool f.n.neg,u,.bool f.d.neg,v]] t=some (.bool (rP f)):=by
 refine bB.2 (w72 ?_);unfold t72 rP uI jA
 cases f.n.neg with
 | true=>exact bA (by simp) ⟨rfl,rfl⟩
 | false=>
  refine tA rfl (vA (by rw[hu.len,fN]) (tB ?_));by_cases h1:f.n.limbs.length=0
  ·refine tA (tE.2 (by omega)) ?_
   cases f.d.neg with
   | true=>exact bA (by simp) ⟨by simp,rfl⟩
   | false=>
    refine tA rfl (vA (by rw[hv.len,fN]) (tB ⟨?_,rfl⟩))
    simp_all [rR]
  ·refine bA (fun e=>h1 (by grind [tE])) ⟨?_,rfl⟩
   simp_all
def Vq{f:fC}(h:zD (xM f) []=false):xM f=lF (mE f):=by
 unfold xM at h ⊢
 cases hc:(iH f&&decide ((if tK (mE f) [45]then(mE f).drop 1 else mE f).length<=200))with
 | true=>rw[yab rfl]
 | false=>rw[hc,yaa (by simp)]at h;cases h
def Zb{n:Int}:yW n=lF (mH n):=by
 unfold yW lF;by_cases h:n<0
 ·obtain⟨u,rfl⟩:∃u:Nat,n = -(u:Int):=⟨n.natAbs,by omega⟩;rw[yab h,Yt (by omega),Lh,yab (by simp),show(-(u:Int)).natAbs=u by omega];rfl
 ·obtain⟨u,rfl⟩:∃u:Nat,n=(u:Int):=⟨n.toNat,by omega⟩;rw[yaa h,Qg,show((u:Int)).natAbs=u by omega,yah];have hr:=Gz u
  cases hd:eE u with
  | nil=>have:=qW u;rw[hd]at this;simp at this
  | cons x l=>
   rw[Lh,yaa];have:=hr x (by rw[hd];exact .head _);simp;omega
theorem EH{a:xE}{u v:zA}(hu:mA t 1 (jC a.f.n.limbs) u)(hv:mA t 1 (jC a.f.d.limbs) v)(hf:fC.fit a.f):∃s,vB yA F 30 [.agg [.int .u8 (a.kind:Int),.bool a.f.n.neg,u,.bool a.f.d.neg,v,.int .i64 a.i]] t=some (.str s)/\zD s [] = !wH a/\(wH a=true->s=mI a):=by
 have v2:a.kind=2->zD (xM a.f) []=false->xM a.f=mI a:=fun k h=>by
  rw[Vq h];unfold mI uO;rw[yaa (by omega),yab k]
 have v3:a.kind=3->zD (xM a.f) []=false->[109,111,110,101,121,32]++xM a.f=mI a:=fun k h=>by
  rw[Vq h];unfold mI uO;rw[yaa (by omega),yaa (by omega),yab k]
 have v10:a.kind=1->a.i=0->[102,97,108,115,101]=mI a:=fun k h=>by unfold mI uO;rw[yab k,yaa (by omega)]
 have v11:a.kind=1->a.i=1->[116,114,117,101]=mI a:=fun k h=>by unfold mI uO;rw[yab k,yab h]
 have v4:a.kind=4->0<=a.i/\a.i<65536->Dn a.i.toNat=mI a:=fun k h=>by
  have e:a.i=((a.i.toNat:Nat):Int):=by omega
  unfold mI uO;rw[yaa (by omega),yaa (by omega),yaa (by omega),yab k];have:=NL (n:=a.i.toNat) (by omega);rw[<- e]at this;exact this.symm
 have v5:a.kind=5->(-1048576<=a.i/\a.i<=1048576)->yW a.i++[32,100,97,121,115]=mI a:=fun k _=>by
  rw[Zb];unfold mI uO;rw[yaa (by omega),yaa (by omega),yaa (by omega),yaa (by omega),yab k]
 have v6:a.kind=6->(-1048576<=a.i/\a.i<=1048576)->yW a.i++[32,109,111,110,116,104,115]=mI a:=fun k _=>by
  rw[Zb];unfold mI uO;rw[yaa (by omega),yaa (by omega),yaa (by omega),yaa (by omega),yaa (by omega),yab k]
 have nil:zD [] []=true:=rfl;have mk:∀s b,wp 30 (t30 (a.kind:Int) a.i u v a.f.n.neg a.f.d.neg) t (fun v' t'=>v'=.str s/\t'=t)->zD s [] = !b->wH a=b->(b=true->s=mI a)->∃s,vB yA F 30 [.agg [.int .u8 (a.kind:Int),.bool a.f.n.neg,u,.bool a.f.d.neg,v,.int .i64 a.i]] t=some (.str s)/\zD s [] = !wH a/\(wH a=true->s=mI a):=fun s b h1 h2 h3 h4=>⟨s,bB.2 (w30 h1),by rw[h3];exact h2,fun h=>h4 (h3 ▸ h)⟩
 have c100:=Vo hu hv hf;have hsn:=Vp hf;have hsl:(xM a.f).length<=300:=by
  unfold xM;grind [lF]
 have ky:∀j:Nat,a.kind=j->zB (a.kind:Int) (j:Int)=true:=fun j h=>bG (by omega);have kn:∀j:Nat,a.kind≠j->zB (a.kind:Int) (j:Int)≠true:=fun j h=>cF (by omega);by_cases k2:a.kind=2
 ·have hp:wH a=(decide (a.i=0)&&gM a.f):=by unfold wH;rw[yab (.inl k2)]
  cases hs:zD (xM a.f) []with
  | true=>
   refine mk [] false (tA (ky 2 k2) (cA ?_)) rfl ?_ (fun h=>by cases h)
   ·rw[q56,c100,xA];exact pB (tA hs ⟨rfl,rfl⟩)
   simp_all
  | false=>
   by_cases h0:a.i=0
   ·refine mk (xM a.f) true (tA (ky 2 k2) (cA ?_)) hs ?_ (fun _=>v2 k2 hs)
    ·rw[q56,c100,xA];exact pB (bA (by grind) (bA (by grind [bG]) (bA (kn 3 (by omega)) ⟨rfl,rfl⟩)))
    simp_all
   ·refine mk [] false (tA (ky 2 k2) (cA ?_)) rfl ?_ (fun h=>by cases h)
    ·rw[q56,c100,xA];exact pB (bA (by grind) (tA (by grind [cF]) ⟨rfl,rfl⟩))
    simp_all
 by_cases k3:a.kind=3
 ·have hp:wH a=(decide (a.i=0)&&gM a.f):=by unfold wH;rw[yab (.inr k3)]
  cases hs:zD (xM a.f) []with
  | true=>
   refine mk [] false (bA (kn 2 k2) (tA (ky 3 k3) (cA ?_))) rfl ?_ (fun h=>by cases h)
   ·rw[q56,c100,xA];exact pB (tA hs ⟨rfl,rfl⟩)
   simp_all
  | false=>
   by_cases h0:a.i=0
   ·refine mk ([109,111,110,101,121,32]++xM a.f) true (bA (kn 2 k2) (tA (ky 3 k3) (cA ?_))) rfl ?_ (fun _=>v3 k3 hs)
    ·rw[q56,c100,xA];exact pB (bA (by grind) (bA (by grind [bG]) (tA (ky 3 k3) (vA (pC (by grind)) (pB ⟨rfl,rfl⟩)))))
    simp_all
   ·refine mk [] false (bA (kn 2 k2) (tA (ky 3 k3) (cA ?_))) rfl ?_ (fun h=>by cases h)
    ·rw[q56,c100,xA];exact pB (bA (by grind) (tA (by grind [cF]) ⟨rfl,rfl⟩))
    simp_all
 have hz:=Wb hu hv;have hp0:wH a=(rP a.f&&wH { a with f:=⟨⟨false,[]⟩,⟨false,[]⟩⟩ }):=by
  grind [rP,wH]
 have hd:∀(x:T),wp 30 x t (fun v' t'=>v'=zA.str []/\t'=t)->rP a.f=false->True:=fun _ _ _=>trivial
 cases hzz:rP a.f with
 | false=>
  refine mk [] false (bA (kn 2 k2) (bA (kn 3 k3) (cA ?_))) rfl (by simp_all) (fun h=>by cases h);rw[q72,hz,hzz,xA];exact yC (tA rfl ⟨rfl,rfl⟩)
 | true=>
  have go:∀s b,wp 30 (.ite (zB (a.kind:Int) 1) (.ite (zB a.i 0) (.ret (.str [102,97,108,115,101])) (.ite (zB a.i 1) (.ret (.str [116,114,117,101])) (.ret (.str []))))
 (.ite (zB (a.kind:Int) 4)
 (.call 55 [(.int .i64 a.i)] fun a10=>
 .asS a10 fun s11=>.ret (.str s11))
 (.ite (zB (a.kind:Int) 5)
 (.ite (qC (-1048576) a.i)
 (.ite (qC a.i 1048576)
 (.call 54 [(.int .i64 a.i)] fun a12=>
 .asS a12 fun s13=>.opt (xC s13 [32,100,97,121,115]) fun a14=>.asS a14 fun s15=>.ret (.str s15))
 (.ret (.str [])))
 (.ret (.str [])))
 (.ite (zB (a.kind:Int) 6)
 (.ite (qC (-1048576) a.i)
 (.ite (qC a.i 1048576)
 (.call 54 [(.int .i64 a.i)] fun a16=>
 .asS a16 fun s17=>.opt (xC s17 [32,109,111,110,116,104,115]) fun a18=>.asS a18 fun s19=>.ret (.str s19))
 (.ret (.str [])))
 (.ret (.str [])))
 (.ret (.str [])))))) t (fun v' t'=>v'=.str s/\t'=t)->zD s [] = !b->wH a=b->(b=true->s=mI a)->∃s,vB yA F 30 [.agg [.int .u8 (a.kind:Int),.bool a.f.n.neg,u,.bool a.f.d.neg,v,.int .i64 a.i]] t=some (.str s)/\zD s [] = !wH a/\(wH a=true->s=mI a):=fun s b h1 h2 h3 h4=>by
   refine mk s b (bA (kn 2 k2) (bA (kn 3 k3) (cA ?_))) h2 h3 h4;rw[q72,hz,hzz,xA];exact yC (bA (by simp) h1)
  have np:∀ {s:List Nat},s≠[]->zD s []=false:=fun {s} h=>by
   grind [rH]
  have hpv:wH a=(if a.kind=1 then(decide (a.i=0)||decide (a.i=1))else if a.kind=4 then(decide (0<=a.i)&&decide (a.i<65536))else if a.kind=5\/a.kind=6 then(decide (-1048576<=a.i)&&decide (a.i<=1048576))else false):=by
   grind [wH]
  by_cases k1:a.kind=1
  ·rw[yab k1]at hpv;by_cases i0:a.i=0
   ·exact go _ true (tA (ky 1 k1) (tA (bG i0) ⟨rfl,rfl⟩)) rfl (by simp_all) (fun _=>v10 k1 i0)
   ·by_cases i1:a.i=1
    ·exact go _ true (tA (ky 1 k1) (bA (cF i0) (tA (bG i1) ⟨rfl,rfl⟩))) rfl (by simp_all) (fun _=>v11 k1 i1)
    ·exact go [] false (tA (ky 1 k1) (bA (cF i0) (bA (cF i1) ⟨rfl,rfl⟩))) rfl (by simp_all) (fun h=>by cases h)
  rw[yaa k1]at hpv;by_cases k4:a.kind=4
  ·rw[yab k4]at hpv;have c:=FG (t:=t) (n:=a.i);by_cases hd:0<=a.i/\a.i<65536
   ·rw[yab hd]at c;refine go _ true (bA (kn 1 k1) (tA (ky 4 k4) (cA ?_))) (np (s:=Dn a.i.toNat) ?_) (by simp_all) (fun _=>v4 k4 hd)
    ·rw[q55,c,xA];exact pB ⟨rfl,rfl⟩
    ·unfold Dn;simp
   ·rw[yaa hd]at c;refine go [] false (bA (kn 1 k1) (tA (ky 4 k4) (cA ?_))) rfl ?_ (fun h=>by cases h)
    ·rw[q55,c,xA];exact pB ⟨rfl,rfl⟩
    grind
  rw[yaa k4]at hpv;by_cases hr : -1048576<=a.i/\a.i<=1048576
  ·have c:=KG (t:=t) (n:=a.i) (by omega) (by omega);have hl:=Dk (u:=a.i.natAbs) (k:=11) (by omega) (by omega);have hil:(yW a.i).length<=100:=by
    unfold yW;split<;>simp<;>omega
   by_cases k5:a.kind=5
   ·rw[yab (.inl k5)]at hpv;refine go (yW a.i++[32,100,97,121,115]) true (bA (kn 1 k1) (bA (kn 4 k4) (tA (ky 5 k5) (tA (mD.2 hr.1) (tA (mD.2 hr.2) (cA ?_)))))) (np (by simp)) (by simp_all) (fun _=>v5 k5 hr);rw[q54,c,xA];exact pB (vA (pC (by grind)) (pB ⟨rfl,rfl⟩))
   by_cases k6:a.kind=6
   ·rw[yab (.inr k6)]at hpv;refine go (yW a.i++[32,109,111,110,116,104,115]) true (bA (kn 1 k1) (bA (kn 4 k4) (bA (kn 5 k5) (tA (ky 6 k6) (tA (mD.2 hr.1) (tA (mD.2 hr.2) (cA ?_))))))) (np (by simp)) (by simp_all) (fun _=>v6 k6 hr);rw[q54,c,xA];exact pB (vA (pC (by grind)) (pB ⟨rfl,rfl⟩))
   rw[yaa (by omega)]at hpv;exact go [] false (bA (kn 1 k1) (bA (kn 4 k4) (bA (kn 5 k5) (bA (kn 6 k6) ⟨rfl,rfl⟩)))) rfl hpv (fun h=>by cases h)
  ·have hb:(decide (-1048576<=a.i)&&decide (a.i<=1048576))=false:=by
    simp_all
   rw[hb]at hpv;simp only[ite_self]at hpv;refine go [] false (bA (kn 1 k1) (bA (kn 4 k4) ?_)) rfl hpv (fun h=>by cases h);have inn:∀x y:T,wp 30 (.ite (qC (-1048576) a.i) (.ite (qC a.i 1048576) x (.ret (.str []))) (.ret (.str []))) t (fun v' t'=>v'=zA.str []/\t'=t):=fun x _=>by
    by_cases h : -1048576<=a.i
    ·exact tA (mD.2 h) (bA (fun e=>by grind [mD]) ⟨rfl,rfl⟩)
    ·exact bA (fun e=>h (mD.1 e)) ⟨rfl,rfl⟩
   by_cases k5:a.kind=5
   ·exact tA (ky 5 k5) (inn _ .fail)
   by_cases k6:a.kind=6
   ·exact bA (kn 5 k5) (tA (ky 6 k6) (inn _ .fail))
   exact bA (kn 5 k5) (bA (kn 6 k6) ⟨rfl,rfl⟩)
def SL{a:xE}{u v:zA}(hu:mA t 1 (jC a.f.n.limbs) u)(hv:mA t 1 (jC a.f.d.limbs) v)(hf:fC.fit a.f):∃s,vB yA F 30 [.agg [.int .u8 (a.kind:Int),.bool a.f.n.neg,u,.bool a.f.d.neg,v,.int .i64 a.i]] t=some (.str s)/\zD s [] = !wH a:=by
 obtain⟨s,h1,h2,_⟩:=EH hu hv hf;exact⟨s,h1,h2⟩
end
section
variable [kC]
variable {t tf:Tr sA}
section
variable {op:Nat}{name:List Nat}{v:xE}{args:List qA}{a b c:zA}
theorem RZ{d:Nat}(hop:op<256)(hd:d<=25)(hl:aA c=some (.int .i64 (args.length:Int)))(hlen:args.length<1125899906842624)
  (hK:d<=24->kN op name args.length=true->jp 70 19 [.int .i64 ((25-d:Nat):Int),.int .u8 (op:Int),.str name,.int .u8 (v.kind:Int),.bool v.f.n.neg,a,.bool v.f.d.neg,b,.int .i64 v.i,c] t (fun v' t'=>v'=.bool (if op=1 then wH v else oW op v&&rK args (d+1))/\t'=t)) :
  vB yA F 70 [.agg [.int .u8 (op:Int),.str name,.int .u8 (v.kind:Int),.bool v.f.n.neg,a,.bool v.f.d.neg,b,.int .i64 v.i,c],.int .i64 ((25-d:Nat):Int)] t=some (.bool (tG (.mk op name v args) d)):=by
 refine bB.2 (w70 ?_);unfold t70 uI uB jA uX uZ uY;refine cA ?_;rw[q138,zj2 hop,xA];refine vA rfl (tB (vA rfl (tB ?_)));have hE:tG (.mk op name v args) d=(decide (d<=24)&&kN op name args.length&&(if op=1 then wH v else oW op v&&rK args (d+1))):=by rw[tG]
 by_cases h24:d<=24
 case neg=>
  refine tA (qE (by omega)) ⟨?_,rfl⟩
  simp_all
 refine bA (fE (by omega)) (vA hl (tB ?_));rw[decide_eq_true h24,ycn]at hE;have no:kN op name args.length=false->∀ {t':Tr sA},t'=t->wp 70 (.ret (.bool false)) t' (fun v' t'=>v'=.bool (tG (.mk op name v args) d)/\t'=t):=fun h t' e=>⟨by simp_all,e⟩;by_cases h27:op<27/\(oB op).style≠0
 ·have hcond:(Nat.blt op 27 && !Nat.beq (oB op).style 0)=true:=by
   grind [lC,bC]
  have e1:Ly op=(oB op).least:=by unfold Ly;rw[hcond,cond_true]
  have e2:Lz op=(oB op).most:=by unfold Lz;rw[hcond,cond_true]
  rw[e1,e2];have hH:kN op name args.length=(decide ((oB op).least<=args.length)&&decide (args.length<=(oB op).most)&&(if (oB op).named=true then nH name else zD name [])):=by
   grind [kN]
  by_cases h1:(oB op).least<=args.length
  case neg=>grind [tA,qE]
  refine bA (fE (by omega)) (vA hl (tB ?_));by_cases h2:args.length<=(oB op).most
  case neg=>grind [tA,qE]
  refine bA (fE (by omega)) (cA ?_);rw[decide_eq_true h1,decide_eq_true h2,ycn,ycn]at hH;rw[q139,SX h27.1,xA];refine yC ?_
  cases hn:(oB op).named with
  | true=>
   rw[hn,yab rfl]at hH;refine tA rfl (cA ?_);rw[q58,Fl,xA];refine yC ?_
   cases hN:nH name with
   | false=>grind [tA]
   | true=>
    simp_all [bA,zC]
  | false=>
   rw[hn,yaa (by simp)]at hH;refine bA (by simp) ?_
   cases hN:zD name []with
   | false=>grind [tA]
   | true=>
    simp_all [bA,zC]
 ·have hcond:(Nat.blt op 27 && !Nat.beq (oB op).style 0)=false:=by
   simp_all
  grind [Ly,Lz,kN,tA,qE,bA,vA,tB]
end
mutual
theorem Vr:∀(x:qA) (d:Nat) (cs:List zA),x.fit->d<=25->RD t x.d cs->vB yA F 70 [.agg cs,.int .i64 ((25-d:Nat):Int)] t=some (.bool (tG x d))
 | .mk op name v args,d,cs,hfit,hd,hr=>by
  obtain⟨a,b,c,rfl,ha,hb,hc⟩:=xJ hr;simp only[qA.op,qA.name,qA.v,qA.args]at ha hb hc ⊢;have hfit':=hfit;unfold qA.fit at hfit';have hf:=hfit'.2.2.2.1.2.1;have hlen:=hfit'.2.2.2.2.1;unfold dD at hlen;refine RZ hfit'.1 hd (by rw[hc.len,ybf]) hlen fun h24 hH=>?_;refine j70_19 ?_;unfold zel uB uS jA uZ uY;by_cases h1:op=1
  ·rw[yab h1];obtain⟨s,s1,s2⟩:=SL ha hb hf;refine tA (bG (by omega)) (cA ?_);rw[q30,s1,xA];refine pB ⟨?_,rfl⟩;rw[s2,Bool.not_not]
  rw[yaa h1];have hz:=Wb ha hb;have hC:oW op v=(decide (v.kind=0)&&(rP v.f&&(if op=19 then decide (1<=v.i)&&decide (v.i<=6)else decide (v.i=0)))):=by
   grind [oW,lZ]
  refine bA (cF (by omega)) ?_;rw[hC];by_cases hk:v.kind=0
  case neg=>
   refine tA (by grind [cF]) ⟨?_,rfl⟩
   simp_all
  refine bA (by grind [bG]) (cA ?_);rw[q72,hz,xA,decide_eq_true hk,ycn];refine yC ?_
  cases hzz:rP v.f with
  | false=>exact tA rfl ⟨rfl,rfl⟩
  | true=>
  refine bA (by simp) ?_;rw[ycn];have cC:jp 70 37 [.int .i64 ((25-d:Nat):Int),.int .u8 (op:Int),.str name,.int .u8 (v.kind:Int),.bool v.f.n.neg,a,.bool v.f.d.neg,b,.int .i64 v.i,c] t (fun v' t'=>v'=.bool (rK args (d+1))/\t'=t):=by
   refine j70_37 ?_;unfold zek uZ uY;exact zC (DX args args d op name v a b c 0 hc rfl hfit'.2.2.2.2.2 hlen h24)
  by_cases h19:op=19
  ·rw[yab h19];refine tA (bG (by omega)) ?_;by_cases i1:v.i<1
   ·refine tA (qE i1) ⟨?_,rfl⟩
    grind
   refine bA (fE i1) ?_;by_cases i6:6<v.i
   ·refine tA (qE i6) ⟨?_,rfl⟩
    grind
   simp_all [bA,fE,zC]
  ·rw[yaa h19];refine bA (cF (by omega)) ?_;by_cases i0:v.i=0
   ·simp_all [bA,bG,zC]
   ·refine tA (by grind [cF]) ⟨?_,rfl⟩
    simp_all
theorem DX:∀(l args:List qA) (d op:Nat) (name:List Nat) (v:xE) (a b c:zA) (i:Nat),mA t 9 (args.map qA.d) c->args.drop i=l->qA.fits l->args.length<1125899906842624->d<=24 →
  jp 70 2 [.int .i64 ((25-d:Nat):Int),.int .i64 (i:Int),.int .u8 (op:Int),.str name,.int .u8 (v.kind:Int),.bool v.f.n.neg,a,.bool v.f.d.neg,b,.int .i64 v.i,c] t (fun v' t'=>v'=.bool (rK l (d+1))/\t'=t)
 | [],args,d,op,name,v,a,b,c,i,hc,hl,_,hlen,hd=>by
  have:=Zu hl;refine j70_2 ?_;unfold zhd uI uB uG qB jA cD uZ uY uW aG;refine vA (by rw[hc.len,ybf]) (tB (bA (fE (by omega)) ⟨?_,rfl⟩));rw[rK]
 | x::l,args,d,op,name,v,a,b,c,i,hc,hl,hfit,hlen,hd=>by
  obtain⟨h1,h2,h3⟩:=Zv hl;unfold qA.fits at hfit;obtain⟨pb,po,cs,g1,g2,g3,g4,g5⟩:=rD.at nT (by simp) hc (i:=i) (d:=x.d) (by simp[h1]);refine j70_2 ?_;unfold zhd uI uB uG qB jA cD uZ uY uW aG;refine vA (by rw[hc.len,ybf]) (tB (tA (qE (by omega)) (vA g1 (sC g2 ?_))));rw[qL];refine dF (aF g5 x.zs) (cA ?_);have hmk:=g5.mk x.zs;have hcs:[zA.int .u8 ((cellsOf cs).i 0),.str ((cellsOf cs).s 1),.int .u8 ((cellsOf cs).i 2),.bool ((cellsOf cs).b 3),(cellsOf cs).v 4,.bool ((cellsOf cs).b 5),(cellsOf cs).v 6,.int .i64 ((cellsOf cs).i 7),(cellsOf cs).v 8]=cs:=hmk
  rw[hcs,wrap_i64 (by omega) (by omega),show((25-d:Nat):Int)-1=((25-(d+1):Nat):Int) by omega,q70,Vr x (d+1) cs hfit.1 (by omega) g5,xA];refine yC ?_;rw[rK]
  cases hE:tG x (d+1)with
  | false=>exact tA rfl ⟨rfl,rfl⟩
  | true=>
   refine bA (by simp) (zC ?_);rw[wrap_i64 (by omega) (by omega),show(i:Int)+1=((i+1:Nat):Int) by omega,ycn];exact DX l args d op name v a b c (i+1) hc h2 hfit.2 hlen hd
end
end
end Go.Proofs
