/- Seat 14: what its rows give, and the closed facts of its program. -/
import Derived.Test.YtfijloeeppcipaaGreatDoorRows
import Derived.Test.YtfijloeeppcipaaGreatDoorB23
set_option linter.all false
noncomputable section
set_option maxRecDepth 100000
namespace Go.Proofs.YtfijloeeppcipaaGreatDoor
open Go Go.Am Go.RowKit Go.ChangeShapes Go.WideShapes Go.ChangeAt
theorem own:ownKnob Tryz.prog.godebug=none:=by kernel_rfl
theorem laidOut:laidOutB Tryz.prog=true:=by kernel_rfl
theorem gPow : Tryz.prog.globalNamed "internal/strconv.uint64pow10" = some 4 := by kernel_rfl
theorem gLens : Tryz.prog.globalNamed "annuitant/calendar.lengths" = some 3 := by kernel_rfl
theorem gModes : Tryz.prog.globalNamed "annuitant/parse.modeWords" = some 0 := by kernel_rfl
theorem tPow:(Tryz.prog.globals[4]?).map (·.type)=some 290:=by kernel_rfl
theorem tLens:(Tryz.prog.globals[3]?).map (·.type)=some 275:=by kernel_rfl
theorem tModes:(Tryz.prog.globals[0]?).map (·.type)=some 238:=by kernel_rfl
def laid5 : List (String × DataW Unit) := [("math/bits.deBruijn32tab", Rows.laid_math_bits_deBruijn32tab), ("math/bits.deBruijn64tab", Rows.laid_math_bits_deBruijn64tab), ("internal/strconv.uint64pow10", Rows.laid_internal_strconv_uint64pow10), ("annuitant/calendar.lengths", Rows.laid_annuitant_calendar_lengths), ("annuitant/parse.modeWords", Rows.laid_annuitant_parse_modeWords)]
theorem door_met(os:Os)(args:Array Value):laidMetH Tryz.prog laid5 ((World.doorLaid Tryz.prog 100 os).forCall (fun _ _=>0) ⟨#[],args,[]⟩).memory:=
 laidMetH_of_parts3 (fuel:=8) (laidMet_of_run' 8 (by kernel_rfl) (by kernel_rfl)) (by kernel_rfl) (by kernel_rfl)
theorem zcl{W:World}{n:String}{g:Nat}{cs:Array Value}(hg:Tryz.prog.globalNamed n=some g)(hv:W.var? Tryz.prog n=some cs)(hc:∃c t,W.heap[g]?=some (.cells c t (0,0))):∃t,W.heap[g]?=some (.cells cs t (0,0)):=by
 obtain⟨c,t,hc⟩:=hc
 unfold World.var? at hv
 rw[hg]at hv;simp only[Option.bind_some,hc,Option.some.injEq]at hv;subst hv;exact⟨t,hc⟩
theorem zm4{g n:Nat}{p q:List MemPlace}(h:0<n):MemPlace.cell g 0∈MemPlace.row ⟨g,0,none⟩ n++p++q:=
 ycd _ (ycd _ (List.mem_map.2 ⟨0,List.mem_range.2 h,rfl⟩))
theorem z8h:Rows.laid_internal_strconv_uint64pow10 (H:=Unit)=.agg (z09.map fun n=>.lit (.int .u64 n)):=by kernel_rfl
theorem z26:Rows.laid_annuitant_calendar_lengths (H:=Unit)=.agg (znw.map fun n=>.lit (.int .i64 n)):=by kernel_rfl
theorem zx0:Rows.laid_annuitant_parse_modeWords (H:=Unit)=.agg (zL.map fun b=>.lit (.string b)):=by kernel_rfl
theorem z1g{H:Type}{enc:TypeId × Value->H}{P:Program}{w:World}{base:Nat}{spare:Nat->Bool}{held:Bool}{e:TypeId}(he:P.underlying e=some (.int .u64))(m:Nat)(c:List Value)(x:DataW H × List MemPlace)(n:Int)(h:DataW.trod enc P w base spare held m e c=some x)(hx:x.1=.lit (.int .u64 n)):c=[.int .u64 n]:=by
 obtain⟨k,rfl,rfl,_⟩:=DataW.trod_int he h
 simp at hx;rw[hx]
theorem laid_of{W:World}(h:laidMetH Tryz.prog laid5 W)(hsh:W.ShapedOpen Tryz.prog):kF W:=by
 rw[MakeChecks.laidMetH_plain _ _ _ (by kernel_rfl)]at h
 obtain⟨ps,⟨_,_,_,_,_,_,_,_,_,_,⟨_,_,_,_,_,_,_,_,_,_,⟨g0,t0,cs0,f0,p0,q0,hg0,ht0,hv0,hd0,⟨g1,t1,cs1,f1,p1,q1,hg1,ht1,hv1,hd1,⟨g3,t3,cs3,f3,p3,q3,hg3,ht3,hv3,hd3,_,hp3⟩,hp1⟩,hp0⟩,hpb⟩,hpa⟩,_,hcell⟩:=h
 obtain rfl:=ybj (gPow.symm.trans hg0)
 obtain rfl:=ybj (gLens.symm.trans hg1)
 obtain rfl:=ybj (gModes.symm.trans hg3)
 obtain rfl:=ybj (tPow.symm.trans ht0)
 obtain rfl:=ybj (tLens.symm.trans ht1)
 obtain rfl:=ybj (tModes.symm.trans ht3)
 have c3:Tryz.prog.cellsOf 3=1:=by kernel_rfl
 have c9:Tryz.prog.cellsOf 9=1:=by kernel_rfl
 have c225:Tryz.prog.cellsOf 225=1:=by kernel_rfl
 have c290:Tryz.prog.cellsOf 290=20:=by kernel_rfl
 have c275:Tryz.prog.cellsOf 275=12:=by kernel_rfl
 have c238:Tryz.prog.cellsOf 238=7:=by kernel_rfl
 rw[z8h]at hd0;rw[z26]at hd1;rw[zx0]at hd3;have e0:cs0.toList=u64s z09:=zeo (l:=z09) (g:=fun n=>.lit (.int .u64 n)) (u:=fun n=>.int .u64 n) Tryz.underlying290 c225 c290 (fun m c x a=>z1g Tryz.underlying225 m c x a) hd0
 have e1:cs1.toList=z3e znw:=zeo (l:=znw) (g:=fun n=>.lit (.int .i64 n)) (u:=fun n=>.int .i64 n) Tryz.underlying275 c3 c275 (fun m c x a=>z3f Tryz.underlying3 m c x a) hd1
 have e3:cs3.toList=z1r zL:=zeo (l:=zL) (g:=fun b=>.lit (.string b)) (u:=fun b=>.string ⟨b.toArray⟩) Tryz.underlying238 c9 c238 (fun m c x a=>z1s Tryz.underlying9 m c x a) hd3
 have s0:cs0=(u64s z09).toArray:=by rw[<- e0]
 have s1:cs1=(z3e znw).toArray:=by rw[<- e1]
 have s3:cs3=(z1r zL).toArray:=by rw[<- e3]
 subst s0 s1 s3
 have m0:MemPlace.cell 4 0∈ps:=by
  rw[hpa,hpb,hp0];exact ybg _ (ybg _ (zm4 (by decide)))
 have m1:MemPlace.cell 3 0∈ps:=by
  rw[hpa,hpb,hp0,hp1];exact ybg _ (ybg _ (ybg _ (zm4 (by decide))))
 have m3:MemPlace.cell 0 0∈ps:=by
  rw[hpa,hpb,hp0,hp1,hp3];exact ybg _ (ybg _ (ybg _ (ybg _ (zm4 (by decide)))))
 exact⟨zcl hg3 hv3 (hcell 0 0 m3).1,zcl hg1 hv1 (hcell 3 0 m1).1,Tryz.laysM144.s1_3 W hsh,zcl hg0 hv0 (hcell 4 0 m0).1⟩
theorem stopsHeard:Tryz.prog.stopsHeard=true:=by kernel_rfl
theorem mayEnter:Tryz.prog.mayEnter=true:=by kernel_rfl
theorem bool4:Tryz.prog.underlying 4=some .bool:=Tryz.underlying4
def api14:zrv Tryz.prog:={
 b:=4,i:=3,u8:=5,u16:=202,s:=9,limbs:=27,whole:=29,frac:=31,val:=33,expr:=36,exprs:=34,row:=84,rows:=79,table:=81,tables:=23,dfn:=59,dfns:=22,clause:=56,clauses:=24,plan:=26,
 hb:=Tryz.underlying4,hi:=Tryz.underlying3,hu8:=Tryz.underlying5,hu16:=Tryz.underlying202,hs:=Tryz.underlying9,hlimbs:=Tryz.underlying27,hexprs:=Tryz.underlying34,hrows:=Tryz.underlying79,htables:=Tryz.underlying23,hdfns:=Tryz.underlying22,hclauses:=Tryz.underlying24,
 hwhole:=⟨_,Tryz.underlying29,rfl⟩,hfrac:=⟨_,Tryz.underlying31,rfl⟩,hval:=⟨_,Tryz.underlying33,rfl⟩,hexpr:=⟨_,Tryz.underlying36,rfl⟩,hrow:=⟨_,Tryz.underlying84,rfl⟩,htable:=⟨_,Tryz.underlying81,rfl⟩,hdfn:=⟨_,Tryz.underlying59,rfl⟩,hclause:=⟨_,Tryz.underlying56,rfl⟩,hplan:=⟨_,Tryz.underlying26,rfl⟩,
 cu16:=by kernel_rfl,cexpr:=by kernel_rfl,crow:=by kernel_rfl,ctable:=by kernel_rfl,cdfn:=by kernel_rfl,cclause:=by kernel_rfl,
 bytes:=⟨of_decide_eq_true (by kernel_rfl),of_decide_eq_true (by kernel_rfl),of_decide_eq_true (by kernel_rfl),of_decide_eq_true (by kernel_rfl),of_decide_eq_true (by kernel_rfl),of_decide_eq_true (by kernel_rfl)⟩ }
def zp8:List Nat:=[4,3,5,202,9,27,29,31,33,36,34,84,79,81,23,59,22,56,24,26]
def partB(t:TypeId):Bool:=match Tryz.prog.underlying t with
 | some .bool=>true
 | some (.int _)=>true
 | some .string=>true
 | some (.slice e)=>zp8.contains e&&Nat.blt 0 (Tryz.prog.cellsOf e)
 | some (.struct fs)=>fs.toList.all (fun f=>zp8.contains f.type)&&zsb Tryz.prog 0 fs.toList (Tryz.prog.cellsOf t)
 | _=>false
theorem zne:zp8.all partB=true:=by kernel_rfl
theorem zw1:Plain Tryz.prog (fun t=>t∈zp8):=⟨fun t ht=>by
 have h:=ybc.1 zne t ht
 unfold partB at h
 cases hu:Tryz.prog.underlying t with
 | none=>rw[hu]at h;cases h
 | some d=>
  rw[hu]at h
  cases d with
  | bool=>trivial
  | int k=>trivial
  | string=>trivial
  | slice e=>
   simp only[yac]at h;exact⟨by simpa using h.1,by simpa using h.2⟩
  | struct fs=>
   simp only[yac]at h;exact⟨fun f hf=>by simpa using ybc.1 h.1 f hf,h.2⟩
  | _=>cases h⟩
theorem open_plan{H:Type}{enc:TypeId × Value->H}{W:World}{base:Nat}{v:Value}{d:DataW H}{ps:List MemPlace}(hL:kF W)(hok:Value.okWide Tryz.prog W .any base 26 v)(h:DataW.Trod enc Tryz.prog W 0 (fun _=>true) true 26 v d ps)(hw:(DataW.weights Tryz.prog 26 d).all (· <= reachBytes)=true) :
  ∃(cs:Array Value) (p:bE),v=.agg cs/\p.fit/\Has W.heap.size cs.toList/\RD (nG W) p.d (cs.toList.map (av W.heap.size)):=by
 obtain⟨cs,rfl,_,_⟩:∃cs,v=.agg cs/\cs.size=Tryz.prog.cellsOf 26/\Row.okWide Tryz.prog W .any base 26 cs:=by
  unfold Value.okWide at hok;rw[Tryz.underlying26]at hok;exact hok
 obtain⟨fuel,h⟩:=h
 obtain⟨c,n,lo,hc,_⟩:=@zif W hL ⟨0⟩
 obtain⟨h1,x,h2,h3⟩:=zwm zw1 ⟨c,n,lo,hc⟩ fuel 26 cs.toList (d,ps) (by decide) h hw
 obtain⟨p,rfl,hp⟩:=api14.dPlan h3
 exact⟨cs,p,rfl,hp,h1,h2⟩
end Go.Proofs.YtfijloeeppcipaaGreatDoor
namespace Go.Proofs
open Go Go.Am
variable [nC]
variable {t:Tr rA}
def uS(x:iH)(a b c a' b' c':zA):List zA:=[.str x.name,.str x.label,.int .i64 x.from_,.int .i64 x.to,.int .i64 x.known,.bool x.off,.int .u8 x.when_.op,.str x.when_.name,.int .u8 x.when_.v.kind,.bool x.when_.v.f.n.neg,a,.bool x.when_.v.f.d.neg,b,.int .i64 x.when_.v.i,c,.int .u8 x.then_.op,.str x.then_.name,.int .u8 x.then_.v.kind,.bool x.then_.v.f.n.neg,a',.bool x.then_.v.f.d.neg,b',.int .i64 x.then_.v.i,c']
def zuj:List zA:=[(.str []),(.str []),(.int .i64 0),(.int .i64 0),(.int .i64 0),(.bool false),(.int .u8 0),(.str []),(.int .u8 0),(.bool false),.nilslice,(.bool false),.nilslice,(.int .i64 0),.nilslice,(.int .u8 0),(.str []),(.int .u8 0),(.bool false),.nilslice,(.bool false),.nilslice,(.int .i64 0),.nilslice]
theorem zsw{x:iH}{a b c a' b' c':zA}(ha:zA.one a=true)(hb:zA.one b=true)(hc:zA.one c=true)(ha':zA.one a'=true)(hb':zA.one b'=true)(hc':zA.one c'=true):tC zA.one (uS x a b c a' b' c')=true:=by
 rw[gG];simp only[uS,ybh,ybl,ha,hb,hc,ha',hb',hc'];rfl
theorem z0b{l:List iH}{v:zA}(hv:jA t 24 (l.map iH.d) v){i:Nat}{x:iH}(hx:l[i]?=some x) :
  ∃p off a b c a' b' c',lB yA 24 v (.int .i64 (i:Int))=some (.ptr p off)/\oA yA 56 ⟨0,t⟩ (.ptr p off)=some (.agg (uS x a b c a' b' c'))/\rK zuj (.agg (uS x a b c a' b' c'))=some (cellsOf (uS x a b c a' b' c')) ∧
   RD t x.when_.d (yM x.when_ a b c)/\RD t x.then_.d (yM x.then_ a' b' c')/\tC zA.one (uS x a b c a' b' c')=true:=by
 obtain⟨p,off,cs,g1,g2,_,_,g5⟩:=lF.at sl24 (by simp) hv (i:=i) (d:=x.d) (by simp[hx])
 have hz:=rI g5 x.zs
 obtain⟨a,b,c,a',b',c',rfl,h1,h2⟩:=zwo g5
 obtain⟨u1,u2,u3,e1,m1,m2,m3⟩:=bI h1
 obtain⟨w1,w2,w3,e2,n1,n2,n3⟩:=bI h2
 unfold yM at e1 e2
 cases e1
 cases e2
 exact⟨p,off,_,_,_,_,_,_,g1,g2,hz,h1,h2,zsw m1.one m2.one m3.one n1.one n2.one n3.one⟩
def zb0:List qI->Int->Int
 | [],n=>n
 | d::l,n=>if n<=2000 then zb0 l (n+(d.name.length:Int) / 30)else n
def pR:List zl9->Int->Int
 | [],n=>n
 | r::l,n=>if n<=2000 then pR l (n+(cK r.f:Nat))else n
def tU:List aG->Int->Int
 | [],n=>n
 | x::l,n=>if n<=2000 then tU l (pR x.rows (n+(x.name.length:Int) / 30))else n
def rQ(c:iH)(n:Int):Int:=n+((c.name.length:Int) / 30+(c.label.length:Int) / 30+jI c.when_ (2000-n))
def qQ:List iH->Int->Int
 | [],n=>n
 | c::l,n=>if n<=2000 then(if rQ c n<=2000 then qQ l (rQ c n+jI c.then_ (2000-rQ c n))else qQ l (rQ c n))else n
def zwc(p:bE):Int:=qQ p.clauses (tU p.tables (zb0 p.defs (1+(p.name.length:Int) / 30+p.defs.length+p.tables.length+p.clauses.length)))
theorem z36(n:Nat):Int.tdiv (n:Int) 30=(n:Int) / 30:=Int.tdiv_eq_ediv_of_nonneg (by omega)
section
variable {p:bE}{a b c:zA}
theorem zjm{l:List iH}(hc:jA t 24 (l.map iH.d) c)(hn:l.length<1125899906842624)(hf:∀x∈l,x.fit):∀(m i:Nat) (n:Int),i+m=l.length->0<=n->n<1152921504606846976->jp 15 14 [.int .i64 2000,.int .i64 n,.int .i64 (i:Int),.str p.name,a,b,c] t (fun v s=>v=.int .i64 (qQ (l.drop i) n)/\s=t):=by
 intro m;induction m with
 | zero=>
  intro i n hi h0 h1;refine z6g _ _ _ _ _ _ _ ?_
  simp only[zv3,qA,hc.len,tA,qB,yag,zD];rw[if_neg (by omega),yau (by omega)]
  (first | exact⟨rfl,rfl⟩ | exact⟨rfl,trivial⟩ | trivial)
 | succ m ih=>
  intro i n hi h0 h1;have hlt:i<l.length:=by omega
  obtain⟨q,off,u1,u2,u3,w1,w2,w3,g1,g2,g3,g4,g5,g6⟩:=z0b hc (yae hlt)
  have hfit:=hf _ (ybk hlt)
  obtain⟨f1,f2,_,_,_,f6,f7⟩:=hfit
  unfold iD at f1 f2;have ok1:=mA.fit_ok f6
  have ok2:=mA.fit_ok f7
  refine z6g _ _ _ _ _ _ _ ?_
  simp only[zv3,qA,hc.len,tA,qB,yag,zD,dF];rw[if_pos (by omega),yam hlt]
  unfold qQ;by_cases h2:n<=2000
  ·rw[if_pos h2,if_pos h2]
   unfold zuj at g3;rw[g1,tA,g2,tA,g3,tA];unfold uS at g6;simp only[uS,cellsOf,zyv,z1t,cQ,zi9,yaa,yab];have s1:=sX l[i].when_ (2000-n) ok1
   have e1:=pv37 l[i].when_ (2000-n) _ ok1 (by omega) (by omega) g4
   unfold yM at e1;have ew:rQ l[i] n=n+((l[i].name.length:Int) / 30+(l[i].label.length:Int) / 30+jI l[i].when_ (2000-n)):=rfl
   have eN:wA .i64 (n+wA .i64 (wA .i64 (wA .i64 ((l[i].name.length:Int) / 30)+wA .i64 ((l[i].label.length:Int) / 30))+jI l[i].when_ (2000-n)))=rQ l[i] n:=by
    rw[wrap_i64 (n:=(l[i].name.length:Int) / 30) (by omega) (by omega),wrap_i64 (n:=(l[i].label.length:Int) / 30) (by omega) (by omega),wrap_i64 (n:=(l[i].name.length:Int) / 30+(l[i].label.length:Int) / 30) (by omega) (by omega),
     wrap_i64 (n:=(l[i].name.length:Int) / 30+(l[i].label.length:Int) / 30+jI l[i].when_ (2000-n)) (by omega) (by omega),wrap_i64 (by omega) (by omega)]
    rfl
   have bw:0<=rQ l[i] n/\rQ l[i] n<1152921504606846976:=by rw[ew];omega
   refine aM g6 ?_
   rw[wrap_i64 (n:=2000-n) (by omega) (by omega),q22,e1,tA,qB,tA]
   simp only[zhn,aV,if_true,yL,z36,eN,dF];have ei:wA .i64 ((i:Int)+1)=((i+1:Nat):Int):=by rw[wrap_i64 (by omega) (by omega)];omega
   generalize rQ l[i] n=k at *
   by_cases h3:k<=2000
   ·rw[if_pos h3,if_pos h3]
    have s2:=sX l[i].then_ (2000-k) ok2
    have e2:=pv37 l[i].then_ (2000-k) _ ok2 (by omega) (by omega) g5
    unfold yM at e2;rw[wrap_i64 (n:=2000-k) (by omega) (by omega),q22,e2,tA,qB,tA,ei,wrap_i64 (by omega) (by omega)]
    exact ih (i+1) _ (by omega) (by omega) (by omega)
   ·rw[if_neg h3,if_neg h3,ei]
    exact ih (i+1) _ (by omega) bw.1 bw.2
  ·rw[if_neg h2,if_neg h2]
   (first | exact⟨rfl,rfl⟩ | exact⟨rfl,trivial⟩ | trivial)
theorem zbe:∀(l:List zl9) (n:Int),(∀r∈l,r.fit)->0<=n->0<=pR l n/\pR l n<=max n 4503599627372496
 | [],n,_,h=>by unfold pR;omega
 | r::l,n,hf,h=>by
  unfold pR;split
  ·have:=cV (hf r (by simp)).2.2.2.1
   have:=zbe l (n+(cK r.f:Nat)) (fun x hx=>hf x (by simp[hx])) (by omega)
   omega
  ·omega
theorem zec{l:List aG}(hb:jA t 3 (l.map aG.d) b){i:Nat}(hi:i<l.length):∃p o v,lB yA 23 b (.int .i64 (i:Int))=some (.ptr p o)/\rB yA 81 0 (.ptr p o)=some (.ptr p (o+0))/\rB yA 81 2 (.ptr p o)=some (.ptr p (o+2))/\oA yA 9 ⟨0,t⟩ (.ptr p (o+0))=some (.str l[i].name)/\oA yA 79 ⟨0,t⟩ (.ptr p (o+2))=some v/\jA t 7 (l[i].rows.map zl9.d) v:=by
 obtain⟨p,o,cs,g1,g2,g3,_,g5⟩:=lF.at sl23 (by simp) hb (i:=i) (d:=l[i].d) (by simp[yae hi])
 obtain⟨v,rfl,hv⟩:=zpz g5
 exact⟨p,o,v,g1,by kernel_rfl,by kernel_rfl,g3.load1 ty9 rfl rfl,g3.load1 ty79 rfl rfl,hv⟩
theorem zwa{l:List aG}(hb:jA t 3 (l.map aG.d) b)(hf:∀x∈l,x.fit){i:Nat}(hi:i<l.length)(hil:i<1125899906842624){Q:aB}:∀(m j:Nat) (n:Int),j+m=l[i].rows.length->0<=n->n<1152921504606846976 →
  jp 15 6 [.int .i64 2000,.int .i64 (pR (l[i].rows.drop j) n),.int .i64 ((i+1:Nat):Int),.str p.name,a,b,c] t Q->jp 15 10 [.int .i64 2000,.int .i64 n,.int .i64 (i:Int),.int .i64 (j:Int),.str p.name,a,b,c] t Q:=by
 obtain⟨q,o,v,g1,g2,g3,g4,g5,g6⟩:=zec hb hi
 have hfit:=hf _ (ybk hi)
 obtain⟨f1,f2,f3⟩:=hfit
 unfold iD at f1 f2;have ei:wA .i64 ((i:Int)+1)=((i+1:Nat):Int):=by rw[wrap_i64 (by omega) (by omega)];omega
 intro m;induction m with
 | zero=>
  intro j n hj h0 h1 hQ;rw[yau (by omega)]at hQ
  refine z6h _ _ _ _ _ _ _ _ ?_
  simp only[zv4,qA];rw[g1,tA,g3,tA,g5,tA,g6.len,tA,yag,qB,tA];simp only[zD];rw[if_neg (by omega),ei]
  exact hQ
 | succ m ih=>
  intro j n hj h0 h1 hQ;have hlt:j<l[i].rows.length:=by omega
  rw[yam hlt]at hQ;unfold pR at hQ;refine z6h _ _ _ _ _ _ _ _ ?_
  simp only[zv4,qA];rw[g1,tA,g3,tA,g5,tA,g6.len,tA,yag,qB,tA];simp only[zD,dF];rw[if_pos (by omega)]
  by_cases h2:n<=2000
  ·rw[if_pos h2]at hQ ⊢
   obtain⟨q',o',cs,k1,k2,k3,_,k5⟩:=lF.at sl79 (by simp) g6 (i:=j) (d:=l[i].rows[j].d) (by simp[yae hlt])
   obtain⟨x,y,rfl,hx,hy⟩:=rd_row k5
   have fa:rB yA 84 3 (.ptr q' o')=some (.ptr q' (o'+3)):=by kernel_rfl
   have ld:oA yA 31 ⟨0,t⟩ (.ptr q' (o'+3))=some (.agg [.bool l[i].rows[j].f.n.neg,x,.bool l[i].rows[j].f.d.neg,y]):=k3.load (j:=3) ty31 rfl rfl (by exact(by decide:3+4<=7))
   have fr:(l[i].rows[j]).fit:=f3 _ (ybk hlt)
   have hz:rK [(.bool false),.nilslice,(.bool false),.nilslice] (.agg [.bool l[i].rows[j].f.n.neg,x,.bool l[i].rows[j].f.d.neg,y])=some (cellsOf [.bool l[i].rows[j].f.n.neg,x,.bool l[i].rows[j].f.d.neg,y]):=yQ (by
    show(true&&(zug .nilslice x&&(true&&(zug .nilslice y&&true))))=true
    rw[vV hx,vV hy];rfl)
   have e1:=pv36 hx hy fr.2.2.2.1
   have hs:=cV fr.2.2.2.1
   have ej:wA .i64 ((j:Int)+1)=((j+1:Nat):Int):=by rw[wrap_i64 (by omega) (by omega)];omega
   simp only[tA,g3,g5];rw[k1,tA,fa,tA,ld,tA,hz,tA];simp only[cellsOf,cQ,zi9,yaa,yab];rw[q32,e1,tA,qB,tA,ej,wrap_i64 (by omega) (by omega)]
   exact ih (j+1) _ (by omega) (by omega) (by omega) hQ
  ·rw[if_neg h2]at hQ ⊢
   rw[ei];exact hQ
theorem zm1(hb:jA t 3 (p.tables.map aG.d) b)(hc:jA t 24 (p.clauses.map iH.d) c)(hp:p.fit):∀(m i:Nat) (n:Int),i+m=p.tables.length->0<=n->n<1152921504606846976->jp 15 6 [.int .i64 2000,.int .i64 n,.int .i64 (i:Int),.str p.name,a,b,c] t (fun v s=>v=.int .i64 (qQ p.clauses (tU (p.tables.drop i) n))/\s=t):=by
 have hnt:=hp.ntables
 have hnc:=hp.nclauses
 unfold iD at hnt hnc;have fE:∀n:Int,0<=n->n<1152921504606846976->jp 15 14 [.int .i64 2000,.int .i64 n,.int .i64 0,.str p.name,a,b,c] t (fun v s=>v=.int .i64 (qQ p.clauses n)/\s=t):=by
  intro n h0 h1;have:=zjm (p:=p) (a:=a) (b:=b) hc hnc hp.clauses p.clauses.length 0 n (by omega) h0 h1
  rw[ybs]at this;exact this
 intro m;induction m with
 | zero=>
  intro i n hi h0 h1;refine j15_6 _ _ _ _ _ _ _ ?_
  simp only[z7i,qA,hb.len,tA,qB,yag,zD];rw[if_neg (by omega),yau (by omega)]
  exact fE n h0 h1
 | succ m ih=>
  intro i n hi h0 h1;have hlt:i<p.tables.length:=by omega
  obtain⟨q,o,v,g1,g2,g3,g4,g5,g6⟩:=zec hb hlt
  have hfit:=hp.tables _ (ybk hlt)
  obtain⟨f1,f2,f3⟩:=hfit
  unfold iD at f1;refine j15_6 _ _ _ _ _ _ _ ?_
  simp only[z7i,qA,hb.len,tA,qB,yag,zD,dF];rw[if_pos (by omega),yam hlt]
  unfold tU;by_cases h2:n<=2000
  ·rw[if_pos h2,if_pos h2,g1,tA,g2,tA,g4,tA,zlt,tA,yL,z36,wrap_i64 (n:=(p.tables[i].name.length:Int) / 30) (by omega) (by omega),wrap_i64 (by omega) (by omega)]
   have hr:=zbe p.tables[i].rows (n+(p.tables[i].name.length:Int) / 30) f3 (by omega)
   refine zwa (p:=p) (a:=a) (c:=c) hb hp.tables hlt (by omega) p.tables[i].rows.length 0 _ (by omega) (by omega) (by omega) ?_
   rw[ybs];exact ih (i+1) _ (by omega) (by omega) (by omega)
  ·rw[if_neg h2,if_neg h2]
   exact fE n h0 h1
theorem zwb(ha:jA t 3 (p.defs.map qI.d) a)(hb:jA t 3 (p.tables.map aG.d) b)(hc:jA t 24 (p.clauses.map iH.d) c)(hp:p.fit):∀(m i:Nat) (n:Int),i+m=p.defs.length->0<=n->n<1152921504606846976->jp 15 2 [.int .i64 2000,.int .i64 n,.int .i64 (i:Int),.str p.name,a,b,c] t (fun v s=>v=.int .i64 (qQ p.clauses (tU p.tables (zb0 (p.defs.drop i) n)))/\s=t):=by
 have hnd:=hp.ndefs
 unfold iD at hnd;have fE:∀n:Int,0<=n->n<1152921504606846976->jp 15 6 [.int .i64 2000,.int .i64 n,.int .i64 0,.str p.name,a,b,c] t (fun v s=>v=.int .i64 (qQ p.clauses (tU p.tables n))/\s=t):=by
  intro n h0 h1;have:=zm1 (a:=a) hb hc hp p.tables.length 0 n (by omega) h0 h1
  rw[ybs]at this;exact this
 intro m;induction m with
 | zero=>
  intro i n hi h0 h1;refine j15_2 _ _ _ _ _ _ _ ?_
  simp only[z7j,qA,ha.len,tA,qB,yag,zD];rw[if_neg (by omega),yau (by omega)]
  exact fE n h0 h1
 | succ m ih=>
  intro i n hi h0 h1;have hlt:i<p.defs.length:=by omega
  obtain⟨q,o,cs,g1,g2,g3,_,g5⟩:=lF.at sl22 (by simp) ha (i:=i) (d:=p.defs[i].d) (by simp[yae hlt])
  have g5:=z5p g5
  subst g5;have fa:rB yA 59 0 (.ptr q o)=some (.ptr q (o+0)):=by kernel_rfl
  have ld:oA yA 9 ⟨0,t⟩ (.ptr q (o+0))=some (.str p.defs[i].name):=g3.load1 ty9 rfl rfl
  have hfit:=hp.defs _ (ybk hlt)
  have f1:=hfit.1
  unfold iD at f1;have ei:wA .i64 ((i:Int)+1)=((i+1:Nat):Int):=by rw[wrap_i64 (by omega) (by omega)];omega
  refine j15_2 _ _ _ _ _ _ _ ?_
  simp only[z7j,qA,ha.len,tA,qB,yag,zD,dF];rw[if_pos (by omega),yam hlt]
  unfold zb0;by_cases h2:n<=2000
  ·rw[if_pos h2,if_pos h2,g1,tA,fa,tA,ld,tA,zlt,tA,yL,z36,ei,wrap_i64 (n:=(p.defs[i].name.length:Int) / 30) (by omega) (by omega),wrap_i64 (by omega) (by omega)]
   exact ih (i+1) _ (by omega) (by omega) (by omega)
  ·rw[if_neg h2,if_neg h2]
   exact fE n h0 h1
theorem z1z{cs:List zA}(hp:p.fit)(h:RD t p.d cs):wC yA F 15 [.agg cs,.int .i64 2000] t=some (.int .i64 (zwc p)):=by
 obtain⟨a,b,c,rfl,ha,hb,hc⟩:=mR h
 have p1:=hp.name
 have p2:=hp.ndefs
 have p3:=hp.ntables
 have p4:=hp.nclauses
 unfold iD at p1 p2 p3 p4;refine fC.2 (w15 _ _ _ _ _ ?_)
 simp only[t15,qA,ha.len,hb.len,hc.len,tA,qB,yag,yL,z36];rw[wrap_i64 (n:=(p.name.length:Int) / 30) (by omega) (by omega),wrap_i64 (n:=1+(p.name.length:Int) / 30) (by omega) (by omega),wrap_i64 (n:=1+(p.name.length:Int) / 30+(p.defs.length:Int)) (by omega) (by omega),wrap_i64 (n:=1+(p.name.length:Int) / 30+(p.defs.length:Int)+(p.tables.length:Int)) (by omega) (by omega),wrap_i64 (by omega) (by omega)]
 have:=zwb ha hb hc hp p.defs.length 0 (1+(p.name.length:Int) / 30+p.defs.length+p.tables.length+p.clauses.length) (by omega) (by omega) (by omega)
 rw[ybs]at this;exact this
end
end Go.Proofs
namespace Go.Proofs
open Go Go.Am
variable [nC]
variable {t tf:Tr rA}
theorem qW{w:uH}{u:zA}(hu:jA t 1 (cD w.limbs) u):RD t w.d [.bool w.neg,u]:=by
 unfold uH.d;rw[wI];refine⟨[[.bool w.neg],[u]],rfl,?_⟩
 simp only[vF,sH,uR,fK];exact⟨_,_,rfl,rfl,_,_,rfl,⟨u,rfl,hu⟩,rfl⟩
theorem znr{f:uE}{u v:zA}(hu:jA t 1 (cD f.n.limbs) u)(hv:jA t 1 (cD f.d.limbs) v):RD t f.dd [.bool f.n.neg,u,.bool f.d.neg,v]:=by
 unfold uE.dd;rw[wI];refine⟨[[.bool f.n.neg,u],[.bool f.d.neg,v]],rfl,?_⟩
 rw[vF];refine⟨_,_,rfl,qW hu,?_⟩
 rw[vF];exact⟨_,_,rfl,qW hv,sH.2 rfl⟩
theorem zxj{x:gF}{u v:zA}(hu:jA t 1 (cD x.f.n.limbs) u)(hv:jA t 1 (cD x.f.d.limbs) v):RD t x.d [.int .u8 x.kind,.bool x.f.n.neg,u,.bool x.f.d.neg,v,.int .i64 x.i]:=by
 unfold gF.d;rw[wI];refine⟨[[.int .u8 x.kind],[.bool x.f.n.neg,u,.bool x.f.d.neg,v],[.int .i64 x.i]],rfl,?_⟩
 rw[vF];refine⟨_,_,rfl,uM.2 rfl,?_⟩
 rw[vF];refine⟨_,_,rfl,znr hu hv,?_⟩
 rw[vF];exact⟨_,_,rfl,uM.2 rfl,sH.2 rfl⟩
theorem el27:zuh yA 27 202 1:=⟨⟨_,ty27,rfl,rfl⟩,⟨_,zmp,rfl,rfl,by decide,by decide⟩,fun y h=>by rw[zmp]at h;cases h;rfl⟩
theorem z77{op:Nat}{name:List Nat}{v:gF}{args:List mA}{a b c:zA}(ha:jA t 1 (cD v.f.n.limbs) a)(hb:jA t 1 (cD v.f.d.limbs) b)(hc:jA t 9 (args.map mA.d) c):RD t (mA.mk op name v args).d (yM (.mk op name v args) a b c):=by
 unfold mA.d yM;rw[wI,mA.ds_eq];refine⟨[[.int .u8 op],[.str name],[.int .u8 v.kind,.bool v.f.n.neg,a,.bool v.f.d.neg,b,.int .i64 v.i],[c]],rfl,?_⟩
 rw[vF];refine⟨_,_,rfl,rfl,?_⟩
 rw[vF];refine⟨_,_,rfl,rfl,?_⟩
 rw[vF];refine⟨_,_,rfl,zxj ha hb,?_⟩
 rw[vF];exact⟨_,_,rfl,fK.2 ⟨_,rfl,hc⟩,sH.2 rfl⟩
theorem z9h{L:List Thg}{l:List Nat}{x:zA}{Q:aB}(hx:jA tf 1 (cD l) x)(ho:pE yA.base tf t L)(hl:l.length<1000000)(hQ:z44 yA.base tf L 1 (cD l) Q):Wc yA F 89 [x] t Q:=
 w89 _ (z4f el27 hx ho (by rw[tV];exact hl) hQ)
theorem zz6{w:uH}(hl:w.limbs.length<1000000):zo7 yA.base (Wq yA F sJ) 67 w.d:=by
 intro L tf t cs Q ho hd hQ;obtain⟨v,rfl,hv⟩:=nU hd
 rw[q67];refine w67 _ _ ?_
 simp only[t67,qA,q89];refine z9h hv ho hl fun tf' t' u k1 k2 k3=>?_
 have hr:=qW (w:=w) k3
 exact aM (by rw[gG];simp only[ybh,ybl,k3.one];rfl) (aM hr.all (hQ tf' t' _ k1 k2 hr))
theorem z9i{f:uE}(hl:f.n.limbs.length<1000000/\f.d.limbs.length<1000000):zo7 yA.base (Wq yA F sJ) 45 f.dd:=by
 intro L tf t cs Q ho hd hQ;obtain⟨u,v,rfl,hu,hv⟩:=zho hd
 rw[q45];refine w45 _ _ _ _ ?_
 simp only[t45,qA];refine zz6 hl.1 ho (qW (w:=f.n) hu) fun tf1 t1 c1 k1 k2 k3=>?_
 have hz1:=rI k3 (uH.zs _)
 have a1:=k3.all
 obtain⟨u1,rfl,hu1⟩:=nU k3
 rw[hz1,tA];refine aM a1 ?_
 refine zz6 hl.2 k2 (qW (w:=f.d) (hv.mono k1)) fun tf2 t2 c2 m1 m2 m3=>?_
 have hz2:=rI m3 (uH.zs _)
 have a2:=m3.all
 obtain⟨v1,rfl,hv1⟩:=nU m3
 rw[hz2,tA];have hr:=znr (f:=f) (hu1.mono m1) hv1
 exact aM a2 (aM hr.all (hQ tf2 t2 _ (k1.trans m1) m2 hr))
theorem z9j{x:gF}(hl:x.f.n.limbs.length<1000000/\x.f.d.limbs.length<1000000):zo7 yA.base (Wq yA F sJ) 30 x.d:=by
 intro L tf t cs Q ho hd hQ;obtain⟨u,v,rfl,hu,hv⟩:=zwn hd
 rw[q30];refine w30 _ _ _ _ _ _ ?_
 simp only[t30,qA];refine z9i hl ho (znr (f:=x.f) hu hv) fun tf1 t1 c1 k1 k2 k3=>?_
 have hz1:=rI k3 (uE.zs _)
 have a1:=k3.all
 obtain⟨u1,v1,rfl,hu1,hv1⟩:=zho k3
 rw[hz1,tA];have hr:=zxj (x:=x) hu1 hv1
 exact aM a1 (aM hr.all (hQ tf1 t1 _ k1 k2 hr))
mutual
def mA.cpy:mA->Prop
 | .mk _ _ v args=>(v.f.n.limbs.length<1000000/\v.f.d.limbs.length<1000000)/\args.length<300000/\mA.cpys args
def mA.cpys:List mA->Prop
 | []=>True
 | x::l=>mA.cpy x/\mA.cpys l
end
mutual
theorem zoo:∀(x:mA),mA.cpy x->zo7 yA.base (Wq yA F sJ) 12 x.d
 | .mk op name v args,h=>by
  intro L tf t cs Q ho hd hQ;obtain⟨a,b,c,rfl,ha,hb,hc⟩:=bI hd
  simp only[mA.op,mA.name,mA.v,mA.args]at ha hb hc ⊢
  unfold mA.cpy at h;rw[q12];refine w12 _ _ _ _ _ _ _ _ _ ?_
  simp only[t12,qA];refine z9j h.1 ho (zxj (x:=v) ha hb) fun tf1 t1 c1 k1 k2 k3=>?_
  have hz1:=rI k3 (gF.zs _)
  have a1:=k3.all
  obtain⟨u1,v1,rfl,hu1,hv1⟩:=zwn k3
  rw[hz1,tA];refine aM a1 ?_
  rw[q31];refine w31 _ ?_
  simp only[t31,qA];refine zz5 (ds:=args.map mA.d) el34 z7l (by decide) (fun d hd=>?_) (fun d hd=>?_) (by rw[yag];exact h.2.1) (fun v i t hw=>j31_2 _ _ _ hw) (fun tf2 t2 v2 m1 m2 m3=>?_) (hc.mono k1) k2
  ·obtain⟨x,_,rfl⟩:=List.mem_map.1 hd
   exact x.zs
  ·obtain⟨x,hx,rfl⟩:=List.mem_map.1 hd
   exact zrj args h.2.2 x hx
  ·have hr:=z77 (op:=op) (name:=name) (v:=v) (args:=args) (hu1.mono m1) (hv1.mono m1) m3
   exact aM (by rw[gG];simp only[ybh,ybl,m3.one];rfl) (aM hr.all (hQ tf2 t2 _ (k1.trans m1) m2 hr))
theorem zrj:∀(l:List mA),mA.cpys l->∀x∈l,zo7 yA.base (Wq yA F sJ) 12 x.d
 | [],_,x,hx=>by cases hx
 | y::l,h,x,hx=>by
  unfold mA.cpys at h;rcases yat.1 hx with e | hx
  ·rw[e];exact zoo y h.1
  ·exact zrj l h.2 x hx
end
structure bE.cpy (p:bE):Prop where
 defs:p.defs.length<300000
 tables:p.tables.length<300000
 clauses:p.clauses.length<300000
 rows:∀x∈p.tables,x.rows.length<300000/\∀r∈x.rows,r.f.n.limbs.length<1000000/\r.f.d.limbs.length<1000000
 exprs:∀x∈p.clauses,mA.cpy x.when_/\mA.cpy x.then_
end Go.Proofs
namespace Go.Am
open Go Go.RowKit
section
variable {t tf:Tr rA}{C:pA}
theorem z30{sz:Nat}{z c1 c2:List zA}(hz:z.length=sz)(h1:c1.length=sz)(h2:c2.length=sz):fJ (fun i=>some (i*sz,sz)) [(0,.agg c1),(1,.agg c2)] (gI z 2)=some [c1,c2].flatten:=by
 have e:gI z 2=z++z:=by
  show eC z (eC z [])=_;rw[jF,jF,ybe]
 rw[e];have o1:wN (z++z) (0*sz) sz (.agg c1)=some (c1++z):=by
  unfold wN;have e1:(zA.agg c1).cells=c1:=rfl
  simp only[e1,jC,h1,Nat.zero_mul,yax,iM,jN,jF,List.take_zero,List.nil_append];rw[mB.2 rfl,eD.2 (by simp;omega)]
  simp only[Bool.and_self,nD];rw[<- hz,List.drop_left]
 have o2:wN (c1++z) (1*sz) sz (.agg c2)=some (c1++c2):=by
  unfold wN;have e1:(zA.agg c2).cells=c2:=rfl
  simp only[e1,jC,h2,Nat.one_mul,iM,jN,jF];rw[mB.2 rfl,eD.2 (by simp;omega)]
  simp only[Bool.and_self,nD];rw[<- h1,List.take_left,yau (by simp;omega),ybe]
 unfold fJ;rw[uA];show ob (wN (z++z) (0*sz) sz (.agg c1)) _=_
 rw[o1,uA];unfold fJ;rw[uA];show ob (wN (c1++z) (1*sz) sz (.agg c2)) _=_
 rw[o2,uA];unfold fJ;simp
theorem pE.lit2{T el sz b:Nat}{L:List Thg}{d1 d2:D}{c1 c2:List zA}(hT:zuh C T el sz)(hs:sz<500000)(ho:pE C.base tf t L)(hb:t.get b=none)(hr1:RD tf d1 c1)(hr2:RD tf d2 c2)(h1:c1.length=sz)(h2:c2.length=sz) :
  ∃tf' t',jH C T 2 [(0,.agg c1),(1,.agg c2)] ⟨b,t⟩=some (.slice b 0 2 2,⟨b+1,t'⟩)/\zB tf tf'/\pE C.base tf' t' L/\jA tf' sz [d1,d2] (.slice b 0 2 2):=by
 obtain⟨⟨y,hy1,hy2,_⟩,⟨z,hz1,hz2,hz3,_,_⟩⟩:=hT
 have hfb:=ho.tfn hb
 have hcl:∀(i:Nat) cs,[c1,c2][i]?=some cs->cs.length=sz:=by
  intro i cs h;match i,h with
  | 0,h=>simp at h;subst h;exact h1
  | 1,h=>simp at h;subst h;exact h2
 refine⟨tf.set b (.cells (Tr.ofList [c1,c2].flatten) (dA [c1,c2].flatten) none),t.set b (.cells (Tr.ofList [c1,c2].flatten) (dA [c1,c2].flatten) none),?_,(iI hfb _).1,?_,?_⟩
 ·unfold jH
  rw[hy1,uA,hy2,uA,hz1,uA];rw[jC]at hz3;have:(Nat.blt (2*z.size) 1000000&&Nat.beq (dA z.zero) z.size)=true:=by
   rw[hz2,jC,hz3,dB.2 (by omega),mB.2 rfl];rfl
  rw[this,nD,hz2,z30 hz3 h1 h2];rfl
 ·refine ho.keep (iI hfb _).1 (fun k x hk=>?_) fun k hk=>?_
  ·rw[Tr.get_set]at hk ⊢
   split
   ·rename_i e;rw[if_pos e]at hk;exact hk
   ·rename_i e;rw[if_neg e]at hk;exact ho.tle _ _ hk
  ·have hne:k≠b:=by
    intro e;subst e;exact ho.fresh hb hk
   rw[Tr.get_set,if_neg hne,Tr.get_set,if_neg hne];exact⟨rfl,(ho.low k hk).2⟩
 ·have he:yJ (tf.set b (.cells (Tr.ofList [c1,c2].flatten) (dA [c1,c2].flatten) none)) sz (.slice b 0 2 2) [c1,c2]:=zgl hcl (by rw[Tr.get_set,if_pos rfl]) (.inl rfl) rfl
  have hle:=(iI hfb (.cells (Tr.ofList [c1,c2].flatten) (dA [c1,c2].flatten) none)).1
  exact⟨[c1,c2],he,vF.2 ⟨c1,[c2],rfl,RD.mono hle _ _ hr1,vF.2 ⟨c2,[],rfl,RD.mono hle _ _ hr2,sH.2 rfl⟩⟩⟩
end
end Go.Am
namespace Go.Proofs
open Go Go.Am
variable [nC]
variable {t:Tr rA}
theorem zq9(f:uE):1<=cK f/\f.n.limbs.length<cK f/\f.d.limbs.length<cK f:=by unfold cK;omega
theorem zjn:∀(x:mA) (left:Int),x.ok->1<=jI x left
 | .mk op name v args,left,h=>by
  unfold mA.ok at h;unfold jI;have:=zq9 v.f
  have:=(bV args left (cK v.f+(name.length:Int) / 30) h.2.2.2 (by omega)).1
  omega
mutual
theorem zir:∀(x:mA) (left:Int),x.ok->jI x left<=left->left<=2000->mA.cpy x
 | .mk op name v args,left,h,hs,hl=>by
  unfold mA.ok at h;unfold jI at hs;unfold mA.cpy;have:=zq9 v.f
  have h1:=(bV args left (cK v.f+(name.length:Int) / 30) h.2.2.2 (by omega)).1
  obtain⟨h2,h3⟩:=zri args left (cK v.f+(name.length:Int) / 30) h.2.2.2 (by omega) hs hl
  exact⟨⟨by omega,by omega⟩,by omega,h3⟩
theorem zri:∀(l:List mA) (left n:Int),mA.oks l->0<=n->pN l left n<=left->left<=2000->n+l.length<=left/\mA.cpys l
 | [],left,n,_,_,hs,_=>by
  unfold pN at hs;unfold mA.cpys;exact⟨by simpa using hs,trivial⟩
 | x::l,left,n,h,hn,hs,hl=>by
  unfold mA.oks at h;unfold pN at hs;unfold mA.cpys;by_cases hc:n<=left
  ·rw[if_pos hc]at hs
   have h1:=zjn x (left-n) h.1
   have h2:=(bV l left (n+jI x (left-n)) h.2 (by omega)).1
   obtain⟨h3,h4⟩:=zri l left _ h.2 (by omega) hs hl
   exact⟨by simp only[yao];omega,zir x (left-n) h.1 (by omega) (by omega),h4⟩
  ·rw[if_neg hc]at hs
   omega
end
theorem zpp{p:bE}{x:mA}{cp cs:List zA}(hp:p.fit)(hx:x.fit)(hrp:RD t p.d cp)(hr:RD t x.d cs):wC yA F 10 [.agg cp,.agg cs] t=some (.bool (decide (zwc p<=2000)&&decide (jI x 400<=400))):=by
 have hrp0:=hrp
 have hr0:=hr
 obtain⟨u1,u2,u3,rfl,_⟩:=mR hrp
 obtain⟨a,c,d,rfl,_⟩:=bI hr
 refine fC.2 (w10 _ _ _ _ _ _ _ _ _ _ _ _ _ ?_)
 unfold t10;refine cC ?_
 rw[q15,z1z hp hrp0,tA];refine iC ?_
 by_cases h1:zwc p<=2000
 ·refine wB (yLe h1) (cC ?_)
  have e:=pv37 x 400 _ (mA.fit_ok hx) (by omega) (by omega) hr0
  unfold yM at e;rw[q22,e,tA];refine iC ?_
  rw[decide_eq_true h1,ybo,z3j];exact⟨rfl,rfl⟩
 ·rw[decide_eq_false h1]
  exact zC (nLe h1) ⟨rfl,rfl⟩
mutual
/-- is an expression deeper than that? -/
def tK:mA->Nat->Bool
 | .mk _ _ _ args,d=>if d=0 then true else bN args (d-1)
def bN:List mA->Nat->Bool
 | [],_=>false
 | x::l,d=>tK x d||bN l d
end
mutual
theorem zlg:∀(x:mA) (d:Nat) (cs:List zA),x.fit->d<1000000->RD t x.d cs->wC yA F 14 [.agg cs,.int .i64 (d:Int)] t=some (.bool (tK x d))
 | .mk op name v args,d,cs,hx,hn,h=>by
  obtain⟨a,b,c,rfl,ha,hb,hc⟩:=bI h
  simp only[mA.op,mA.name,mA.v,mA.args]at ha hb hc ⊢
  have hx':=hx
  unfold mA.fit at hx';unfold tK;refine fC.2 (w14 _ _ _ _ _ _ _ _ _ _ ?_)
  unfold t14;by_cases h0:d=0
  ·rw[if_pos h0]
   exact wB (yLe (by omega)) ⟨rfl,rfl⟩
  ·rw[if_neg h0]
   refine zC (nLe (by omega)) (xF ?_)
   have:=zeg args args (d-1) op name v a b c 0 hc rfl hx'.2.2.2.2.2 hx'.2.2.2.2.1 (by omega) (by omega)
   rw[show d-1+1-0=d by omega]at this;exact this
theorem zeg:∀(l args:List mA) (d:Nat) (op:Nat) (name:List Nat) (v:gF) (a b c:zA) (i:Nat),jA t 9 (args.map mA.d) c->args.drop i=l->mA.fits l->args.length<iD->d<1000000->0<=d →
  jp 14 2 [.int .i64 ((d+1-0:Nat):Int),.int .i64 (i:Int),.int .u8 (op:Int),.str name,.int .u8 (v.kind:Int),.bool v.f.n.neg,a,.bool v.f.d.neg,b,.int .i64 v.i,c] t (fun r t'=>r=.bool (bN l d)/\t'=t)
 | [],args,d,op,name,v,a,b,c,i,hc,hd,hok,hsz,hn,_=>by
  have:=zee hd
  have hlen:=hc.len
  rw[yag]at hlen;refine j14_2 _ _ _ _ _ _ _ _ _ _ _ ?_
  unfold z7k;exact cA hlen (iC (zC (nLt (by omega)) ⟨rfl,rfl⟩))
 | x::l,args,d,op,name,v,a,b,c,i,hc,hd,hok,hsz,hn,_=>by
  obtain⟨h1,h2,h3⟩:=pY hd
  unfold iD at hsz;have hok':=hok
  unfold mA.fits at hok';unfold bN;have hlen:=hc.len
  rw[yag]at hlen;refine j14_2 _ _ _ _ _ _ _ _ _ _ _ ?_
  obtain⟨pb,po,cs,g1,g2,g3,g4,g5⟩:=lF.at z7l (by simp) hc (i:=i) (d:=x.d) (by simp[h1])
  unfold z7k;refine cA hlen (iC (wB (yLt (by omega)) (cA g1 (rD g2 ?_))))
  rw[vP];refine eH (rI g5 x.zs) ?_
  have hmk:=g5.mk x.zs
  have hcs:[zA.int .u8 ((cellsOf cs).i 0),.str ((cellsOf cs).s 1),.int .u8 ((cellsOf cs).i 2),.bool ((cellsOf cs).b 3),(cellsOf cs).v 4,.bool ((cellsOf cs).b 5),(cellsOf cs).v 6,.int .i64 ((cellsOf cs).i 7),(cellsOf cs).v 8]=cs:=hmk
  rw[hcs];refine cC ?_
  rw[wrap_i64 (n:=((d+1-0:Nat):Int)-1) (by omega) (by omega),show((d+1-0:Nat):Int)-1=(d:Int) by omega,q14,zlg x d cs hok'.1 (by omega) g5,tA]
  refine iG ?_
  cases hq:tK x d with
  | true=>exact wB rfl ⟨rfl,rfl⟩
  | false=>
   refine zC (by simp) (xF ?_)
   rw[wrap_i64 (by omega) (by omega),show(i:Int)+1=((i+1:Nat):Int) by omega,Bool.false_or]
   exact zeg l args d op name v a b c (i+1) hc h2 hok'.2 (by unfold iD;omega) hn (by omega)
end
mutual
theorem za6:∀(x:mA) (d:Nat),d<=24->zE x (d+1)=(zE x d && !tK x (24-d))
 | .mk op name v args,d,hd=>by
  unfold zE tK;by_cases h0:24-d=0
  ·rw[if_pos h0,decide_eq_false (show ¬ (d+1<=24) by omega)]
   simp
  ·rw[if_neg h0,decide_eq_true (show d+1<=24 by omega),decide_eq_true (show d<=24 by omega)]
   cases hh:dN op name args.length with
   | false=>simp
   | true=>
    simp only[ybo,Bool.and_true];by_cases h1:op=1
    ·rw[if_pos h1,if_pos h1]
     have:args=[]:=by
      unfold dN at hh;simp only[yac,decide_eq_true_eq]at hh;subst h1;have:=hh.1.2
      have e:(xD 1).most=0:=rfl
      rw[e]at this;exact ybd.1 (by omega)
     subst this;unfold bN;simp
    ·rw[if_neg h1,if_neg h1,zgw args (d+1) (by omega),show 24-(d+1)=24-d-1 by omega,Bool.and_assoc]
theorem zgw:∀(l:List mA) (d:Nat),d<=24->sK l (d+1)=(sK l d && !bN l (24-d))
 | [],d,hd=>by unfold sK bN;rfl
 | x::l,d,hd=>by
  unfold sK bN;rw[za6 x d hd,zgw l d hd]
  cases zE x d<;>cases sK l d<;>cases tK x (24-d)<;>cases bN l (24-d)<;>rfl
end
def cG (op:Nat)(x y:mA):mA:=.mk (7+op) [] zrw [x,y]
theorem zy1{op:Nat}(h:op<10):dN (7+op) [] 2=true:=by
 have:(List.range 10).all (fun i=>dN (7+i) [] 2)=true:=by kernel_rfl
 exact ybc.1 this op (List.mem_range.2 h)
theorem zla{op:Nat}{x y:mA}(h:op<10):zE (cG op x y) 1=(zE x 1&&(zE y 1 && !tK (cG op x y) 24)):=by
 have hz:zmd zrw=true:=by kernel_rfl
 have e0:zE (.mk (7+op) [] zrw [x,y]) 1=(zE x 2&&(zE y 2&&true)):=by
  rw[zE,sK,sK,sK];have e1:[x,y].length=2:=rfl
  rw[e1,zy1 h,if_neg (by omega)]
  unfold zgo;rw[if_neg (by omega),hz]
  rfl
 unfold cG;rw[e0,za6 x 1 (by omega),za6 y 1 (by omega)]
 have e:tK (.mk (7+op) [] zrw [x,y]) 24=(tK x 23||(tK y 23||false)):=by
  conv=>lhs;unfold tK bN
  conv=>lhs;unfold bN
  conv=>lhs;unfold bN
  rfl
 rw[e,show 24-1=23 from rfl]
 cases zE x 1<;>cases zE y 1<;>cases tK x 23<;>cases tK y 23<;>rfl
theorem z3v(op nm a b c:Nat):(z83 op nm a b c).2=0\/(z83 op nm a b c).2=142/\(z83 op nm a b c).1=0:=by
 unfold z83;split
 ·split
  ·exact .inl rfl
  ·exact .inr ⟨rfl,rfl⟩
 ·split
  ·split
   ·split
    ·exact .inl rfl
    ·exact .inr ⟨rfl,rfl⟩
   ·split
    ·split
     ·exact .inl rfl
     ·exact .inr ⟨rfl,rfl⟩
    ·exact .inl rfl
  ·exact .inr ⟨rfl,rfl⟩
theorem z7x{p:bE}{op:Nat}{name:List Nat}{vk n:Nat}{ks:List Nat}:(opK p op name vk n ks).2=0\/((opK p op name vk n ks).2=141\/(opK p op name vk n ks).2=142)/\(opK p op name vk n ks).1=0:=by
 unfold opK;split
 ·exact .inr ⟨.inl rfl,rfl⟩
 ·split
  ·exact .inl rfl
  ·rcases z3v op (lM p op name n).1 (ks.getD 0 0) (ks.getD 1 0) (ks.getD 2 0)with h | ⟨h1,h2⟩
   ·exact .inl h
   ·exact .inr ⟨.inr h1,h2⟩
mutual
theorem zkt{p:bE}:∀x:mA,(sG p x).2=0\/((sG p x).2=141\/(sG p x).2=142)/\(sG p x).1=0
 | .mk op name v args=>by
  unfold sG
  cases h:xL p args with
  | inl e=>
   have:=zgc args e h
   exact .inr ⟨this,rfl⟩
  | inr ks=>exact z7x
theorem zgc{p:bE}:∀(l:List mA) (e:Nat),xL p l=.inl e->e=141\/e=142
 | [],e,h=>by unfold xL at h;cases h
 | x::l,e,h=>by
  unfold xL at h;split at h
  ·rename_i h0
   cases h;rcases zkt (p:=p) x with h1 | ⟨h1,_⟩
   ·exact absurd h1 h0
   ·exact h1
  ·split at h
   ·rename_i e' he
    cases h;exact zgc l _ he
   ·cases h
end
theorem wY{p:bE}{x:mA}:(jG p x).2=140 ↔ zE x 1=false:=by
 unfold jG;constructor
 ·intro h
  split at h
  ·rcases zkt (p:=p) x with h1 | ⟨h1,_⟩<;>omega
  ·rename_i hP;simpa using hP
 ·intro h
  rw[h,if_neg (by simp)]
theorem zze{p:bE}{op:Nat}{x y:mA}(h:op<10) :
  (zE x 1=false\/zE y 1=false\/tK (cG op x y) 24=true->jG p (cG op x y)=(0,140)) ∧
  (zE x 1=true->zE y 1=true->tK (cG op x y) 24=false →
   ((jG p x).2≠0->jG p (cG op x y)=(0,(jG p x).2)) ∧
   ((jG p x).2=0->(jG p y).2≠0->jG p (cG op x y)=(0,(jG p y).2)) ∧
   ((jG p x).2=0->(jG p y).2=0->(jG p (cG op x y)).2=0/\0<(jG p (cG op x y)).1\/jG p (cG op x y)=(0,142))):=by
 refine⟨fun hh=>?_,fun h1 h2 h3=>?_⟩
 ·have:zE (cG op x y) 1=false:=by
   rw[zla h];rcases hh with e | e | e<;>rw[e]<;>simp
  unfold jG;rw[this,if_neg (by simp)]
 ·have hP:zE (cG op x y) 1=true:=by rw[zla h,h1,h2,h3];rfl
  have ek:jG p (cG op x y)=zyl p (7+op) [] 0 2 [] (xL p [x,y]):=by
   unfold jG;rw[if_pos hP];unfold cG;rw[sG];rfl
  have ex:jG p x=sG p x:=by unfold jG;rw[if_pos h1]
  have ey:jG p y=sG p y:=by unfold jG;rw[if_pos h2]
  have es:xL p [x,y]=if (sG p x).2≠0 then .inl (sG p x).2 else if (sG p y).2≠0 then .inl (sG p y).2 else .inr [(sG p x).1,(sG p y).1]:=by
   rw[xL,xL,xL];by_cases g1:(sG p x).2=0
   ·by_cases g2:(sG p y).2=0
    ·simp[g1,g2]
    ·simp[g1,g2]
   ·simp[g1]
  rw[ek,ex,ey,es];refine⟨fun h4=>?_,fun h4 h5=>?_,fun h4 h5=>?_⟩
  ·rw[if_pos h4];rfl
  ·rw[if_neg (by omega),if_pos h5];rfl
  ·rw[if_neg (by omega),if_neg (by omega)]
   show _\/_
   unfold zyl opK;have hn:lM p (7+op) [] 2=(0,true):=by
    unfold lM;rw[if_neg (by omega),if_neg (by omega),if_neg (by omega)]
   simp only[hn];rw[if_neg (by simp),if_neg (by omega)]
   unfold z83;rw[if_neg (by omega)]
   cases hl:zh4 (7+op) (([]++[(sG p x).1,(sG p y).1]).getD 0 0) (([]++[(sG p x).1,(sG p y).1]).getD 1 0) (([]++[(sG p x).1,(sG p y).1]).getD 2 0)with
   | none=>exact .inr rfl
   | some k=>
    refine .inl ?_
    simp only[if_neg (show ¬ 7+op=21 by omega),if_neg (show ¬ 7+op=22 by omega)]
    obtain⟨e,g1,_,_,_,_,g6⟩:=z2t hl
    have:∀e∈zku,0<e.k:=by decide
    exact⟨by trivial,by rw[<- g6];exact this e g1⟩
end Go.Proofs
namespace Go.Proofs
open Go Go.Am
variable [nC]
variable {t:Tr rA}
def zE9:List zA:=[.int .u8 0,.str [],.int .u8 0,.bool false,.nilslice,.bool false,.nilslice,.int .i64 0,.nilslice]
theorem z1a:RD t zrw.d [.int .u8 0,.bool false,.nilslice,.bool false,.nilslice,.int .i64 0]:=by
 have hw:RD t (uH.d ⟨false,[]⟩) [.bool false,.nilslice]:=by
  unfold uH.d;rw[wI];exact⟨[[.bool false],[.nilslice]],rfl,vF.2 ⟨_,_,rfl,uR.2 rfl,vF.2 ⟨_,_,rfl,fK.2 ⟨_,rfl,nilR⟩,sH.2 rfl⟩⟩⟩
 have hf:RD t (uE.dd ⟨⟨false,[]⟩,⟨false,[]⟩⟩) [.bool false,.nilslice,.bool false,.nilslice]:=by
  unfold uE.dd;rw[wI];exact⟨[[.bool false,.nilslice],[.bool false,.nilslice]],rfl,vF.2 ⟨_,_,rfl,hw,vF.2 ⟨_,_,rfl,hw,sH.2 rfl⟩⟩⟩
 unfold gF.d;rw[wI];exact⟨[[.int .u8 0],[.bool false,.nilslice,.bool false,.nilslice],[.int .i64 0]],rfl,vF.2 ⟨_,_,rfl,uM.2 rfl,vF.2 ⟨_,_,rfl,hf,vF.2 ⟨_,_,rfl,uM.2 rfl,sH.2 rfl⟩⟩⟩⟩
theorem z7r{op:Nat}{x y:mA}{v:zA}(h:jA t 9 [x.d,y.d] v):RD t (cG op x y).d [.int .u8 ((7+op:Nat):Int),.str [],.int .u8 0,.bool false,.nilslice,.bool false,.nilslice,.int .i64 0,v]:=by
 unfold cG mA.d;rw[mA.ds_eq,wI];exact⟨[[.int .u8 ((7+op:Nat):Int)],[.str []],[.int .u8 0,.bool false,.nilslice,.bool false,.nilslice,.int .i64 0],[v]],rfl,vF.2 ⟨_,_,rfl,uM.2 rfl,vF.2 ⟨_,_,rfl,zeu.2 rfl,vF.2 ⟨_,_,rfl,z1a,vF.2 ⟨_,_,rfl,fK.2 ⟨_,rfl,h⟩,sH.2 rfl⟩⟩⟩⟩⟩
theorem z1h{op:Nat}{x y:mA}(ho:op<10)(h:x.fit)(k:y.fit):(cG op x y).fit:=by
 unfold cG mA.fit;exact⟨by omega,by unfold iD;simp,by simp,zui,by unfold iD;simp,by unfold mA.fits;exact⟨h,by unfold mA.fits;exact⟨k,by unfold mA.fits;trivial⟩⟩⟩
theorem z63{op:Nat}:wA .u8 (7+(Int.tmod (op:Int) 10))=((7+op%10:Nat):Int):=by
 rw[Int.tmod_eq_emod_of_nonneg (by omega)]
 have:(op:Int)%10=((op%10:Nat):Int):=by omega
 rw[this,show(7:Int)+((op%10:Nat):Int)=((7+op%10:Nat):Int) by omega]
 exact zch (by omega) (by omega)
theorem zvc{p:bE}{x y:mA}{op:Nat}{cp cx cy:List zA}(hp:p.fit)(hx:x.fit)(hy:y.fit)(hM:mJ t)(hW:uN t)(hrp:RD t p.d cp)(hrx:RD t x.d cx)(hry:RD t y.d cy) :
  Wc yA F 4 [.agg cp,.agg (cx++cy),.int .u8 (op:Int)] t (fun v _=>v=.bool true):=by
 have hrp0:=hrp
 have hrx0:=hrx
 have hry0:=hry
 obtain⟨u1,u2,u3,rfl,_⟩:=mR hrp
 obtain⟨a,b,c,rfl,_⟩:=bI hrx
 obtain⟨a',b',c',rfl,_⟩:=bI hry
 have h9:wC yA F 9 [] t=some (.bool true):=zhq (g:=z2h) (by kernel_rfl) fun H=>rfl
 refine w4 _ _ _ _ _ _ _ _ _ _ _ _ _ _ _ _ _ _ _ _ _ _ _ ?_
 unfold t4;refine cC ?_
 rw[q9,h9,tA];refine iG (zC (by simp) (cC ?_))
 have s1:=zpp hp hx hrp0 hrx0
 have s2:=zpp hp hy hrp0 hry0
 unfold yM at s1 s2;rw[q10,s1,tA];refine iG ?_
 by_cases g1:(decide (zwc p<=2000)&&decide (jI x 400<=400))=true
 case neg=>exact wB (by rw[Bool.eq_false_iff.2 g1];rfl) rfl
 refine zC (by rw[g1];simp) (cC ?_)
 rw[q10,s2,tA];refine iG ?_
 by_cases g2:(decide (zwc p<=2000)&&decide (jI y 400<=400))=true
 case neg=>exact wB (by rw[Bool.eq_false_iff.2 g2];rfl) rfl
 refine zC (by rw[g2];simp) ?_
 rw[yac,decide_eq_true_eq,decide_eq_true_eq]at g1 g2;have kx:=zir x 400 (mA.fit_ok hx) g1.2 (by omega)
 have ky:=zir y 400 (mA.fit_ok hy) g2.2 (by omega)
 refine fH fun bY hbY hbase=>?_
 obtain⟨t1,e1,c1,l1,o1⟩:=aT (C:=yA) ty36 hbY
 refine⟨_,_,e1,?_⟩
 have ho:pE yA.base t t1 [oCel bY none zE9]:=⟨l1,by simp[oCel],fun o hm=>by
  rw[yce]at hm;subst hm;exact c1,fun k hk=>by
  have:k=bY:=by simpa[oCel]using hk
  subst this;exact⟨hbase,hbY⟩⟩
 refine cC ?_
 refine zoo x kx ho hrx0 fun tf2 t2 d1 m1 m2 m3=>?_
 refine eH (rI m3 x.zs) (wB hry0.sameA ?_)
 refine cC ?_
 refine zoo y ky m2 (hry0.mono m1) fun tf3 t3 d2 m4 m5 m6=>?_
 refine eH (rI m6 y.zs) ?_
 have q1:[zA.int .u8 ((cellsOf d1).i 0),.str ((cellsOf d1).s 1),.int .u8 ((cellsOf d1).i 2),.bool ((cellsOf d1).b 3),(cellsOf d1).v 4,.bool ((cellsOf d1).b 5),(cellsOf d1).v 6,.int .i64 ((cellsOf d1).i 7),(cellsOf d1).v 8]=d1:=m3.mk x.zs
 have q2:[zA.int .u8 ((cellsOf d2).i 0),.str ((cellsOf d2).s 1),.int .u8 ((cellsOf d2).i 2),.bool ((cellsOf d2).b 3),(cellsOf d2).v 4,.bool ((cellsOf d2).b 5),(cellsOf d2).v 6,.int .i64 ((cellsOf d2).i 7),(cellsOf d2).v 8]=d2:=m6.mk y.zs
 rw[q1,q2];have n1:d1.length=9:=by obtain⟨_,_,_,rfl,_⟩:=bI m3;rfl
 have n2:d2.length=9:=by obtain⟨_,_,_,rfl,_⟩:=bI m6;rfl
 refine fH fun bS hbS _=>?_
 obtain⟨tf4,t4',f1,f2,f3,f4⟩:=pE.lit2 el34 (by decide) m5 hbS (m3.mono m4) m6 n1 n2
 refine⟨_,_,f1,wB rfl ?_⟩
 have hc4:jD t4' bY none zE9:=f3.ok (oCel bY none zE9) (by simp)
 have hn4:tf4.get bY=none:=(f3.low bY (by simp[oCel])).2
 obtain⟨t5,g3,g4,g5⟩:=eW hc4 hbase ty36 (n:=9) rfl rfl (m:=[.int .u8 (wA .u8 (7+(Int.tmod (op:Int) 10))),.str [],.int .u8 0,.bool false,.nilslice,.bool false,.nilslice,.int .i64 0,.slice bS 0 2 2]) rfl rfl
 refine fH fun k _ _=>⟨_,_,g3 k,?_⟩
 have hle4:zB tf4 t5:=fun k z hk=>by
  rw[g5 k (by intro e;subst e;rw[hn4]at hk;cases hk)]
  exact f3.tle _ _ hk
 have hle:zB t t5:=m1.trans (m4.trans (f2.trans hle4))
 have hM5:=hM.mono hle
 have hW5:=hW.mono hle
 have hp5:=hrp0.mono hle
 have hx5:=hrx0.mono hle
 have hy5:=hry0.mono hle
 rw[z63]at g4;have hz5:RD t5 (cG (op%10) x y).d [.int .u8 ((7+op%10:Nat):Int),.str [],.int .u8 0,.bool false,.nilslice,.bool false,.nilslice,.int .i64 0,.slice bS 0 2 2]:=z7r (f4.mono hle4)
 have hop:op%10<10:=ybz _ (by omega)
 have hzf:=z1h hop hx hy
 have v1:=znz hp hx hM5 hW5 hp5 hx5
 have v2:=znz hp hy hM5 hW5 hp5 hy5
 have v3:=znz hp hzf hM5 hW5 hp5 hz5
 unfold yM at v1 v2;refine cC ?_
 rw[q11,v1,tA];refine cA rfl (iC (cA rfl (iC (cC ?_))))
 rw[q11,v2,tA];refine cA rfl (iC (cA rfl (iC ?_)))
 have hld:oA yA 36 ⟨0,t5⟩ (.ptr bY 0)=some (.agg [.int .u8 ((7+op%10:Nat):Int),.str [],.int .u8 0,.bool false,.nilslice,.bool false,.nilslice,.int .i64 0,.slice bS 0 2 2]):=by
  have:=g4.at.load (C:=yA) (ty:=36) ty36 rfl (n:=9) rfl (j:=0) (yal 9)
  exact this
 refine rD hld (eH (rI hz5 (cG (op%10) x y).zs) (cC ?_))
 have q3:=hz5.mk (cG (op%10) x y).zs
 rw[q11];show rE (wC yA F 11 [.agg [.str p.name,u1,u2,u3],.agg [.int .u8 ((7+op%10:Nat):Int),.str [],.int .u8 0,.bool false,.nilslice,.bool false,.nilslice,.int .i64 0,.slice bS 0 2 2]] t5) _
 rw[v3,tA];refine cA rfl (iC (cA rfl (iC ?_)))
 have hd:=zlg (cG (op%10) x y) 24 _ hzf (by omega) hz5
 obtain⟨w1,w2⟩:=zze (p:=p) (x:=x) (y:=y) hop
 have bad:jG p (cG (op%10) x y)=(0,140)->wp 4 (.ite (lA ((jG p (cG (op%10) x y)).2:Nat) 140) (.ret (.bool (lA ((jG p (cG (op%10) x y)).1:Nat) 0))) (.ret (.bool false))) t5 (fun v _=>v=.bool true):=by
  intro e;rw[e];exact wB rfl rfl
 cases e1:zE x 1 with
 | false=>
  refine wB (yF (by rw[wY.2 e1];rfl)) (bad (w1 (.inl e1)))
 | true=>
  refine zC (wF (fun h=>by have:=(wY (p:=p) (x:=x)).1 (by omega);rw[e1]at this;cases this)) ?_
  cases e2:zE y 1 with
  | false=>exact wB (yF (by rw[wY.2 e2];rfl)) (bad (w1 (.inr (.inl e2))))
  | true=>
   refine zC (wF (fun h=>by have:=(wY (p:=p) (x:=y)).1 (by omega);rw[e2]at this;cases this)) ?_
   refine rD hld (eH (rI hz5 (cG (op%10) x y).zs) (cC ?_))
   rw[q14];show rE (wC yA F 14 [.agg [.int .u8 ((7+op%10:Nat):Int),.str [],.int .u8 0,.bool false,.nilslice,.bool false,.nilslice,.int .i64 0,.slice bS 0 2 2],.int .i64 ((24:Nat):Int)] t5) _
   rw[hd,tA];refine iG ?_
   cases e3:tK (cG (op%10) x y) 24 with
   | true=>exact wB rfl (bad (w1 (.inr (.inr e3))))
   | false=>
    refine zC (by simp) ?_
    obtain⟨w3,w4',w5⟩:=w2 e1 e2 e3
    by_cases z1:(jG p x).2=0
    ·refine zC (by rw[yF (by omega)];simp) ?_
     by_cases z2:(jG p y).2=0
     ·refine zC (by rw[yF (by omega)];simp) ?_
      rcases w5 z1 z2 with⟨k1,k2⟩ | k1
      ·exact wB (yF (by omega)) (wB (yLt (by omega)) rfl)
      ·rw[k1]
       exact zC (by decide) (wB rfl rfl)
     ·refine wB (by rw[ybq];exact Bool.eq_false_iff.2 (wF (by omega))) ?_
      rw[w4' z1 z2];exact wB (yF rfl) rfl
    ·refine wB (by rw[ybq];exact Bool.eq_false_iff.2 (wF (by omega))) ?_
     rw[w3 z1];exact wB (yF rfl) rfl
end Go.Proofs
namespace Go.Am
open Go Go.RowKit Go.Proofs
theorem tfirst4{w:World}(hL:kF w){cs ds:Array Value}{p:bE}{x y:mA}{a b:List zA}{op:Nat}(hp:p.fit)(hx:x.fit)(hy:y.fit)(hh:Has w.heap.size cs.toList)(hrd:RD (nG w) p.d (cs.toList.map (av w.heap.size)))
  (hk:Has w.heap.size ds.toList) (hab:ds.toList.map (av w.heap.size)=a++b) (ha:RD (nG w) x.d a) (hb:RD (nG w) y.d b) :
  Calls Tryz.prog 4 #[.agg cs,.agg ds,.int .u8 (op:Int)] w fun e w'=>e=.returned (.bool true)/\Below w.heap.size w w':=by
 have h2:=zp6 hk
 rw[hab]at h2;exact zr9 hL 4 [.agg (cs.toList.map (av w.heap.size)),.agg (a++b),.int .u8 (op:Int)] _ (by intro _;kernel_rfl) (.cons (zp6 hh) (.cons h2 (.single (by rw[vA])))) ⟨_,zvc hp hx hy (z80 hL) (zif hL) hrd ha hb,fun v t h=>h⟩
end Go.Am
namespace Go.Proofs.YtfijloeeppcipaaGreatDoor
open Go Go.Am Go.RowKit Go.ChangeShapes Go.WideShapes Go.ChangeAt
theorem open_pair{H:Type}{enc:TypeId × Value->H}{W:World}{base:Nat}{v:Value}{d:DataW H}{ps:List MemPlace}(hL:kF W)(hok:Value.okWide Tryz.prog W .any base 37 v)(h:DataW.Trod enc Tryz.prog W 0 (fun _=>true) true 37 v d ps)(hw:(DataW.weights Tryz.prog 37 d).all (· <= reachBytes)=true) :
  ∃(cs:Array Value) (x y:mA) (a b:List zA),v=.agg cs/\x.fit/\y.fit/\Has W.heap.size cs.toList/\cs.toList.map (av W.heap.size)=a++b/\RD (nG W) x.d a/\RD (nG W) y.d b:=by
 obtain⟨cs,rfl,_,_⟩:∃cs,v=.agg cs/\cs.size=Tryz.prog.cellsOf 37/\Row.okWide Tryz.prog W .any base 37 cs:=by
  unfold Value.okWide at hok;rw[Tryz.underlying37]at hok;exact hok
 obtain⟨fuel,h⟩:=h
 obtain⟨c,n,lo,hc,_⟩:=@zif W hL ⟨0⟩
 have c36:Tryz.prog.cellsOf 36=9:=by kernel_rfl
 have c37:Tryz.prog.cellsOf 37=18:=by kernel_rfl
 obtain⟨xs,m,_,hx,hlen,hxs,hel⟩:=DataW.trod_array Tryz.underlying37 h
 simp only[Prod.mk.injEq]at hx;obtain⟨rfl,_⟩:=hx
 have hlen:cs.toList.length=18:=by rw[<- c37];exact hlen
 rw[c36]at hel;have hlast:∀i,i<2->Has W.heap.size ((cs.toList.drop (i*9)).take 9)/\∃x:mA,x.fit/\RD (nG W) x.d (((cs.toList.drop (i*9)).take 9).map (av W.heap.size)):=by
  intro i hi;have hxi:xs[i]?=some (xs[i]'(by omega)):=yae (by omega)
  have h1:=hel i hi
  rw[hxi]at h1;have hwe:(DataW.weights Tryz.prog 36 (xs[i]'(by omega)).1).all (· <= reachBytes)=true:=by
   simp only[DataW.weights,Tryz.underlying37]at hw;exact zZ hw (i:=i) (by simp[hxi])
  obtain⟨g1,d,g2,g3⟩:=zwm zw1 ⟨c,n,lo,hc⟩ m 36 _ _ (by decide) h1 hwe
  obtain⟨x,rfl,hx⟩:=api14.dExpr _ _ g3
  exact⟨g1,x,hx,g2⟩
 obtain⟨a1,x,a2,a3⟩:=hlast 0 (by omega)
 obtain⟨b1,y,b2,b3⟩:=hlast 1 (by omega)
 have e:cs.toList=(cs.toList.drop (0*9)).take 9++(cs.toList.drop (1*9)).take 9:=by
  rw[Nat.zero_mul,ybs,Nat.one_mul,ybb (i:=9) (l:=cs.toList.drop 9) (by simp;omega),List.take_append_drop]
 refine⟨cs,x,y,_,_,rfl,a2,b2,?_,?_,a3,b3⟩
 ·rw[e]
  intro u hu;rcases List.mem_append.1 hu with hu | hu
  ·exact a1 u hu
  ·exact b1 u hu
 ·rw[<- List.map_append,<- e]
end Go.Proofs.YtfijloeeppcipaaGreatDoor
