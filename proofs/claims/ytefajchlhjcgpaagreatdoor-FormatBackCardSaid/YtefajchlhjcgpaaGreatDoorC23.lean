/- Seat 33: what its rows give, and the closed facts of its program. -/
import Derived.Test.YtefajchlhjcgpaaGreatDoorRows
import Derived.Test.YtefajchlhjcgpaaGreatDoorC22
set_option linter.all false
noncomputable section
set_option maxRecDepth 100000
namespace Go.Proofs.YtefajchlhjcgpaaGreatDoor
open Go Go.Am Go.RowKit Go.ChangeShapes Go.WideShapes Go.ChangeAt
variable {W:World}{base g:Nat}{H:Type}{enc:TypeId × Value->H}
def own:ownKnob Tryz.prog.godebug=none:=by kernel_rfl
def laidOut:laidOutB Tryz.prog=true:=by kernel_rfl
def gPow : Tryz.prog.globalNamed "internal/strconv.uint64pow10" = some 5 := by kernel_rfl
def gLens : Tryz.prog.globalNamed "annuitant/calendar.lengths" = some 3 := by kernel_rfl
def gKinds : Tryz.prog.globalNamed "annuitant/parse.kindWords" = some 0 := by kernel_rfl
def gModes : Tryz.prog.globalNamed "annuitant/parse.modeWords" = some 1 := by kernel_rfl
def tPow:(Tryz.prog.globals[5]?).map (·.type)=some 318:=by kernel_rfl
def tLens:(Tryz.prog.globals[3]?).map (·.type)=some 304:=by kernel_rfl
def tKinds:(Tryz.prog.globals[0]?).map (·.type)=some 223:=by kernel_rfl
def tModes:(Tryz.prog.globals[1]?).map (·.type)=some 223:=by kernel_rfl
def laid6 : List (String × DataW Unit) := [("math/bits.deBruijn32tab", Rows.laid_math_bits_deBruijn32tab), ("math/bits.deBruijn64tab", Rows.laid_math_bits_deBruijn64tab), ("internal/strconv.uint64pow10", Rows.laid_internal_strconv_uint64pow10), ("annuitant/calendar.lengths", Rows.laid_annuitant_calendar_lengths), ("annuitant/parse.kindWords", Rows.laid_annuitant_parse_kindWords), ("annuitant/parse.modeWords", Rows.laid_annuitant_parse_modeWords)]
def door_met(os:Os)(args:Array Value):laidMetH Tryz.prog laid6 ((World.doorLaid Tryz.prog 100 os).forCall (λ_ _=>0) ⟨#[],args,[]⟩).memory:=
 laidMetH_of_parts3 (fuel:=8) (laidMet_of_run' 8 (by kernel_rfl) (by kernel_rfl)) (by kernel_rfl) (by kernel_rfl)
def Vg {n:String} {cs:Array Value}(b:Tryz.prog.globalNamed n=some g)(d:W.var? Tryz.prog n=some cs)(a:∃c t,W.heap[g]?=some (.cells c t (0,0))):∃t,W.heap[g]?=some (.cells cs t (0,0)):=by
 grind [World.var?]
def Wh{n:Nat}{p q:List MemPlace}(h:0<n):MemPlace.cell g 0∈MemPlace.row ⟨g,0,none⟩ n++p++q:=
 L2 _ (L2 _ (G6.2 ⟨0,List.mem_range.2 h,rfl⟩))
def zui:Rows.laid_internal_strconv_uint64pow10 (H:=Unit)=.agg (Dw.map λn=>.lit (.int .u64 n)):=by kernel_rfl
def zm1:Rows.laid_annuitant_calendar_lengths (H:=Unit)=.agg (oV.map λn=>.lit (.int .i64 n)):=by kernel_rfl
def zgw:Rows.laid_annuitant_parse_kindWords (H:=Unit)=.agg (jT.map λb=>.lit (.string b)):=by kernel_rfl
def zgv:Rows.laid_annuitant_parse_modeWords (H:=Unit)=.agg (rT.map λb=>.lit (.string b)):=by kernel_rfl
def zkj  {P:Program}{w:World} {a:Nat->Bool}{b:Bool}{e:TypeId}(f:P.underlying e=some (.int .u64))(m:Nat)(c:List Value)(x:DataW H × List MemPlace)(n:Int)(h:DataW.trod enc P w base a b m e c=some x)(d:x.1=.lit (.int .u64 n)):c=[.int .u64 n]:=by
 obtain⟨k,rfl,rfl,_⟩:=DataW.trod_int f h;simp at d;rw[d]
def laid_of (h:laidMetH Tryz.prog laid6 W)(J:W.ShapedOpen Tryz.prog):oJ W:=by
 rw[MakeChecks.laidMetH_plain _ _ _ (by kernel_rfl)]at h;obtain⟨H,⟨_,_,_,_,_,_,_,_,_,_,⟨_,_,_,_,_,_,_,_,_,_,⟨g0,t0,r,f0,p0,q0,B,K,P,w,⟨g1,t1,s,f1,p1,q1,C,L,Q,y,⟨g2,t2,t,f2,p2,q2,D,M,R,z,⟨g3,t3,v,f3,p3,q3,E,N,S,A,_,I⟩,F⟩,k⟩,e⟩,i⟩,f⟩,_,d⟩:=h;obtain rfl:=D6 (gPow.symm.trans B);obtain rfl:=D6 (gLens.symm.trans C);obtain rfl:=D6 (gKinds.symm.trans D);obtain rfl:=D6 (gModes.symm.trans E);obtain rfl:=D6 (tPow.symm.trans K)
 obtain rfl:=D6 (tLens.symm.trans L);obtain rfl:=D6 (tKinds.symm.trans M);obtain rfl:=D6 (tModes.symm.trans N);have U:Tryz.prog.cellsOf 3=1:=by kernel_rfl
 have T:Tryz.prog.cellsOf 9=1:=by kernel_rfl
 have o:Tryz.prog.cellsOf 270=1:=by kernel_rfl
 have q:Tryz.prog.cellsOf 318=20:=by kernel_rfl
 have p:Tryz.prog.cellsOf 304=12:=by kernel_rfl
 have j:Tryz.prog.cellsOf 223=7:=by kernel_rfl
 rw[zui]at w;rw[zm1]at y;rw[zgw]at z;rw[zgv]at A;have X:r.toList=R6 Dw:=Zv (l:=Dw) (g:=λn=>.lit (.int .u64 n)) (u:=λn=>.int .u64 n) Tryz.underlying318 o q (λm c x a=>zkj Tryz.underlying270 m c x a) w;have Z:s.toList=Hv oV:=Zv (l:=oV) (g:=λn=>.lit (.int .i64 n)) (u:=λn=>.int .i64 n) Tryz.underlying304 U p (λm c x a=>zm9 Tryz.underlying3 m c x a) y;have e2:t.toList=xR jT:=Zv (l:=jT) (g:=λb=>.lit (.string b)) (u:=λb=>.string ⟨b.toArray⟩) Tryz.underlying223 T j (λm c x a=>IP Tryz.underlying9 m c x a) z
 have e3:v.toList=xR rT:=Zv (l:=rT) (g:=λb=>.lit (.string b)) (u:=λb=>.string ⟨b.toArray⟩) Tryz.underlying223 T j (λm c x a=>IP Tryz.underlying9 m c x a) A;have s0:r=(R6 Dw).toArray:=by rw[<- X]
 have s1:s=(Hv oV).toArray:=by rw[<- Z]
 have s2:t=(xR jT).toArray:=by rw[<- e2]
 have s3:v=(xR rT).toArray:=by rw[<- e3]
 subst s0 s1 s2 s3;have m0:MemPlace.cell 5 0∈H:=by
  rw[f,i,e];exact D9 _ (D9 _ (Wh (by decide)))
 have m1:MemPlace.cell 3 0∈H:=by
  rw[f,i,e,k];exact D9 _ (D9 _ (D9 _ (Wh (by decide))))
 have m2:MemPlace.cell 0 0∈H:=by
  rw[f,i,e,k,F];exact D9 _ (D9 _ (D9 _ (D9 _ (Wh (by decide)))))
 have m3:MemPlace.cell 1 0∈H:=by
  rw[f,i,e,k,F,I];exact D9 _ (D9 _ (D9 _ (D9 _ (D9 _ (Wh (by decide))))))
 exact⟨Vg D R (d 0 0 m2).1,Vg E S (d 1 0 m3).1,Vg C Q (d 3 0 m1).1,Tryz.laysM144.s1_3 W J,Vg B P (d 5 0 m0).1⟩
def stopsHeard:Tryz.prog.stopsHeard=true:=by kernel_rfl
def mayEnter:Tryz.prog.mayEnter=true:=by kernel_rfl
def bool4:Tryz.prog.underlying 4=some .bool:=Tryz.underlying4
def api33:AD Tryz.prog:={
 b:=4,i:=3,u8:=5,bt:=261,s:=9,ba:=22,ak:=24,aw:=26,cp:=28,aj:=31,bc:=29,bn:=94,bz:=90,ah:=92,au:=49,br:=89,b7:=48,aa:=60,am:=50,b8:=52,
 hb:=Tryz.underlying4,hi:=Tryz.underlying3,cq:=Tryz.underlying5,cr:=Tryz.underlying261,hs:=Tryz.underlying9,be:=Tryz.underlying22,bg:=Tryz.underlying29,ce:=Tryz.underlying90,ax:=Tryz.underlying49,cg:=Tryz.underlying48,ap:=Tryz.underlying50,
 bh:=⟨_,Tryz.underlying24,rfl⟩,ci:=⟨_,Tryz.underlying26,rfl⟩,cu:=⟨_,Tryz.underlying28,rfl⟩,cj:=⟨_,Tryz.underlying31,rfl⟩,cz:=⟨_,Tryz.underlying94,rfl⟩,bj:=⟨_,Tryz.underlying92,rfl⟩,dc:=⟨_,Tryz.underlying89,rfl⟩,ay:=⟨_,Tryz.underlying60,rfl⟩,ck:=⟨_,Tryz.underlying52,rfl⟩,
 dh:=by kernel_rfl,co:=by kernel_rfl,di:=by kernel_rfl,bk:=by kernel_rfl,dj:=by kernel_rfl,az:=by kernel_rfl,
 ac:=⟨of_decide_eq_true (by kernel_rfl),of_decide_eq_true (by kernel_rfl),of_decide_eq_true (by kernel_rfl),of_decide_eq_true (by kernel_rfl),of_decide_eq_true (by kernel_rfl),of_decide_eq_true (by kernel_rfl)⟩ }
def Wo:List Nat:=[4,3,5,261,9,22,24,26,28,31,29,94,90,92,49,89,48,60,50,52]
def partB(t:TypeId):Bool:=match Tryz.prog.underlying t with
 | some .bool=>true
 | some (.int _)=>true
 | some .string=>true
 | some (.slice e)=>Wo.contains e&&Nat.blt 0 (Tryz.prog.cellsOf e)
 | some (.struct a)=>a.toList.all (λf=>Wo.contains f.type)&&Ms Tryz.prog 0 a.toList (Tryz.prog.cellsOf t)
 | _=>false
def XH:Wo.all partB=true:=by kernel_rfl
def ztl:Y2 Tryz.prog (λt=>t∈Wo):=⟨λt a=>by
 have h:=C9.1 XH t a;unfold partB at h
 cases b:Tryz.prog.underlying t with
 | none=>simp_all
 | some d=>
  rw[b]at h
  cases d with
  | bool=>trivial
  | int k=>trivial
  | string=>trivial
  | slice e=>
   simp_all
  | struct c=>
   grind
  | _=>cases h⟩
def open_plan    {v:Value}{d:DataW H}{ps:List MemPlace}(e:oJ W)(g:Value.okWide Tryz.prog W .any base 52 v)(h:DataW.Trod enc Tryz.prog W 0 (λ_=>true) true 52 v d ps)(i:(DataW.weights Tryz.prog 52 d).all (· <= reachBytes)=true) :
  ∃(cs:Array Value) (p:rD),v=.agg cs/\p.f/\Q5 W.heap.size cs.toList/\RD (yK W) p.d (cs.toList.map (av W.heap.size)):=by
 obtain⟨cs,rfl,_,_⟩:∃cs,v=.agg cs/\cs.size=Tryz.prog.cellsOf 52/\Row.okWide Tryz.prog W .any base 52 cs:=by
  grind [Value.okWide,Tryz.underlying52]
 obtain⟨a,h⟩:=h;obtain⟨c,n,j,f,_⟩:=@PD W e ⟨0⟩;obtain⟨k,x,l,b⟩:=ztd ztl ⟨c,n,j,f⟩ a 52 cs.toList (d,ps) (by decide) h i;obtain⟨p,rfl,m⟩:=api33.u b
 grind
end Go.Proofs.YtefajchlhjcgpaaGreatDoor
namespace Go.Am
open Go Go.RowKit
def G.bg(p:Nat->Bool)(t:G vA):∀n:Nat,∃t':G vA,∀b,t'.c b=if b<n/\p b=true then none else t.c b:=by
 intro n;induction n with
 | zero=>exact⟨t,λb=>by simp⟩
 | succ n c=>
  obtain⟨t',h⟩:=c
  cases d:p n with
  | false=>exact⟨t',λb=>by rw[h];by_cases a:b=n<;>grind⟩
  | true=>exact⟨t'.q n,λb=>by rw[G.e,h];by_cases a:b=n<;>grind⟩
section
variable {C:fA}{F:G oE}{f:Nat}{args:List O}{tf t:G vA}{Q:lB}
def Wc.e(h:Wc C F f args tf Q)(j:zB tf t):Wc C F f args t λv t'=>∃d,Q v d/\zB d t'/\∀b y,t.c b=some y->tf.c b=none->t'.c b=some y/\d.c b=none:=by
 intro X s e;have B:Ov C.a tf (λb=>match tf.c b with | some _=>none | none=>match t.c b with | some y=>some y | none=>X b) s:=by
  refine⟨e.d,λb a=>?_,λb y a=>?_,λb y a=>e.j _ _ (j _ _ a)⟩
  .cases l:tf.c b with
   | some y=>rw[e.q (j _ _ l)]
   | none=>
    simp only[l]at a
    cases c:t.c b with
    | some y=>simp_all
    | none=>simp only[c]at a;rw[e.f b a,c]
  .cases l:tf.c b with
   | some y=>simp_all
   | none=>
    simp only[l]at a
    cases c:t.c b with
    | some z=>simp only[c]at a;cases a;exact⟨e.q c,rfl,e.j _ _ c⟩
    | none=>simp only[c]at a;obtain⟨u,w,x⟩:=e.a _ _ a;simp_all
 obtain⟨v,d,g,i,l,c,r,A⟩:=uR.1 (h _ _ B);have E:∀b y,t.c b=some y->tf.c b=none->i b=some y:=λb y n o=>r b y (by simp_all);obtain⟨t',k⟩:=G.bg (λb=>(i b).isSome && !(tf.c b).isNone.not && !((t.c b).isSome&&(tf.c b).isNone)) g.t g.a;have q:=c.d;refine uR.2 ⟨v,t',g,λb=>if ((i b).isSome && !(tf.c b).isNone.not && !((t.c b).isSome&&(tf.c b).isNone))=true then i b else none,l,⟨c.d,λb a=>?_,λb y a=>?_,λb y a=>?_⟩,?_,d,A,?_,?_⟩
 .grind
 .split at a
  .rename_i D;obtain⟨u,w,x⟩:=c.a b y a
   grind
  grind
 .rw[k]at a;split at a
  .cases a
  .cases m:i b with
   | some z=>exact(c.a b z m).2.2
   | none=>rw[c.f b m]at a;exact c.j b y a
 .intro b y a;have n:t.c b=none:=(e.a b y a).2.1;have o:tf.c b=none:=by
   cases m:tf.c b with
   | none=>rfl
   | some z=>rw[j _ _ m]at n;cases n
  have p:i b=some y:=r b y (by simp_all)
  simp_all
 .intro b y a;rw[k];split
  .rename_i D
   cases m:i b with
   | none=>simp_all
   | some z=>rw[(c.a b z m).2.1]at a;cases a
  .exact c.q a
 .intro b y n o;have p:=E b y n o;refine⟨?_,(c.a b y p).2.1⟩;rw[k,A3]
  .exact(c.a b y p).1
  simp_all
def Wc.c{R:O->G vA->Prop}{L:List oF}(h:Wc C F f args tf λv a=>zB tf a/\R v a)(b:xB C.a tf t L)(e:∀v a t',zB tf a->xB C.a a t' L->R v a->Q v t'):Wc C F f args t Q:=by
 refine(Wc.e h b.b).a λv t' ⟨a,⟨d,i⟩,j,l⟩=>e v a t' d ?_ i;refine b.ah d j λk c=>?_;obtain⟨y,g⟩:=b.am c;obtain⟨m,n⟩:=l k y g (b.f k c).2
 simp_all
end
end Go.Am
namespace Go.Proofs
open Go Go.Am
variable {w b cap k:Nat}{l u:List Nat}
variable [fC]
def qw:Fw Y 253 254 1:=⟨⟨_,tN,rfl,rfl⟩,⟨_,tI,rfl,rfl,by decide,by decide⟩⟩
def aS (l:List Nat):List O:=l.map fun(n:Nat)=>O.e .u32 (n:Int)
def zkk(l:List Nat):(aS l).length=l.length:=by simp[aS]
theorem xC.e{t:G vA}{n:Nat} (h:xC t b none (aS l))(q:n<=l.length)(o:n<=cap):bA t 1 (uC .u32 (l.take n)) (.m b 0 n cap):=by
 obtain⟨c,e,m⟩:=h;refine⟨(l.take n).map fun(x:Nat)=>[O.e .u32 (x:Int)],.inr ⟨b,0,cap,?_,by grind,⟨c,_,_,e,.inl rfl⟩,λi k d=>?_⟩,?_⟩
 .grind
 .rw[F7]at d
  cases f:(l.take n)[i]? with
  | none=>simp_all
  | some x=>
   rw[f]at d;cases d;refine⟨rfl,c,_,_,e,λj a p=>?_⟩
   grind [aS]
 .induction l.take n with
  | nil=>exact pG.2 rfl
  | cons x r g=>exact kD.2 ⟨_,_,rfl,wP.2 rfl,g⟩
def xC.d{tf t:G vA} {lo:Option Lo}{cs:List O}(h:xC tf b lo cs)(e:zB tf t):xC t b lo cs:=by
 obtain⟨c,a,d⟩:=h;exact⟨c,e _ _ a,d⟩
theorem nZ{base:Nat}{W J:yG}{t:G vA}{Q:lB}{f:O}{args:List O}{K:O->T}{g:Nat}{a:List O}(h:mM f args=some (g,a))(k:W g a t (λv t'=>lA base W J (K v) t' Q)):lA base W J (.n f args K) t Q:=by
 show pD (mM f args) _
 simp_all
section
variable {t t0:G vA}{Q:lB}
abbrev Ie(w b d a:Nat)(u:List Nat)(k cap:Nat)(c:Nat):List oF:=[oC w none [.m b 0 k cap],oC b none (aS u),oC d none [.e .u64 (c:Int)],oC a none [.j w 0]]
def zrk{f d c s:Nat} (h:xB Y.a t0 t (Ie w b f d u k cap c))(hk:k<cap)(B:cap=u.length)(hs:s+c<18446744073709551616)
  (W:∀t',xB Y.a t0 t' (Ie w b f d (u.set k ((s+c)%4294967296)) (k+1) cap ((s+c) / 4294967296))->Q (.p []) t'):Wc Y F 276 [.e .u64 (s:Int),.j f 0,.j d 0] t Q:=by
 have l1:∀ {t},xB Y.a t0 t (Ie w b f d u k cap c)->oA Y 270 ⟨0,t⟩ (.j f 0)=some (.e .u64 (c:Int)):=λh=>(xB.d (A:=[_,_]) h).f zT rfl rfl;have l:∀ {t},xB Y.a t0 t (Ie w b f d u k cap c)->oA Y 287 ⟨0,t⟩ (.j d 0)=some (.j w 0):=λh=>(xB.d (A:=[_,_,_]) h).f W5 rfl rfl;have I:∀ {t},xB Y.a t0 t (Ie w b f d u k cap c)->oA Y 253 ⟨0,t⟩ (.j w 0)=some (.m b 0 k cap):=λh=>(xB.d (A:=[]) h).f tN rfl rfl;have J:∀b o,zR (.j b o)=some (.j b o):=λ_ _=>rfl
 refine w276 ?_;unfold t276 uE;have L:cA .u64 ((s:Int)+(c:Int))=((s+c:Nat):Int):=by grind [iG]
 have M:cA .u32 ((s+c:Nat):Int)=(((s+c)%4294967296:Nat):Int):=by rw[nX];omega
 have N:Int.fdiv ((s+c:Nat):Int) 4294967296=(((s+c) / 4294967296:Nat):Int):=by grind
 refine fB (l1 h) (sB ?_);rw[L,M,N];refine fB (l h) (fB (l h) (uA (J _ _) (fB (I h) (kC λn D X=>?_))));obtain⟨t1,R,S,g3,U⟩:=Nw (C:=Y) (T:=253) (ps:=[(0,.e .u32 (((s+c)%4294967296:Nat):Int))]) (cl:=[[.e .u32 (((s+c)%4294967296:Nat):Int)]]) (n:=1) (sz:=1) tN rfl tI rfl rfl (by omega) (by
   have e:mJ [O.e .u32 0] 1=[.e .u32 0]:=rfl;show mN _ _ (mJ [O.e .u32 0] 1)=_;rw[e];rfl) (by grind) rfl D
 have i:=h.z D U;have x:∀b o,A8 10 (.j b o) (.j b o)=true:=λb o=>by simp[A8,Nat.beq_refl]
 refine⟨_,_,R,fB (l i) (tA (x _ _) (fB (l i) (tA (x _ _) (fB (I i) (tA JO (kC λn2 _ _=>?_))))))⟩;have g:=i.f b (by simp[oC]);obtain⟨K,Z,E,H⟩:=ZQ (C:=Y) (n:=n2) (k:=k) (m:=1) (cap:=cap) qw (xB.d (A:=[_]) i) g.1 S rfl (by omega) (by omega) (by rw[zkk];omega) (by intro a z;simp at z;subst z;rfl);have P:lJ (aS u) k [[O.e .u32 (((s+c)%4294967296:Nat):Int)]].flatten=aS (u.set k ((s+c)%4294967296)):=by
  apply List.ext_getElem?
  grind [aS,Kj]
 rw[P]at E;have y:xB Y.a t0 K (Ie w b f d (u.set k ((s+c)%4294967296)) k cap c):=xB.aj (A:=[_]) (o:=oC b none (aS u)) i (λq p _=>H q (λe=>p (by simp[oC,e]))) (λq p=>.inl p) E (by simp[oC]) (i.b.g g.2 H);refine⟨_,_,Z,?_⟩;have r:oA Y 287 ⟨0,K⟩ (.j d 0)=some (.j w 0):=(xB.d (A:=[_,_,_]) y).f W5 rfl rfl;refine fB r (tA (x _ _) (uA (J _ _) (kC λn3 _ _=>?_)));obtain⟨t3,m1,m2⟩:=xB.a (A:=[]) (j:=0) (v:=.m b 0 (k+1) cap) y tN rfl (by show 0+1<=1;omega) rfl
 refine⟨_,_,m1 n3,kC λn4 _ _=>?_⟩;obtain⟨t4,p1,p2⟩:=xB.a (A:=[_,_]) (j:=0) (v:=.e .u64 (((s+c) / 4294967296:Nat):Int)) m2 zT rfl (by show 0+1<=1;omega) rfl;exact⟨_,_,p1 n4,W t4 p2⟩
def YX  (h:xB Y.a t0 t [oC w none [.m b 0 k cap],oC b none (aS u)])(x:∀t' c a,xB Y.a t0 t' (Ie w b c a u k cap 0)->Q (.q (.aa 276) [] [.j c 0,.j a 0]) t'):Wc Y F 246 [.j w 0] t Q:=by
 refine w246 ?_;unfold t246;refine kC λa f d=>?_;obtain⟨I,i,l,m,o⟩:=Zo (v:=.j w 0) f;have D:=xB.c (A:=[_,_]) (B:=[]) h f d l m o;refine⟨_,_,i,kC λc g e=>?_⟩;obtain⟨J,p,q,r,s⟩:=gP (C:=Y) zT g;have E:=xB.c (A:=[_,_]) (B:=[_]) D g e q r s;refine⟨_,_,p,kC λn _ _=>?_⟩;obtain⟨H,y,z⟩:=xB.a (A:=[_,_]) (j:=0) (v:=.e .u64 0) E zT rfl (by show 0+1<=1;omega) rfl;exact⟨_,_,y n,x H c a z⟩
def zkq {v:O}{f p:Nat}(hv:bA t 1 (uC .u32 l) v)(hl:l.length<100000)(X:pB 4294967296 l)(hf:f<4294967296)(hp:p<4294967296)
  (hQ:∀t' r rv,zB t t'->bA t' 1 (uC .u32 r) rv->pB 4294967296 r->B4 r->A4 4294967296 r=A4 4294967296 l*f+p->r.length<=l.length+1->Q rv t'):Wc Y F 194 [v,.e .u32 (f:Int),.e .u32 (p:Int)] t Q:=by
 have d:=hv.c;rw[sH]at d;have ho:xB Y.a t t []:=⟨zB.f _,by simp,by simp,by simp⟩;refine w194 ?_;unfold t194 uI;have e0:tC (l.length:Int)=.e .i64 ((l.length+1:Nat):Int):=by
  grind [A2]
 refine uA d (sB (kC λb hb U=>?_));rw[e0];obtain⟨t1,g1,g2,g3,g4⟩:=zge (C:=Y) (T:=253) (el:=254) (k:=.u32) (cap:=l.length+1) tN rfl tI rfl rfl (by decide) (by omega) hb;have a:List.replicate (l.length+1) (O.e .u32 0)=aS (List.replicate (l.length+1) 0):=by
  grind [aS,List.map_replicate]
 rw[a]at g2;have o1:=xB.c (A:=[]) (B:=[]) ho hb U g2 g3 g4;refine⟨_,_,g1,kC λw J S=>?_⟩;obtain⟨t2,f1,f2,f3,f4⟩:=gP (C:=Y) tN J;have o2:=xB.c (A:=[]) (B:=[_]) o1 J S f2 f3 f4;refine⟨_,_,f1,kC λn _ _=>?_⟩;obtain⟨t3,m1,m2⟩:=xB.a (A:=[]) (j:=0) (v:=.m b 0 0 (l.length+1)) o2 tN rfl (by show 0+1<=1;omega) rfl;refine⟨_,_,m1 n,aA ?_⟩;rw[q246];refine YX m2 λt4 I H o4=>?_;have e5:cA .u64 (p:Int)=(p:Int):=iG (by omega) (by omega)
 refine uA d (sB (qC ?_));rw[e5];have y:∀s:Int,mM (.q (.aa 276) [] [.j I 0,.j H 0]) [.e .u64 s]=some (276,[.e .u64 s,.j I 0,.j H 0]):=λs=>rfl;have E:∀(k i x c:Nat) (u:List Nat) (M:G vA),i+k=l.length->u.length=l.length+1->pB 4294967296 (u.take i)->x+c<4294967296->A4 4294967296 (u.take i)+4294967296^i*(x+c)=A4 4294967296 (l.take i)*f+p →
   xB Y.a t M (Ie w b I H u i (l.length+1) c)->jp 194 2 [.e .u32 (f:Int),.j w 0,.q (.aa 276) [] [.j I 0,.j H 0],.e .u64 (x:Int),v,.e .i64 (l.length:Int),.e .i64 (i:Int)] M Q:=by
  intro k;induction k with
  | zero=>
   intro i x c u M W h z m D L;have W:i=l.length:=by omega
   subst W;refine zqu ?_;unfold xy;refine vB (by simp[zD]) (nZ (y _) ?_);rw[q276];refine zrk L (by omega) h.symm (by omega) λN q=>?_;have a7:(x+c) / 4294967296=0:=Nat.div_eq_of_lt m;have Z:(x+c)%4294967296=x+c:=Nat.mod_eq_of_lt m;rw[Z]at q;have lv:oA Y 253 ⟨0,N⟩ (.j w 0)=some (.m b 0 (l.length+1) (l.length+1)):=(xB.d (A:=[]) q).f tN rfl rfl;refine fB lv (aA ?_);obtain⟨c0,y1,y2⟩:=xB.d (A:=[_]) q
   have od:=xB.i (A:=[_]) q;have a6:=xB.x (A:=[_]) (o:=oC b none (aS (u.set l.length (x+c)))) q (k:=b) (by simp[oC]);obtain⟨r1,r2⟩:=od.r a6 y1 (q.f b (by simp[oC])).2;have hw:xC (t.d b (.aa c0 (aS (u.set l.length (x+c))).length none)) b none (aS (u.set l.length (x+c))):=⟨c0,by rw[G.aa,A5 rfl],y2⟩;have hR:=xC.e (xC.d hw r1.b) (n:=l.length+1) (cap:=l.length+1) (by simp[h]) (B3 _);have a:(u.set l.length (x+c)).take (l.length+1)=u.take l.length++[x+c]:=by
    rw[yT (x:=x+c) (by simp_all)];rw[List.take_set_of_le (B3 _)]
   rw[a]at hR;obtain⟨v',P,R⟩:=Gn (by grind) hR;rw[en,P,xA];have g:(u.take l.length).length=l.length:=by simp_all
   refine hQ N _ _ (r2.d r1.b) R (yW (Cv z m)) (sY _) ?_ ?_
   all_goals grind [jU,zQ,Qx]
  | succ k ih=>
   intro i x c u M W h z m D L;have K:l[i]?=some l[i]:=C6 (by omega);refine zqu ?_;unfold xy uL;obtain⟨b',o',cs,P,R,_,_,J⟩:=bH.at (λ_=>rfl) (hv.a L.b) (RK K);have e:=wP.1 J;subst e;have hw:l[i]<4294967296:=X _ (F2 _);have hm:l[i]*f<=4294967295*4294967295:=G5 (by omega) (by omega);have e1:cA .u64 (cA .u64 (cA .u64 (l[i]:Int)*cA .u64 (f:Int))+(x:Int))=((l[i]*f+x:Nat):Int):=by
    grind [iG]
   refine tA (by grind [zD]) (uA P (fB R (sB ?_)));rw[e1];refine nZ (y _) ?_;rw[q276];refine zrk L (by omega) h.symm (by omega) λN q=>?_;have e2:tC (i:Int)=.e .i64 ((i+1:Nat):Int):=by
    grind [A2]
   refine qC ?_;rw[e2];have a:(u.set i ((l[i]*f+x+c)%4294967296)).take (i+1)=u.take i++[(l[i]*f+x+c)%4294967296]:=by
    rw[yT (x:=(l[i]*f+x+c)%4294967296) (by grind)];rw[List.take_set_of_le (B3 _)]
   have g:(u.take i).length=i:=by grind
   refine ih (i+1) 0 ((l[i]*f+x+c) / 4294967296) _ N (by omega) (by simp[h]) ?_ (by omega) ?_ q
   .grind [Cv]
   .rw[a,zQ,g,yT K,zQ,mz,Nat.min_eq_left (by omega),D5,K1,D8]
    grind [Nat.div_add_mod]
 refine E l.length 0 p 0 _ t4 (by omega) (by simp) (λx K=>by simp at K) (by omega) (by simp[A4]) o4
end
end Go.Proofs
namespace Go.Am
open Go Go.RowKit
inductive E where
 | pl (d:D)
 | sl (sz:Nat) (l:List E) (m:List D)
 | st (l:List E)
section
variable {t t' tf:G vA}{C:fA}
end
end Go.Am
namespace Go.Am
open Go Go.RowKit
variable {u v:O}
def ka:List D:=(List.range 12).map λi=>D.a .u16 (((8000024+i)%65536:Nat):Int)
def xL.e(w:xL):E:=.st [.pl (.e w.b),.sl 1 ((vD w.a).map E.pl) ka]
section
variable {t:G vA}
theorem Hi{w:xL} (a:bA t 1 (vD w.a) u):RD t w.d [.d w.b,u]:=by
 unfold xL.d;rw[xK];refine⟨[[.d w.b],[u]],rfl,?_⟩
 grind [kD,pG,Cy,kO]
theorem Hj{f:qF} (a:bA t 1 (vD f.n.a) u)(b:bA t 1 (vD f.d.a) v):RD t f.b [.d f.n.b,u,.d f.d.b,v]:=by
 unfold qF.b;rw[xK];refine⟨[[.d f.n.b,u],[.d f.d.b,v]],rfl,?_⟩
 grind [kD,Hi,pG]
theorem Sg{x:iF} (a:bA t 1 (vD x.f.n.a) u)(b:bA t 1 (vD x.f.d.a) v):RD t x.d [.e .u8 x.a,.d x.f.n.b,u,.d x.f.d.b,v,.e .i64 x.i]:=by
 unfold iF.d;rw[xK];refine⟨[[.e .u8 x.a],[.d x.f.n.b,u,.d x.f.d.b,v],[.e .i64 x.i]],rfl,?_⟩
 grind [kD,wP,Hj,pG]
def Ns{op:Nat}{name:List Nat}{v:iF}{args:List iA}{a b c:O}(d:bA t 1 (vD v.f.n.a) a)(e:bA t 1 (vD v.f.d.a) b)(f:bA t 9 (args.map iA.d) c):RD t (iA.mk op name v args).d (mO (.mk op name v args) a b c):=by
 unfold iA.d mO;rw[xK,iA.q];refine⟨[[.e .u8 op],[.h name],[.e .u8 v.a,.d v.f.n.b,a,.d v.f.d.b,b,.e .i64 v.i],[c]],rfl,?_⟩;rw[kD];refine⟨_,_,rfl,rfl,?_⟩;rw[kD];refine⟨_,_,rfl,rfl,?_⟩
 grind [kD,Sg,kO,pG]
def wS{sz:Nat}:bA t sz [] .g:=⟨[],.inl ⟨rfl,rfl⟩,pG.2 rfl⟩
end
end Go.Am
namespace Go.Proofs
open Go Go.Am
variable {b el g op sz:Nat}{y z:jD}{v:O}{ps:List (Nat × O)}{cl:List (List O)}{ds:List D}{x:iA}{c cs j:List O}{w:List Nat}{l:List (List Nat × Nat)}
variable [fC]
section
variable {tf t:G vA}{C:fA}
theorem Oh {z:List O} (b:z.length=sz)(a:v.s.length=sz):mN (λi=>some (i*sz,sz)) [(0,v)] (mJ z 1)=some v.s:=by
 have e:mJ z 1=z:=by
  show tE z []=_;rw[xI,C8]
 rw[e];have c:cY z (0*sz) sz v=some v.s:=by
  unfold cY;simp only[eD,a,Nat.zero_mul,D8,rV,mT,xI,List.take_zero,E8];rw[bC.2 rfl,rF.2 (by omega)];simp only[Bool.and_self,xE];rw[<- b,List.drop_length,C8]
 grind [mN,mA]
def oq{T n:Nat}{L:List oF}    (o:C.b.c T=some y)(f:y.a.a=some el)(q:C.b.c el=some z)(p:z.b=sz)(s:wB z.c=sz)(A:n*sz<1000000)
  (a:mN (λi=>some (i*sz,sz)) ps (mJ z.c n)=some cl.flatten) (e:∀(i:Nat) cs,cl[i]?=some cs->cs.length=sz) (c:cl.length=n) (B:wD tf ds cl) (k:xB C.a tf t L) (g:t.c b=none) :
  ∃d t',sD C T n ps ⟨b,t⟩=some (.m b 0 n n,⟨b+1,t'⟩)/\zB tf d/\xB C.a d t' L/\bA d sz ds (.m b 0 n n):=by
 obtain⟨t',m,E,F,u⟩:=Nw o f q p s A a e c g;have l:=k.z g u;have j:=k.ak g;have w:t'.c b=some (.aa (G.ac cl.flatten) (wB cl.flatten) none):=by
  have:=m;unfold sD at this;rw[o,mA,f,mA,q,mA]at this;rw[qB,p,a,mA]at this;obtain⟨_,h⟩:=this;have h:=(Prod.mk.inj (D6 h)).2;have v:t.d b (.aa (G.ac cl.flatten) (wB cl.flatten) none)=t':=(sA.mk.inj h).2;rw[<- v,G.aa,A5 rfl]
 obtain⟨D,r⟩:=l.r (λx=>k.aa g x) w j;refine⟨_,t',m,r,D,cl,QV e (by rw[G.aa,A5 rfl]) (.inl rfl) c,wD.f r _ _ B⟩
end
def H7 (x:List Nat × Nat):D:=.f [.c x.1,.a .u8 (x.2:Int)]
theorem qx{t:G vA}{x:List Nat × Nat} (h:RD t (H7 x) cs):cs=[.h x.1,.e .u8 (x.2:Int)]:=by
 grind [H7,xK,kD,pG,xP,wP]
theorem zw{t:G vA}(x:List Nat × Nat):RD t (H7 x) [.h x.1,.e .u8 (x.2:Int)]:=by
 simp_all [H7,xK,kD,pG]
def eO (tf:G vA)(x:iA)(v:O):Prop:=∃cs,v=.i cs/\RD tf x.d cs
def ot (tf:G vA)(x:iF)(v:O):Prop:=∃cs,v=.i cs/\RD tf x.d cs
abbrev zE:List O:=[.e .u8 0,.h [],.e .u8 0,.d false,.g,.d false,.g,.e .i64 0,.g]
abbrev zV:List O:=[.e .u8 0,.d false,.g,.d false,.g,.e .i64 0]
abbrev cE(X:zH):List O:=[.e .u8 (X.i 0),.h (X.s 1),.e .u8 (X.i 2),.d (X.b 3),X.v 4,.d (X.b 5),X.v 6,.e .i64 (X.i 7),X.v 8]
abbrev cV(X:zH):List O:=[.e .u8 (X.i 0),.d (X.b 1),X.v 2,.d (X.b 3),X.v 4,.e .i64 (X.i 5)]
def Y3{tf:G vA}  (h:RD tf x.d cs):cE (AN cs)=cs:=by
 obtain⟨a,b,c,rfl,_⟩:=uJ h;rfl
def K9{tf:G vA}  (h:RD tf x.d cs):nK zE (.i cs)=some (AN cs):=kN h (iA.s _)
def zx{tf:G vA}{x:iF} (h:RD tf x.d cs):nK zV (.i cs)=some (AN cs):=kN h (iF.zs _)
def Oi{tf:G vA}  (h:RD tf x.d cs):cs.length=9:=by
 obtain⟨a,b,c,rfl,_⟩:=uJ h;rfl
section
variable {P:wK}{tf t:G vA}{n d:Nat}{Q E:lB}{J:yG}
def St.ac{T k:Nat}    (h:St P tf t n d)(q:Y.b.c T=some y)(j:y.a.a=some el)(w:Y.b.c el=some z)(v:z.b=sz)(l:wB z.c=sz)(s:k*sz<1000000)
  (c:mN (λi=>some (i*sz,sz)) ps (mJ z.c k)=some cl.flatten) (g:∀(i:Nat) cs,cl[i]?=some cs->cs.length=sz) (e:cl.length=k) (u:wD tf ds cl) (r:t.c b=none) :
  ∃a t',sD Y T k ps ⟨b,t⟩=some (.m b 0 k k,⟨b+1,t'⟩)/\zB tf a/\St P a t' n d/\bA a sz ds (.m b 0 k k):=by
 obtain⟨a,t',m,f,o,p⟩:=oq q j w v l s c g e u h.g r;exact⟨a,t',m,f,⟨h.p.a f,o,h.f,h.m,h.a,h.e.a f⟩,p⟩
theorem Kl  (h:c.length=sz):∀(i:Nat) cs,[c][i]?=some cs->cs.length=sz:=by
 grind
theorem zo0 {c':List O}(h:c.length=sz)(b:c'.length=sz):∀(i:Nat) cs,[c,c'][i]?=some cs->cs.length=sz:=by
 intro i cs a;match i,a with
 | 0,a=>simp_all
 | 1,a=>simp_all
def lR {X c:T}(h:St P tf t n d)(e:By P.a w n=true->∀t',St P tf t' (n+1) d->lA Y.a (pF Y F eC aF E) J X t' Q)(f:By P.a w n=false->∀t',St P tf t' n d->lA Y.a (pF Y F eC aF E) J c t' Q) :
  lA Y.a (pF Y F eC aF E) J (.c 78 [.j P.b 0,.h w] λa=>.q a λb=>.a b X c) t Q:=by
 refine aA ?_;rw[pW 78];grind [Ip,iC,tA,vB]
def QP  (f:bA tf 1 [D.c w] v)(h:St P tf t n d)(a:Ok P rdU d tf (gE P.a w n) Q E):cK Y F E 95 [.j P.b 0,v] t Q:=by
 refine w95 ?_;unfold t95 uI V;refine uA f.c (sB (qC (j95_2 ?_)));unfold zl uB uS tC V;obtain⟨b,o,cs,g,j,_,_,k⟩:=oc.at (λ_=>rfl) (f.a h.g.b) (i:=0) rfl;have e:cs=[.h w]:=xP.1 k;subst e;refine tA (by simp[zD]) (uA g (fB j (jC (aA ?_))));rw[pW 78];refine Ip h λm c=>iC ?_;unfold gE at a
 cases l:By P.a w n with
 | true=>
  rw[l]at c a;refine vB (by simp) (qC (j95_2 ?_));unfold zl uB uS tC V;have:(cA .i64 (0+1))=1:=by decide
  rw[this];exact vB (by simp[zD]) (Ok.j a c rfl)
 | false=>
  grind [tA,aA,Ok.l]
def Ez{p:Type}{rd:G vA->p->O->Prop} {f:Unit->Nat->PR p}{K:O->T}{m:lB}(h:St P tf t n d)(x:Ok P rd d tf ((gE P.a w n).c f) m E)
  (k:∀e c t1,zB tf c->St P c t1 e d->Ok P rd d c (f () e) m E->lA Y.a (pF Y F eC aF E) J (K (.p [])) t1 Q) :
  lA Y.a (pF Y F eC aF E) J (.h (sD Y 62 1 [(0,.h w)]) λa=>.c 95 [.j P.b 0,a] K) t Q:=by
 refine kC λb u _=>?_;obtain⟨c,t1,q,o,r,s⟩:=h.ac (k:=1) (sz:=1) (ds:=[D.c w]) (cl:=[[.h w]]) S6 rfl iI rfl rfl (by omega) (Oh (sz:=1) (z:=[.h []]) (v:=.h w) rfl rfl) (Kl rfl) rfl (kD.2 ⟨_,_,rfl,xP.2 rfl,pG.2 rfl⟩) u;refine⟨_,_,q,aA ?_⟩;rw[pE 95];exact QP s r ((x.g o).c λa e l A v B y j i g=>by cases i;exact k e l A (o.d y) j g)
def CZ  (m:bA tf 2 (l.map H7) v)(z:l.length<1000)(h:St P tf t n d)
  (a:∀t',match dO P.a l n with | none=>St P tf t' n d->Q (.p [.e .u8 0,.d false]) t' | some op=>St P tf t' (n+1) d->Q (.p [.e .u8 (op:Int),.d true]) t'):Wc Y F 128 [.j P.b 0,v] t Q:=by
 have g:∀(k i:Nat) (t:G vA),i+k=l.length->St P tf t n d->(∀t',match dO P.a (l.drop i) n with | none=>St P tf t' n d->Q (.p [.e .u8 0,.d false]) t' | some op=>St P tf t' (n+1) d->Q (.p [.e .u8 (op:Int),.d true]) t') →
   jp 128 2 [.j P.b 0,v,.e .i64 (l.length:Int),.e .i64 (i:Int)] t Q:=by
  intro k;induction k with
  | zero=>
   intro i t x h a;refine zq7 ?_;unfold xm;have e:l.drop i=[]:=E3 (by omega);rw[e]at a;exact vB (by grind [zD]) (a t h)
  | succ k y=>
   intro i t x h a;refine zq7 ?_;unfold xm uB uG;have A:l[i]?=some l[i]:=C6 (by omega);have w:(l.map H7)[i]?=some (H7 l[i]):=by grind
   obtain⟨b,o,cs,r,s,_,_,u⟩:=pz.at (λh=>by cases h) (m.a h.g.b) w;have e:=qx u;subst e;rw[G0 (by omega:i<l.length)]at a;unfold dO at a;rw[List.find?_cons]at a;refine tA (by grind [zD]) (uA r (fB s (aC (X:=AN [.h l[i].1,.e .u8 (l[i].2:Int)]) (kQ rfl) (tA rfl ?_))));refine aA ?_;rw[q78];refine Ip h λt' f=>iC ?_;have p:(AN [.h l[i].1,.e .u8 (l[i].2:Int)]).s 0=l[i].1:=rfl;have q:(AN [.h l[i].1,.e .u8 (l[i].2:Int)]).i 1=(l[i].2:Int):=rfl
   rw[p]at f ⊢
   cases j:By P.a l[i].1 n with
   | true=>
    rw[j]at f a;refine tA rfl ?_;rw[q];exact a t' f
   | false=>
    rw[j]at f a;refine vB (by simp) (qC ?_);have:tC (i:Int)=.e .i64 ((i+1:Nat):Int):=by
     grind [A2]
    rw[this];exact y (i+1) t' (by omega) f a
 refine w128 ?_;unfold t128;have c:=m.c;rw[C4]at c;exact uA c (sB (qC (g l.length 0 t (by omega) h (by simp_all))))
def dJ(P:wK)(d:Nat)(o:PM iA)(g:Nat):Prop:=∀(tf t:G vA) (n:Nat) (Q E:lB),St P tf t n d->Ok P eO d tf (o n) Q E->cK Y F E g [.j P.b 0] t Q
def Up {c:Type}(o:PM c):Prop:=∀n a b,o n=.ok a b->n<=b
theorem ztp  (h:dO P.a l n=some op):n<P.a.length:=by
 unfold dO at h
 cases a:l.find? λo=>By P.a o.1 n with
 | none=>simp_all
 | some x=>grind [By]
def Zr{tf:G vA} {y:iA} (h:bA tf 9 [x.d,y.d] v):RD tf (Cs op x y).d [.e .u8 (op:Int),.h [],.e .u8 0,.d false,.g,.d false,.g,.e .i64 0,v]:=by
 unfold Cs;exact Ns (v:=oX) wS wS h
def Y4{tf:G vA}    (h:bA tf 9 [x.d] v):RD tf (M1 op w x).d [.e .u8 (op:Int),.h w,.e .u8 0,.d false,.g,.d false,.g,.e .i64 0,v]:=by
 unfold M1;exact Ns (v:=oX) wS wS h
theorem zy (h:O.z v=true){a:O}(b:O.z a=true):oD O.z [a,v]=true:=by
 grind [gI]
def St.ap {y:iA}{c:List O}(h:St P tf t n d)(e:RD tf x.d j)(f:RD tf y.d c)(g:t.c b=none) :
  ∃a t',sD Y 29 2 [(0,.i j),(1,.i c)] ⟨b,t⟩=some (.m b 0 2 2,⟨b+1,t'⟩)/\zB tf a/\St P a t' n d/\bA a 9 [x.d,y.d] (.m b 0 2 2):=
 h.ac (ds:=[x.d,y.d]) (cl:=[j,c]) S3 rfl N9 rfl rfl (by omega) (QE rfl (Oi e) (Oi f)) (zo0 (Oi e) (Oi f)) rfl (kD.2 ⟨_,_,rfl,e,kD.2 ⟨_,_,rfl,f,pG.2 rfl⟩⟩) g
def St.ah   (h:St P tf t n d)(c:RD tf x.d j)(e:t.c b=none) :
  ∃a t',sD Y 29 1 [(0,.i j)] ⟨b,t⟩=some (.m b 0 1 1,⟨b+1,t'⟩)/\zB tf a/\St P a t' n d/\bA a 9 [x.d] (.m b 0 1 1):=by
 have f:mN (λi=>some (i*9,9)) [(0,.i j)] (mJ zE 1)=some [j].flatten:=by
  rw[Oh (sz:=9) (z:=zE) (v:=.i j) rfl (Oi c)];show some j=_;simp
 exact h.ac (k:=1) (sz:=9) (ds:=[x.d]) (cl:=[j]) (ps:=[(0,.i j)]) S3 rfl N9 rfl rfl (by omega) f (Kl (Oi c)) rfl (kD.2 ⟨_,_,rfl,c,pG.2 rfl⟩) e
def zjk (a:Nat.blt g pn=true)  : mM (.q (.aa g) [v] []) []=some (g,[v]):=by
 unfold mM;simp only[O.am,mA,a,xE];rfl
def zby{o:PM iA}   (S:dJ P d o g)(z:Up o)(K:Nat.blt g pn=true)(T:(eC g&&Nat.blt g yo)=false)(U:Nat.beq g pn=false)(W:(aF g&&Nat.blt g pn)=true)(D:l.length<1000) :
  ∀(m n:Nat) (x:iA) (cs:List O) (tf t:G vA) (Q E:lB),P.a.length-n<=m->St P tf t n d->bA tf 2 (l.map H7) v->RD tf x.d cs->Ok P eO d tf (dV P.a o l m x n) Q E->rI E 66 2 ([.j P.b 0,.q (.aa g) [.j P.b 0] [],v]++zE++cs) t Q:=by
 intro m;induction m with
 | zero=>
  intro n x cs tf t Q E L h q f i;obtain⟨a,b,c,rfl,_⟩:=uJ f;refine j66_2 ?_;unfold zk uU uB uG aB uX V uY jH bF;refine aA ?_;rw[pW 128];have M:dO P.a l n=none:=by
   cases f:dO P.a l n with
   | none=>rfl
   | some op=>have:=ztp f;omega
  refine CZ q D h λB=>?_;rw[M];intro j;refine uA rfl (sB (uA rfl (iC (tA rfl (tA f.e ?_)))));exact Ok.j i j ⟨_,rfl,f⟩
 | succ m Z=>
  intro n x cs tf t Q E L h q f i;obtain⟨a,b,c,rfl,_⟩:=uJ f;refine j66_2 ?_;unfold zk uU uB uG aB uX V uY jH bF;refine aA ?_;rw[pW 128];refine CZ q D h λB=>?_;unfold dV at i
  cases p:dO P.a l n with
  | none=>
   rw[p]at i;intro j;refine uA rfl (sB (uA rfl (iC (tA rfl (tA f.e ?_)))));exact Ok.j i j ⟨_,rfl,f⟩
  | some op=>
   rw[p]at i;intro j;refine uA rfl (sB (uA rfl (iC (vB (by simp) (nZ (zjk K) ?_)))));have e:∀a R,pF Y F eC aF E g a B R=cK Y F E g a B R:=λa R=>by grind [pF]
   rw[e];refine S _ _ _ _ _ j (i.c λy n1 a1 t1 vy X k w u s=>?_);obtain⟨cy,rfl,r⟩:=u;have N:=z _ _ _ X;obtain⟨a',b',c',rfl,_⟩:=uJ r;refine aC (K9 r) (tA r.e (kC λb J _=>?_));have A:=RD.f k _ _ f;obtain⟨C,t2,k1,H,k3,I⟩:=w.ap A r J;refine⟨_,_,k1,?_⟩;refine tA (zy rfl rfl) (tA (Zr I).e (qC ?_));exact Z n1 (Cs op x y) _ C t2 Q E (by omega) k3 (q.a (k.d H)) (Zr I) (s.g H)
end
end Go.Proofs
namespace Go.Proofs
open Go Go.Am
section
variable {l:List (List Nat × Nat)}{v:O}{b op op':Nat}{w w':List Nat}
variable [fC]
def PR.j{d g:Type}{r:PR d}{f:d->Nat->PR g}{b:g}{n:Nat}(h:r.c f=.ok b n):∃a c,r=.ok a c/\f a c=.ok b n:=by
 cases r with
 | ok a c=>exact⟨a,c,rfl,h⟩
 | er e i=>cases h
section
variable {tk:List xD}{o:PM iA}
theorem zjg(h:Up o)  : ∀(m:Nat) (x:iA) (n:Nat) (y:iA) (n':Nat),dV tk o l m x n=.ok y n'->n<=n':=by
 intro m;induction m with
 | zero=>intro x n y n' b;cases b;omega
 | succ m f=>
  intro x n y n' b;unfold dV at b
  cases c:dO tk l n with
  | none=>simp_all
  | some op=>
   rw[c]at b;obtain⟨a,g,d,e⟩:=PR.j b;have:=h _ _ _ d
   grind
def Ug(h:Up o)  : Up (sU tk o l):=by
 intro n a e d;obtain⟨x,f,b,c⟩:=PR.j d;have:=h _ _ _ b;have:=zjg h _ _ _ _ _ c;omega
theorem zob(h:Up o):Up (aY tk o):=by
 intro n a k g;obtain⟨x,i,e,c⟩:=PR.j g;have d:Up (Di tk o):=Ug (Ug h);have:=d _ _ _ e
 cases b:dO tk [([60],13),([61],14)] i with
 | none=>simp_all
 | some op=>
  rw[b]at c;obtain⟨y,l,f,j⟩:=PR.j c;have:=d _ _ _ f
  grind
theorem MF(h:Up o):Up (iW tk o):=by
 intro n a e c;obtain⟨x,f,b,d⟩:=PR.j c;have:=zob h _ _ _ b
 grind
def RV(h:Up o):Up (Uf tk o):=Ug (MF h)
def QN(h:Up o):Up (yU tk o):=Ug (RV h)
end
section
variable {P:wK}{tf t:G vA}{n d:Nat}{Q E:lB}{J:yG}{o:PM iA}{g:Nat}
def zz{W:yG}{x:iA} (d:eO tf x v)(k:Q v t):lA Y.a W J (.o zE v λX=>.a (oD O.z (cE X)) (.l (.i (cE X))) .g) t Q:=by
 obtain⟨f,rfl,e⟩:=d;obtain⟨a,b,c,rfl,_⟩:=uJ e;exact aC (K9 e) (tA e.e k)
def SG  (z:dJ P d o g)(s:Up o)(B:l.length<1000)(h:St P tf t n d)(C:bA tf 2 (l.map H7) v)(A:Ok P eO d tf (sU P.a o l n) Q E)
  (y:Nat.blt g pn=true:=by kernel_rfl) (k:(eC g&&Nat.blt g yo)=false:=by kernel_rfl) (m:Nat.beq g pn=false:=by kernel_rfl) (p:(aF g&&Nat.blt g pn)=true:=by kernel_rfl):cK Y F E 66 [.j P.b 0,.q (.aa g) [.j P.b 0] [],v] t Q:=by
 refine w66 ?_;unfold t66 uG aB V uY jH;refine nZ (zjk y) ?_;have e:∀a R,pF Y F eC aF E g a t R=cK Y F E g a t R:=λa R=>by grind [pF]
 rw[e];refine z _ _ _ _ _ h (A.c λx D w H K J j r q i=>?_);obtain⟨I,rfl,f⟩:=q;have u:=f;obtain⟨a,b,c,rfl,_⟩:=uJ f;refine aC (K9 f) (tA f.e (qC ?_));exact zby z s y k m p B P.a.length D x _ w H Q E (Nat.sub_le _ _) r (C.a j) u i
def St.ay   (h:St P tf t n d)(c:t.c b=none) :
  ∃a t',sD Y 201 1 [(0,.i [.h w,.e .u8 (op:Int)])] ⟨b,t⟩=some (.m b 0 1 1,⟨b+1,t'⟩)/\zB tf a/\St P a t' n d/\bA a 2 ([(w,op)].map H7) (.m b 0 1 1):=by
 have e:mN (λi=>some (i*2,2)) [(0,.i [.h w,.e .u8 (op:Int)])] (mJ [.h [],.e .u8 0] 1)=some [[O.h w,.e .u8 (op:Int)]].flatten:=by
  rw[Oh (sz:=2) (z:=[.h [],.e .u8 0]) (v:=.i [.h w,.e .u8 (op:Int)]) rfl rfl];rfl
 exact h.ac (k:=1) (sz:=2) (ds:=[H7 (w,op)]) (cl:=[[.h w,.e .u8 (op:Int)]]) yx rfl yu rfl rfl (by omega) e (Kl rfl) rfl (kD.2 ⟨_,_,rfl,zw (w,op),pG.2 rfl⟩) c
def St.au   (h:St P tf t n d)(c:t.c b=none) :
  ∃a t',sD Y 201 2 [(0,.i [.h w,.e .u8 (op:Int)]),(1,.i [.h w',.e .u8 (op':Int)])] ⟨b,t⟩=some (.m b 0 2 2,⟨b+1,t'⟩)/\zB tf a/\St P a t' n d/\bA a 2 ([(w,op),(w',op')].map H7) (.m b 0 2 2):=
 h.ac (k:=2) (sz:=2) (ds:=[H7 (w,op),H7 (w',op')]) (cl:=[[.h w,.e .u8 (op:Int)],[.h w',.e .u8 (op':Int)]]) yx rfl yu rfl rfl (by omega) (QE rfl rfl rfl) (zo0 rfl rfl) rfl (kD.2 ⟨_,_,rfl,zw (w,op),kD.2 ⟨_,_,rfl,zw (w',op'),pG.2 rfl⟩⟩) c
def zrm  (B:dJ P d o g)(l:Up o)(h:St P tf t n d)(c:Ok P eO d tf (sU P.a o [(w,op),(w',op')] n) Q E)
  (A:Nat.blt g pn=true:=by kernel_rfl) (f:(eC g&&Nat.blt g yo)=false:=by kernel_rfl) (j:Nat.beq g pn=false:=by kernel_rfl) (k:(aF g&&Nat.blt g pn)=true:=by kernel_rfl) :
  lA Y.a (pF Y F eC aF E) J (.h (sD Y 201 2 [(0,.i [.h w,.e .u8 (op:Int)]),(1,.i [.h w',.e .u8 (op':Int)])]) λa=>.c 66 [.j P.b 0,.q (.aa g) [.j P.b 0] [],a] λv=>.o zE v λX=>.a (oD O.z (cE X)) (.l (.i (cE X))) .g) t Q:=by
 refine kC λb z _=>?_;obtain⟨I,L,q,s,u,y⟩:=h.au (w:=w) (w':=w') (op:=op) (op':=op') z;refine⟨_,_,q,aA ?_⟩;rw[pE 66];refine SG B l (by simp) u y ?_ A f j k;have c:=c.g s;revert c;generalize sU P.a o [(w,op),(w',op')] n=r;intro c
 cases r with
 | ok x K=>exact λm H v C D p=>zz p (c m H v C D p)
 | er e i=>exact c
def zrn  (B:dJ P d o g)(l:Up o)(h:St P tf t n d)(c:Ok P eO d tf (sU P.a o [(w,op)] n) Q E)
  (A:Nat.blt g pn=true:=by kernel_rfl) (f:(eC g&&Nat.blt g yo)=false:=by kernel_rfl) (j:Nat.beq g pn=false:=by kernel_rfl) (k:(aF g&&Nat.blt g pn)=true:=by kernel_rfl) :
  lA Y.a (pF Y F eC aF E) J (.h (sD Y 201 1 [(0,.i [.h w,.e .u8 (op:Int)])]) λa=>.c 66 [.j P.b 0,.q (.aa g) [.j P.b 0] [],a] λv=>.o zE v λX=>.a (oD O.z (cE X)) (.l (.i (cE X))) .g) t Q:=by
 refine kC λb z _=>?_;obtain⟨I,L,q,s,u,y⟩:=h.ay (w:=w) (op:=op) z;refine⟨_,_,q,aA ?_⟩;rw[pE 66];refine SG B l (by simp) u y ?_ A f j k;have c:=c.g s;revert c;generalize sU P.a o [(w,op)] n=r;intro c
 cases r with
 | ok x K=>exact λm H v C D p=>zz p (c m H v C D p)
 | er e i=>exact c
def zth(c:dJ P d o 287)(a:Up o):dJ P d (ua P.a o) 266:=λtf t n Q E h b=>by
 refine w266 ?_;unfold t266 uG aB V uY jH bF;exact tA rfl (tA rfl (zrm c a h b))
def zpq(c:dJ P d o 287)(a:Up o):dJ P d (Di P.a o) 231:=λtf t n Q E h b=>by
 refine w231 ?_;unfold t231 uG aB V uY jH bF;exact tA rfl (tA rfl (zrm (zth c a) (Ug a) h b))
def zv2(B:dJ P d o 287)(l:Up o):dJ P d (aY P.a o) 181:=λtf t n Q E h F=>by
 refine w181 ?_;unfold t181 uU uB uG aB uX V uY jH bF;refine aA ?_;rw[pE 231];refine zpq B l _ _ _ _ _ h (F.c λx S T t1 v hr H z u e=>?_);obtain⟨cs,rfl,f⟩:=u;obtain⟨a,b,c,rfl,_⟩:=uJ f;refine aC (K9 f) (tA f.e (tA rfl (tA rfl (kC λb r _=>?_))));obtain⟨U,t2,J,p,K,L⟩:=z.au (w:=[60]) (op:=13) (w':=[61]) (op':=14) r;refine⟨_,_,J,aA ?_⟩;rw[pW 128];refine CZ L (by simp) K λt3=>?_
 cases i:dO P.a [([60],13),([61],14)] S with
 | none=>
  rw[i]at e;intro q;have A:=RD.f p _ _ f;exact uA rfl (sB (uA rfl (iC (tA rfl (tA f.e (Ok.j (e.g p) q ⟨_,rfl,A⟩))))))
 | some op=>
  rw[i]at e;intro q;refine uA rfl (sB (uA rfl (iC (vB (by simp) (aA ?_)))));rw[pE 231];refine zpq B l _ _ _ _ _ q ((e.g p).c λy n2 W t4 v I g k j s=>?_);obtain⟨D,rfl,m⟩:=j;obtain⟨Z,b',c',rfl,_⟩:=uJ m;refine aC (K9 m) (tA m.e (kC λb r _=>?_));obtain⟨X,t5,M,N,R,C⟩:=k.ap (RD.f (p.d g) _ _ f) m r;exact⟨_,_,M,tA (zy rfl rfl) (tA (Zr C).e (Ok.j (s.g N) R ⟨_,rfl,Zr C⟩))⟩
def zch{k:Nat}{Q:lB}{P:wK}{n d:Nat}:∀(k:Nat) (x:iA) (cs:List O) (tf t:G vA),k<1000000000->St P tf t n d->RD tf x.d cs->Ok P eO d tf (.ok (Jb k x) n) Q E->rI E 129 6 ([.e .i64 (k:Int)]++zE++cs) t Q:=by
 intro k;induction k with
 | zero=>
  intro x cs tf t _ h f g;obtain⟨a,b,c,rfl,_⟩:=uJ f;refine zq5 ?_;unfold zn aB V uY uW;exact vB (by simp[zD]) (tA f.e (Ok.j g h ⟨_,rfl,f⟩))
 | succ k s=>
  intro x cs tf t r h f g;obtain⟨a,b,c,rfl,_⟩:=uJ f;refine zq5 ?_;unfold zn aB V uY uW;refine tA (by grind [zD]) (kC λb q _=>?_);obtain⟨i,u,l,m,o,p⟩:=h.ah f q;have j:=Y4 (op:=17) (w:=[]) p;refine⟨_,_,l,tA (zy rfl rfl) (tA j.e (qC ?_))⟩;have e:cA .i64 (((k+1:Nat):Int)-1)=(k:Int):=by grind [A2]
  rw[e];exact s (M1 17 [] x) _ i u (by omega) o j (g.g m)
def DG{tk:List xD}:∀(m a n:Nat),tk.length<=n+m->tk.length<=n+a->sM tk m n=sM tk a n:=by
 have z:∀m n,tk.length<=n->sM tk m n=0:=by
  intro m n h
  cases m with
  | zero=>rfl
  | succ m=>
   unfold sM;rw[A3];intro d;have:=AA (P:=⟨tk,0,.y,0,0,[]⟩) d
   grind
 intro m;induction m with
 | zero=>intro a n b c;rw[z 0 n (by omega),z a n (by omega)]
 | succ m e=>
  intro a n b c
  cases a with
  | zero=>rw[z (m+1) n (by omega),z 0 n (by omega)]
  | succ a=>
   grind [sM]
def ztw(H:dJ P d o 287)(y:Up o):dJ P d (iW P.a o) 129:=λtf t n Q E h p=>by
 refine w129 ?_;unfold t129 V uY;refine qC ?_;have l:∀(m i n:Nat) (t:G vA),sM P.a P.a.length n=m->i<=n->St P tf t n d->Ok P eO d tf ((aY P.a o (n+m)).c λx J=>.ok (Jb (i+m) x) J) Q E->rI E 129 2 ([.j P.b 0,.e .i64 (i:Int)]++zE) t Q:=by
  intro m;induction m with
  | zero=>
   intro i n t g B h p;refine zq6 ?_;unfold zm uB uG aB tC V uY jH;have C:=h.f;refine lR h (λf r j=>?_) λf r j=>?_
   .have:n<P.a.length:=AA f;rw[DG _ (P.a.length+1) _ (by omega) (by omega)]at g
    grind [sM]
   .refine aA ?_;rw[pE 181];refine zv2 H y _ _ _ _ _ j (p.c λx N A K v M D w u s=>?_);obtain⟨L,rfl,q⟩:=u;have z:=q;obtain⟨a,b,c,rfl,_⟩:=uJ q;refine aC (K9 q) (tA q.e (qC ?_));exact zch (k:=0) i x _ A K (by have:=h.m;omega) w z s
  | succ m I=>
   intro i n t g B h p;refine zq6 ?_;unfold zm uB uG aB tC V uY jH;have C:=h.f;refine lR h (λf r j=>?_) λf r j=>?_
   .have F:n<P.a.length:=AA f;rw[DG _ (P.a.length+1) _ (by omega) (by omega)]at g;unfold sM at g;rw[A5 f]at g;have e:cA .i64 ((i:Int)+1)=((i+1:Nat):Int):=by grind [A2]
    refine qC ?_;rw[e];exact I (i+1) (n+1) r (by omega) (by omega) j (by rwa [show n+1+m=n+(m+1) by omega,show i+1+m=i+(m+1) by omega])
   .rw[DG _ (P.a.length+1) _ (by omega) (by omega)]at g
    grind [sM]
 exact l _ 0 n t rfl (by omega) h (by rw[D8];exact p)
def zvz(c:dJ P d o 287)(a:Up o):dJ P d (Uf P.a o) 67:=λtf t n Q E h b=>by
 refine w67 ?_;unfold t67 uG aB V uY jH bF;exact tA rfl (zrn (ztw c a) (MF a) h b)
def FF(c:dJ P d o 287)(a:Up o):dJ P d (yU P.a o) 31:=λtf t n Q E h b=>by
 refine w31 ?_;unfold t31 uG aB V uY jH bF;exact tA rfl (zrn (zvz c a) (RV a) h b)
end
end
section
variable {i k:Nat}{f:Nat->List Nat}
variable [fC]
structure Iu:Prop where
 aa:∀ {s:List Nat} {neg:Bool} {tf t:G vA} {L:List oF} {Q:lB},Bx s->xB Y.a tf t L->(∀tf' t' cs,zB tf tf'->xB Y.a tf' t' L->RD tf' (kP s neg).b cs->Q (.i cs) t')->Wc Y F 80 [.h s,.d neg] t Q
 ah:∀ {s:List Nat} {neg:Bool} {lo hi:Int} {t:G vA},Bx s->sK s=false -> -4294967296<=lo->hi<=4294967296->∃i:Int,oB Y F 144 [.h s,.d neg,.e .i64 lo,.e .i64 hi] t=some (.p [.e .i64 i,.d (nP s neg lo hi).isSome])/\∀j,nP s neg lo hi=some j->i=j
 ac:∀ {s:List Nat} {t:G vA},bK t->Zh s->oB Y F 138 [.h s] t=some (.p [.e .i64 (((tX s).getD 0:Nat):Int),.e .i64 0])
theorem RO:∀s:List Nat,Fh [47] s=sK s:=by
 intro s;unfold sK;induction s with
 | nil=>rfl
 | cons b s a=>
  unfold Fh;rw[a,List.contains_cons];have e:Ak [47] (b::s)=(47 == b):=by
   grind [Ak,bC]
  rw[e];cases (47 == b)<;>rfl
theorem Vr{tk:List xD}{n b:Nat}{a:List Nat}(h:wM tk k n=.ok a b):kL tk k n=true/\a=fN tk n/\b=n+1:=by
 grind [wM]
section
variable {P:wK}{tf t:G vA}{n d:Nat}{Q E:lB}{J:yG}{o:PM iA}
def St.at(h:St P tf t n d) (a:kL P.a k i=true):∃x∈P.a,x.b=k/\x.a=fN P.a i:=by
 grind [kL,fN]
def St.ak(h:St P tf t n d) (e:kL P.a 2 i=true):Bx (fN P.a i):=by
 obtain⟨x,a,b,c⟩:=h.at e;rw[<- c];exact(h.a x a).1 b
def St.az(h:St P tf t n d) (e:kL P.a 3 i=true):Zh (fN P.a i):=by
 obtain⟨x,a,b,c⟩:=h.at e;rw[<- c];exact(h.a x a).2 b
def Ud(l:Iu)(h:St P tf t n d)(m:Ok P Y0 d tf (nR P.a n) Q E):cK Y F E 79 [.j P.b 0] t Q:=by
 refine w79 ?_;unfold t79 uI uG uX V uY;refine aA ?_;rw[pE 68];refine Jw (k:=3) (by omega) h (m.c λa r q s v p o b f c=>?_);obtain⟨x,_,e,rfl⟩:=f;obtain⟨i,j,_⟩:=Vr p;have g:=h.az i;rw[<- j]at g;refine aC (H6 _) (aA ?_);rw[pQ 138,ue,e,l.ac (b.e.a b.g.b) g,xA];exact uA rfl (sB (uA rfl (sB (Ok.j c b rfl))))
def zci{ty b:Nat} (a:Y.b.c ty=some ⟨.q 7 9,7,112,[.h [],.h [],.h [],.h [],.h [],.h [],.h []],true⟩)(h:At t b 0 ((List.range 7).map λi=>.h (f i))) (hi:i<7) :
  zC Y ty (.j b 0) (.e .u8 (i:Int))=some (.j b (0+i))/\oA Y 9 ⟨0,t⟩ (.j b (0+i))=some (.h (f i)):=by
 refine⟨?_,h.d iI rfl ?_⟩
 .unfold zC;rw[a,mA];have e:(O.e .u8 (i:Int)).aj=some i:=rfl;rw[e,mA];simp only[O.u];simp only[O.ah,lE.g,mA];rw[iI,mA,gC.2 hi,xE,Nat.mul_one]
 simp_all
def ztz(d:bK t) (hi:i<256):oB Y F 170 [.e .u8 (i:Int)] t=some (.h (uO i)):=by
 refine mC.2 (w170 ?_);unfold t170 uS;have e:cA .i64 (i:Int)=(i:Int):=A2 (by omega) (by omega);by_cases a:i<7
 .obtain⟨b,c⟩:=zci yy d.2.1 a;exact tA (by grind [zD]) (uA b (fB c (jC ⟨rfl,rfl⟩)))
 .refine vB (by grind [zD]) ⟨?_,rfl⟩;have:uO i=[]:=by
   match i,a with
   | i+7,_=>rfl
  rw[this]
def zg9(d:bK t) (hi:i<256):oB Y F 84 [.e .u8 (i:Int)] t=some (.h (oG i)):=by
 refine mC.2 (w84 ?_);unfold t84 uS;have e:cA .i64 (i:Int)=(i:Int):=A2 (by omega) (by omega);by_cases a:i<7
 .obtain⟨b,c⟩:=zci yy d.1 a;exact tA (by grind [zD]) (uA b (fB c (jC ⟨rfl,rfl⟩)))
 .refine vB (by grind [zD]) ⟨?_,rfl⟩;have:oG i=[]:=by
   match i,a with
   | i+7,_=>rfl
  rw[this]
def SC {g most:Nat}(l:∀(t:G vA),bK t->∀i:Nat,i<256->oB Y F g [.e .u8 (i:Int)] t=some (.h (f i)))(m:Nat.blt g pn=true)(p:(eC g&&Nat.blt g yo)=true)(r:most<200)(h:St P tf t n d)(a:Ok P om d tf (oK P.a f most most 1 n) Q E):cK Y F E 201 [.j P.b 0,.e .u8 1,.e .u8 (most:Int),.q (.aa g) [] []] t Q:=by
 refine w201 ?_;unfold t201 uY;refine qC ?_;have j:∀(k i:Nat) (t:G vA),i+k=most+1->St P tf t n d->Ok P om d tf (oK P.a f most k i n) Q E->rI E 201 2 [.j P.b 0,.e .u8 (most:Int),.q (.aa g) [] [],.e .u8 (i:Int)] t Q:=by
  intro k;induction k with
  | zero=>
   intro i t o h a;refine zqt ?_;unfold zo uB uS V uY;exact vB (by grind [eT]) (aA (Ok.l h a))
  | succ k s=>
   intro i t o h a;refine zqt ?_;unfold zo uB uS V uY;unfold oK at a;rw[A3 (by omega)]at a;have e:mM (.q (.aa g) [] []) [.e .u8 (i:Int)]=some (g,[.e .u8 (i:Int)]):=by
    unfold mM;simp only[O.am,mA,m,xE];rfl
   refine tA (by grind [eT]) (nZ e ?_);unfold pF;rw[A5 p,l t (h.e.a h.g.b) i (by omega),xA];refine jC (lR h (λc q b=>?_) λc q b=>?_)
   .rw[c]at a;exact Ok.j a b rfl
   grind [Md,qC]
 grind
end
end
section
variable {neg:Bool}
variable [fC]
def Qj{t:G vA}{k:Nat}{i:Int}:RD t (iF.d ⟨k,aK,i⟩) [.e .u8 (k:Int),.d false,.g,.d false,.g,.e .i64 i]:=Sg (x:=⟨k,aK,i⟩) wS wS
def ES{t:G vA}{f:qF}{cs:List O}(h:RD t f.b cs):∃u v,cs=[.d f.n.b,u,.d f.d.b,v]/\nK [.d false,.g,.d false,.g] (.i cs)=some (AN cs)/\∀(k:Nat) (i:Int),RD t (iF.d ⟨k,f,i⟩) [.e .u8 (k:Int),.d f.n.b,u,.d f.d.b,v,.e .i64 i]:=by
 obtain⟨u,v,rfl,a,b⟩:=Go.Am.C2 h;exact⟨u,v,rfl,kN h (qF.zs _),λk i=>Sg (x:=⟨k,f,i⟩) a b⟩
section
variable {P:wK}{tf t:G vA}{n d:Nat}{Q E:lB}{J:yG}{o:PM iA}
def ER{K:O->T}{s:List Nat} (c:Iu)(h:St P tf t n d)(e:Bx s)(k:∀a t' cs,zB tf a->St P a t' n d->RD a (kP s neg).b cs->lA Y.a (pF Y F eC aF E) J (K (.i cs)) t' Q) :
  lA Y.a (pF Y F eC aF E) J (.c 80 [.h s,.d neg] K) t Q:=by
 refine aA ?_;rw[pW 80];exact c.aa e h.g λa t' cs b f g=>k a t' cs b ⟨h.p.a b,f,h.f,h.m,h.a,h.e.a b⟩ g
def zlw(H:Iu) (h:St P tf t n d)(L:Ok P ot d tf (zY P.a neg n) Q E):cK Y F E 81 [.j P.b 0,.d neg] t Q:=by
 refine w81 ?_;unfold t81 uI uB uG aB sC V uY;refine uA nl (uA f1 (fB h.l1 (sB (aA ?_))));rw[pE 68];unfold zY at L;refine Jw (k:=2) (by omega) h (L.c λa r w t1 v U S o B m=>?_);obtain⟨x,_,e,rfl⟩:=B;obtain⟨M,N,g3⟩:=Vr U;have y:=h.ak M;rw[<- N]at y;have T:=h.m;subst e;refine aC (H6 _) (tA rfl (uA nl (uA f1 (fB o.l1 (sB ?_)))))
 have g:∀(k:Nat) (l:G vA),St P w l (r+1) d->Ok P ot d w (if sK x.a then .er 120 r else match nP x.a neg (-1048576) 1048576 with
   | none=>.er 121 n
   | some i=>.ok ⟨k,aK,i⟩ (r+1)) Q E->rI E 81 21 [.j P.b 0,.d neg,.e .i64 (n:Int),.e .u8 (k:Int),.e .i64 (r:Int),.e .u8 0,.d false,.g,.d false,.g,.e .i64 0,.e .u8 (x.b:Int),.h x.a,.e .i64 (x.c:Int),.e .i64 (x.e:Int)] l Q:=by
  intro k l f c;refine j81_21 ?_;unfold zpb uB sC V uY;refine aA ?_;rw[pQ 143,GG (by have:=y.1;omega),xA,RO];refine iC ?_
  cases C:sK x.a with
  | true=>
   rw[C,A5 rfl]at c;refine tA rfl (uA nl (uA f1 (kC λb _ _=>?_)));obtain⟨z,p,q⟩:=f.r (n':=r) (by have:=f.m;omega);exact⟨_,_,p b,aA (Ok.l q c)⟩
  | false=>
   rw[C,A3 (by simp)]at c;refine vB (by simp) (qC (j81_27 ?_));unfold zpa zh uI uB sC uX V uY;obtain⟨i,hi,R⟩:=H.ah (s:=x.a) (neg:=neg) (lo := -1048576) (hi:=1048576) (t:=l) y C (by omega) (by omega);refine aA ?_;rw[pQ 144,hi,xA];refine uA rfl (sB (uA rfl (iC ?_)))
   cases D:nP x.a neg (-1048576) 1048576 with
   | none=>
    rw[D]at c;refine tA rfl (uA nl (uA f1 (kC λb _ _=>?_)));obtain⟨z,p,q⟩:=f.r (n':=n) (by omega);exact⟨_,_,p b,aA (Ok.l q c)⟩
   | some j=>
    rw[D]at c;have:=R j D;subst this;exact vB (by simp) (tA rfl (tA rfl (Ok.j c f ⟨_,rfl,Qj⟩)))
 refine lR o (λI l f=>?_) λI l f=>?_
 .refine qC (g 5 l f ?_)
  grind
 .refine lR f (λJ z A=>?_) λJ z A=>?_
  .refine qC (g 6 z A ?_)
   grind
  .rw[I,J]at m;refine ER H A y λZ t4 cs p q X=>?_;obtain⟨u,v,rfl,W,K⟩:=ES X;refine aC W (tA rfl (tA (K 2 0).e ?_));exact Ok.j (Ok.g m p) q ⟨_,rfl,K 2 0⟩
def ou (tf:G vA)(x:Option iF)(v:O):Prop:=match x with
 | some x=>∃a,v=.p [.i a,.d true]/\RD tf x.d a
 | none=>v=.p [.i zV,.d false]
def zn9(B:Iu)(h:St P tf t n d)(b:Ok P ou d tf (sX P.a n) Q E):cK Y F E 38 [.j P.b 0] t Q:=by
 refine w38 ?_;unfold t38 uI uB uG aB V uY na w0;refine aA ?_;rw[pQ 77,Nn h,xA];unfold sX at b;rw[Sv (by omega),Sv (by omega)]at b;refine aC (H6 _) (tA rfl (lR h (λc W z=>?_) λc W z=>?_))
 .rw[c,A5 rfl]at b;exact tA rfl (tA rfl (Ok.j b z ⟨_,rfl,Qj⟩))
 rw[c,A3 (by simp)]at b;refine lR z (λc Z r=>?_) λc Z r=>?_
 .rw[c,A5 rfl]at b;exact tA rfl (tA rfl (Ok.j b r ⟨_,rfl,Qj⟩))
 rw[c,A3 (by simp)]at b;by_cases j:(mH P n).b=3
 .rw[decide_eq_true j,A5 rfl]at b;refine tA (by rw[Q3,j];rfl) (aA ?_);rw[pE 79];refine Ud B r (b.c λa y a1 K v D q i g f=>?_);subst g;exact sB (tA rfl (tA rfl (Ok.j f i ⟨_,rfl,Qj⟩)))
 rw[decide_eq_false j,A3 (by simp)]at b;refine vB (by grind [Q3,wF]) (lR r (λc K A=>?_) λc K A=>?_)
 .rw[c,A5 rfl]at b;refine aA ?_;rw[pW 78];refine Ip A λp l=>iC (aA ?_);rw[pE 68];have e:(if By P.a pL (n+1)then n+2 else n+1)=(if By P.a pL (n+1)then n+1+1 else n+1):=by split<;>rfl
  simp only[e]at b;refine Jw (k:=2) (by omega) l (b.c λa y I t5 v D q i g f=>?_);obtain⟨x,_,e,rfl⟩:=g;obtain⟨M,N,g3⟩:=Vr D;have J:=h.ak M;rw[<- N,<- e]at J;subst e;refine aC (H6 _) (ER B i J λa6 t6 L S T U=>?_);obtain⟨u,v,rfl,R,j⟩:=ES U;refine aC R (tA rfl (tA (j 3 0).e ?_));exact Ok.j (Ok.g f S) T ⟨_,rfl,j 3 0⟩
 rw[c,A3 (by simp)]at b;have o:∀(neg:Bool) (m:Nat) (p:G vA),St P tf p m d->Ok P ou d tf ((zY P.a neg m).c λv y=>.ok (some v) y) Q E →
   lA Y.a (pF Y F eC aF E) (L6 Y F E 38) (.c 81 [.j P.b 0,.d neg] λa=>.o zV a λX=>.a (oD O.z (cV X)) (.l (.p [.i (cV X),.d true])) .g) p Q:=by
  intro neg m p l C;refine aA ?_;rw[pE 81];refine zlw B l (C.c λa y I t5 v D q i g f=>?_);obtain⟨L,rfl,s⟩:=g;have H:=s;obtain⟨u,w,rfl,_⟩:=Rm s;exact aC (zx s) (tA s.e (Ok.j f i ⟨_,rfl,H⟩))
 refine lR A (λc p l=>?_) λc p l=>?_
 .grind
 rw[c,A3 (by simp)]at b;by_cases j:(mH P n).b=2
 .rw[decide_eq_true j,A5 rfl]at b;exact tA (by rw[Q3,j];rfl) (o false _ p l b)
 rw[decide_eq_false j,A3 (by simp)]at b;exact vB (by grind [Q3,wF]) (tA rfl (tA rfl (Ok.j b l rfl)))
def zwg(B:dJ P d o 287){op:Nat}(h:St P tf t n d)(z:Ok P eO d tf (I3 P.a o op n) Q E):cK Y F E 313 [.j P.b 0,.e .u8 (op:Int)] t Q:=by
 refine w313 ?_;unfold t313 uS uG aB V uY bF;refine aA ?_;rw[pE 96];refine Ko h (z.c λw T K X v S A m l i=>?_);subst l;refine jC (Ez m i λU L Z r f j=>?_);refine aA ?_;rw[pE 287];refine B _ _ _ _ _ f (j.c λx W M t3 v C s g e k=>?_);obtain⟨R,rfl,p⟩:=e;have q:=p;obtain⟨a,b,c,rfl,_⟩:=uJ p;refine aC (K9 p) (kC λb y _=>?_);obtain⟨N,t4,D,H,I,J⟩:=g.ah q y;have u:=Y4 (op:=op) (w:=w) J;exact⟨_,_,D,tA (by rw[gI];rfl) (tA u.e (Ok.j (k.g H) I ⟨_,rfl,u⟩))⟩
def Ok.p{W:yG}{r:PR iA}(b:Ok P eO d tf r Q E):Ok P eO d tf r (λv t'=>lA Y.a W J (.o zE v λX=>.a (oD O.z (cE X)) (.l (.i (cE X))) .g) t' Q) E:=by
 cases r with
 | ok x j=>exact λa h v f g c=>zz c (b a h v f g c)
 | er e i=>exact b
def znb(L:Iu)(y:dJ P d o 287)(D:Up o)(w:dJ P d (Co P.a (yU P.a o)) 314):dJ P d (mP P.a o) 299:=λtf t n Q E h I=>by
 refine w299 ?_;unfold t299 uB uG aB uX V uY jH bF na;refine aA ?_;rw[pE 38];unfold mP at I;refine zn9 L h (I.c λv i m T u M B H j e=>?_)
 cases v with
 | some v=>
  obtain⟨K,rfl,k⟩:=j;have r:=k;obtain⟨a,b,rfl,g,s⟩:=Rm k;have w:RD m (y9 v).d [.e .u8 1,.h [],.e .u8 v.a,.d v.f.n.b,a,.d v.f.d.b,b,.e .i64 v.i,.g]:=Ns (op:=1) (name:=[]) (v:=v) (args:=[]) g s wS;exact uA rfl (aC (zx k) (uA rfl (iC (tA k.e (tA rfl (tA rfl (tA w.e (Ok.j e H ⟨_,rfl,w⟩))))))))
 | none=>
  have j:u=.p [.i zV,.d false]:=j;subst j;refine uA rfl (aC (zx (x:=oX) (Qj (t:=m))) (uA rfl (iC (tA rfl (vB (by simp) ?_)))));have e:Ok P eO d m (if By P.a [40] i then(yU P.a o (i+1)).c λx i=>(gE P.a [41] i).c λ_ J=>.ok x J
   else if By P.a Mh i then .ok (.mk 2 [] oX []) (i+1)
   else if By P.a sW i then I3 P.a o 3 (i+1)
   else if By P.a Gf i then I3 P.a o 4 (i+1)
   else if lV P.a i then I3 P.a o 5 i
   else Co P.a (yU P.a o) i) Q E:=e
  refine lR H (λg l f=>?_) λg l f=>?_
  .rw[g,A5 rfl]at e;refine aA ?_;rw[pE 31];refine FF y D _ _ _ _ _ f (e.c λx J N U v M B C j z=>?_);obtain⟨K,rfl,k⟩:=j;have r:=k;obtain⟨a,b,c,rfl,_⟩:=uJ k;refine aC (K9 k) (tA k.e (Ez C z λS R W p q A=>?_));have F:=RD.f p _ _ r;exact tA k.e (Ok.j A q ⟨_,rfl,F⟩)
  rw[g,A3 (by simp)]at e;refine lR f (λg l f=>?_) λg l f=>?_
  .rw[g,A5 rfl]at e;exact tA rfl (tA rfl (Ok.j e f ⟨_,rfl,Ns (op:=2) (name:=[]) (v:=oX) (args:=[]) wS wS wS⟩))
  rw[g,A3 (by simp)]at e;refine lR f (λg l f=>?_) λg l f=>?_
  .rw[g,A5 rfl]at e;refine aA ?_;rw[pE 313];exact zwg y (op:=3) f e.p
  rw[g,A3 (by simp)]at e;refine lR f (λg l f=>?_) λg l f=>?_
  .rw[g,A5 rfl]at e;refine aA ?_;rw[pE 313];exact zwg y (op:=4) f e.p
  rw[g,A3 (by simp)]at e;refine aA ?_;rw[pQ 151,OG f,xA];refine iC ?_
  cases s:lV P.a i with
  | true=>
   rw[s,A5 rfl]at e;refine tA rfl (aA ?_);rw[pE 313];exact zwg y (op:=5) f e.p
  | false=>
   rw[s,A3 (by simp)]at e;refine vB (by simp) (aA ?_);rw[pE 314];exact w _ _ _ _ _ f e.p
end
end
section
variable {l:List iA}{v:O}{b:Nat}{L:List oF}
variable [fC]
section
variable {base:Nat}{tf t:G vA}{C:fA}{A B:List oF}
theorem xB.q{T el sz n:Nat}{l:List D}{dd:D}{x:O}{cs:List O}(g:eS C T el sz)(h:xB C.a tf t (A++iD C.a sz l v::B))(k:bA tf sz [dd] x)(q:l.length+1<400000)(i:t.c n=none)(a:C.a<=n) :
  ∃t' v',mG C T T v x ⟨n,t⟩=some (v',⟨n+1,t'⟩)/\xB C.a tf t' (A++iD C.a sz (l++[dd]) v'::B)/\O.z v'=true:=by
 obtain⟨p,e,b⟩:=k;have j:oU C.a tf t sz l v:=h.s (iD C.a sz l v) (by simp);obtain⟨c,r,rfl,f,d⟩:=kD.1 b;rw[pG]at d;subst d;obtain⟨t',o,s,u,w⟩:=TG g (m:=[dd]) j (e.d h.b) b (by
  have:=f.e
  grind [gI]) (by simp) (by omega) i a h.b
 refine⟨t',_,o,?_,rfl⟩
 grind [xB.aj,iD,Ks,zK]
end
def el29:eS Y 29 31 9:=⟨⟨_,S3,rfl,rfl⟩,⟨_,N9,rfl,rfl,by decide,by decide⟩,λy h=>by rw[N9]at h;cases h;rfl⟩
def wK.c(P:wK)(L:List oF):wK:=⟨P.a,P.b,P.d,P.e,P.f,L⟩
def CF.g(f:CF):List O:=[.h f.d,.e .u8 (f.e:Int),.d f.b,.e .i64 (f.a:Int),.e .i64 (f.c:Int)]
abbrev Ti:List O:=[.h [108,111,111,107],.e .u8 6,.d true,.e .i64 1,.e .i64 2,.h [109,105,110],.e .u8 11,.d false,.e .i64 2,.e .i64 2,.h [109,97,120],.e .u8 12,.d false,.e .i64 2,.e .i64 2,.h [98,101,116,119,101,101,110],.e .u8 20,.d false,.e .i64 2,.e .i64 2,.h [105,102],.e .u8 18,.d false,.e .i64 3,.e .i64 3,.h [114,111,117,110,100],.e .u8 19,.d false,.e .i64 2,.e .i64 2,.h [115,101,114,118,105,99,101],.e .u8 21,.d true,.e .i64 2,.e .i64 2,.h [103,114,111,119],.e .u8 23,.d true,.e .i64 2,.e .i64 2,.h [98,101,115,116],.e .u8 22,.d true,.e .i64 3,.e .i64 3,.h [109,111,110,116,104,115],.e .u8 24,.d false,.e .i64 1,.e .i64 1,.h [110,117,109,98,101,114],.e .u8 25,.d false,.e .i64 1,.e .i64 1,.h [115,116,97,114,116],.e .u8 26,.d false,.e .i64 1,.e .i64 1]
section
variable {P:wK}{tf t:G vA}{n d:Nat}{Q E:lB}{J:yG}{o:PM iA}
def St.be  (h:St P tf t n d)(e:t.c b=none):∃a t',nL v ⟨b,t⟩=some (.j b 0,⟨b+1,t'⟩)/\zB tf a/\St P a t' n d/\xC a b none v.s:=by
 obtain⟨t',j,⟨c,k,f⟩,q,l⟩:=Zo (v:=v) e;have o:=h.g.z e l;have g:=h.g.ak e;obtain⟨p,i⟩:=o.r (λm=>h.g.aa e m) k g;exact⟨_,t',j,i,⟨h.p.a i,p,h.f,h.m,h.a,h.e.a i⟩,c,by rw[G.aa,A5 rfl],f⟩
def St.aw{T:Nat}{y:jD} (h:St P tf t n d)(p:Y.b.c T=some y)(E:v.s.length=y.b)(F:y.c.length=y.b)(f:oD O.z v.s=true)(r:t.c b=none)(a:Y.a<=b) :
  ∃t1,zL Y T ⟨b,t⟩=some (.j b 0,⟨b+1,t1⟩)/\∃e t2,(∀q,nC Y T (.j b 0) v ⟨q,t1⟩=some (aD,⟨q,t2⟩))/\zB tf e/\St P e t2 n d/\xC e b none v.s:=by
 obtain⟨t1,w,x,z,D⟩:=gP (C:=Y) p r;refine⟨t1,w,?_⟩;have J:=xB.c (A:=[pH P n d]) (B:=P.L) h.g r a x z D;obtain⟨t2,H,g⟩:=xB.a (A:=[pH P n d]) (j:=0) (v:=v) J p E (by omega) f;have l:lJ y.c 0 v.s=v.s:=by
  unfold lJ;rw[List.take_zero,E8,E3 (by omega),C8]
 rw[l]at g;obtain⟨c,s,u⟩:=g.d;have i:=g.x (o:=oC b none v.s) (k:=b) (by simp[oC]);obtain⟨I,m⟩:=(xB.i g).r i s (g.f b (by simp[oC])).2;exact⟨_,t2,H,m,⟨h.p.a m,I,h.f,h.m,h.a,h.e.a m⟩,c,by rw[G.aa,A5 rfl],u⟩
def cZ{a:Nat}{w:Nat}(h:xC tf a none [.j w 0])(b:St P tf t n d):oA Y 76 ⟨0,t⟩ (.j a 0)=some (.j w 0):=(xC.d h b.g.b).f ty76 rfl rfl
def zvf:∀i:Nat,i<12->∃f,Cp[i]?=some f/\wJ Y 340 (.i Ti) (.e .i64 (i:Int))=some (.i f.g):=by
 intro i a;have:i=0\/i=1\/i=2\/i=3\/i=4\/i=5\/i=6\/i=7\/i=8\/i=9\/i=10\/i=11:=by omega
 rcases this with rfl | rfl | rfl | rfl | rfl | rfl | rfl | rfl | rfl | rfl | rfl | rfl<;>exact⟨_,rfl,by kernel_rfl⟩
def zvh(tk:List xD):PM CF:=λn=>match Cp.find? λf=>By tk f.d n with
 | none=>.er 120 n
 | some f=>.ok f (n+1)
def ow (_:G vA)(f:CF)(v:O):Prop:=f∈Cp/\v=.i f.g
def zvg{l g:Nat}(u:xC tf l none Ti)(r:xC tf g none [.j P.b 0])(h:St P tf t n d)(a:Ok P ow d tf (zvh P.a n) Q E):cK Y F E 319 [.j l 0,.j g 0] t Q:=by
 refine w319 ?_;unfold t319 V uY;have o:oA Y 340 ⟨0,t⟩ (.j l 0)=some (.i Ti):=by
  have:=(xC.d u h.g.b).p.e (j:=0) (n:=60) W7 rfl rfl (by decide)
  simp_all
 refine fB o (qC ?_);have c:∀(k i:Nat) (t:G vA),i+k=12->St P tf t n d->Ok P ow d tf (match (Cp.drop i).find? λf=>By P.a f.d n with | none=>.er 120 n | some f=>.ok f (n+1)) Q E →
   rI E 319 2 [.j g 0,.i Ti,.e .i64 (i:Int),.h [],.e .u8 0,.d false,.e .i64 0,.e .i64 0] t Q:=by
  intro k;induction k with
  | zero=>
   intro i t v h a;refine zqb ?_;unfold zr uB uG tC V uY;have e:Cp.drop i=[]:=E3 (by simp_all);rw[e]at a;exact vB (by grind [zD]) (fB (cZ r h) (aA (Ok.l h a)))
  | succ k y=>
   intro i t v h a;refine zqb ?_;unfold zr uB uG tC V uY;obtain⟨f,s,w⟩:=zvf i (by omega);obtain⟨p,m⟩:=F6.1 s;rw[G0 p,m,List.find?_cons]at a;refine tA (by grind [zD]) (uA w (aC (X:=AN f.g) (kQ rfl) (tA rfl (fB (cZ r h) (lR h (λb x q=>?_) λb x q=>?_)))))
   .have b:By P.a f.d n=true:=b;rw[b]at a;exact tA rfl (Ok.j a q ⟨O9 s,rfl⟩)
   .have b:By P.a f.d n=false:=b
    grind [A2,qC]
 exact c 12 0 t rfl h a
abbrev rQ(l:List iA)(v:O):oF:=iD Y.a 9 (l.map iA.d) v
def St.s   (h:St (P.c (rQ l v::L)) tf t n d):oU Y.a tf t 9 (l.map iA.d) v:=h.g.s (rQ l v) (by simp[wK.c])
def St.ba {x:iA} {j:List O} (h:St (P.c (rQ l v::L)) tf t n d)(s:RD tf x.d j)(y:l.length<1000) (p:t.c b=none) :
  ∃t1 w,sD Y 29 1 [(0,.i j)] ⟨b,t⟩=some (w,⟨b+1,t1⟩)/\∀c,t1.c c=none->Y.a<=c->∃g t2 e,mG Y 29 29 v w ⟨c,t1⟩=some (e,⟨c+1,t2⟩)/\zB tf g/\St (P.c (rQ (l++[x]) e::L)) g t2 n d/\oD O.z [e]=true:=by
 obtain⟨f,t1,k,m,a,o⟩:=h.ah s p;refine⟨t1,_,k,λc q i=>?_⟩;have r:=a.g;obtain⟨t2,e,u,z,C⟩:=xB.q (A:=[pH P n d]) (B:=L) (cs:=[]) el29 r o (by grind) q i;refine⟨f,t2,e,u,m,⟨a.p,?_,a.f,a.m,a.a,a.e⟩,by grind [gI]⟩;show xB Y.a f t2 ([pH P n d]++iD Y.a 9 ((l++[x]).map iA.d) e::L)
 simp_all
end
end
section
variable {p q:Type}{w:List Nat}{f:CF}{j m:Nat}{e:PM iA}{K:O->T}{l:List iA}{v:O}
variable [fC]
def PR.d{b:Type}(r:PR p)(f:p->Nat->PR q)(g:q->Nat->PR b):(r.c f).c g=r.c λa n=>(f a n).c g:=by cases r<;>rfl
section
variable {tk:List xD}{o:PM iA}
theorem mQ  : Up (gE tk w):=by
 intro n a b h;grind [gE]
theorem Kq:Up (vO tk):=by
 intro n a b h;grind [vO]
theorem Vq{k:Nat}:Up (wM tk k):=by
 intro n a b h;grind [wM]
def fF {r:PM p}{f:p->PM q}(e:Up r)(g:∀a,Up (f a)):Up λn=>(r n).c f:=by
 intro n b i h;obtain⟨a,j,c,d⟩:=PR.j h;have:=e _ _ _ c;have:=g _ _ _ _ d;omega
theorem qN {a:p}:Up (λn=>(.ok a n:PR p)):=by intro n b c h;simp_all
def Ou:Up (nR tk):=fF Vq λ_=>qN
theorem SD{f:Nat->List Nat}  : ∀(k i:Nat),Up (oK tk f m k i):=by
 intro k;induction k with
 | zero=>intro i n a c h;cases h
 | succ k b=>
  intro i n a c h;unfold oK at h;split at h
  .cases h
  .split at h
   .grind
   .exact b _ _ _ _ h
theorem KM{neg:Bool}:Up (zY tk neg):=by
 intro n b e h;unfold zY at h;obtain⟨a,f,c,d⟩:=PR.j h;have:=Vq _ _ _ c
 grind
theorem zi4:Up (sX tk):=by
 intro n b e h;unfold sX at h;split at h
 .grind
 split at h
 .grind
 split at h
 .exact fF Ou (λ_=>qN) _ _ _ h
 split at h
 .obtain⟨a,f,c,d⟩:=PR.j h;have:=Vq _ _ _ c;cases d;split at this<;>omega
 split at h
 .have:=fF KM (λ_=>qN) _ _ _ h;omega
 split at h
 .exact fF KM (λ_=>qN) _ _ _ h
 simp_all
def zmi (a:Up e):∀(k:Nat) (l:List iA),Up (Ec tk e k l):=by
 intro k;induction k with
 | zero=>intro l;exact qN
 | succ k b=>intro l;exact fF mQ λ_=>fF a λx=>b (l++[x])
theorem zle (a:Up e):∀(k:Nat) (l:List iA),Up (dX tk e k l):=by
 intro k;induction k with
 | zero=>intro l;exact qN
 | succ k c=>
  intro l n b d h;unfold dX at h;split at h
  .have:=fF a (λx=>c (l++[x])) _ _ _ h;omega
  simp_all
def zju(a:Up o){op:Nat}:Up (I3 tk o op):=fF Kq λ_=>fF mQ λ_=>fF a λ_=>qN
theorem zoi (c:Up e):Up (Co tk e):=by
 intro n b r h;unfold Co at h;split at h
 .cases h
 .rename_i f _;have k:Up (λd=>(if f.b then(vO tk d).c λw o=>(gE tk [44] o).c λ_ p=>.ok w p else .ok [] d:PR (List Nat))):=by
   cases f.b with
   | true=>simp_all [fF,Kq,mQ,qN]
   | false=>exact qN
  have j:Up (λg=>(if f.e=19 then(gE tk [44] g).c λ_ q=>oK tk uO 6 6 1 q else .ok 0 g:PR Nat)):=by
   by_cases i:f.e=19
   all_goals simp_all [fF,mQ,SD,qN]
  have:=fF mQ (λ_=>fF k λw=>fF c λx=>fF (zmi c (f.a-1) [x]) λl=>fF (zle c (f.c-f.a) l) λl=>fF j λm=>fF mQ λ_=>qN (a:=iA.mk f.e w ⟨0,aK,m⟩ l)) _ _ _ h;omega
theorem OO(c:Up o):Up (mP tk o):=by
 have d:=QN (tk:=tk) c;refine fF zi4 λv=>?_
 cases v with
 | some v=>exact qN
 | none=>
  intro n b e h;simp only at h;split at h
  .have:=fF d (λx=>fF mQ λ_=>qN (a:=x)) _ _ _ h;omega
  split at h
  .grind
  split at h
  .have:=zju c _ _ _ h;omega
  split at h
  .have:=zju c _ _ _ h;omega
  split at h
  .exact zju c _ _ _ h
  .exact zoi d _ _ _ h
end
section
variable {P:wK}{tf t:G vA}{n d:Nat}{Q E:lB}{J:yG}{o:PM iA}{s:oF}
def St.ax(h:St (P.c (s::P.L)) tf t n d):St P tf t n d:=⟨h.p,xB.i (A:=[pH P n d]) (o:=s) h.g,h.f,h.m,h.a,h.e⟩
def Ok.b {g:G vA->p->O->Prop}{rd:G vA->q->O->Prop}{r:PR p}{f:p->Nat->PR q}{t:lB}(h:Ok P rd d tf (r.c f) Q E)
  (k:∀a m b t1 v,r=.ok a m->zB tf b->St (P.c (s::P.L)) b t1 m d->g b a v->Ok P rd d b (f a m) Q E->t v t1):Ok (P.c (s::P.L)) g d tf r t E:=by
 cases r with
 | ok a n=>exact λc o v j l w=>k a n c o v rfl j l w (Ok.g h j)
 | er e i=>exact λc o x u j l=>h c o x u j l.ax
def Lj  (h:St P tf t n d)(j:Ok P rdU d tf (gE P.a w n) (λv t'=>lA Y.a (pF Y F eC aF E) J (K v) t' Q) E) :
  lA Y.a (pF Y F eC aF E) J (.h (sD Y 62 1 [(0,.h w)]) λa=>.c 95 [.j P.b 0,a] K) t Q:=by
 refine kC λb i _=>?_;obtain⟨l,m,c,e,f,g⟩:=h.ac (k:=1) (sz:=1) (ds:=[D.c w]) (cl:=[[.h w]]) S6 rfl iI rfl rfl (by omega) (Oh (sz:=1) (z:=[.h []]) (v:=.h w) rfl rfl) (Kl rfl) rfl (kD.2 ⟨_,_,rfl,xP.2 rfl,pG.2 rfl⟩) i;refine⟨_,_,c,aA ?_⟩;rw[pE 95];exact QP g f (j.g e)
def BD(tk:List xD)(f:CF)(w:List Nat)(l:List iA)(m:Nat):PM iA:=λn=>(gE tk [41] n).c λ_ a=>.ok (.mk f.e w ⟨0,aK,m⟩ l) a
def zsi(tk:List xD)(f:CF)(w:List Nat)(l:List iA):PM iA:=λb=>(if f.e=19 then(gE tk [44] b).c λ_ a=>oK tk uO 6 6 1 a else .ok 0 b:PR Nat).c λm a=>BD tk f w l m a
def zsj(tk:List xD)(e:PM iA)(f:CF)(w:List Nat)(k:Nat)(l:List iA):PM iA:=λn=>(dX tk e k l n).c λl a=>zsi tk f w l a
def uf(tk:List xD)(e:PM iA)(f:CF)(w:List Nat)(k:Nat)(l:List iA):PM iA:=λn=>(Ec tk e k l n).c λl a=>zsj tk e f w (f.c-f.a) l a
def zoj{tk:List xD}  : Co tk e n=(zvh tk n).c λf a=>(gE tk [40] a).c λ_ a=>
  (if f.b then(vO tk a).c λw b=>(gE tk [44] b).c λ_ c=>.ok w c else .ok [] a:PR (List Nat)).c λw b=>(e b).c λx c=>uf tk e f w (f.a-1) [x] c:=by
 unfold Co zvh
 cases Cp.find? λf=>By tk f.d n with
 | none=>rfl
 | some f=>rfl
abbrev c6(f:CF)(w:List Nat)(m:Nat)(v:O):List O:=[.e .u8 (f.e:Int),.h w,.e .u8 0,.d false,.g,.d false,.g,.e .i64 (m:Int),v]
def zpc     (k:xC tf j none [.j P.b 0])(h:St (P.c (rQ l v::P.L)) tf t n d)(i:Ok P eO d tf (BD P.a f w l m n) Q E):rI E 314 37 ([.j j 0]++zE++c6 f w m v) t Q:=by
 refine zuo ?_;unfold zc8 aB V uY;unfold BD at i;refine fB (cZ k h) (Lj (P:=P.c (rQ l v::P.L)) h (i.b λ_ s y x u z o a p b=>?_));obtain⟨e,c,q,r⟩:=xB.g (A:=[pH P s d]) (B:=P.L) a.g;have g:RD e (iA.mk f.e w ⟨0,aK,m⟩ l).d (c6 f w m v):=Ns (v:=⟨0,aK,m⟩) wS wS r;refine tA g.e (Ok.j (Ok.g b c) (t:=x) ⟨a.p.a c,q,a.f,a.m,a.a,a.e.a c⟩ ⟨_,rfl,g⟩)
def Y5     (H:f.e<256)(p:xC tf j none [.j P.b 0])(h:St (P.c (rQ l v::P.L)) tf t n d)(b:Ok P eO d tf (zsi P.a f w l n) Q E) :
  lA Y.a (pF Y F eC aF E) (L6 Y F E 314) (.a (kB (f.e:Int) 19)
 (.e (λm=>oA Y 76 ⟨0,m⟩ (.j j 0)) λq=>.h (sD Y 62 1 [(0,(.h [44]))]) λr=>
 .c 95 [q,r] λB=>
 .e (λm=>oA Y 76 ⟨0,m⟩ (.j j 0)) λs=>.c 201 [s,(.e .u8 1),(.e .u8 6),(.q (.aa 170) [] [])] λx=>
 .r .u8 x λA=>.a true (.j 37 ([.j j 0]++zE++[.e .u8 (f.e:Int),.h w,.e .u8 0,.d false,.g,.d false,.g,.e .i64 (cA .i64 A),v])) .g)
 (.j 37 ([.j j 0]++zE++c6 f w 0 v))) t Q:=by
 unfold zsi at b;by_cases a:f.e=19
 .rw[A5 a,PR.d]at b;refine tA (by rw[a];rfl) (fB (cZ p h) (Lj (P:=P.c (rQ l v::P.L)) h (b.b λ_ S L U u R c k J y=>?_)));refine fB (cZ (xC.d p c) k) (aA ?_);rw[pE 201];refine SC (P:=P.c (rQ l v::P.L)) (f:=uO) (most:=6) (λt C i D=>ztz C D) (by kernel_rfl) (by kernel_rfl) (by omega) k (y.b λm T M W u I e o g z=>?_);subst g;refine sB (tA rfl (qC ?_));have N:m<256:=by
   grind [oK]
  have K:cA .i64 (m:Int)=(m:Int):=A2 (by omega) (by omega);rw[K];exact zpc (xC.d p (c.d e)) o z
 .rw[A3 a]at b;refine vB (by grind [wF]) (qC ?_);exact zpc p h b
def DJ    {f:iA->Nat->PR iA} (S:∀L,dJ (P.c L) d e 31)(M:xC tf j none [.j P.b 0])(U:l.length<1000)(h:St (P.c (rQ l v::P.L)) tf t n d)(T:Ok P eO d tf ((e n).c f) Q E)
  (k:∀x o g t1 v',zB tf g->St (P.c (rQ (l++[x]) v'::P.L)) g t1 o d->Ok P eO d g (f x o) Q E->lA Y.a (pF Y F eC aF E) J (K v') t1 Q) :
  lA Y.a (pF Y F eC aF E) J (.e (λm=>oA Y 76 ⟨0,m⟩ (.j j 0)) λa=>.c 31 [a] λH=>.o zE H λX=>.a (A8 10 v v) (.h (sD Y 29 1 [(0,.i (cE X))]) λI=>.a (A8 10 v v) (.h (mG Y 29 29 v I) λB=>.a (oD O.z [B]) (K B) .g) .g) .g) t Q:=by
 refine fB (cZ M h) (aA ?_);rw[pE 31];refine S (rQ l v::P.L) _ _ _ _ _ h (T.b λx o g t1 u hr r i s q=>?_);obtain⟨cs,rfl,y⟩:=s;have z:=y;obtain⟨a,b,c,rfl,_⟩:=uJ y;have C:A8 10 v v=true:=i.s.g;refine aC (K9 y) (tA C (kC λb N _=>?_));obtain⟨t2,w,W,Z⟩:=i.ba z U N;refine⟨_,_,W,tA C (kC λc R p=>?_)⟩;obtain⟨A,t3,v3,m1,D,m3,m4⟩:=Z c R p;exact⟨_,_,m1,tA m4 (k x o A t3 v3 (r.d D) m3 (Ok.g q D))⟩
def t6_ok    (r:∀L,dJ (P.c L) d e 31)(i:f.e<256)(p:f.c<900):∀(k:Nat) (l:List iA) (v:O) (n:Nat) (tf t:G vA),l.length+k=f.c->xC tf j none [.j P.b 0]->St (P.c (rQ l v::P.L)) tf t n d->Ok P eO d tf (zsj P.a e f w k l n) Q E →
  rI E 314 6 ([.j j 0]++zE++f.g++c6 f w 0 v) t Q:=by
 intro k;induction k with
 | zero=>
  intro l v n tf t g c h b;refine zqd ?_;unfold zq uI uU uB uG aB V uY uW bF;have m:=h.s.q;rw[C4]at m;exact uA m (sB (vB (by grind [zD]) (Y5 i c h b)))
 | succ k s=>
  intro l v n tf t g c h b;refine zqd ?_;unfold zq uI uU uB uG aB V uY uW bF;have m:=h.s.q;rw[C4]at m;unfold zsj dX at b;refine uA m (sB (tA (by grind [zD]) (fB (cZ c h) (lR (P:=P.c (rQ l v::P.L)) h (λa B o=>?_) λa B o=>?_))))
  .have a:By P.a [44] n=true:=a;rw[a,A5 rfl,PR.d]at b;exact DJ r c (by omega) o b λx A q C D u y z=>qC (s (l++[x]) D A q C (by grind) (xC.d c u) y z)
  .have a:By P.a [44] n=false:=a;rw[a,A3 (by simp)]at b;exact Y5 i c o b
def t2_ok    (s:∀L,dJ (P.c L) d e 31)(p:f.e<256)(b:f.c<900)(y:f.a<=f.c):∀(k:Nat) (l:List iA) (v:O) (n:Nat) (tf t:G vA),l.length+k=f.a->xC tf j none [.j P.b 0]->St (P.c (rQ l v::P.L)) tf t n d->Ok P eO d tf (uf P.a e f w k l n) Q E →
  rI E 314 2 ([.j j 0]++zE++f.g++c6 f w 0 v) t Q:=by
 intro k;induction k with
 | zero=>
  intro l v n tf t m c h g;refine zqe ?_;unfold zp uI uG aB V uY bF;have o:=h.s.q;rw[C4]at o;exact uA o (sB (vB (by grind [zD]) (qC (t6_ok s p b _ l v n tf t (by omega) c h g))))
 | succ k A=>
  intro l v n tf t m c h g;refine zqe ?_;unfold zp uI uG aB V uY bF;have o:=h.s.q;rw[C4]at o;unfold uf Ec at g;rw[PR.d]at g;refine uA o (sB (tA (by grind [zD]) (fB (cZ c h) (Lj (P:=P.c (rQ l v::P.L)) h (g.b λ_ M I N u K a q z i=>?_)))));rw[PR.d]at i;exact DJ s (xC.d c a) (by omega) q i λx F r H J B C D=>qC (A (l++[x]) J F r H (by grind) (xC.d c (a.d B)) C D)
def zpl    (m:∀L,dJ (P.c L) d e 31)(g:f.e<256)(a:f.c<900)(c:f.a<=f.c)(z:1<=f.a)(l:xC tf j none [.j P.b 0])(h:St P tf t n d)(b:Ok P eO d tf ((e n).c λx u=>uf P.a e f w (f.a-1) [x] u) Q E) :
  rI E 314 19 ([.j j 0]++zE++f.g++c6 f w 0 .g) t Q:=by
 refine zup ?_;unfold zda uG aB V uY bF;have o:St (P.c (rQ [] .g::P.L)) tf t n d:=⟨h.p,xB.ac (A:=[pH P n d]) (B:=P.L) (o':=rQ [] .g) h.g (λ_ _=>rfl) (λk b=>by simp[iD,zK]at b) (.inl ⟨rfl,rfl⟩) (by simp[iD,zK]) h.g.b,h.f,h.m,h.a,h.e⟩;exact DJ m l (by simp) o b λx s i v y p q r=>qC (t2_ok m g a c (f.a-1) [x] y s i v (by grind) (xC.d l p) q r)
def znm:∀f∈Cp,f.e<256/\f.c<900/\f.a<=f.c/\1<=f.a:=by decide
def GJ (U:∀L,dJ (P.c L) d e 31):dJ P d (Co P.a e) 314:=λtf t n Q E h W=>by
 rw[zoj]at W;refine w314 ?_;unfold t314 uS uG V uY;refine kC λj z _=>?_;obtain⟨ab,t1,h1,h2,h3,h4⟩:=h.be (v:=.j P.b 0) z;refine⟨_,_,h1,?_⟩;refine tA rfl (tA rfl (tA rfl (tA rfl (tA rfl (tA rfl (tA rfl (tA rfl (tA rfl (tA rfl (tA rfl (tA rfl (tA rfl (kC λa1 A B=>?_)))))))))))));obtain⟨t2,k1,I,t3,k2,k3,k4,k5⟩:=h3.aw (v:=.i Ti) W7 rfl rfl rfl A B;refine⟨_,_,k1,kC λc _ _=>⟨_,_,k2 c,?_⟩⟩;have R:xC I j none [.j P.b 0]:=xC.d h4 k3
 refine nZ (g:=319) (a:=[.j a1 0,.j j 0]) rfl ?_;rw[pE 319];refine zvg k5 R k4 ((W.g (h2.d k3)).c λf n1 ac t4 u hr F r H C=>?_);obtain⟨hf,rfl⟩:=H;obtain⟨J,K,M,N⟩:=znm f hf;have S:=xC.d R F;refine aC (X:=AN f.g) (kQ rfl) (tA rfl (tA rfl (tA rfl (fB (cZ S r) (Lj r (C.c λ_ n2 ad t5 u2 a7 m b Z i=>?_))))));have y:=xC.d S m
 cases x:f.b with
 | true=>
  rw[x,A5 rfl,PR.d]at i;refine tA x (fB (cZ y b) (aA ?_));rw[pE 96];refine Ko b (i.c λw n3 ae t6 u3 a8 o k q l=>?_);subst q;rw[PR.d]at l;have T:=xC.d y o;refine jC (tA rfl (fB (cZ T k) (Lj k (l.c λ_ n4 af t7 u4 aa p s a6 D=>?_))));exact qC (zpl U J K M N (xC.d T p) s D)
 | false=>
  rw[x,A3 (by simp)]at i;refine vB (by rw[show(AN f.g).b 2=f.b from rfl,x];simp) (qC ?_);exact zpl U J K M N y b i
def LN(z:Iu){tk:List xD}:∀(k d:Nat),d+k=101->∀P:wK,P.a=tk->Up (tJ tk k)/\dJ P d (tJ tk k) 287:=by
 intro k;induction k with
 | zero=>
  intro d A P l;refine⟨λn a J h=>(by cases h),λtf t n Q E h f=>?_⟩;refine w287 ?_;unfold t287 uI sC V uY;exact uA nl (uA f2 (fB h.l2 (sB (tA (by grind [zD]) (aA (Ok.l h f))))))
 | succ k s=>
  intro d A P l;have g:Up (tJ tk k):=(s (d+1) (by omega) P l).1;have q:∀L,dJ (P.c L) (d+1) (tJ tk k) 287:=λL=>(s (d+1) (by omega) (P.c L) l).2;subst l;have m:dJ P (d+1) (mP P.a (tJ P.a k)) 299:=znb z (q P.L) g (GJ λL=>FF (q L) g);refine⟨?_,λtf t n Q E h f=>?_⟩
  .exact OO g
  .refine w287 ?_;unfold t287 uI sC V uY;refine uA nl (uA f2 (fB h.l2 (sB (vB (by grind [zD]) (qC (j287_7 ?_))))));unfold zph uI uG aB tC sC V uY uW jH bF;refine uA nl (uA f2 (fB h.l2 (sB (uA nl (uA f2 (kC λb _ _=>?_))))));obtain⟨M,w,y⟩:=h.am (d':=d+1);have e:cA .i64 ((d:Int)+1)=((d+1:Nat):Int):=by grind [A2]
   rw[e];refine⟨_,_,w b,aA ?_⟩;rw[pE 299];refine m _ _ _ _ _ y ?_;have f:Ok P eO d tf (mP P.a (tJ P.a k) n) Q E:=f;revert f;generalize mP P.a (tJ P.a k) n=r;intro f
   cases r with
   | er e i=>exact f
   | ok x K=>
    intro p N v C u ⟨I,B,j⟩;subst B;have o:=j;obtain⟨a,b,c,rfl,_⟩:=uJ j;refine aC (K9 j) (tA j.e (uA nl (uA f2 (fB u.l2 (sB (uA nl (uA f2 (kC λb _ _=>?_))))))));obtain⟨H,D,F⟩:=u.am (d':=d);have e:cA .i64 (((d+1:Nat):Int)-1)=(d:Int):=by grind [A2]
    rw[e];exact⟨_,_,D b,tA j.e (f p H _ C F ⟨_,rfl,o⟩)⟩
def QM(a:Iu):dJ P 0 (Ck P.a) 31:=FF (LN a 101 0 rfl P rfl).2 (LN a 101 0 rfl P rfl).1
end
end
section
variable {b:Bool}{v:O}{l:List Nat}
variable [fC]
section
variable {t:G vA}{Q:lB}
def gN  (h:O.z v=true):oD O.z [.d b,v]=true:=by
 show(bif O.z (.d b)then(bif O.z v then true else false)else false)=true;rw[h];rfl
def jQ   (h:bA t 1 (vD l) v):nK [.d false,.g] (.i [.d b,v])=some (AN [.d b,v]):=kN (Hi (w:=⟨b,l⟩) h) (xL.zs _)
def ze6  {neg:Bool}(j:bA t 1 (uC .u32 l) v)(k:l.length<=500)(b:pB 4294967296 l)
  (i:∀t' u,zB t t'->bA t' 1 (vD (dC (A4 4294967296 l))) u->Q (.p [.i [.d (if xF l=[]then false else neg),u],.e .i64 0]) t'):Wc Y F 195 [.d neg,v] t Q:=by
 refine w195 ?_;unfold t195 N7 uG oI cI;refine aA ?_;rw[q248];refine AO j (by omega) b λt' u g a=>?_;have c:pB 65536 (xF (jI (xF l))):=yW (Zz (yW b));have f:A4 65536 (xF (jI (xF l)))=A4 4294967296 l:=by rw[jU,Vh,jU]
 have e:xF (jI (xF l))=dC (A4 4294967296 l):=Ss c (sY _) f;rw[e]at a;have h:(dC (A4 4294967296 l)).length<=1000:=by
  grind [Qx,Qo]
 have d:=bA.c (l:=vD (dC (A4 4294967296 l))) a;rw[wU]at d;refine aC (jQ a) (tA (gN a.e) (uA d (sB (vB (by grind [zD]) (tA (gN a.e) ?_)))));exact i t' u g a
def CU{s:List Nat}(hs:∀b∈s,dD b=true)(U:s≠[])(hp:sQ s=false)(hl:s.length<=200)(X:∀t' u,zB t t'->bA t' 1 (vD (dC (nE s))) u->Q (.p [.i [.d false,u],.e .i64 0]) t'):Wc Y F 140 [.h s] t Q:=by
 have z:∀b∈s,48<=b/\b<=57:=λb T=>by grind [dD]
 have B:0<s.length:=List.length_pos_iff.2 U;obtain⟨x,H⟩:∃x,s[0]?=some x:=⟨s[0],C6 B⟩;have ac:=z x (O9 H);have l:=qO H;rw[show((0:Nat):Int)=0 from rfl]at l;have I:∀s:List Nat,(Int.ofNat (wB s))=(s.length:Int):=λs=>by rw[eD];rfl
 have o:∀(n:Nat) (r w:List Nat) (v:O) (y:G vA),r.length<=n->(∀b∈r,dD b=true)->r.length<=200->w.length+r.length<=300->zB t y->bA y 1 (uC .u32 w) v->pB 4294967296 w->A4 4294967296 w*10^r.length+nE r=nE s →
   jp 140 6 [.h r,.d false,v,.d false,.g] y Q:=by
  intro n;induction n with
  | zero=>
   intro r w v y hr K L hw f M g e;have:r=[]:=ma.1 (by omega);subst this;refine zq2 ?_;unfold xo uI uG oI cI;rw[I];refine vB (by simp[zD]) (aA ?_);rw[q195];refine ze6 M (by omega) g λR u P q=>?_;have:(if xF w=[]then false else false)=false:=by split<;>rfl
   rw[this];have e:A4 4294967296 w=nE s:=by grind [nE]
   rw[e]at q;exact uA rfl (aC (jQ q) (uA rfl (sB (tA (gN q.e) (X R u (f.d P) q)))))
  | succ n N=>
   intro r w v y hr K L hw f M g e;by_cases hz:r.length=0
   .grind
   refine zq2 ?_;unfold xo uI uG oI cI;have Z:(bif bB (Int.ofNat (wB r)) 9 then(Int.ofNat (wB r))else 9)=((min 9 r.length:Nat):Int):=by
    grind [zD]
   rw[Z,I];refine tA (by grind [zD]) (qC ?_);have a7:min 9 r.length<=r.length:=Nat.min_le_right _ _;generalize a6:min 9 r.length=c at *;have a1:c<=9:=by omega
   have D:∀i,i<=c->10^i<=1000000000:=λi p=>by
    have:10^i<=10^9:=O8 (by omega) (by omega);omega
   have A:∀i,nE (r.take i)<10^i\/r.length<i:=λi=>by
    grind [Ot,List.length_take]
   have m:∀(k i:Nat),i+k=c->jp 140 10 [.h r,.d false,v,.e .i64 (c:Int),.e .u32 ((10^i:Nat):Int),.e .u32 ((nE (r.take i):Nat):Int),.e .i64 (c:Int),.e .i64 (i:Int),.d false,.g] y Q:=by
    intro k;induction k with
    | zero=>
     intro i p;have p:i=c:=by omega
     subst p;refine zhk ?_;unfold BJ;refine vB (by simp[zD]) (aA ?_);rw[q194];have C:=D i (B3 _);have h:nE (r.take i)<10^i:=(A i).resolve_right (by omega);refine zkq M (by omega) g (by omega) (by omega) λR w2 v2 P q k3 k4 k5 k6=>?_;refine uA (Mx (by omega)) (jC (qC ?_));refine N (r.drop i) w2 v2 R (by grind) (λb T=>K b (List.mem_of_mem_drop T)) (by grind) (by grind) (f.d P) q k3 ?_
     grind [FV,List.take_append_drop]
    | succ k ad=>
     intro i p;have j:r[i]?=some r[i]:=C6 (by omega);have aa:48<=r[i]/\r[i]<=57:=by have:=K r[i] (F2 _);unfold dD at this;simpa using this
     refine zhk ?_;unfold BJ uU;have C:=D (i+1) (by omega);have h:nE (r.take (i+1))<10^(i+1):=(A (i+1)).resolve_right (by omega);rw[yT j,Za]at h;refine tA (by grind [zD]) (uA (qO j) (sB (qC ?_)));rw[K1]at C h;have e1:cA .u32 (((10^i:Nat):Int)*10)=((10^(i+1):Nat):Int):=by rw[mX (by omega) (by omega),K1];omega
     have e2:cA .u32 (cA .u32 (((nE (r.take i):Nat):Int)*10)+cA .u32 (cA .u8 ((r[i]:Int)-48)))=((nE (r.take (i+1)):Nat):Int):=by
      rw[Md (by omega) (by omega),mX (n:=((nE (r.take i):Nat):Int)*10) (by omega) (by omega),mX (n:=(r[i]:Int)-48) (by omega) (by omega),mX (by omega) (by omega),yT j,Za];omega
     have S:tC (i:Int)=.e .i64 ((i+1:Nat):Int):=by
      show O.e .i64 (cA .i64 ((i:Int)+1))=_;rw[A2 (by omega) (by omega)];rfl
     grind
   exact m c 0 (by omega)
 have d:∀(k i:Nat),i+k=s.length->jp 140 2 [.h s,.d false,.e .i64 (s.length:Int),.e .i64 (i:Int),.d false,.g] t Q:=by
  intro k;induction k with
  | zero=>
   intro i p;refine zq3 ?_;unfold xn U6 N7;rw[I];refine vB (by grind [zD]) (vB (by grind [zD]) (qC ?_));exact o s.length s [] .g t (B3 _) hs hl (by grind) (zB.f _) wS (λx H=>by cases H) (by simp[A4])
  | succ k N=>
   intro i p;have E:s[i]?=some s[i]:=C6 (by omega);have ab:=z s[i] (F2 _);refine zq3 ?_;unfold xn U6 N7 uU;have S:tC (i:Int)=.e .i64 ((i+1:Nat):Int):=by
    grind [A2]
   refine tA (by grind [zD]) (uA (qO E) (sB (vB (by grind [zD]) (uA (qO E) (sB (vB (by grind [zD]) (qC ?_)))))));rw[S];exact N (i+1) (by omega)
 refine w140 ?_;unfold t140 uU;rw[I];refine tA (by grind [zD]) (uA l (sB (vB (by grind [wF]) (qC ?_))));have J:kB (x:Int) 45=false:=by grind [wF]
 rw[J];refine zu4 ?_;unfold zeg U6 uU;rw[I];refine vB (by grind [wF]) (uA l (sB ?_));by_cases W:x=48
 .have a8:s.length=1:=by
   unfold sQ at hp;have:s.head?=some 48:=by
    cases s with
    | nil=>cases H
    | cons a r=>simp_all
   grind
  refine tA (by grind [wF]) (vB (by simp) (vB (by grind [zD]) (qC ?_)));exact d s.length 0 (by omega)
 .refine vB (by grind [wF]) (qC ?_);exact d s.length 0 (by omega)
end
end
section
variable {a b:Nat}{u v:O}{l:List Nat}
variable [fC]
theorem Mk{n:Nat}(h:(dC n).length<=1024):yM false (dC n)=true:=by
 unfold yM;split
 .rfl
 .rename_i a;have b:=Sb n a
  grind
def el22:eS Y 22 261 1:=⟨⟨_,N8,rfl,rfl⟩,⟨_,Gl,rfl,rfl,by decide,by decide⟩,λy h=>by rw[Gl]at h;cases h;rfl⟩
section
variable {t:G vA}{Q:lB}
theorem Y6{b:Bool}  (h:bA t 1 (vD l) v):A8 10 (.i [.d b,v]) (.i [.d b,v])=true:=by
 have a:=bA.g (d:=9) h;have c:A8 9 (.d b) (.d b)=true:=CG;show(A8 9 (.d b) (.d b)&&(A8 9 v v&&true))=true
 simp_all
def HO  (h:bA t 1 (uC .u32 l) v)(g:l.length<400000)(a:pB 4294967296 l)(f:∀t' u,zB t t'->bA t' 1 (vD (dC (A4 4294967296 l))) u->Q (.i [.d false,u]) t'):Wc Y F 248 [.d false,v] t Q:=by
 refine AO h g a λt' u d e=>?_;have b:pB 65536 (xF (jI (xF l))):=yW (Zz (yW a));have c:A4 65536 (xF (jI (xF l)))=A4 4294967296 l:=by rw[jU,Vh,jU]
 rw[Ss b (sY _) c]at e;have:(if xF l=[]then false else false)=false:=by split<;>rfl
 rw[this];exact f t' u d e
def ziq  (B:bA t 1 (vD (dC a)) u)(A:bA t 1 (vD (dC b)) v)(ha:(dC a).length<=1000)(hb:(dC b).length<=1000)(S:0<b)
  (R:∀t' q r,zB t t'->bA t' 1 (vD (dC (a / b))) q->bA t' 1 (vD (dC (a%b))) r->Q (.p [.i [.d false,q],.i [.d false,r],.e .i64 0]) t'):Wc Y F 277 [.i [.d false,u],.i [.d false,v]] t Q:=by
 have c:=dQ;refine w277 ?_;unfold t277 uI uB;refine kC λM x s=>?_;obtain⟨t1,N,P,d,g4⟩:=Nw (C:=Y) (T:=323) (el:=24) (sz:=2) (n:=2) (cl:=[[.d false,u],[.d false,v]]) (ps:=[(0,.i [.d false,u]),(1,.i [.d false,v])]) yz rfl gg rfl rfl (by decide) rfl (λi cs y=>by
  match i,y with
  | 0,y=>grind
  | 1,y=>grind) rfl x
 refine⟨_,_,N,aA ?_⟩;have D:bA t1 2 ([(⟨false,dC a⟩:xL),⟨false,dC b⟩].map xL.d) (.m M 0 2 2):=⟨_,P,kD.2 ⟨_,_,rfl,Hi (w:=⟨false,dC a⟩) (B.a d),kD.2 ⟨_,_,rfl,Hi (w:=⟨false,dC b⟩) (A.a d),pG.2 rfl⟩⟩⟩;have g:=TL D (λw D=>by
  grind) (by simp)
 have W:=Mk (n:=a) (by omega);have X:=Mk (n:=b) (by omega);rw[q288,g,xA];refine iC (vB (by simp_all) ?_);have j:=bA.c (l:=vD (dC b)) A;rw[wU]at j;have h:dC b≠[]:=λe=>by grind [Ky]
 have U:0<(dC b).length:=List.length_pos_iff.2 h;refine uA j (sB (vB (by grind [wF]) (aA ?_)));rw[q235];refine Rt (A.a d) (by omega) (Bb b) λt2 v2 E Z=>aA ?_;rw[q235];refine Rt ((B.a d).a E) (by omega) (Bb a) λt3 v3 J m2=>aA ?_;rw[q295];have an:=Lw (Bb a);have ab:=Lw (Bb b);have k:∀n,A4 BB (qH (dC n))=n:=λn=>by rw[c,Vi,Gh]
 refine FQ m2 (Z.a J) (by rw[vT];omega) (by simp_all) (by simp_all) (Nr (Sb a)) (Nr (Sb b)) (λe=>?_) λt4 q r qv rv p1 p2 p3 p4 p5 p6 p7 p8 p9=>?_
 .have:=k b;rw[e]at this;have:(0:Nat)=b:=this;omega
 rw[k,k]at p8;rw[k]at p9;have z:A4 BB q=a / b/\A4 BB r=a%b:=by
  grind [Nat.mul_add_div,Nat.div_eq_of_lt,Nat.mul_add_mod,Nat.mod_eq_of_lt]
 have f:1<BB:=by omega
 have H:q.length<=1000:=by
  have p:A4 BB q<=A4 BB (qH (dC a)):=by rw[k,z.1];exact Nat.div_le_self _ _
  have:=tV f (by grind) p6 p
  grind [vT]
 have I:r.length<=1000:=by
  have p:A4 BB r<=A4 BB (qH (dC b)):=by grind
  have:=tV f (by grind) p7 p
  grind [vT]
 refine uA rfl (uA rfl (vB (by decide) (qC ?_)));refine zuu ?_;unfold zdp uG oI cI;refine aA ?_;rw[q248];show Wc Y F 248 [.d false,qv] t4 _;refine HO p2 (by omega) (by simp_all) λt5 u5 K m=>?_;rw[<- c,z.1]at m;refine aC (jQ m) (tA rfl (aA ?_));rw[q248];refine HO (p3.a K) (by omega) (by grind) λt6 u6 L o=>?_;rw[<- c,z.2]at o;refine aC (jQ o) (tA (gN m.e) (tA (gN o.e) ?_));exact R t6 u5 u6 (d.d (E.d (J.d (p1.d (K.d L))))) (m.a L) o
def zrg  (j:bA t 1 (vD (dC a)) u)(k:bA t 1 (vD (dC b)) v)(h:(dC a).length<=1000)(i:(dC b).length<=1000)(e:0<b)
  (g:∀t' q r,zB t t'->bA t' 1 (vD (dC (a / b))) q->bA t' 1 (vD (dC (a%b))) r->Q (.p [.i [.d false,q],.i [.d false,r]]) t'):Wc Y F 249 [.i [.d false,u],.i [.d false,v]] t Q:=by
 refine w249 ?_;unfold t249 uI uG oI cI;refine aA ?_;rw[q277];refine ziq j k h i e λt' q r f d c=>?_;refine uA rfl (aC (jQ d) (uA rfl (aC (jQ c) (uA rfl (sB (tA (gN d.e) (tA (gN c.e) (tA (gN d.e) (tA (Y6 c) (tA (gN c.e) ?_))))))))));exact g t' q r f d c
def ug{f:qF} (a:bA t 1 (vD f.n.a) u)(b:bA t 1 (vD f.d.a) v):nK [.d false,.g,.d false,.g] (.i [.d f.n.b,u,.d f.d.b,v])=some (AN [.d f.n.b,u,.d f.d.b,v]):=kN (Hj a b) (qF.zs _)
theorem Su (h:a<=b):(dC a).length<=(dC b).length:=
 tV (B:=65536) (by omega) (Bb b) (Sb a) (by grind [Gh])
def zt0  (H:bA t 1 (vD (dC a)) u)(y:bA t 1 (vD (dC b)) v)(ha:(dC a).length<=200)(hb:(dC b).length<=200)(i:0<b)
  (R:∀t' cs,zB t t'->RD t' (oO false a b).b cs->Q (.p [.i cs,.e .i64 0]) t'):Wc Y F 141 [.i [.d false,u],.i [.d false,v]] t Q:=by
 have m:=Mk (n:=a) (by omega);have o:=Mk (n:=b) (by omega);have p:=bA.c (l:=vD (dC b)) y;rw[wU]at p;have j:dC b≠[]:=λe=>by grind [Ky]
 have S:0<(dC b).length:=List.length_pos_iff.2 j;refine w141 ?_;unfold t141 N5 uI uB uG ep P3;refine aA ?_;rw[q196,Jk (by omega) H,xA,m];refine iC (vB (by simp) (aA ?_));rw[q196,Jk (by omega) y,xA,o];refine iC (vB (by simp) (uA p (sB (vB (by grind [wF]) (aA ?_)))));rw[q197];refine w197 ?_;unfold t197 oI;refine vB (by simp) (qC (j197_7 ?_));unfold zpm uG oI cI;refine aA ?_;rw[q234];refine w234 ?_;unfold t234 uI uG oI cI;refine aA ?_
 rw[q267];refine zrd (n:=⟨false,dC a⟩) (d:=⟨false,dC b⟩) H y (by grind) (by grind) (Bb a) (Bb b) m o λt1 g Z C c N P D=>?_;have D:A4 65536 g=Nat.gcd a b:=by rw[D,Gh,Gh]
 have T:=Ss N P D;subst T;have E:Nat.gcd a b<=b:=Nat.gcd_le_right _ i;have U:=Su E;have k:0<Nat.gcd a b:=Nat.gcd_pos_of_pos_right _ i;refine uA rfl (aC (jQ c) (uA rfl (sB (tA (gN c.e) (tA (gN c.e) ?_)))));refine aC (jQ c) (tA (gN c.e) (aA ?_));rw[q249];refine zrg (H.a C) c (by omega) (by omega) k λt2 q r I J W=>?_;refine uA rfl (aC (jQ J) (uA rfl (aC (jQ W) (tA (gN J.e) (aA ?_)))));rw[q249];refine zrg ((y.a C).a I) (c.a I) (by omega) (by omega) k λB A r2 L h X=>?_
 have z:=J.a L;have x:=Hj (f:=⟨⟨false,dC (a / Nat.gcd a b)⟩,⟨false,dC (b / Nat.gcd a b)⟩⟩) z h;refine uA rfl (aC (jQ h) (uA rfl (aC (jQ X) (tA (gN h.e) (tA rfl (tA rfl (tA x.e ?_)))))));refine aC (ug (f:=⟨⟨false,dC (a / Nat.gcd a b)⟩,⟨false,dC (b / Nat.gcd a b)⟩⟩) z h) (aA ?_);have M:=bA.c (l:=vD (dC (a / Nat.gcd a b))) z;rw[wU]at M;have w:=bA.c (l:=vD (dC (b / Nat.gcd a b))) h;rw[wU]at w;have la:=Su (Nat.div_le_self a (Nat.gcd a b))
 have lb:=Su (Nat.div_le_self b (Nat.gcd a b));have s:oB Y F 232 [.i [.d false,q,.d false,A]] B=some (.d false):=by
  refine mC.2 (w232 ?_);unfold t232 uI nH;refine uA M (sB (vB (by grind [zD]) (uA w (sB ⟨?_,rfl⟩))));rw[zD,decide_eq_false (by omega)]
 have K:oB Y F 198 [.i [.d false,q,.d false,A]] B=some (.p [.i [.d false,q,.d false,A],.e .i64 0]):=by
  refine mC.2 (w198 ?_);unfold t198 uB;refine aA ?_;rw[q232,s,xA];exact iC (vB (by simp) (tA x.e ⟨rfl,rfl⟩))
 rw[q198];show pD (oB Y F 198 [.i [.d false,q,.d false,A]] B) _;rw[K,xA];refine uA rfl (aC (ug (f:=⟨⟨false,dC (a / Nat.gcd a b)⟩,⟨false,dC (b / Nat.gcd a b)⟩⟩) z h) (uA rfl (sB (tA x.e ?_))));refine R B _ (C.d (I.d L)) ?_;unfold oO;exact x
def RX  (f:bA t 1 (vD l) v)(z:l.length<1000000)(p:∀t' v',zB t t'->bA t' 1 (vD l) v'->Q v' t'):Wc Y F 250 [v] t Q:=by
 refine w250 ?_;have e:(rU .eql).f Y 22 (.tmp 3) (.const (.slice none 0 0)) v .g=some (.d (Nat.beq v.aa 5)):=by
  obtain⟨y,o,_⟩:=f;rcases o with⟨rfl,_⟩ | ⟨b,s,g,rfl,_⟩
  .kernel_rfl
  .kernel_rfl
 simp only[uB,t250,lA,e,xA,Il];split
 .grind [pZ,bC,zB.f]
 .intro b q a;obtain⟨x,h,⟨c,i⟩,d⟩:=oe (t:=t) N8 rfl Gl rfl q;rw[h];simp only[xA];intro n r _;obtain⟨u,w,j,k,m,_⟩:=TI el22 (f.a d) (by grind [wU]) r (.inr ⟨b,c,0,rfl,i⟩);rw[j];simp only[xA];exact p _ _ (d.d m) k
def zfs {neg:Bool} (c:bA t 1 (vD l) v)(i:l.length<1000000)(h:∀t' v',zB t t'->bA t' 1 (vD l) v'->Q (.i [.d (!neg&&decide (0<l.length)),v']) t'):Wc Y F 199 [.i [.d neg,v]] t Q:=by
 have b:=bA.c (l:=vD l) c;rw[wU]at b;refine w199 ?_;unfold t199 uI
 cases neg with
 | false=>
  refine tA rfl (uA b (sB (aA ?_)));rw[q250];refine RX c i λf g d a=>?_;have e:bB 0 (l.length:Int)=decide (0<l.length):=by grind [zD]
  rw[e];have j:A8 10 (.e .i64 (l.length:Int)) (V (l.length:Int))=true:=by
   grind [Gy]
  refine tA c.g (uA b (tA j (tA (gN a.e) (tA (gN a.e) ?_))));have:=h f g d a;rw[K4,F3]at this;exact this
 | true=>
  refine vB (by simp) (aA ?_);rw[q250];refine RX c i λf g d a=>?_;refine tA (gN a.e) (tA (gN a.e) ?_);exact h f g d a
def kb {cs:List O}(x:RD t (oO false a b).b cs)(C:(dC a).length<=200)(D:(dC b).length<=200)(d:0<b)
  (w:∀t' cs,zB t t'->RD t' (oO true a b).b cs->Q (.p [.i cs,.e .i64 0]) t'):Wc Y F 142 [.i cs] t Q:=by
 have l:0<Nat.gcd a b:=Nat.gcd_pos_of_pos_right _ d;have E:=Su (Nat.div_le_self a (Nat.gcd a b));have H:=Su (Nat.div_le_self b (Nat.gcd a b));obtain⟨u,v,rfl,i,j⟩:=C2 x;have i:bA t 1 (vD (dC (a / Nat.gcd a b))) u:=i;have j:bA t 1 (vD (dC (b / Nat.gcd a b))) v:=j;have y:0<b / Nat.gcd a b:=Nat.div_pos (Nat.gcd_le_right _ d) l;have c:uN (oO false a b)=true:=by
  grind [uN,oO,Mk,Gh,Nat.gcd_div,Nat.gcd_dvd_left,Nat.gcd_dvd_right,Nat.div_self,Ky]
 have g:qF.a (oO false a b):=⟨⟨by show(dC _).length<_;grind [lF],by show(dC _).length<_;grind [lF]⟩,Bb _,Bb _⟩;refine w142 ?_;unfold t142 N5 uB uG cI;refine aA ?_;rw[q130];have:=AK (f:=oO false a b) i j g;show pD (oB Y F 130 [.i [.d (oO false a b).n.b,u,.d (oO false a b).d.b,v]] t) _;rw[this,xA,c];refine iC (vB (by simp) (aA ?_));rw[q199];refine zfs (neg:=false) i (by omega) λI K m n=>?_;have h:=j.a m
 refine aC (jQ n) (tA (Y6 h) (aA ?_));rw[q199];refine zfs (neg:=false) h (by omega) λJ L p q=>?_;refine aC (jQ q) (aA ?_);rw[q199];refine zfs (neg:=(!false&&decide (0<(dC (b / Nat.gcd a b)).length))) q (by omega) λB M r s=>?_;refine aC (jQ s) (tA rfl ?_);have A:0<(dC (b / Nat.gcd a b)).length:=List.length_pos_iff.2 λe=>by grind [Ky]
 have z:(oO true a b).n=⟨!false&&decide (0<(dC (a / Nat.gcd a b)).length),dC (a / Nat.gcd a b)⟩:=by
  grind [oO,Ky,Nat.div_pos,Nat.gcd_le_left,List.length_pos_iff]
 have k:(oO true a b).d=⟨!(!false&&decide (0<(dC (b / Nat.gcd a b)).length))&&decide (0<(dC (b / Nat.gcd a b)).length),dC (b / Nat.gcd a b)⟩:=by
  grind [oO]
 have o:=Hj (f:=⟨⟨!false&&decide (0<(dC (a / Nat.gcd a b)).length),dC (a / Nat.gcd a b)⟩,⟨!(!false&&decide (0<(dC (b / Nat.gcd a b)).length))&&decide (0<(dC (b / Nat.gcd a b)).length),dC (b / Nat.gcd a b)⟩⟩) ((n.a p).a r) s;refine tA o.e ?_;refine w B _ (m.d (p.d r)) ?_;have:oO true a b=⟨(oO true a b).n,(oO true a b).d⟩:=rfl;rw[this,z,k];exact o
end
end
section
variable {l s:List Nat}{v y:O}{o x:Nat}{Q:lB}{I:Nat->G vA->Prop}{neg:Bool}
variable [fC]
section
variable {t tf:G vA}
def YQ      (u:l.length<1000000)
  (g:∀k t,I k t->oA Y 22 ⟨0,t⟩ (.j o 0)=some v/\bA t 1 (uC .u16 l) v)
  (n:∀k x t,l[k]?=some x->I (k+1) t->∀R:lB,(∀t',I k t'->R (.d true) t')->pD (mM y [.e .u16 (x:Nat)]) λp=>Wq Y F eC p.1 p.2 t R)
  (r:∀t,I 0 t->Q (.p []) t):∀(k:Nat) (t:G vA),k<=l.length->I k t->jp 278 2 [y,.j o 0,.e .i64 ((k:Int)-1)] t Q:=by
 intro k;induction k with
 | zero=>
  intro t _ h;refine zqn ?_;simp only[uH,uB,V,uW,ye,lA,mI];simp_all
 | succ k w=>
  intro t s h;obtain⟨d,m⟩:=g _ _ h;obtain⟨x,a⟩:=A6 (l:=l) (i:=k) (by omega);obtain⟨c,q,e,f⟩:=m.f Dl a;have b:((k+1:Nat):Int)-1=(k:Int):=by omega
  rw[b];refine zqn ?_;simp (disch:=omega) only[uH,uB,V,uW,ye,lA,mI,d,e,f,xA,yC,A2];rw[A5 (by omega)];refine n k x t a h _ λt' j=>?_
  grind [O.r,xA]
def zin     {t:G vA} (d:l.length<1000000)
  (a:∀k t,I k t->oA Y 22 ⟨0,t⟩ (.j o 0)=some v/\bA t 1 (uC .u16 l) v)
  (f:∀k x t,l[k]?=some x->I (k+1) t->∀R:lB,(∀t',I k t'->R (.d true) t')->pD (mM y [.e .u16 (x:Nat)]) λp=>Wq Y F eC p.1 p.2 t R)
  (c:∀t,I 0 t->Q (.p []) t) (h:I l.length t):Wc Y F 278 [y,.j o 0] t Q:=by
 obtain⟨b,e⟩:=a _ _ h;refine w278 ?_;simp (disch:=omega) only[uI,V,uW,t278,lA,b,e.c,sH,xA,yC,A2];exact YQ d a f c l.length t (B3 _) h
def WZ{f i:Nat}{v8 n:O}{K R:T}{ps:List Nat} {S:Nat->G vA->G vA->Prop}(s:∀k,AC (S k))(hp:bA tf 1 (uC .u16 ps) n)(hl:ps.length<30000)(h:S ps.length tf t)
  (C:∀(k x:Nat) (tf t:G vA) (Q1:lB),ps[k]?=some x->S (k+1) tf t->(∀t',S k tf t'->Q1 (.d true) t')->Jq Y F f i [v8,.e .u16 (x:Int)] t Q1)
  (M:∀L t',zB tf L->S 0 L t'->lA Y.a (Wq Y F eC) (Jq Y F f) K t' Q) :
  lA Y.a (Wq Y F eC) (Jq Y F f) (.c 251 [n] λa0=>.p (qQ Y) a0 i 1 [v8] K R) t Q:=by
 simp only[lA];rw[q251];refine w251 ?_;simp only[t251,lA];intro p D N;have P:n.s=[n]:=by
  obtain⟨cl,B,_⟩:=hp;rcases B with⟨rfl,_⟩ | ⟨_,_,_,rfl,_⟩<;>rfl
 have J:nL n ⟨p,t⟩=some (.j p 0,⟨p+1,t.d p (.aa (G.ac [n]) 1 none)⟩):=by
  unfold nL;rw[P];rfl
 rw[J,xA];simp only[];have B:=(s _).aa h D (.aa (G.ac [n]) 1 none);have U:=Bz ((s _).le h) D;have q:zB tf (tf.d p (.aa (G.ac [n]) 1 none)):=(bN U _).1;generalize a6:tf.d p (.aa (G.ac [n]) 1 none)=o at B q;have W:o.c p=some (.aa (G.ac [n]) 1 none):=by rw[<- a6,G.aa,A5 rfl]
 generalize t.d p (.aa (G.ac [n]) 1 none)=t1 at B;refine⟨Nat.le_add_right _ _,λl r E a7 z A hy=>?_⟩;have a1:Bs (qQ Y) (.q (.aa 278) [] [.j p 0]) l=some (278,[.q (.ac l) [] [],.j p 0]):=by
  unfold Bs;simp only[O.am,mA];have:qQ Y 278=true:=by kernel_rfl
  rw[this];rfl
 rw[a1,xA];have h2:=(s _).aa B E (.ac r);have y:=Bz ((s _).le B) E;have X:pP true r=r:=by
  obtain⟨a,b,c,d,e,f,g,h,i⟩:=r;have z:a=.ready:=z;have A:b=none:=A;subst z;subst A;rfl
 have u:zB o (o.d l (.ac r)):=(bN y _).1;rw[show Wq Y F eC 278=Wc Y F 278 by funext a m R;rw[q278]];refine zin (l:=ps) (v:=n) (I:=λk t'=>S k (o.d l (.ac r)) t') (by omega) ?_ ?_ ?_ h2
 .intro k t' w;have H:=(s _).le w;have hg:t'.c p=some (.aa (G.ac [n]) 1 none):=H _ _ (u _ _ W);refine⟨?_,hp.a (q.d (u.d H))⟩;exact(xC.f (cs:=[n]) (lo:=none) ⟨G.ac [n],hg,λj a hj=>by grind [G.o]⟩ N8 rfl (j:=0) rfl)
 .intro k x t' hx w R hR;show pD (some (yo+l,[O.e .u16 (x:Int)])) _;rw[xA];refine hy [.e .u16 (x:Int)] t' R rfl ((s _).le w _ _ (by rw[G.aa,A5 rfl])) ?_;refine C k x o _ _ hx ((s _).ac y w) λt2 h3 Z=>⟨true,rfl,?_⟩;rw[X];exact hR _ ((s _).aa h3 Z (.ac r))
 .intro t' w;exact .inl ⟨(s _).le w _ _ (by rw[G.aa,A5 rfl]),M o _ q ((s _).ac y w)⟩
def or16{y:Nat}(d:x<281474976710656)(c:y<65536):jJ Nat.lor .u64 ((x*65536:Nat):Int) (y:Int)=some (.e .u64 ((x*65536+y:Nat):Int)):=by
 have h:=Jy (a:=x) (b:=y) (n:=16) c;have e:(2:Nat)^16=65536:=by decide
 rw[e]at h;rw[kY (k:=.u64) (show x*65536<aH .u64 by show _<18446744073709551616;omega) (show y<aH .u64 by show _<18446744073709551616;omega),h]
def zna{a y:Nat}{b:lB}(h:tZ a (.e .u64 (y:Int)) tf t)(m:y<281474976710656)(l:x<65536)(k:∀t',tZ a (.e .u64 ((y*65536+x:Nat):Int)) tf t'->b (.d true) t'):jp 200 2 [.j a 0,.e .u16 (x:Int)] t b:=by
 obtain⟨c,d,n,e⟩:=h;have g:(y:Int)*65536=((y*65536:Nat):Int):=by omega
 have i:jJ Nat.lor .u64 (cA .u64 ((y:Int)*65536)) (cA .u64 (x:Int))=some (.e .u64 ((y*65536+x:Nat):Int)):=by
  rw[g,iG (by omega) (by omega),iG (by omega) (by omega),or16 m l]
 refine j200_2 ?_;unfold zpk uE;refine fB (e.f zT rfl (j:=0) rfl) (sB ?_);refine uA i (sB (kC λf _ _=>?_));obtain⟨r,o,p,q⟩:=e.g (v:=.e .u64 ((y*65536+x:Nat):Int)) c zT rfl rfl rfl (j:=0) (by simp);exact⟨_,_,o f,k _ ⟨c,d,n.g d q,p⟩⟩
def kg{n:Nat} (s:bA t 1 (vD (dC n)) v)(hl:(dC n).length<=1000):oB Y F 200 [.i [.d false,v]] t=some (.p [.e .i64 (if n<9223372036854775808 then(n:Int)else 0),.e .i64 (if n<9223372036854775808 then 0 else 3)]):=by
 have i:=bA.c (l:=vD (dC n)) s;rw[wU]at i;have f:=Bb n;have g:=Gh n;refine xV (w200 ?_);unfold t200 uI uB;refine aA ?_;rw[q196,Jk (by omega) s,xA,Mk (by omega)];refine iC (vB (by simp) (uA i (sB ?_)));by_cases X:4<(dC n).length
 .have d:¬ n<9223372036854775808:=λh=>by
   have:=zg7 (n:=n) (k:=4) (by omega);omega
  refine tA (by grind [zD]) ⟨?_,zB.f _⟩;rw[A3 d,A3 d]
 .have z:n<18446744073709551616:=by
   grind [dC]
  refine vB (by grind [zD]) (kC λy c a=>?_);obtain⟨t1,H,I,T,J⟩:=gP (C:=Y) zT c;refine⟨_,_,H,kC λE _ _=>?_⟩;obtain⟨P,K,L,M⟩:=I.g (v:=.e .u64 0) a zT rfl rfl rfl (j:=0) (by simp);refine⟨_,_,K E,?_⟩;have p:tZ y (.e .u64 ((A4 65536 ((dC n).drop (dC n).length):Nat):Int)) t P:=by
   rw[List.drop_length];exact⟨a,c,(zB.f t).g c J |>.g c M,L⟩
  refine WZ (S:=λk tf t=>tZ y (.e .u64 ((A4 65536 ((dC n).drop k):Nat):Int)) tf t) (λk=>tZ.a) s (by omega) p (λk x tf t R u o N=>?_) (λQ D e o=>?_)
  .have Z:=(F6.1 u).1;have r:(dC n).drop k=x::(dC n).drop (k+1):=xU u;have q:A4 65536 ((dC n).drop (k+1))<281474976710656:=by
    have W:=aQ (B:=65536) (by omega) (GO f (k+1))
    grind [dC]
   have m:x<65536:=f x (O9 u);refine zna o q m λD U=>N D ?_;have:A4 65536 ((dC n).drop k)=A4 65536 ((dC n).drop (k+1))*65536+x:=by grind [A4]
   simp_all
  .obtain⟨i1,i2,A,w⟩:=o;rw[G8,g]at w;unfold uE;refine vB (by simp) (fB (w.f zT rfl (j:=0) rfl) (sB ?_));by_cases b:n<9223372036854775808
   .rw[A5 b,A5 b];refine vB (by grind [eT]) (fB (w.f zT rfl (j:=0) rfl) (sB ⟨?_,e.d A⟩));have:uW (n:Int)=(n:Int):=A2 (by omega) (by omega);rw[this]
   .rw[A3 b,A3 b];exact tA (by grind [eT]) ⟨rfl,e.d A⟩
def zf5 (h:sK s=false):jP s=s:=by
 unfold sK at h;unfold jP dE;induction s with
 | nil=>rfl
 | cons b s c=>
  rw[List.contains_cons]at h;simp only[Z4,beq_eq_false_iff_ne]at h;have a:decide (b≠47)=true:=decide_eq_true λe:b=47=>h.1 e.symm;rw[List.takeWhile_cons,a,A5 rfl,c h.2]
theorem zi0:∀s:List Nat,Fg [47] s=if sK s=true then some (jP s,mR s)else none:=by
 intro s;induction s with
 | nil=>rfl
 | cons b s d=>
  have e:Ak [47] (b::s)=Nat.beq 47 b:=by
   show(bif Nat.beq 47 b then Ak [] s else false)=_;have:Ak [] s=true:=by cases s<;>rfl
   rw[this];cases Nat.beq 47 b<;>rfl
  unfold Fg;rw[e,d];unfold sK mR jP dE;rw[List.contains_cons]
  cases f:Nat.beq 47 b with
  | true=>
   grind [bC,List.takeWhile_cons,mT,eD]
  | false=>
   have a:¬ 47=b:=λe=>by simp_all
   have c:decide (b≠47)=true:=decide_eq_true λe:b=47=>a e.symm;rw[cond_false,List.takeWhile_cons,c,A5 rfl];have:(47 == b)=false:=by simp[a]
   rw[this,Bool.false_or];split
   .simp
   .rfl
def FU (h:∀b∈s,dD b=true)(d:s.length<=200):(dC (nE s)).length<=200:=by
 have a:=Ot h;have c:10^s.length<=65536^s.length:=Nat.pow_le_pow_left (by omega) _;have:=zg7 (n:=nE s) (k:=s.length) (by omega);omega
def qy  {lo hi:Int}(h:Bx s)(z:sK s=false)(y : -4294967296<=lo)(w:hi<=4294967296):∃i:Int,oB Y F 144 [.h s,.d neg,.e .i64 lo,.e .i64 hi] t=some (.p [.e .i64 i,.d (nP s neg lo hi).isSome])/\∀j,nP s neg lo hi=some j->i=j:=by
 obtain⟨o,g,p,q,_⟩:=h;rw[zf5 z]at g p q;have e:=FU g o;generalize v:nE s=n at e;have d:∀R:lB,(∀c,zB t c->n<9223372036854775808->jp 144 15 [.e .i64 lo,.e .i64 hi,.e .i64 (if neg then -(n:Int)else n)] c R)->(∀c,zB t c->¬ n<9223372036854775808->R (.p [.e .i64 0,.d false]) c)->Wc Y F 144 [.h s,.d neg,.e .i64 lo,.e .i64 hi] t R:=by
  intro R B A;refine w144 ?_;unfold t144 uI uG oI cI;refine aA ?_;rw[q140];refine CU g p q o λc u b f=>?_;rw[v]at f;refine uA rfl (aC (jQ f) (uA rfl (sB (tA (gN f.e) (aA ?_)))));rw[q200];show pD (oB Y F 200 [.i [.d false,u]] c) _;rw[kg f (by omega),xA];refine uA rfl (sB (uA rfl (sB ?_)));by_cases a:n<9223372036854775808
  .rw[A5 a,A5 a];refine vB (by decide) ?_
   grind [tA,qC,A2,vB]
  .rw[A3 a,A3 a];exact tA (by decide) (A c b a)
 by_cases a:n<9223372036854775808
 .refine⟨if neg then -(n:Int)else n,xV (d _ (λc b _=>?_) λc _ k=>absurd a k),λj r=>?_⟩
  .refine zu3 ?_;unfold zed;unfold nP;rw[v];generalize (if neg then -(n:Int)else n)=m;show wp 144 _ c _;by_cases x:lo<=m
   .refine tA (by grind [eT]) ⟨?_,b⟩
    grind [eT]
   .refine vB (by grind [eT]) ⟨?_,b⟩;simp[x]
  grind [nP]
 .have l:nP s neg lo hi=none:=by
   grind [nP]
  rw[l];exact⟨0,xV (d _ (λc _ k=>absurd k a) λc b _=>⟨rfl,b⟩),λj r=>by cases r⟩
def kh   (h:Bx s)(D:∀t' cs,zB t t'->RD t' (kP s neg).b cs->Q (.i cs) t'):Wc Y F 80 [.h s,.d neg] t Q:=by
 obtain⟨h1,C,R,S,T⟩:=h;have la:(jP s).length<=s.length:=by grind [jP,dE,List.takeWhile_sublist]
 have a:∀b:List Nat,(∀x∈b,dD x=true)->b≠[]->sQ b=false->b.length<=200->0<nE b->kP s neg=oO neg (nE (jP s)) (nE b)->jp 80 9 [.d neg,.h (jP s),.h b,.d false,.g,.d false,.g] t Q:=by
  intro b q M N w z E;refine j80_9 ?_;unfold t80_9 uI uG oI cI ep P3;refine aA ?_;rw[q140];refine CU C R S (by omega) λt1 u I n=>?_;refine uA rfl (aC (jQ n) (uA rfl (sB (tA (gN n.e) (aA ?_)))));rw[q140];refine CU q M N w λt2 v o p=>?_;refine uA rfl (aC (jQ p) (uA rfl (sB (tA (gN p.e) (aA ?_)))));rw[q141];have J:=FU C (by omega);have K:=FU q w;refine zt0 (n.a o) p J K z λX cs L d=>?_;obtain⟨u3,v3,rfl,j,l⟩:=C2 d
  refine uA rfl (aC (ug j l) (uA rfl (sB (tA d.e ?_))))
  cases neg with
  | true=>
   refine tA rfl (aA ?_);rw[q142];refine kb d J K z λZ P W g=>?_;obtain⟨u4,v4,rfl,k,m⟩:=C2 g;refine uA rfl (aC (ug k m) (uA rfl (sB (tA g.e (tA g.e ?_)))));refine D Z _ (I.d (o.d (L.d W))) ?_;rw[E];exact g
  | false=>
   refine vB (by simp) (tA d.e ?_);refine D X _ (I.d (o.d L)) ?_;rw[E];exact d
 refine w80 ?_;unfold t80 uB uS;refine aA ?_;have U:Y.c.c 139=some (rN R3):=by kernel_rfl
 have c:oB Y F 139 [.h s,.h [47]] t=some (.p [.h (if sK s=true then jP s else s),.h (if sK s=true then mR s else []),.d (sK s)]):=by
  refine Ke U λH=>?_;show tB (Nat.blt (wB s) 4294967281) _=_;rw[eD,gC.2 (by omega),xE,zi0];cases sK s<;>rfl
 rw[q139,c,xA];refine uA rfl (jC (uA rfl (jC (uA rfl (iC ?_)))))
 cases i:sK s with
 | true=>
  obtain⟨A,B,f,c4⟩:=T i;refine vB (by simp) (qC ?_);simp only[if_true];have lb:(mR s).length<=s.length:=by grind [mR]
  refine a (mR s) B A f (by omega) (zn2 B A λe=>?_) (by grind [kP]);unfold sQ at f;rw[e]at f;simp at f;have:(mR s).length=1:=by grind [List.length_pos_iff]
  match hb:mR s with
  | []=>grind
  | [x]=>simp_all
  | x::y::r=>simp_all
 | false=>
  refine tA rfl (qC ?_);simp only[F0,if_false];have:=a [49] (by decide) (by simp) (by decide) (by simp) (by decide) (by unfold kP;rw[i];rfl)
  rwa [zf5 i]at this
end
end
end Go.Proofs
