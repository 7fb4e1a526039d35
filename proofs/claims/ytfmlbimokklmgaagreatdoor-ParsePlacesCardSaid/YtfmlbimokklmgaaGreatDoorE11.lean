/- Seat 30: types, functions, variables, what the library's functions are worth; awake. -/
import Derived.ProofKit
import Derived.Test.YtfmlbimokklmgaaGreatDoorE08
import Derived.Test.YtfmlbimokklmgaaGreatDoorE09
import Derived.Test.YtfmlbimokklmgaaGreatDoorE10
set_option linter.all false
noncomputable section
set_option maxRecDepth 100000
namespace Go.Am
open Go Go.RowKit Go.Proofs
variable {C:mA}{base f:Nat}
def OM:allT (fun t ty=>match tyOf Tryz.prog t with | some u=>eqTy u ty | none=>false) tys (fun n=>n)=true:=by kernel_rfl
def zdq (hC:C.tys=tys):kF Tryz.prog C:=by
 intro t ty h;rw[hC]at h;have:=zjv tys _ OM t ty h
 cases hu:tyOf Tryz.prog t with
 | none=>rw[hu]at this;cases this
 | some u=>rw[hu]at this;rw[zja this]
def TP : (Tryz.funcs.toList.all fun fn => !(fn.name == "runtime.NumGoroutine")) = true := by kernel_rfl
def Yt (hC:C.fns=fns):Cw Tryz.prog C:=by
 intro f fn h;rw[hC]at h;unfold fns at h;rw[Tr.get_ofList]at h;have h2:Tryz.prog.funcs[f]?=some fn:=by
  show Tryz.funcs[f]?=some fn
  simpa using h
 refine⟨h2,?_⟩
 have:=ycb.1 TP fn (ycv h)
 simpa using this
structure fM (w:World):Prop where
 kinds:∃t,w.heap[1]?=some (.cells (gS lZ).toArray t (0,0))
 modes:∃t,w.heap[4]?=some (.cells (gS wZ).toArray t (0,0))
 lens:∃t,w.heap[2]?=some (.cells (fX pZ).toArray t (0,0))
 most:∃m,w.cell? ⟨0,0,none⟩=some (.int .i64 m)
def fM.size{w:World}(h:fM w):5<=w.heap.size:=by
 obtain⟨t,h⟩:=h.modes
 have:=(ybe.1 h).1
 omega
def fM.below{w w':World}{N:Nat}(hN:5<=N)(h:fM w)(hb:Below N w w'):fM w':=by
 refine⟨?_,?_,?_,?_⟩
 ·obtain⟨t,h⟩:=h.kinds;exact⟨t,by rw[hb.block 1 (by omega)];exact h⟩
 ·obtain⟨t,h⟩:=h.modes;exact⟨t,by rw[hb.block 4 (by omega)];exact h⟩
 ·obtain⟨t,h⟩:=h.lens;exact⟨t,by rw[hb.block 2 (by omega)];exact h⟩
 ·obtain⟨m,h⟩:=h.most;exact⟨m,by rw[hb.cell (p:=⟨0,0,none⟩) (by show 0<N;omega)];exact h⟩
def hrel30{w:World}(h:fM w):vB 256 w.heap.size mu0 H30 w:=by
 have hget:∀a x,H30.t.get a=some x->(a=1/\x=.cells (Tr.ofList (Bd lZ)) (zB (Bd lZ)) none)\/(a=4/\x=.cells (Tr.ofList (Bd wZ)) (zB (Bd wZ)) none)\/(a=2/\x=.cells (Tr.ofList (intA .i64 pZ)) (zB (intA .i64 pZ)) none):=by
  intro a x hx;have hx:(glob 1 (Bd lZ) (glob 4 (Bd wZ) (glob 2 (intA .i64 pZ) .leaf))).get a=some x:=hx
  unfold glob at hx;rw[Tr.get_set,Tr.get_set,Tr.get_set]at hx;split at hx
  ·rename_i e;exact .inl ⟨e,(yci hx).symm⟩
  ·split at hx
   ·rename_i e;exact .inr (.inl ⟨e,(yci hx).symm⟩)
   ·split at hx
    ·rename_i e;exact .inr (.inr ⟨e,(yci hx).symm⟩)
    ·rw[Tr.get_leaf]at hx;cases hx
 have hsz:=h.size
 refine⟨ybk _,fun g hg=>by simp[mu0,hg],fun a x i _ hx hi=>?_,ybk _,ybk _,fun a ha=>?_,fun a x i hx hi=>?_,fun a i ha hi=>?_,fun a b x y i j hx _ _ _ ha _ _=>?_,fun a x t ha=>by cases ha⟩
 ·rcases hget a x hx with⟨rfl,rfl⟩ | ⟨rfl,rfl⟩ | ⟨rfl,rfl⟩<;>cases hi<;>exact⟨Nat.lt_of_lt_of_le (by decide) hsz,rfl,rfl⟩
 ·have ha:256<=a:=ha
  refine⟨by simp[mu0];omega,?_⟩
  cases hx:H30.t.get a with
  | none=>rfl
  | some x=>rcases hget a x hx with⟨rfl,_⟩ | ⟨rfl,_⟩ | ⟨rfl,_⟩<;>omega
 ·rcases hget a x hx with⟨rfl,rfl⟩ | ⟨rfl,rfl⟩ | ⟨rfl,rfl⟩
  ·obtain⟨t,h⟩:=h.kinds;cases hi;exact⟨_,h,Zx (Uy lZ) t⟩
  ·obtain⟨t,h⟩:=h.modes;cases hi;exact⟨_,h,Zx (Uy wZ) t⟩
  ·obtain⟨t,h⟩:=h.lens;cases hi;exact⟨_,h,Zx (JG pZ) t⟩
 ·simp[mu0]at hi;omega
 ·rcases hget a x hx with⟨rfl,_⟩ | ⟨rfl,_⟩ | ⟨rfl,_⟩<;>omega
def kY{s:ByteArray}{l:List Nat}(h:nF s=l):s.data.toList.map UInt8.toNat=l:=h
def Fb {fn:Func}(hf:Tryz.funcs[f]?=some fn)(hb:fn.body.isSome=true){args:Array Value}{w:World}:(callFunc f args).run Tryz.prog w=.ok (.enter f args) w:=
 Pa (C:=C30w) (Yt rfl) (show fns.get f=some fn by unfold fns;rw[Tr.get_ofList];simpa using hf) hb
def LG(c:UInt8):∀s:List UInt8,rT c.toNat (s.map UInt8.toNat)=Lib.countByte s c
 | []=>rfl
 | b::l=>by
  have ih:=LG c l
  unfold Lib.countByte at ih ⊢
  simp only[ycm,rT,qD];rw[List.count_cons];by_cases h:b=c
  ·subst h;simp[ih]
  ·have:¬ Nat.beq b.toNat c.toNat=true:=fun e=>h (UInt8.toNat_inj.1 (lC.1 e))
   rw[yaa this,ih];simp[h]
section
variable {B N:Nat}{μ:Mu}{H:xA}{w:World}{args:List zA}{args':Array Value}{v:zA}
def Nx{a b:zA}(h:rB μ [a,b] args'.toList):∃x y,args' = #[x,y]/\uA μ a x/\uA μ b y:=by
 rw[rB]at h;obtain⟨x,r,h1,h2,h3⟩:=h
 rw[rB]at h3;obtain⟨y,r',h4,h5,h6⟩:=h3
 rw[rB]at h6;subst h4 h6
 exact⟨x,y,by apply yax.1;simpa using h1,h2,h5⟩
def EW(hv:Ks args H=some v)(hl:rB μ args args'.toList) :
  (callFunc 107 args').run Tryz.prog w=.ok (.enter 107 args') w/\Calls Tryz.prog 107 args' w fun e w'=>∃v',e=.returned v'/\uA μ v v'/\Below w.heap.size w w':=by
 refine⟨Fb (fn:=Tryz.f107) Tryz.func107 (by kernel_rfl),?_⟩
 unfold Ks at hv;split at hv
 case h_2=>cases hv
 rename_i s c;rw[wB,pC]at hv;obtain⟨hc,hv⟩:=hv
 cases hv;obtain⟨x,y,rfl,hx,hy⟩:=Nx hl
 simp only[uA]at hx hy;obtain⟨s',rfl,hs⟩:=hx
 subst hy;refine(Tryz.strings_IndexByte s' (Int.ofNat c) w).mono fun e w' ⟨he,hw⟩=>?_
 subst hw;refine⟨_,he,?_,Below.refl _ _⟩
 have hcc:(c.toUInt8).toNat=c:=by simp[Nat.toUInt8,UInt8.toNat_ofNat'];omega
 have:=JJ c.toUInt8 s'.data.toList
 rw[hcc,kY hs]at this;rw[uA];show Value.int .i64 (Lib.indexByte s'.data.toList c.toUInt8)=_
 rw[<- this]
def EY(hv:Ku args H=some v)(hl:rB μ args args'.toList) :
  (callFunc 54 args').run Tryz.prog w=.ok (.enter 54 args') w/\Calls Tryz.prog 54 args' w fun e w'=>∃v',e=.returned v'/\uA μ v v'/\Below w.heap.size w w':=by
 refine⟨Fb (fn:=Tryz.f54) Tryz.func54 (by kernel_rfl),?_⟩
 unfold Ku at hv;split at hv
 case h_2=>cases hv
 rename_i s c
 cases hv;obtain⟨x,y,rfl,hx,hy⟩:=Nx hl
 rw[uA]at hx hy;obtain⟨s',rfl,hs⟩:=hx
 obtain⟨c',rfl,hc⟩:=hy
 obtain⟨b,hb,hbc⟩:∃b:UInt8,c'=⟨#[b]⟩/\b.toNat=c:=by
  have h1:=kY hc
  obtain⟨⟨l⟩⟩:=c'
  match l,h1 with
  | [b],h1=>exact⟨b,rfl,by simpa using h1⟩
 subst hb;refine(Tryz.strings_Count_one s' b w).mono fun e w' ⟨he,hw⟩=>?_
 subst hw;refine⟨_,he,?_,Below.refl _ _⟩
 have:=LG b s'.data.toList
 rw[hbc,kY hs]at this;rw[uA,<- this];rfl
def EZ(hI:fM w)(hv:Gz args H=some v)(hl:rB μ args args'.toList) :
  (callFunc 66 args').run Tryz.prog w=.ok (.enter 66 args') w/\Calls Tryz.prog 66 args' w fun e w'=>∃v',e=.returned v'/\uA μ v v'/\Below w.heap.size w w':=by
 refine⟨Fb (fn:=Tryz.f66) Tryz.func66 (by kernel_rfl),?_⟩
 unfold Gz at hv;split at hv
 case h_2=>cases hv
 rename_i s c;rw[wB,pC,oD]at hv;obtain⟨hlen,hv⟩:=hv
 cases hv;obtain⟨x,y,rfl,hx,hy⟩:=Nx hl
 rw[uA]at hx hy;obtain⟨s',rfl,hs⟩:=hx
 obtain⟨c',rfl,hc⟩:=hy
 obtain⟨m,hm⟩:=hI.most
 have hsz:s'.size<4294967281:=by
  have:=congrArg List.length (kY hs)
  simp at this;omega
 refine(Tryz.strings_Contains s' c' m w hsz hm).mono fun e w' ⟨he,hw⟩=>?_
 subst hw;refine⟨_,he,?_,Below.refl _ _⟩
 have:=LI c'.data.toList s'.data.toList
 rw[kY hs,kY hc]at this;rw[uA,this]
def EX(hI:fM w)(hv:pCut args H=some v)(hl:rB μ args args'.toList) :
  (callFunc 98 args').run Tryz.prog w=.ok (.enter 98 args') w/\Calls Tryz.prog 98 args' w fun e w'=>∃v',e=.returned v'/\uA μ v v'/\Below w.heap.size w w':=by
 refine⟨Fb (fn:=Tryz.f98) Tryz.func98 (by kernel_rfl),?_⟩
 unfold pCut at hv;split at hv
 case h_2=>cases hv
 rename_i s c;rw[wB,pC,oD]at hv;obtain⟨hlen,hv⟩:=hv
 obtain⟨x,y,rfl,hx,hy⟩:=Nx hl
 rw[uA]at hx hy;obtain⟨s',rfl,hs⟩:=hx
 obtain⟨c',rfl,hc⟩:=hy
 obtain⟨m,hm⟩:=hI.most
 have hsz:s'.size<4294967281:=by
  have:=congrArg List.length (kY hs)
  simp at this;omega
 refine(Tryz.strings_Cut s' c' m w hsz hm).mono fun e w' ⟨he,n,hw⟩=>?_
 subst hw;have hb:Below w.heap.size w (w.drewN n):=⟨rfl,rfl,rfl,ybk _,fun _ _=>rfl⟩
 refine⟨_,he,?_,hb⟩
 have hcut:=zfr c'.data.toList s'.data.toList
 rw[kY hs,kY hc]at hcut
 cases hx:Af c s with
 | none=>
  rw[hx]at hcut hv
  cases hv;have hcut:Lib.index s'.data.toList c'.data.toList = -1:=hcut
  have e:Lib.cut s'.data.toList c'.data.toList=(s'.data.toList,[],false):=by unfold Lib.cut;rw[hcut];rfl
  rw[e,uA];exact⟨_,rfl,.cons (by rw[uA];exact⟨_,rfl,by rw[<- hs]⟩) (.cons (by rw[uA];exact⟨_,rfl,by simp[nF]⟩) (.single (by rw[uA])))⟩
 | some p=>
  rw[hx]at hcut hv
  cases hv;obtain⟨a,b,rfl,h1,h2,h3⟩:=hcut
  have e:Lib.cut s'.data.toList c'.data.toList=(a,b,true):=by unfold Lib.cut;rw[yab h1,h2,h3]
  rw[e,uA];exact⟨_,rfl,.cons (by rw[uA];exact⟨_,rfl,by simp[nF]⟩) (.cons (by rw[uA];exact⟨_,rfl,by simp[nF]⟩) (.single (by rw[uA])))⟩
end
section
variable {B N:Nat}{μ:Mu}{H H':xA}{w:World}{args:List zA}{args':Array Value}{v:zA}
def SF (hbase:B<=base)(hH:vB B N μ H w)(hv:Ha base Qf args H=some (v,H'))(hl:rB μ args args'.toList) :
  (callFunc 82 args').run Tryz.prog w=.ok (.enter 82 args') w/\Calls Tryz.prog 82 args' w fun e w'=>∃v' μ',e=.returned v'/\μ.le μ'/\vB B N μ' H' w'/\Below N w w'/\uA μ' v v':=
 SP hbase (fun p hp b n w h1 h2 h3 h4=>by
  obtain rfl:p=(110,2):=by simpa[Qf]using hp
  exact YH b n w h1 h2 (show 1<n from h3) h4) (fun b w h=>YG b w h) (fun w a=>Fb (fn:=Tryz.f82) Tryz.func82 (by kernel_rfl)) hH hv hl
def SE (hbase:B<=base)(hH:vB B N μ H w)(hv:Gy base 5 args H=some (v,H'))(hl:rB μ args args'.toList) :
  (callFunc 52 args').run Tryz.prog w=.ok (.enter 52 args') w/\Calls Tryz.prog 52 args' w fun e w'=>∃v' μ',e=.returned v'/\μ.le μ'/\vB B N μ' H' w'/\Below N w w'/\uA μ' v v':=
 SO Tryz.lays169 Tryz.Builder_Extra_169 (f:=52) rfl hbase (fun w a=>Fb (fn:=Tryz.f52) Tryz.func52 (by kernel_rfl)) hH hv hl
end
def pV{α:Type}{t:Tr α}{i j:Nat}{x y:α}(h:(t.set i x).get j=some y):(j=i/\x=y)\/t.get j=some y:=by
 rw[Tr.get_set]at h;split at h
 ·rename_i e;exact .inl ⟨e,yci h⟩
 ·exact .inr h
def SC(N:Nat):Nf Tryz.prog C30w 256 N fM:=by
 intro f g hg args H v H' hv μ w args' hH hI hl;have hg:Wk.get f=some g:=hg
 unfold Wk at hg;rcases pV hg with⟨rfl,rfl⟩ | hg
 ·exact aY hv hH fun hv=>EY hv hl
 rcases pV hg with⟨rfl,rfl⟩ | hg
 ·exact aY hv hH fun hv=>EX hI hv hl
 rcases pV hg with⟨rfl,rfl⟩ | hg
 ·exact aY hv hH fun hv=>EZ hI hv hl
 rcases pV hg with⟨rfl,rfl⟩ | hg
 ·exact aY hv hH fun hv=>EW hv hl
 ·rw[Tr.get_leaf]at hg;cases hg
def sim30w(N:Nat)(hN:5<=N):oK Tryz.prog C30w 256 N fM:=
 ⟨zdq rfl,Yt rfl,SC N,ybk _,by kernel_rfl,fun _ _ hb h=>h.below hN hb⟩
def OP {n:Nat}{args:List zA}{args':Array Value}{w:World}(hw:fM w)(hS:oK Tryz.prog C 256 w.heap.size fM)(hroot:C.root=f)(hl:rB mu0 args args'.toList)
  (h:fin (Dw C n (Vh C f args H30))=1):Calls Tryz.prog f args' w fun e w'=>e=.returned (.bool true)/\Below w.heap.size w w':=by
 obtain⟨H',hr⟩:=zi4 h
 unfold Vh at hr;have stuck:∀(n k:Nat),Dw C n (.fail k)=.fail k:=by
  intro n;induction n with
  | zero=>intro k;rfl
  | succ n ih=>
   intro k;show Dw C n (Dw C n (.fail k))=_
   rw[ih,ih]
 cases he:zK C f args false with
 | none=>
  rw[he]at hr;rw[stuck]at hr
  cases hr
 | some g=>
  rw[he]at hr;refine(YQ hS hw hroot (hrel30 hw) hl he hr).mono fun e w' ⟨v',μ',h1,_,h3,_,h5⟩=>?_
  rw[uA]at h3;exact⟨by rw[h1,h3],h5⟩
def ZH{w:World}(hw:fM w):Calls Tryz.prog 9 #[] w fun e w'=>e=.returned (.bool true)/\Below w.heap.size w w':=
 OP hw (sim30w _ hw.size) rfl .nil ZG
def SG{μ:Mu}{H:xA}{w:World}{args:List zA}{args':Array Value}{v:zA}(hI:fM w)(hv:Pn args H=some v)(hl:rB μ args args'.toList) :
  (callFunc 9 args').run Tryz.prog w=.ok (.enter 9 args') w/\Calls Tryz.prog 9 args' w fun e w'=>∃v',e=.returned v'/\uA μ v v'/\Below w.heap.size w w':=by
 refine⟨Fb (fn:=Tryz.f9) Tryz.func9 (by kernel_rfl),?_⟩
 unfold Pn at hv;split at hv
 case h_2=>cases hv
 cases hv;rw[rB]at hl;have:args' = #[]:=by apply yax.1;simpa using hl
 subst this;exact(ZH hI).mono fun e w' ⟨h1,h2⟩=>⟨_,h1,by rw[uA],h2⟩
end Go.Am
namespace Go.Am
open Go Go.RowKit
@[simp] theorem sE {α:Type} {x:Option α}:xB true x=x:=rfl
inductive D where
 | int (k:IntKind) (n:Int)
 | bool (b:Bool)
 | str (s:List Nat)
 | sl (sz:Nat) (l:List D)
 | st (l:List D)
def At (t:Tr vA)(b off:Nat)(cs:List zA):Prop:=∃c n lo,t.get b=some (.cells c n lo)/\∀(j:Nat) a,cs[j]?=some a->c.get (off+j)=some a
def vN(t:Tr vA)(sz:Nat)(v:zA)(cl:List (List zA)):Prop:=
 (v=.nilslice/\cl=[])\/∃b off cap,v=.slice b off cl.length cap/\cl.length<=cap/\(∃c n lo,t.get b=some (.cells c n lo)/\(lo=none\/∃x,lo=some x/\x.es=sz))/\∀(i:Nat) cs,cl[i]?=some cs->cs.length=sz/\At t b (off+i*sz) cs
mutual
/-- cells read as data -/
def RD (t:Tr vA):D->List zA->Prop
 | .int k n,cs=>cs=[.int k n]
 | .bool b,cs=>cs=[.bool b]
 | .str s,cs=>cs=[.str s]
 | .sl sz l,cs=>∃a cl,cs=[a]/\vN t sz a cl/\xD t l cl
 | .st l,cs=>∃cl,cs=cl.flatten/\xD t l cl
def xD (t:Tr vA):List D->List (List zA)->Prop
 | [],cl=>cl=[]
 | d::l,cl=>∃c r,cl=c::r/\RD t d c/\xD t l r
end
def aA (t t':Tr vA):Prop:=∀b y,t.get b=some y->t'.get b=some y
theorem aA.refl(t:Tr vA):aA t t:=fun _ _ h=>h
def aA.trans{a b c:Tr vA}(h:aA a b)(k:aA b c):aA a c:=fun x y e=>k x y (h x y e)
section
variable {t t':Tr vA}{C:mA}
theorem At.mono(h:aA t t'){b off:Nat}{cs:List zA}(k:At t b off cs):At t' b off cs:=by
 obtain⟨c,n,lo,h1,h2⟩:=k;exact⟨c,n,lo,h _ _ h1,h2⟩
theorem vN.mono(h:aA t t'){sz:Nat}{v:zA}{cl:List (List zA)}(k:vN t sz v cl):vN t' sz v cl:=by
 rcases k with k | ⟨b,off,cap,h1,h3,⟨c,n,lo,h4,h5⟩,h2⟩
 ·exact .inl k
 ·exact .inr ⟨b,off,cap,h1,h3,⟨c,n,lo,h _ _ h4,h5⟩,fun i cs hi=>⟨(h2 i cs hi).1,(h2 i cs hi).2.mono h⟩⟩
mutual
theorem RD.mono(h:aA t t'):∀(d:D) (cs:List zA),RD t d cs->RD t' d cs
 | .int _ _,_,k=>k
 | .bool _,_,k=>k
 | .str _,_,k=>k
 | .sl _ l,_,⟨a,cl,h1,h2,h3⟩=>⟨a,cl,h1,h2.mono h,xD.mono h l cl h3⟩
 | .st l,_,⟨cl,h1,h2⟩=>⟨cl,h1,xD.mono h l cl h2⟩
theorem xD.mono(h:aA t t'):∀(l:List D) (cl:List (List zA)),xD t l cl->xD t' l cl
 | [],_,k=>k
 | d::l,_,⟨c,r,h1,h2,h3⟩=>⟨c,r,h1,RD.mono h d c h2,xD.mono h l r h3⟩
end
theorem xD.length:∀ {l:List D} {cl:List (List zA)},xD t l cl->cl.length=l.length:=by
 intro l;induction l with
 | nil=>grind [xD]
 | cons d l ih=>grind [xD]
theorem xD.get:∀ {l:List D} {cl:List (List zA)} {i:Nat} {d:D},xD t l cl->l[i]?=some d->∃cs,cl[i]?=some cs/\RD t d cs:=by
 intro l;induction l with
 | nil=>simp_all
 | cons e l ih=>
  grind [xD]
theorem xD.mk:∀ {l:List D} {cl:List (List zA)},cl.length=l.length->(∀(i:Nat) d cs,l[i]?=some d->cl[i]?=some cs->RD t d cs)->xD t l cl:=by
 intro l;induction l with
 | nil=>grind [xD]
 | cons e l ih=>
  intro cl h k
  cases cl with
  | nil=>simp at h
  | cons c r=>
   rw[xD];exact⟨c,r,rfl,k 0 e c (by simp) (by simp),ih (by grind) fun i d cs h1 h2=>k (i+1) d cs (by simp_all) (by simp_all)⟩
@[simp] theorem lK {k:IntKind} {n:Int} {cs:List zA}:RD t (.int k n) cs ↔ cs=[.int k n]:=Iff.rfl
@[simp] theorem tY {b:Bool} {cs:List zA}:RD t (.bool b) cs ↔ cs=[.bool b]:=Iff.rfl
@[simp] theorem mK {s:List Nat} {cs:List zA}:RD t (.str s) cs ↔ cs=[.str s]:=Iff.rfl
def bA (t:Tr vA)(sz:Nat)(l:List D)(v:zA):Prop:=∃cl,vN t sz v cl/\xD t l cl
theorem bA.mono(h:aA t t'){sz:Nat}{l:List D}{v:zA}(k:bA t sz l v):bA t' sz l v:=by
 obtain⟨cl,h1,h2⟩:=k;exact⟨cl,h1.mono h,xD.mono h _ _ h2⟩
theorem xP{sz:Nat}{l:List D}{cs:List zA}:RD t (.sl sz l) cs ↔ ∃v,cs=[v]/\bA t sz l v:=by
 rw[RD];constructor
 ·rintro⟨a,cl,rfl,h1,h2⟩;exact⟨a,rfl,cl,h1,h2⟩
 ·rintro⟨a,rfl,cl,h1,h2⟩;grind
theorem kJ{l:List D}{cs:List zA}:RD t (.st l) cs ↔ ∃cl,cs=cl.flatten/\xD t l cl:=by rw[RD]
theorem sF{cl:List (List zA)}:xD t [] cl ↔ cl=[]:=by rw[xD]
theorem yD{d:D}{l:List D}{cl:List (List zA)}:xD t (d::l) cl ↔ ∃c r,cl=c::r/\RD t d c/\xD t l r:=by rw[xD]
theorem bA.one{sz:Nat}{l:List D}{v:zA}(h:bA t sz l v):zA.one v=true:=by
 obtain⟨cl,h1,_⟩:=h
 rcases h1 with⟨rfl,_⟩ | ⟨b,off,cap,rfl,_⟩
 ·decide
 ·rfl
theorem bA.len{sz:Nat}{l:List D}{v:zA}(h:bA t sz l v):uC v=some (.int .i64 (l.length:Int)):=by
 obtain⟨cl,h1,h2⟩:=h
 have:=h2.length
 rcases h1 with⟨rfl,rfl⟩ | ⟨b,off,cap,rfl,_⟩
 ·have:l.length=0:=this.symm
  rw[this];rfl
 ·rw[<- this];rfl
theorem bA.same{sz d:Nat}{l:List D}{v:zA}(h:bA t sz l v):same d v v=true:=by
 obtain⟨cl,h1,_⟩:=h
 rcases h1 with⟨rfl,_⟩ | ⟨b,off,cap,rfl,_⟩
 all_goals grind [Am.same,Nat.beq_refl]
def Yx{sz:Nat}{l:List D}{v:zA}(h:bA t sz l v):dZ .nilslice v=true:=by
 obtain⟨cl,h1,_⟩:=h
 rcases h1 with⟨rfl,_⟩ | ⟨b,off,cap,rfl,_⟩<;>rfl
theorem At.load{b off j n:Nat}{cs:List zA}(h:At t b off cs){ty:Nat}{y:lD}(hy:C.tys.get ty=some y)(ha:y.desc.isAgg=true)(hn:y.size=n)(hj:j+n<=cs.length):lA C ty ⟨0,t⟩ (.ptr b (off+j))=some (.agg ((cs.drop j).take n)):=by
 obtain⟨c,m,lo,h1,h2⟩:=h
 unfold lA;simp only[zA.asPtr,rA];rw[hy,rA];unfold kD;rw[h1,rA];simp only[vA.asCells,rA];unfold dR;rw[ha,cond_true,hn];have key:∀(n j:Nat),j+n<=cs.length->c.many n (off+j)=some ((cs.drop j).take n):=by
  intro n;induction n with
  | zero=>intro j _;simp;rfl
  | succ n ih=>
   intro j hj;have hlt:j<cs.length:=by omega
   rw[Tr.many_succ,h2 j cs[j] (ybd hlt),rA,show off+j+1=off+(j+1) by omega,ih (j+1) (by omega),rA,ybl hlt,List.take_succ_cons]
 simp_all
theorem At.load1{b off j:Nat}{cs:List zA}{a:zA}(h:At t b off cs){ty:Nat}{y:lD}(hy:C.tys.get ty=some y)(ha:y.desc.isAgg=false)(hj:cs[j]?=some a):lA C ty ⟨0,t⟩ (.ptr b (off+j))=some a:=by
 obtain⟨c,m,lo,h1,h2⟩:=h
 simp_all [lA,zA.asPtr,kD,vA.asCells,dR]
structure gI (C:mA) (T el sz:Nat) (agg:Bool):Prop where
 ty:∃y,C.tys.get T=some y/\y.desc.asSlice=some el
 el:∃y,C.tys.get el=some y/\y.size=sz/\y.desc.isAgg=agg
def AX(agg:Bool)(cs:List zA):zA:=if agg then .agg cs else match cs with | a::_=>a | []=>.nilptr
theorem gI.at{T el sz:Nat}{agg:Bool}(h:gI C T el sz agg)(h1:agg=false->sz=1){l:List D}{v:zA}(hr:bA t sz l v){i:Nat}{d:D}(hi:l[i]?=some d) :
  ∃b off cs,wC C T v (.int .i64 (i:Int))=some (.ptr b off)/\lA C el ⟨0,t⟩ (.ptr b off)=some (AX agg cs)/\At t b off cs/\cs.length=sz/\RD t d cs:=by
 obtain⟨⟨y,hy1,hy2⟩,⟨z,hz1,hz2,hz3⟩⟩:=h
 obtain⟨cl,he,hd⟩:=hr
 obtain⟨cs,hc,hrd⟩:=hd.get hi
 rcases he with⟨rfl,rfl⟩ | ⟨b,off,cap,rfl,_,_,he⟩
 ·simp at hc
 ·obtain⟨hl,ha⟩:=he i cs hc
  have hlt:i<cl.length:=(ybc.1 hc).1
  refine⟨b,off+i*sz,cs,?_,?_,ha,hl,hrd⟩
  ·unfold wC
   rw[hy1,rA];have:(zA.int .i64 (i:Int)).asNat=some i:=rfl
   rw[this,rA];simp only[zA.asSlice];rw[hy2,rA,hz1,rA,pC.2 hlt,hz2];rfl
  ·cases agg with
   | true=>
    have:=ha.load (j:=0) hz1 hz3 hz2 (by omega)
    simp only[yct,ycr]at this;rw[this,<- hl,List.take_length];rfl
   | false=>
    have hs:=h1 rfl
    cases cs with
    | nil=>simp_all
    | cons a r=>
     have:=ha.load1 (j:=0) (a:=a) hz1 hz3 (by simp)
     rw[yct]at this;rw[this];rfl
end
section
variable {t:Tr vA}{C:mA}
theorem gI.front{T el sz:Nat}{agg:Bool}(h:gI C T el sz agg){l:List D}{v:zA}(hr:bA t sz l v){k:Nat}(hk:k<=l.length) :
  ∃v',uF C T ⟨0,t⟩ v none (some (.int .i64 (k:Int)))=some v'/\bA t sz (l.take k) v':=by
 obtain⟨⟨y,hy1,hy2⟩,⟨z,hz1,hz2,hz3⟩⟩:=h
 obtain⟨cl,he,hd⟩:=hr
 have hlen:=hd.length
 unfold uF;rw[hy1,rA];have hb:∀y,mW y (.int .i64 (k:Int))=xB (Nat.ble k y) (some k):=fun y=>rfl
 rcases he with⟨rfl,rfl⟩ | ⟨b,off,cap,rfl,hcap,⟨c,n,lo,hg,hlo⟩,he⟩
 ·have:k=0:=by grind
  subst this;refine⟨.nilslice,?_,[],.inl ⟨rfl,rfl⟩,by simp[xD]⟩
  unfold iN;simp only[zA.asStr,zA.asSlice,zA.asPtr];rw[hy2,rA,hz1,rA];rfl
 ·refine⟨.slice b off k cap,?_,cl.take k,.inr ⟨b,off,cap,?_,?_,⟨c,n,lo,hg,hlo⟩,fun i cs hi=>?_⟩,?_⟩
  ·unfold iN
   simp only[zA.asStr,zA.asSlice];rw[hy2,rA];unfold sQ;rw[hz1,rA];unfold dQ Aj;simp only[hb];rw[show Nat.ble k cap=true from qE.2 (by omega)]
   simp only[sE,rA];have he2:jN ⟨0,t⟩ b z.size cap 0 false=false:=by
    unfold jN kD;rw[hg,rA];simp only[vA.asCells];rcases hlo with rfl | ⟨x,rfl,hx⟩
    ·rfl
    ·simp
   rw[he2,yay,cond_false];have hf:kO ⟨0,t⟩ b z.size cap 0 false=true:=by
    unfold kO kD;rw[hg,rA];simp only[vA.asCells];rcases hlo with rfl | ⟨x,rfl,hx⟩
    all_goals simp_all
   rw[show Nat.ble k cap=true from qE.2 (by omega),hf]
   simp only[Bool.and_self,sE];congr 1
   cases hq:Nat.beq cap 0<;>simp
  ·simp_all
  ·grind
  ·grind
  ·refine xD.mk (by simp_all) fun i d cs h1 h2=>?_
   rw[ydf]at h1 h2;split at h1
   ·rename_i e
    rw[yab e]at h2;obtain⟨cs',h3,h4⟩:=hd.get h1
    simp_all
   grind
end
mutual
def D.zs:D->List zA
 | .int k _=>[.int k 0]
 | .bool _=>[.bool false]
 | .str _=>[.str []]
 | .sl _ _=>[.nilslice]
 | .st l=>D.zss l
def D.zss:List D->List zA
 | []=>[]
 | d::l=>d.zs++D.zss l
end
def KB:∀(z z' l l':List zA),xS z l=true->xS z' l'=true->xS (z++z') (l++l')=true
 | [],_,[],_,_,h=>h
 | a::z,z',b::l,l',h,k=>by
  unfold xS at h;rw[ybb]at h;show(dZ a b&&xS (z++z') (l++l'))=true
  rw[h.1,KB z z' l l' h.2 k];rfl
 | [],_,_::_,_,h,_=>by cases h
 | _::_,_,[],_,h,_=>by cases h
mutual
theorem Yw{t:Tr vA}:∀(d:D) (cs:List zA),RD t d cs->xS d.zs cs=true
 | .int k n,cs,h=>by
  rw[RD]at h;subst h;show(dZ (.int k 0) (.int k n)&&true)=true
  grind [dZ,zA.asIntK,cO]
 | .bool _,cs,h=>by rw[RD]at h;subst h;rfl
 | .str _,cs,h=>by rw[RD]at h;subst h;rfl
 | .sl sz l,cs,h=>by
  rw[xP]at h;obtain⟨v,rfl,h⟩:=h
  show(dZ .nilslice v&&true)=true
  rw[Yx h];rfl
 | .st l,cs,h=>by
  rw[kJ]at h;obtain⟨cl,rfl,h⟩:=h
  show xS (D.zss l) cl.flatten=true
  exact JY l cl h
theorem JY{t:Tr vA}:∀(l:List D) (cl:List (List zA)),xD t l cl->xS (D.zss l) cl.flatten=true
 | [],cl,h=>by rw[xD]at h;subst h;rfl
 | d::l,cl,h=>by
  rw[xD]at h;obtain⟨c,r,rfl,h1,h2⟩:=h
  show xS (d.zs++D.zss l) (c::r).flatten=true
  rw[yas];exact KB _ _ _ _ (Yw d c h1) (JY l r h2)
end
theorem rC{k:IntKind}{n:Int}:Hj k (.int k n)=some n:=by unfold Hj;simp only[zA.asIntK,rA];rw[cO.2 rfl];rfl
def Cn{b:Bool}:(zA.bool b).asBool=some b:=rfl
theorem Ox{d:Nat}{k:IntKind}{n:Int}:same d (.int k n) (.int k n)=true:=by
 cases d<;>simp[same,cO,iZ]
theorem QO{d:Nat}{b:Bool}:same d (.bool b) (.bool b)=true:=by cases d<;>simp[same,cU]
theorem iC{n:Int}(h1 : -9223372036854775808<=n)(h2:n<9223372036854775808):iA .i64 n=n:=by
 grind [vP,IntKind.wrap,IntKind.bits,IntKind.signed]
def bU{t:Tr vA}{d:D}{cs zs:List zA}(h:RD t d cs)(hz:d.zs=zs):xK zs (.agg cs)=some (cellsOf cs):=by
 unfold xK;simp only[zA.asAgg,rA];rw[<- hz,Yw d cs h];rfl
theorem cQ{zs l:List zA}(h:xS zs l=true):xK zs (.agg l)=some (cellsOf l):=by
 simp_all [xK,zA.asAgg]
end Go.Am
