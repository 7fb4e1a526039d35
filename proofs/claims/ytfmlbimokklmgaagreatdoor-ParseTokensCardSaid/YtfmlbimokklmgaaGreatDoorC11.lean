/- Seat 30: types, functions, variables, what the library's functions are worth; awake. -/
import Derived.ProofKit
import Derived.Test.YtfmlbimokklmgaaGreatDoorC08
import Derived.Test.YtfmlbimokklmgaaGreatDoorC09
import Derived.Test.YtfmlbimokklmgaaGreatDoorC10
set_option linter.all false
noncomputable section
set_option maxRecDepth 100000
namespace Go.Am
open Go Go.RowKit Go.Proofs
variable {C:lA}{base f:Nat}
def PN:allT (fun t ty=>match tyOf Tryz.prog t with | some u=>eqTy u ty | none=>false) tys (fun n=>n)=true:=by kernel_rfl
def zeq (hC:C.tys=tys):kF Tryz.prog C:=by
 intro t ty h;rw[hC]at h;have:=zk1 tys _ PN t ty h
 cases hu:tyOf Tryz.prog t with
 | none=>rw[hu]at this;cases this
 | some u=>rw[hu]at this;rw[zke this]
def US : (Tryz.funcs.toList.all fun fn => !(fn.name == "runtime.NumGoroutine")) = true := by kernel_rfl
def Zg (hC:C.fns=fns):Dj Tryz.prog C:=by
 intro f fn h;rw[hC]at h;unfold fns at h;rw[Tr.get_ofList]at h;have h2:Tryz.prog.funcs[f]?=some fn:=by
  show Tryz.funcs[f]?=some fn
  simpa using h
 refine⟨h2,?_⟩
 have:=ycb.1 US fn (ycv h)
 simpa using this
structure yN (w:World):Prop where
 kinds:∃t,w.heap[1]?=some (.cells (yT aZ).toArray t (0,0))
 modes:∃t,w.heap[4]?=some (.cells (yT kZ).toArray t (0,0))
 lens:∃t,w.heap[2]?=some (.cells (tY eZ).toArray t (0,0))
 most:∃m,w.cell? ⟨0,0,none⟩=some (.int .i64 m)
def yN.size{w:World}(h:yN w):5<=w.heap.size:=by
 obtain⟨t,h⟩:=h.modes
 have:=(ybe.1 h).1
 omega
def yN.below{w w':World}{N:Nat}(hN:5<=N)(h:yN w)(hb:Below N w w'):yN w':=by
 refine⟨?_,?_,?_,?_⟩
 ·obtain⟨t,h⟩:=h.kinds;exact⟨t,by rw[hb.block 1 (by omega)];exact h⟩
 ·obtain⟨t,h⟩:=h.modes;exact⟨t,by rw[hb.block 4 (by omega)];exact h⟩
 ·obtain⟨t,h⟩:=h.lens;exact⟨t,by rw[hb.block 2 (by omega)];exact h⟩
 ·obtain⟨m,h⟩:=h.most;exact⟨m,by rw[hb.cell (p:=⟨0,0,none⟩) (by show 0<N;omega)];exact h⟩
def hrel30{w:World}(h:yN w):vB 256 w.heap.size mu0 H30 w:=by
 have hget:∀a x,H30.t.get a=some x->(a=1/\x=.cells (Tr.ofList (Br aZ)) (zB (Br aZ)) none)\/(a=4/\x=.cells (Tr.ofList (Br kZ)) (zB (Br kZ)) none)\/(a=2/\x=.cells (Tr.ofList (intA .i64 eZ)) (zB (intA .i64 eZ)) none):=by
  intro a x hx;have hx:(glob 1 (Br aZ) (glob 4 (Br kZ) (glob 2 (intA .i64 eZ) .leaf))).get a=some x:=hx
  unfold glob at hx;rw[Tr.get_set,Tr.get_set,Tr.get_set]at hx;split at hx
  ·rename_i e;exact .inl ⟨e,(yci hx).symm⟩
  ·split at hx
   ·rename_i e;exact .inr (.inl ⟨e,(yci hx).symm⟩)
   ·split at hx
    ·rename_i e;exact .inr (.inr ⟨e,(yci hx).symm⟩)
    ·rw[Tr.get_leaf]at hx;cases hx
 have hsz:=h.size
 refine⟨ybk _,fun g hg=>by simp[mu0,hg],fun a x i _ hx hi=>?_,ybk _,ybk _,fun a ha=>?_,fun a x i hx hi=>?_,fun a i ha hi=>?_,fun a b x y i j hx _ _ _ ha _ _=>?_,fun a x t ha=>by cases ha⟩
 ·rcases hget a x hx with⟨rfl,rfl⟩ | ⟨rfl,rfl⟩ | ⟨rfl,rfl⟩<;>cases hi<;>exact⟨Nat.lt_of_lt_of_le (by decide) hsz,rfl,rfl⟩
 ·have ha:256<=a:=ha
  refine⟨by simp[mu0];omega,?_⟩
  cases hx:H30.t.get a with
  | none=>rfl
  | some x=>rcases hget a x hx with⟨rfl,_⟩ | ⟨rfl,_⟩ | ⟨rfl,_⟩<;>omega
 ·rcases hget a x hx with⟨rfl,rfl⟩ | ⟨rfl,rfl⟩ | ⟨rfl,rfl⟩
  ·obtain⟨t,h⟩:=h.kinds;cases hi;exact⟨_,h,AM (Vp aZ) t⟩
  ·obtain⟨t,h⟩:=h.modes;cases hi;exact⟨_,h,AM (Vp kZ) t⟩
  ·obtain⟨t,h⟩:=h.lens;cases hi;exact⟨_,h,AM (JV eZ) t⟩
 ·simp[mu0]at hi;omega
 ·rcases hget a x hx with⟨rfl,_⟩ | ⟨rfl,_⟩ | ⟨rfl,_⟩<;>omega
def xZ{s:ByteArray}{l:List Nat}(h:nF s=l):s.data.toList.map UInt8.toNat=l:=h
def Fr {fn:Func}(hf:Tryz.funcs[f]?=some fn)(hb:fn.body.isSome=true){args:Array Value}{w:World}:(callFunc f args).run Tryz.prog w=.ok (.enter f args) w:=
 Pu (C:=C30w) (Zg rfl) (show fns.get f=some fn by unfold fns;rw[Tr.get_ofList];simpa using hf) hb
def MC(c:UInt8):∀s:List UInt8,iT c.toNat (s.map UInt8.toNat)=Lib.countByte s c
 | []=>rfl
 | b::l=>by
  have ih:=MC c l
  unfold Lib.countByte at ih ⊢
  simp only[ycm,iT,sD];rw[List.count_cons];by_cases h:b=c
  ·subst h;simp[ih]
  ·have:¬ Nat.beq b.toNat c.toNat=true:=fun e=>h (UInt8.toNat_inj.1 (kC.1 e))
   rw[yaa this,ih];simp[h]
section
variable {B N:Nat}{μ:Mu}{H:xA}{w:World}{args:List zA}{args':Array Value}{v:zA}
def Oo{a b:zA}(h:rB μ [a,b] args'.toList):∃x y,args' = #[x,y]/\uA μ a x/\uA μ b y:=by
 rw[rB]at h;obtain⟨x,r,h1,h2,h3⟩:=h
 rw[rB]at h3;obtain⟨y,r',h4,h5,h6⟩:=h3
 rw[rB]at h6;subst h4 h6
 exact⟨x,y,by apply yax.1;simpa using h1,h2,h5⟩
def FK(hv:Lm args H=some v)(hl:rB μ args args'.toList) :
  (callFunc 107 args').run Tryz.prog w=.ok (.enter 107 args') w/\Calls Tryz.prog 107 args' w fun e w'=>∃v',e=.returned v'/\uA μ v v'/\Below w.heap.size w w':=by
 refine⟨Fr (fn:=Tryz.f107) Tryz.func107 (by kernel_rfl),?_⟩
 unfold Lm at hv;split at hv
 case h_2=>cases hv
 rename_i s c;rw[wB,qC]at hv;obtain⟨hc,hv⟩:=hv
 cases hv;obtain⟨x,y,rfl,hx,hy⟩:=Oo hl
 simp only[uA]at hx hy;obtain⟨s',rfl,hs⟩:=hx
 subst hy;refine(Tryz.strings_IndexByte s' (Int.ofNat c) w).mono fun e w' ⟨he,hw⟩=>?_
 subst hw;refine⟨_,he,?_,Below.refl _ _⟩
 have hcc:(c.toUInt8).toNat=c:=by simp[Nat.toUInt8,UInt8.toNat_ofNat'];omega
 have:=JY c.toUInt8 s'.data.toList
 rw[hcc,xZ hs]at this;rw[uA];show Value.int .i64 (Lib.indexByte s'.data.toList c.toUInt8)=_
 rw[<- this]
def FN(hv:Ln args H=some v)(hl:rB μ args args'.toList) :
  (callFunc 54 args').run Tryz.prog w=.ok (.enter 54 args') w/\Calls Tryz.prog 54 args' w fun e w'=>∃v',e=.returned v'/\uA μ v v'/\Below w.heap.size w w':=by
 refine⟨Fr (fn:=Tryz.f54) Tryz.func54 (by kernel_rfl),?_⟩
 unfold Ln at hv;split at hv
 case h_2=>cases hv
 rename_i s c
 cases hv;obtain⟨x,y,rfl,hx,hy⟩:=Oo hl
 rw[uA]at hx hy;obtain⟨s',rfl,hs⟩:=hx
 obtain⟨c',rfl,hc⟩:=hy
 obtain⟨b,hb,hbc⟩:∃b:UInt8,c'=⟨#[b]⟩/\b.toNat=c:=by
  have h1:=xZ hc
  obtain⟨⟨l⟩⟩:=c'
  match l,h1 with
  | [b],h1=>exact⟨b,rfl,by simpa using h1⟩
 subst hb;refine(Tryz.strings_Count_one s' b w).mono fun e w' ⟨he,hw⟩=>?_
 subst hw;refine⟨_,he,?_,Below.refl _ _⟩
 have:=MC b s'.data.toList
 rw[hbc,xZ hs]at this;rw[uA,<- this];rfl
def FO(hI:yN w)(hv:Hp args H=some v)(hl:rB μ args args'.toList) :
  (callFunc 66 args').run Tryz.prog w=.ok (.enter 66 args') w/\Calls Tryz.prog 66 args' w fun e w'=>∃v',e=.returned v'/\uA μ v v'/\Below w.heap.size w w':=by
 refine⟨Fr (fn:=Tryz.f66) Tryz.func66 (by kernel_rfl),?_⟩
 unfold Hp at hv;split at hv
 case h_2=>cases hv
 rename_i s c;rw[wB,qC,qD]at hv;obtain⟨hlen,hv⟩:=hv
 cases hv;obtain⟨x,y,rfl,hx,hy⟩:=Oo hl
 rw[uA]at hx hy;obtain⟨s',rfl,hs⟩:=hx
 obtain⟨c',rfl,hc⟩:=hy
 obtain⟨m,hm⟩:=hI.most
 have hsz:s'.size<4294967281:=by
  have:=congrArg List.length (xZ hs)
  simp at this;omega
 refine(Tryz.strings_Contains s' c' m w hsz hm).mono fun e w' ⟨he,hw⟩=>?_
 subst hw;refine⟨_,he,?_,Below.refl _ _⟩
 have:=ME c'.data.toList s'.data.toList
 rw[xZ hs,xZ hc]at this;rw[uA,this]
def FM(hI:yN w)(hv:pCut args H=some v)(hl:rB μ args args'.toList) :
  (callFunc 98 args').run Tryz.prog w=.ok (.enter 98 args') w/\Calls Tryz.prog 98 args' w fun e w'=>∃v',e=.returned v'/\uA μ v v'/\Below w.heap.size w w':=by
 refine⟨Fr (fn:=Tryz.f98) Tryz.func98 (by kernel_rfl),?_⟩
 unfold pCut at hv;split at hv
 case h_2=>cases hv
 rename_i s c;rw[wB,qC,qD]at hv;obtain⟨hlen,hv⟩:=hv
 obtain⟨x,y,rfl,hx,hy⟩:=Oo hl
 rw[uA]at hx hy;obtain⟨s',rfl,hs⟩:=hx
 obtain⟨c',rfl,hc⟩:=hy
 obtain⟨m,hm⟩:=hI.most
 have hsz:s'.size<4294967281:=by
  have:=congrArg List.length (xZ hs)
  simp at this;omega
 refine(Tryz.strings_Cut s' c' m w hsz hm).mono fun e w' ⟨he,n,hw⟩=>?_
 subst hw;have hb:Below w.heap.size w (w.drewN n):=⟨rfl,rfl,rfl,ybk _,fun _ _=>rfl⟩
 refine⟨_,he,?_,hb⟩
 have hcut:=zgp c'.data.toList s'.data.toList
 rw[xZ hs,xZ hc]at hcut
 cases hx:Ar c s with
 | none=>
  rw[hx]at hcut hv
  cases hv;have hcut:Lib.index s'.data.toList c'.data.toList = -1:=hcut
  have e:Lib.cut s'.data.toList c'.data.toList=(s'.data.toList,[],false):=by unfold Lib.cut;rw[hcut];rfl
  rw[e,uA];exact⟨_,rfl,.cons (by rw[uA];exact⟨_,rfl,by rw[<- hs]⟩) (.cons (by rw[uA];exact⟨_,rfl,by simp[nF]⟩) (.single (by rw[uA])))⟩
 | some p=>
  rw[hx]at hcut hv
  cases hv;obtain⟨a,b,rfl,h1,h2,h3⟩:=hcut
  have e:Lib.cut s'.data.toList c'.data.toList=(a,b,true):=by unfold Lib.cut;rw[yab h1,h2,h3]
  rw[e,uA];exact⟨_,rfl,.cons (by rw[uA];exact⟨_,rfl,by simp[nF]⟩) (.cons (by rw[uA];exact⟨_,rfl,by simp[nF]⟩) (.single (by rw[uA])))⟩
end
section
variable {B N:Nat}{μ:Mu}{H H':xA}{w:World}{args:List zA}{args':Array Value}{v:zA}
def TH (hbase:B<=base)(hH:vB B N μ H w)(hv:Hq base Qv args H=some (v,H'))(hl:rB μ args args'.toList) :
  (callFunc 82 args').run Tryz.prog w=.ok (.enter 82 args') w/\Calls Tryz.prog 82 args' w fun e w'=>∃v' μ',e=.returned v'/\μ.le μ'/\vB B N μ' H' w'/\Below N w w'/\uA μ' v v':=
 TP hbase (fun p hp b n w h1 h2 h3 h4=>by
  obtain rfl:p=(110,2):=by simpa[Qv]using hp
  exact YP b n w h1 h2 (show 1<n from h3) h4) (fun b w h=>YO b w h) (fun w a=>Fr (fn:=Tryz.f82) Tryz.func82 (by kernel_rfl)) hH hv hl
def TG (hbase:B<=base)(hH:vB B N μ H w)(hv:Ho base 5 args H=some (v,H'))(hl:rB μ args args'.toList) :
  (callFunc 52 args').run Tryz.prog w=.ok (.enter 52 args') w/\Calls Tryz.prog 52 args' w fun e w'=>∃v' μ',e=.returned v'/\μ.le μ'/\vB B N μ' H' w'/\Below N w w'/\uA μ' v v':=
 TO Tryz.lays169 Tryz.Builder_Extra_169 (f:=52) rfl hbase (fun w a=>Fr (fn:=Tryz.f52) Tryz.func52 (by kernel_rfl)) hH hv hl
end
def fV{α:Type}{t:Tr α}{i j:Nat}{x y:α}(h:(t.set i x).get j=some y):(j=i/\x=y)\/t.get j=some y:=by
 rw[Tr.get_set]at h;split at h
 ·rename_i e;exact .inl ⟨e,yci h⟩
 ·exact .inr h
def TE(N:Nat):Nu Tryz.prog C30w 256 N yN:=by
 intro f g hg args H v H' hv μ w args' hH hI hl;have hg:Xc.get f=some g:=hg
 unfold Xc at hg;rcases fV hg with⟨rfl,rfl⟩ | hg
 ·exact oZ hv hH fun hv=>FN hv hl
 rcases fV hg with⟨rfl,rfl⟩ | hg
 ·exact oZ hv hH fun hv=>FM hI hv hl
 rcases fV hg with⟨rfl,rfl⟩ | hg
 ·exact oZ hv hH fun hv=>FO hI hv hl
 rcases fV hg with⟨rfl,rfl⟩ | hg
 ·exact oZ hv hH fun hv=>FK hv hl
 ·rw[Tr.get_leaf]at hg;cases hg
def sim30w(N:Nat)(hN:5<=N):eK Tryz.prog C30w 256 N yN:=
 ⟨zeq rfl,Zg rfl,TE N,ybk _,by kernel_rfl,fun _ _ hb h=>h.below hN hb⟩
def PQ {n:Nat}{args:List zA}{args':Array Value}{w:World}(hw:yN w)(hS:eK Tryz.prog C 256 w.heap.size yN)(hroot:C.root=f)(hl:rB mu0 args args'.toList)
  (h:fin (El C n (Vw C f args H30))=1):Calls Tryz.prog f args' w fun e w'=>e=.returned (.bool true)/\Below w.heap.size w w':=by
 obtain⟨H',hr⟩:=zj9 h
 unfold Vw at hr;have stuck:∀(n k:Nat),El C n (.fail k)=.fail k:=by
  intro n;induction n with
  | zero=>intro k;rfl
  | succ n ih=>
   intro k;show El C n (El C n (.fail k))=_
   rw[ih,ih]
 cases he:pK C f args false with
 | none=>
  rw[he]at hr;rw[stuck]at hr
  cases hr
 | some g=>
  rw[he]at hr;refine(YW hS hw hroot (hrel30 hw) hl he hr).mono fun e w' ⟨v',μ',h1,_,h3,_,h5⟩=>?_
  rw[uA]at h3;exact⟨by rw[h1,h3],h5⟩
def ZI{w:World}(hw:yN w):Calls Tryz.prog 9 #[] w fun e w'=>e=.returned (.bool true)/\Below w.heap.size w w':=
 PQ hw (sim30w _ hw.size) rfl .nil zax
def TI{μ:Mu}{H:xA}{w:World}{args:List zA}{args':Array Value}{v:zA}(hI:yN w)(hv:Qf args H=some v)(hl:rB μ args args'.toList) :
  (callFunc 9 args').run Tryz.prog w=.ok (.enter 9 args') w/\Calls Tryz.prog 9 args' w fun e w'=>∃v',e=.returned v'/\uA μ v v'/\Below w.heap.size w w':=by
 refine⟨Fr (fn:=Tryz.f9) Tryz.func9 (by kernel_rfl),?_⟩
 unfold Qf at hv;split at hv
 case h_2=>cases hv
 cases hv;rw[rB]at hl;have:args' = #[]:=by apply yax.1;simpa using hl
 subst this;exact(ZI hI).mono fun e w' ⟨h1,h2⟩=>⟨_,h1,by rw[uA],h2⟩
end Go.Am
namespace Go.Am
open Go Go.RowKit
@[simp] theorem rE {α:Type} {x:Option α}:xB true x=x:=rfl
inductive D where
 | int (k:IntKind) (n:Int)
 | bool (b:Bool)
 | str (s:List Nat)
 | sl (sz:Nat) (l:List D)
 | st (l:List D)
def At (t:Tr vA)(b off:Nat)(cs:List zA):Prop:=∃c n lo,t.get b=some (.cells c n lo)/\∀(j:Nat) a,cs[j]?=some a->c.get (off+j)=some a
def qN(t:Tr vA)(sz:Nat)(v:zA)(cl:List (List zA)):Prop:=
 (v=.nilslice/\cl=[])\/∃b off cap,v=.slice b off cl.length cap/\cl.length<=cap/\(∃c n lo,t.get b=some (.cells c n lo)/\(lo=none\/∃x,lo=some x/\x.es=sz))/\∀(i:Nat) cs,cl[i]?=some cs->cs.length=sz/\At t b (off+i*sz) cs
mutual
/-- cells read as data -/
def RD (t:Tr vA):D->List zA->Prop
 | .int k n,cs=>cs=[.int k n]
 | .bool b,cs=>cs=[.bool b]
 | .str s,cs=>cs=[.str s]
 | .sl sz l,cs=>∃a cl,cs=[a]/\qN t sz a cl/\zD t l cl
 | .st l,cs=>∃cl,cs=cl.flatten/\zD t l cl
def zD (t:Tr vA):List D->List (List zA)->Prop
 | [],cl=>cl=[]
 | d::l,cl=>∃c r,cl=c::r/\RD t d c/\zD t l r
end
def bA (t t':Tr vA):Prop:=∀b y,t.get b=some y->t'.get b=some y
theorem bA.refl(t:Tr vA):bA t t:=fun _ _ h=>h
def bA.trans{a b c:Tr vA}(h:bA a b)(k:bA b c):bA a c:=fun x y e=>k x y (h x y e)
section
variable {t t':Tr vA}{C:lA}
theorem At.mono(h:bA t t'){b off:Nat}{cs:List zA}(k:At t b off cs):At t' b off cs:=by
 obtain⟨c,n,lo,h1,h2⟩:=k;exact⟨c,n,lo,h _ _ h1,h2⟩
theorem qN.mono(h:bA t t'){sz:Nat}{v:zA}{cl:List (List zA)}(k:qN t sz v cl):qN t' sz v cl:=by
 rcases k with k | ⟨b,off,cap,h1,h3,⟨c,n,lo,h4,h5⟩,h2⟩
 ·exact .inl k
 ·exact .inr ⟨b,off,cap,h1,h3,⟨c,n,lo,h _ _ h4,h5⟩,fun i cs hi=>⟨(h2 i cs hi).1,(h2 i cs hi).2.mono h⟩⟩
mutual
theorem RD.mono(h:bA t t'):∀(d:D) (cs:List zA),RD t d cs->RD t' d cs
 | .int _ _,_,k=>k
 | .bool _,_,k=>k
 | .str _,_,k=>k
 | .sl _ l,_,⟨a,cl,h1,h2,h3⟩=>⟨a,cl,h1,h2.mono h,zD.mono h l cl h3⟩
 | .st l,_,⟨cl,h1,h2⟩=>⟨cl,h1,zD.mono h l cl h2⟩
theorem zD.mono(h:bA t t'):∀(l:List D) (cl:List (List zA)),zD t l cl->zD t' l cl
 | [],_,k=>k
 | d::l,_,⟨c,r,h1,h2,h3⟩=>⟨c,r,h1,RD.mono h d c h2,zD.mono h l r h3⟩
end
theorem zD.length:∀ {l:List D} {cl:List (List zA)},zD t l cl->cl.length=l.length:=by
 intro l;induction l with
 | nil=>grind [zD]
 | cons d l ih=>grind [zD]
theorem zD.get:∀ {l:List D} {cl:List (List zA)} {i:Nat} {d:D},zD t l cl->l[i]?=some d->∃cs,cl[i]?=some cs/\RD t d cs:=by
 intro l;induction l with
 | nil=>simp_all
 | cons e l ih=>
  grind [zD]
theorem zD.mk:∀ {l:List D} {cl:List (List zA)},cl.length=l.length->(∀(i:Nat) d cs,l[i]?=some d->cl[i]?=some cs->RD t d cs)->zD t l cl:=by
 intro l;induction l with
 | nil=>grind [zD]
 | cons e l ih=>
  intro cl h k
  cases cl with
  | nil=>simp at h
  | cons c r=>
   rw[zD];exact⟨c,r,rfl,k 0 e c (by simp) (by simp),ih (by grind) fun i d cs h1 h2=>k (i+1) d cs (by simp_all) (by simp_all)⟩
@[simp] theorem bK {k:IntKind} {n:Int} {cs:List zA}:RD t (.int k n) cs ↔ cs=[.int k n]:=Iff.rfl
@[simp] theorem eY {b:Bool} {cs:List zA}:RD t (.bool b) cs ↔ cs=[.bool b]:=Iff.rfl
@[simp] theorem cK {s:List Nat} {cs:List zA}:RD t (.str s) cs ↔ cs=[.str s]:=Iff.rfl
def aA (t:Tr vA)(sz:Nat)(l:List D)(v:zA):Prop:=∃cl,qN t sz v cl/\zD t l cl
theorem aA.mono(h:bA t t'){sz:Nat}{l:List D}{v:zA}(k:aA t sz l v):aA t' sz l v:=by
 obtain⟨cl,h1,h2⟩:=k;exact⟨cl,h1.mono h,zD.mono h _ _ h2⟩
theorem tP{sz:Nat}{l:List D}{cs:List zA}:RD t (.sl sz l) cs ↔ ∃v,cs=[v]/\aA t sz l v:=by
 rw[RD];constructor
 ·rintro⟨a,cl,rfl,h1,h2⟩;exact⟨a,rfl,cl,h1,h2⟩
 ·rintro⟨a,rfl,cl,h1,h2⟩;grind
theorem dJ{l:List D}{cs:List zA}:RD t (.st l) cs ↔ ∃cl,cs=cl.flatten/\zD t l cl:=by rw[RD]
theorem sF{cl:List (List zA)}:zD t [] cl ↔ cl=[]:=by rw[zD]
theorem aC{d:D}{l:List D}{cl:List (List zA)}:zD t (d::l) cl ↔ ∃c r,cl=c::r/\RD t d c/\zD t l r:=by rw[zD]
theorem aA.one{sz:Nat}{l:List D}{v:zA}(h:aA t sz l v):zA.one v=true:=by
 obtain⟨cl,h1,_⟩:=h
 rcases h1 with⟨rfl,_⟩ | ⟨b,off,cap,rfl,_⟩
 ·decide
 ·rfl
theorem aA.len{sz:Nat}{l:List D}{v:zA}(h:aA t sz l v):oC v=some (.int .i64 (l.length:Int)):=by
 obtain⟨cl,h1,h2⟩:=h
 have:=h2.length
 rcases h1 with⟨rfl,rfl⟩ | ⟨b,off,cap,rfl,_⟩
 ·have:l.length=0:=this.symm
  rw[this];rfl
 ·rw[<- this];rfl
theorem aA.same{sz d:Nat}{l:List D}{v:zA}(h:aA t sz l v):same d v v=true:=by
 obtain⟨cl,h1,_⟩:=h
 rcases h1 with⟨rfl,_⟩ | ⟨b,off,cap,rfl,_⟩
 all_goals grind [Am.same,Nat.beq_refl]
def Zk{sz:Nat}{l:List D}{v:zA}(h:aA t sz l v):Ai .nilslice v=true:=by
 obtain⟨cl,h1,_⟩:=h
 rcases h1 with⟨rfl,_⟩ | ⟨b,off,cap,rfl,_⟩<;>rfl
theorem At.load{b off j n:Nat}{cs:List zA}(h:At t b off cs){ty:Nat}{y:nD}(hy:C.tys.get ty=some y)(ha:y.desc.isAgg=true)(hn:y.size=n)(hj:j+n<=cs.length):mA C ty ⟨0,t⟩ (.ptr b (off+j))=some (.agg ((cs.drop j).take n)):=by
 obtain⟨c,m,lo,h1,h2⟩:=h
 unfold mA;simp only[zA.asPtr,oA];rw[hy,oA];unfold mD;rw[h1,oA];simp only[vA.asCells,oA];unfold wS;rw[ha,cond_true,hn];have key:∀(n j:Nat),j+n<=cs.length->c.many n (off+j)=some ((cs.drop j).take n):=by
  intro n;induction n with
  | zero=>intro j _;simp;rfl
  | succ n ih=>
   intro j hj;have hlt:j<cs.length:=by omega
   rw[Tr.many_succ,h2 j cs[j] (ybd hlt),oA,show off+j+1=off+(j+1) by omega,ih (j+1) (by omega),oA,ybl hlt,List.take_succ_cons]
 simp_all
theorem At.load1{b off j:Nat}{cs:List zA}{a:zA}(h:At t b off cs){ty:Nat}{y:nD}(hy:C.tys.get ty=some y)(ha:y.desc.isAgg=false)(hj:cs[j]?=some a):mA C ty ⟨0,t⟩ (.ptr b (off+j))=some a:=by
 obtain⟨c,m,lo,h1,h2⟩:=h
 simp_all [mA,zA.asPtr,mD,vA.asCells,wS]
structure fI (C:lA) (T el sz:Nat) (agg:Bool):Prop where
 ty:∃y,C.tys.get T=some y/\y.desc.asSlice=some el
 el:∃y,C.tys.get el=some y/\y.size=sz/\y.desc.isAgg=agg
def BP(agg:Bool)(cs:List zA):zA:=if agg then .agg cs else match cs with | a::_=>a | []=>.nilptr
theorem fI.at{T el sz:Nat}{agg:Bool}(h:fI C T el sz agg)(h1:agg=false->sz=1){l:List D}{v:zA}(hr:aA t sz l v){i:Nat}{d:D}(hi:l[i]?=some d) :
  ∃b off cs,sC C T v (.int .i64 (i:Int))=some (.ptr b off)/\mA C el ⟨0,t⟩ (.ptr b off)=some (BP agg cs)/\At t b off cs/\cs.length=sz/\RD t d cs:=by
 obtain⟨⟨y,hy1,hy2⟩,⟨z,hz1,hz2,hz3⟩⟩:=h
 obtain⟨cl,he,hd⟩:=hr
 obtain⟨cs,hc,hrd⟩:=hd.get hi
 rcases he with⟨rfl,rfl⟩ | ⟨b,off,cap,rfl,_,_,he⟩
 ·simp at hc
 ·obtain⟨hl,ha⟩:=he i cs hc
  have hlt:i<cl.length:=(ybc.1 hc).1
  refine⟨b,off+i*sz,cs,?_,?_,ha,hl,hrd⟩
  ·unfold sC
   rw[hy1,oA];have:(zA.int .i64 (i:Int)).asNat=some i:=rfl
   rw[this,oA];simp only[zA.asSlice];rw[hy2,oA,hz1,oA,qC.2 hlt,hz2];rfl
  ·cases agg with
   | true=>
    have:=ha.load (j:=0) hz1 hz3 hz2 (by omega)
    simp only[yct,ycr]at this;rw[this,<- hl,List.take_length];rfl
   | false=>
    have hs:=h1 rfl
    cases cs with
    | nil=>simp_all
    | cons a r=>
     have:=ha.load1 (j:=0) (a:=a) hz1 hz3 (by simp)
     rw[yct]at this;rw[this];rfl
end
section
variable {t:Tr vA}{C:lA}
theorem fI.front{T el sz:Nat}{agg:Bool}(h:fI C T el sz agg){l:List D}{v:zA}(hr:aA t sz l v){k:Nat}(hk:k<=l.length) :
  ∃v',vG C T ⟨0,t⟩ v none (some (.int .i64 (k:Int)))=some v'/\aA t sz (l.take k) v':=by
 obtain⟨⟨y,hy1,hy2⟩,⟨z,hz1,hz2,hz3⟩⟩:=h
 obtain⟨cl,he,hd⟩:=hr
 have hlen:=hd.length
 unfold vG;rw[hy1,oA];have hb:∀y,aW y (.int .i64 (k:Int))=xB (Nat.ble k y) (some k):=fun y=>rfl
 rcases he with⟨rfl,rfl⟩ | ⟨b,off,cap,rfl,hcap,⟨c,n,lo,hg,hlo⟩,he⟩
 ·have:k=0:=by grind
  subst this;refine⟨.nilslice,?_,[],.inl ⟨rfl,rfl⟩,by simp[zD]⟩
  unfold dN;simp only[zA.asStr,zA.asSlice,zA.asPtr];rw[hy2,oA,hz1,oA];rfl
 ·refine⟨.slice b off k cap,?_,cl.take k,.inr ⟨b,off,cap,?_,?_,⟨c,n,lo,hg,hlo⟩,fun i cs hi=>?_⟩,?_⟩
  ·unfold dN
   simp only[zA.asStr,zA.asSlice];rw[hy2,oA];unfold lQ;rw[hz1,oA];unfold vR Ax;simp only[hb];rw[show Nat.ble k cap=true from qE.2 (by omega)]
   simp only[rE,oA];have he2:eN ⟨0,t⟩ b z.size cap 0 false=false:=by
    unfold eN mD;rw[hg,oA];simp only[vA.asCells];rcases hlo with rfl | ⟨x,rfl,hx⟩
    ·rfl
    ·simp
   rw[he2,yay,cond_false];have hf:hO ⟨0,t⟩ b z.size cap 0 false=true:=by
    unfold hO mD;rw[hg,oA];simp only[vA.asCells];rcases hlo with rfl | ⟨x,rfl,hx⟩
    all_goals simp_all
   rw[show Nat.ble k cap=true from qE.2 (by omega),hf]
   simp only[Bool.and_self,rE];congr 1
   cases hq:Nat.beq cap 0<;>simp
  ·simp_all
  ·grind
  ·grind
  ·refine zD.mk (by simp_all) fun i d cs h1 h2=>?_
   rw[ydf]at h1 h2;split at h1
   ·rename_i e
    rw[yab e]at h2;obtain⟨cs',h3,h4⟩:=hd.get h1
    simp_all
   grind
end
mutual
def D.zs:D->List zA
 | .int k _=>[.int k 0]
 | .bool _=>[.bool false]
 | .str _=>[.str []]
 | .sl _ _=>[.nilslice]
 | .st l=>D.zss l
def D.zss:List D->List zA
 | []=>[]
 | d::l=>d.zs++D.zss l
end
def KP:∀(z z' l l':List zA),oS z l=true->oS z' l'=true->oS (z++z') (l++l')=true
 | [],_,[],_,_,h=>h
 | a::z,z',b::l,l',h,k=>by
  unfold oS at h;rw[ybb]at h;show(Ai a b&&oS (z++z') (l++l'))=true
  rw[h.1,KP z z' l l' h.2 k];rfl
 | [],_,_::_,_,h,_=>by cases h
 | _::_,_,[],_,h,_=>by cases h
mutual
theorem Zj{t:Tr vA}:∀(d:D) (cs:List zA),RD t d cs->oS d.zs cs=true
 | .int k n,cs,h=>by
  rw[RD]at h;subst h;show(Ai (.int k 0) (.int k n)&&true)=true
  grind [Ai,zA.asIntK,yP]
 | .bool _,cs,h=>by rw[RD]at h;subst h;rfl
 | .str _,cs,h=>by rw[RD]at h;subst h;rfl
 | .sl sz l,cs,h=>by
  rw[tP]at h;obtain⟨v,rfl,h⟩:=h
  show(Ai .nilslice v&&true)=true
  rw[Zk h];rfl
 | .st l,cs,h=>by
  rw[dJ]at h;obtain⟨cl,rfl,h⟩:=h
  show oS (D.zss l) cl.flatten=true
  exact KN l cl h
theorem KN{t:Tr vA}:∀(l:List D) (cl:List (List zA)),zD t l cl->oS (D.zss l) cl.flatten=true
 | [],cl,h=>by rw[zD]at h;subst h;rfl
 | d::l,cl,h=>by
  rw[zD]at h;obtain⟨c,r,rfl,h1,h2⟩:=h
  show oS (d.zs++D.zss l) (c::r).flatten=true
  rw[yas];exact KP _ _ _ _ (Zj d c h1) (KN l r h2)
end
theorem tC{k:IntKind}{n:Int}:Ig k (.int k n)=some n:=by unfold Ig;simp only[zA.asIntK,oA];rw[yP.2 rfl];rfl
def Db{b:Bool}:(zA.bool b).asBool=some b:=rfl
theorem Pq{d:Nat}{k:IntKind}{n:Int}:same d (.int k n) (.int k n)=true:=by
 cases d<;>simp[same,yP,Ad]
theorem RV{d:Nat}{b:Bool}:same d (.bool b) (.bool b)=true:=by cases d<;>simp[same,uV]
theorem gC{n:Int}(h1 : -9223372036854775808<=n)(h2:n<9223372036854775808):iA .i64 n=n:=by
 grind [rP,IntKind.wrap,IntKind.bits,IntKind.signed]
def tV{t:Tr vA}{d:D}{cs zs:List zA}(h:RD t d cs)(hz:d.zs=zs):nK zs (.agg cs)=some (cellsOf cs):=by
 unfold nK;simp only[zA.asAgg,oA];rw[<- hz,Zj d cs h];rfl
theorem uO{zs l:List zA}(h:oS zs l=true):nK zs (.agg l)=some (cellsOf l):=by
 simp_all [nK,zA.asAgg]
end Go.Am
