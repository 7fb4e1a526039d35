/- Seat 30: types, functions, variables, what the library's functions are worth; awake. -/
import Derived.ProofKit
import Derived.Test.YtfmlbimokklmgaaGreatDoorF08
import Derived.Test.YtfmlbimokklmgaaGreatDoorF09
import Derived.Test.YtfmlbimokklmgaaGreatDoorF10
set_option linter.all false
noncomputable section
set_option maxRecDepth 100000
namespace Go.Am
open Go Go.RowKit Go.Proofs
variable {C:oA}{base f:Nat}
def OS:allT (fun t ty=>match tyOf Tryz.prog t with | some u=>eqTy u ty | none=>false) tys (fun n=>n)=true:=by kernel_rfl
def zdu (hC:C.tys=tys):iF Tryz.prog C:=by
 intro t ty h;rw[hC]at h;have:=zjz tys _ OS t ty h
 cases hu:tyOf Tryz.prog t with
 | none=>rw[hu]at this;cases this
 | some u=>rw[hu]at this;rw[zi9 this]
def TU : (Tryz.funcs.toList.all fun fn => !(fn.name == "runtime.NumGoroutine")) = true := by kernel_rfl
def Zk (hC:C.fns=fns):Cw Tryz.prog C:=by
 intro f fn h;rw[hC]at h;unfold fns at h;rw[Tr.get_ofList]at h;have h2:Tryz.prog.funcs[f]?=some fn:=by
  show Tryz.funcs[f]?=some fn
  simpa using h
 refine⟨h2,?_⟩
 have:=ycb.1 TU fn (ycv h)
 simpa using this
structure aM (w:World):Prop where
 kinds:∃t,w.heap[1]?=some (.cells (fS jZ).toArray t (0,0))
 modes:∃t,w.heap[4]?=some (.cells (fS vZ).toArray t (0,0))
 lens:∃t,w.heap[2]?=some (.cells (cX nZ).toArray t (0,0))
 most:∃m,w.cell? ⟨0,0,none⟩=some (.int .i64 m)
def aM.size{w:World}(h:aM w):5<=w.heap.size:=by
 obtain⟨t,h⟩:=h.modes
 have:=(ybe.1 h).1
 omega
def aM.below{w w':World}{N:Nat}(hN:5<=N)(h:aM w)(hb:Below N w w'):aM w':=by
 refine⟨?_,?_,?_,?_⟩
 ·obtain⟨t,h⟩:=h.kinds;exact⟨t,by rw[hb.block 1 (by omega)];exact h⟩
 ·obtain⟨t,h⟩:=h.modes;exact⟨t,by rw[hb.block 4 (by omega)];exact h⟩
 ·obtain⟨t,h⟩:=h.lens;exact⟨t,by rw[hb.block 2 (by omega)];exact h⟩
 ·obtain⟨m,h⟩:=h.most;exact⟨m,by rw[hb.cell (p:=⟨0,0,none⟩) (by show 0<N;omega)];exact h⟩
def hrel30{w:World}(h:aM w):vB 256 w.heap.size mu0 H30 w:=by
 have hget:∀a x,H30.t.get a=some x->(a=1/\x=.cells (Tr.ofList (Bf jZ)) (zB (Bf jZ)) none)\/(a=4/\x=.cells (Tr.ofList (Bf vZ)) (zB (Bf vZ)) none)\/(a=2/\x=.cells (Tr.ofList (intA .i64 nZ)) (zB (intA .i64 nZ)) none):=by
  intro a x hx;have hx:(glob 1 (Bf jZ) (glob 4 (Bf vZ) (glob 2 (intA .i64 nZ) .leaf))).get a=some x:=hx
  unfold glob at hx;rw[Tr.get_set,Tr.get_set,Tr.get_set]at hx;split at hx
  ·rename_i e;exact .inl ⟨e,(yci hx).symm⟩
  ·split at hx
   ·rename_i e;exact .inr (.inl ⟨e,(yci hx).symm⟩)
   ·split at hx
    ·rename_i e;exact .inr (.inr ⟨e,(yci hx).symm⟩)
    ·rw[Tr.get_leaf]at hx;cases hx
 have hsz:=h.size
 refine⟨ybk _,fun g hg=>by simp[mu0,hg],fun a x i _ hx hi=>?_,ybk _,ybk _,fun a ha=>?_,fun a x i hx hi=>?_,fun a i ha hi=>?_,fun a b x y i j hx _ _ _ ha _ _=>?_,fun a x t ha=>by cases ha⟩
 ·rcases hget a x hx with⟨rfl,rfl⟩ | ⟨rfl,rfl⟩ | ⟨rfl,rfl⟩<;>cases hi<;>exact⟨Nat.lt_of_lt_of_le (by decide) hsz,rfl,rfl⟩
 ·have ha:256<=a:=ha
  refine⟨by simp[mu0];omega,?_⟩
  cases hx:H30.t.get a with
  | none=>rfl
  | some x=>rcases hget a x hx with⟨rfl,_⟩ | ⟨rfl,_⟩ | ⟨rfl,_⟩<;>omega
 ·rcases hget a x hx with⟨rfl,rfl⟩ | ⟨rfl,rfl⟩ | ⟨rfl,rfl⟩
  ·obtain⟨t,h⟩:=h.kinds;cases hi;exact⟨_,h,AM (Vr jZ) t⟩
  ·obtain⟨t,h⟩:=h.modes;cases hi;exact⟨_,h,AM (Vr vZ) t⟩
  ·obtain⟨t,h⟩:=h.lens;cases hi;exact⟨_,h,AM (JJ nZ) t⟩
 ·simp[mu0]at hi;omega
 ·rcases hget a x hx with⟨rfl,_⟩ | ⟨rfl,_⟩ | ⟨rfl,_⟩<;>omega
def jY{s:ByteArray}{l:List Nat}(h:rF s=l):s.data.toList.map UInt8.toNat=l:=h
def Ff {fn:Func}(hf:Tryz.funcs[f]?=some fn)(hb:fn.body.isSome=true){args:Array Value}{w:World}:(callFunc f args).run Tryz.prog w=.ok (.enter f args) w:=
 Pi (C:=C30w) (Zk rfl) (show fns.get f=some fn by unfold fns;rw[Tr.get_ofList];simpa using hf) hb
def LI(c:UInt8):∀s:List UInt8,oT c.toNat (s.map UInt8.toNat)=Lib.countByte s c
 | []=>rfl
 | b::l=>by
  have ih:=LI c l
  unfold Lib.countByte at ih ⊢
  simp only[ycm,oT,qD];rw[List.count_cons];by_cases h:b=c
  ·subst h;simp[ih]
  ·have:¬ Nat.beq b.toNat c.toNat=true:=fun e=>h (UInt8.toNat_inj.1 (mC.1 e))
   rw[yaa this,ih];simp[h]
section
variable {B N:Nat}{μ:Mu}{H:xA}{w:World}{args:List zA}{args':Array Value}{v:zA}
def Oc{a b:zA}(h:tB μ [a,b] args'.toList):∃x y,args' = #[x,y]/\uA μ a x/\uA μ b y:=by
 rw[tB]at h;obtain⟨x,r,h1,h2,h3⟩:=h
 rw[tB]at h3;obtain⟨y,r',h4,h5,h6⟩:=h3
 rw[tB]at h6;subst h4 h6
 exact⟨x,y,by apply yax.1;simpa using h1,h2,h5⟩
def FG(hv:Kz args H=some v)(hl:tB μ args args'.toList) :
  (callFunc 107 args').run Tryz.prog w=.ok (.enter 107 args') w/\Calls Tryz.prog 107 args' w fun e w'=>∃v',e=.returned v'/\uA μ v v'/\Below w.heap.size w w':=by
 refine⟨Ff (fn:=Tryz.f107) Tryz.func107 (by kernel_rfl),?_⟩
 unfold Kz at hv;split at hv
 case h_2=>cases hv
 rename_i s c;rw[wB,qC]at hv;obtain⟨hc,hv⟩:=hv
 cases hv;obtain⟨x,y,rfl,hx,hy⟩:=Oc hl
 simp only[uA]at hx hy;obtain⟨s',rfl,hs⟩:=hx
 subst hy;refine(Tryz.strings_IndexByte s' (Int.ofNat c) w).mono fun e w' ⟨he,hw⟩=>?_
 subst hw;refine⟨_,he,?_,Below.refl _ _⟩
 have hcc:(c.toUInt8).toNat=c:=by simp[Nat.toUInt8,UInt8.toNat_ofNat'];omega
 have:=JM c.toUInt8 s'.data.toList
 rw[hcc,jY hs]at this;rw[uA];show Value.int .i64 (Lib.indexByte s'.data.toList c.toUInt8)=_
 rw[<- this]
def FI(hv:La args H=some v)(hl:tB μ args args'.toList) :
  (callFunc 54 args').run Tryz.prog w=.ok (.enter 54 args') w/\Calls Tryz.prog 54 args' w fun e w'=>∃v',e=.returned v'/\uA μ v v'/\Below w.heap.size w w':=by
 refine⟨Ff (fn:=Tryz.f54) Tryz.func54 (by kernel_rfl),?_⟩
 unfold La at hv;split at hv
 case h_2=>cases hv
 rename_i s c
 cases hv;obtain⟨x,y,rfl,hx,hy⟩:=Oc hl
 rw[uA]at hx hy;obtain⟨s',rfl,hs⟩:=hx
 obtain⟨c',rfl,hc⟩:=hy
 obtain⟨b,hb,hbc⟩:∃b:UInt8,c'=⟨#[b]⟩/\b.toNat=c:=by
  have h1:=jY hc
  obtain⟨⟨l⟩⟩:=c'
  match l,h1 with
  | [b],h1=>exact⟨b,rfl,by simpa using h1⟩
 subst hb;refine(Tryz.strings_Count_one s' b w).mono fun e w' ⟨he,hw⟩=>?_
 subst hw;refine⟨_,he,?_,Below.refl _ _⟩
 have:=LI b s'.data.toList
 rw[hbc,jY hs]at this;rw[uA,<- this];rfl
def FJ(hI:aM w)(hv:He args H=some v)(hl:tB μ args args'.toList) :
  (callFunc 66 args').run Tryz.prog w=.ok (.enter 66 args') w/\Calls Tryz.prog 66 args' w fun e w'=>∃v',e=.returned v'/\uA μ v v'/\Below w.heap.size w w':=by
 refine⟨Ff (fn:=Tryz.f66) Tryz.func66 (by kernel_rfl),?_⟩
 unfold He at hv;split at hv
 case h_2=>cases hv
 rename_i s c;rw[wB,qC,oD]at hv;obtain⟨hlen,hv⟩:=hv
 cases hv;obtain⟨x,y,rfl,hx,hy⟩:=Oc hl
 rw[uA]at hx hy;obtain⟨s',rfl,hs⟩:=hx
 obtain⟨c',rfl,hc⟩:=hy
 obtain⟨m,hm⟩:=hI.most
 have hsz:s'.size<4294967281:=by
  have:=congrArg List.length (jY hs)
  simp at this;omega
 refine(Tryz.strings_Contains s' c' m w hsz hm).mono fun e w' ⟨he,hw⟩=>?_
 subst hw;refine⟨_,he,?_,Below.refl _ _⟩
 have:=LQ c'.data.toList s'.data.toList
 rw[jY hs,jY hc]at this;rw[uA,this]
def FH(hI:aM w)(hv:pCut args H=some v)(hl:tB μ args args'.toList) :
  (callFunc 98 args').run Tryz.prog w=.ok (.enter 98 args') w/\Calls Tryz.prog 98 args' w fun e w'=>∃v',e=.returned v'/\uA μ v v'/\Below w.heap.size w w':=by
 refine⟨Ff (fn:=Tryz.f98) Tryz.func98 (by kernel_rfl),?_⟩
 unfold pCut at hv;split at hv
 case h_2=>cases hv
 rename_i s c;rw[wB,qC,oD]at hv;obtain⟨hlen,hv⟩:=hv
 obtain⟨x,y,rfl,hx,hy⟩:=Oc hl
 rw[uA]at hx hy;obtain⟨s',rfl,hs⟩:=hx
 obtain⟨c',rfl,hc⟩:=hy
 obtain⟨m,hm⟩:=hI.most
 have hsz:s'.size<4294967281:=by
  have:=congrArg List.length (jY hs)
  simp at this;omega
 refine(Tryz.strings_Cut s' c' m w hsz hm).mono fun e w' ⟨he,n,hw⟩=>?_
 subst hw;have hb:Below w.heap.size w (w.drewN n):=⟨rfl,rfl,rfl,ybk _,fun _ _=>rfl⟩
 refine⟨_,he,?_,hb⟩
 have hcut:=zfs c'.data.toList s'.data.toList
 rw[jY hs,jY hc]at hcut
 cases hx:Af c s with
 | none=>
  rw[hx]at hcut hv
  cases hv;have hcut:Lib.index s'.data.toList c'.data.toList = -1:=hcut
  have e:Lib.cut s'.data.toList c'.data.toList=(s'.data.toList,[],false):=by unfold Lib.cut;rw[hcut];rfl
  rw[e,uA];exact⟨_,rfl,.cons (by rw[uA];exact⟨_,rfl,by rw[<- hs]⟩) (.cons (by rw[uA];exact⟨_,rfl,by simp[rF]⟩) (.single (by rw[uA])))⟩
 | some p=>
  rw[hx]at hcut hv
  cases hv;obtain⟨a,b,rfl,h1,h2,h3⟩:=hcut
  have e:Lib.cut s'.data.toList c'.data.toList=(a,b,true):=by unfold Lib.cut;rw[yab h1,h2,h3]
  rw[e,uA];exact⟨_,rfl,.cons (by rw[uA];exact⟨_,rfl,by simp[rF]⟩) (.cons (by rw[uA];exact⟨_,rfl,by simp[rF]⟩) (.single (by rw[uA])))⟩
end
section
variable {B N:Nat}{μ:Mu}{H H':xA}{w:World}{args:List zA}{args':Array Value}{v:zA}
def SL (hbase:B<=base)(hH:vB B N μ H w)(hv:Py base Qp args H=some (v,H'))(hl:tB μ args args'.toList) :
  (callFunc 82 args').run Tryz.prog w=.ok (.enter 82 args') w/\Calls Tryz.prog 82 args' w fun e w'=>∃v' μ',e=.returned v'/\μ.le μ'/\vB B N μ' H' w'/\Below N w w'/\uA μ' v v':=
 STzx hbase (fun p hp b n w h1 h2 h3 h4=>by
  obtain rfl:p=(110,2):=by simpa[Qp]using hp
  exact YP b n w h1 h2 (show 1<n from h3) h4) (fun b w h=>YO b w h) (fun w a=>Ff (fn:=Tryz.f82) Tryz.func82 (by kernel_rfl)) hH hv hl
def SJ (hbase:B<=base)(hH:vB B N μ H w)(hv:Px base 5 args H=some (v,H'))(hl:tB μ args args'.toList) :
  (callFunc 52 args').run Tryz.prog w=.ok (.enter 52 args') w/\Calls Tryz.prog 52 args' w fun e w'=>∃v' μ',e=.returned v'/\μ.le μ'/\vB B N μ' H' w'/\Below N w w'/\uA μ' v v':=
 SS Tryz.lays169 Tryz.Builder_Extra_169 (f:=52) rfl hbase (fun w a=>Ff (fn:=Tryz.f52) Tryz.func52 (by kernel_rfl)) hH hv hl
end
def pV{α:Type}{t:Tr α}{i j:Nat}{x y:α}(h:(t.set i x).get j=some y):(j=i/\x=y)\/t.get j=some y:=by
 rw[Tr.get_set]at h;split at h
 ·rename_i e;exact .inl ⟨e,yci h⟩
 ·exact .inr h
def SH(N:Nat):Nk Tryz.prog C30w 256 N aM:=by
 intro f g hg args H v H' hv μ w args' hH hI hl;have hg:Xa.get f=some g:=hg
 unfold Xa at hg;rcases pV hg with⟨rfl,rfl⟩ | hg
 ·exact zZ hv hH fun hv=>FI hv hl
 rcases pV hg with⟨rfl,rfl⟩ | hg
 ·exact zZ hv hH fun hv=>FH hI hv hl
 rcases pV hg with⟨rfl,rfl⟩ | hg
 ·exact zZ hv hH fun hv=>FJ hI hv hl
 rcases pV hg with⟨rfl,rfl⟩ | hg
 ·exact zZ hv hH fun hv=>FG hv hl
 ·rw[Tr.get_leaf]at hg;cases hg
def sim30w(N:Nat)(hN:5<=N):gK Tryz.prog C30w 256 N aM:=
 ⟨zdu rfl,Zk rfl,SH N,ybk _,by kernel_rfl,fun _ _ hb h=>h.below hN hb⟩
def OV {n:Nat}{args:List zA}{args':Array Value}{w:World}(hw:aM w)(hS:gK Tryz.prog C 256 w.heap.size aM)(hroot:C.root=f)(hl:tB mu0 args args'.toList)
  (h:fin (Dw C n (Vy C f args H30))=1):Calls Tryz.prog f args' w fun e w'=>e=.returned (.bool true)/\Below w.heap.size w w':=by
 obtain⟨H',hr⟩:=zi3 h
 unfold Vy at hr;have stuck:∀(n k:Nat),Dw C n (.fail k)=.fail k:=by
  intro n;induction n with
  | zero=>intro k;rfl
  | succ n ih=>
   intro k;show Dw C n (Dw C n (.fail k))=_
   rw[ih,ih]
 cases he:rK C f args false with
 | none=>
  rw[he]at hr;rw[stuck]at hr
  cases hr
 | some g=>
  rw[he]at hr;refine(YU hS hw hroot (hrel30 hw) hl he hr).mono fun e w' ⟨v',μ',h1,_,h3,_,h5⟩=>?_
  rw[uA]at h3;exact⟨by rw[h1,h3],h5⟩
def ZG{w:World}(hw:aM w):Calls Tryz.prog 9 #[] w fun e w'=>e=.returned (.bool true)/\Below w.heap.size w w':=
 OV hw (sim30w _ hw.size) rfl .nil zag
def SM{μ:Mu}{H:xA}{w:World}{args:List zA}{args':Array Value}{v:zA}(hI:aM w)(hv:Pw args H=some v)(hl:tB μ args args'.toList) :
  (callFunc 9 args').run Tryz.prog w=.ok (.enter 9 args') w/\Calls Tryz.prog 9 args' w fun e w'=>∃v',e=.returned v'/\uA μ v v'/\Below w.heap.size w w':=by
 refine⟨Ff (fn:=Tryz.f9) Tryz.func9 (by kernel_rfl),?_⟩
 unfold Pw at hv;split at hv
 case h_2=>cases hv
 cases hv;rw[tB]at hl;have:args' = #[]:=by apply yax.1;simpa using hl
 subst this;exact(ZG hI).mono fun e w' ⟨h1,h2⟩=>⟨_,h1,by rw[uA],h2⟩
end Go.Am
namespace Go.Am
open Go Go.RowKit
@[simp] theorem yE {α:Type} {x:Option α}:xB true x=x:=rfl
inductive D where
 | int (k:IntKind) (n:Int)
 | bool (b:Bool)
 | str (s:List Nat)
 | sl (sz:Nat) (l:List D)
 | st (l:List D)
def At (t:Tr vA)(b off:Nat)(cs:List zA):Prop:=∃c n lo,t.get b=some (.cells c n lo)/\∀(j:Nat) a,cs[j]?=some a->c.get (off+j)=some a
def sM(t:Tr vA)(sz:Nat)(v:zA)(cl:List (List zA)):Prop:=
 (v=.nilslice/\cl=[])\/∃b off cap,v=.slice b off cl.length cap/\cl.length<=cap/\(∃c n lo,t.get b=some (.cells c n lo)/\(lo=none\/∃x,lo=some x/\x.es=sz))/\∀(i:Nat) cs,cl[i]?=some cs->cs.length=sz/\At t b (off+i*sz) cs
mutual
/-- cells read as data -/
def RD (t:Tr vA):D->List zA->Prop
 | .int k n,cs=>cs=[.int k n]
 | .bool b,cs=>cs=[.bool b]
 | .str s,cs=>cs=[.str s]
 | .sl sz l,cs=>∃a cl,cs=[a]/\sM t sz a cl/\wD t l cl
 | .st l,cs=>∃cl,cs=cl.flatten/\wD t l cl
def wD (t:Tr vA):List D->List (List zA)->Prop
 | [],cl=>cl=[]
 | d::l,cl=>∃c r,cl=c::r/\RD t d c/\wD t l r
end
def aA (t t':Tr vA):Prop:=∀b y,t.get b=some y->t'.get b=some y
theorem aA.refl(t:Tr vA):aA t t:=fun _ _ h=>h
def aA.trans{a b c:Tr vA}(h:aA a b)(k:aA b c):aA a c:=fun x y e=>k x y (h x y e)
section
variable {t t':Tr vA}{C:oA}
theorem At.mono(h:aA t t'){b off:Nat}{cs:List zA}(k:At t b off cs):At t' b off cs:=by
 obtain⟨c,n,lo,h1,h2⟩:=k;exact⟨c,n,lo,h _ _ h1,h2⟩
theorem sM.mono(h:aA t t'){sz:Nat}{v:zA}{cl:List (List zA)}(k:sM t sz v cl):sM t' sz v cl:=by
 rcases k with k | ⟨b,off,cap,h1,h3,⟨c,n,lo,h4,h5⟩,h2⟩
 ·exact .inl k
 ·exact .inr ⟨b,off,cap,h1,h3,⟨c,n,lo,h _ _ h4,h5⟩,fun i cs hi=>⟨(h2 i cs hi).1,(h2 i cs hi).2.mono h⟩⟩
mutual
theorem RD.mono(h:aA t t'):∀(d:D) (cs:List zA),RD t d cs->RD t' d cs
 | .int _ _,_,k=>k
 | .bool _,_,k=>k
 | .str _,_,k=>k
 | .sl _ l,_,⟨a,cl,h1,h2,h3⟩=>⟨a,cl,h1,h2.mono h,wD.mono h l cl h3⟩
 | .st l,_,⟨cl,h1,h2⟩=>⟨cl,h1,wD.mono h l cl h2⟩
theorem wD.mono(h:aA t t'):∀(l:List D) (cl:List (List zA)),wD t l cl->wD t' l cl
 | [],_,k=>k
 | d::l,_,⟨c,r,h1,h2,h3⟩=>⟨c,r,h1,RD.mono h d c h2,wD.mono h l r h3⟩
end
theorem wD.length:∀ {l:List D} {cl:List (List zA)},wD t l cl->cl.length=l.length:=by
 intro l;induction l with
 | nil=>grind [wD]
 | cons d l ih=>grind [wD]
theorem wD.get:∀ {l:List D} {cl:List (List zA)} {i:Nat} {d:D},wD t l cl->l[i]?=some d->∃cs,cl[i]?=some cs/\RD t d cs:=by
 intro l;induction l with
 | nil=>simp_all
 | cons e l ih=>
  grind [wD]
theorem wD.mk:∀ {l:List D} {cl:List (List zA)},cl.length=l.length->(∀(i:Nat) d cs,l[i]?=some d->cl[i]?=some cs->RD t d cs)->wD t l cl:=by
 intro l;induction l with
 | nil=>grind [wD]
 | cons e l ih=>
  intro cl h k
  cases cl with
  | nil=>simp at h
  | cons c r=>
   rw[wD];exact⟨c,r,rfl,k 0 e c (by simp) (by simp),ih (by grind) fun i d cs h1 h2=>k (i+1) d cs (by simp_all) (by simp_all)⟩
@[simp] theorem aJ {k:IntKind} {n:Int} {cs:List zA}:RD t (.int k n) cs ↔ cs=[.int k n]:=Iff.rfl
@[simp] theorem dU {b:Bool} {cs:List zA}:RD t (.bool b) cs ↔ cs=[.bool b]:=Iff.rfl
@[simp] theorem pK {s:List Nat} {cs:List zA}:RD t (.str s) cs ↔ cs=[.str s]:=Iff.rfl
def bA (t:Tr vA)(sz:Nat)(l:List D)(v:zA):Prop:=∃cl,sM t sz v cl/\wD t l cl
theorem bA.mono(h:aA t t'){sz:Nat}{l:List D}{v:zA}(k:bA t sz l v):bA t' sz l v:=by
 obtain⟨cl,h1,h2⟩:=k;exact⟨cl,h1.mono h,wD.mono h _ _ h2⟩
theorem pM{sz:Nat}{l:List D}{cs:List zA}:RD t (.sl sz l) cs ↔ ∃v,cs=[v]/\bA t sz l v:=by
 rw[RD];constructor
 ·rintro⟨a,cl,rfl,h1,h2⟩;exact⟨a,rfl,cl,h1,h2⟩
 ·rintro⟨a,rfl,cl,h1,h2⟩;grind
theorem oI{l:List D}{cs:List zA}:RD t (.st l) cs ↔ ∃cl,cs=cl.flatten/\wD t l cl:=by rw[RD]
theorem wF{cl:List (List zA)}:wD t [] cl ↔ cl=[]:=by rw[wD]
theorem dC{d:D}{l:List D}{cl:List (List zA)}:wD t (d::l) cl ↔ ∃c r,cl=c::r/\RD t d c/\wD t l r:=by rw[wD]
theorem bA.one{sz:Nat}{l:List D}{v:zA}(h:bA t sz l v):zA.one v=true:=by
 obtain⟨cl,h1,_⟩:=h
 rcases h1 with⟨rfl,_⟩ | ⟨b,off,cap,rfl,_⟩
 ·decide
 ·rfl
theorem bA.len{sz:Nat}{l:List D}{v:zA}(h:bA t sz l v):pC v=some (.int .i64 (l.length:Int)):=by
 obtain⟨cl,h1,h2⟩:=h
 have:=h2.length
 rcases h1 with⟨rfl,rfl⟩ | ⟨b,off,cap,rfl,_⟩
 ·have:l.length=0:=this.symm
  rw[this];rfl
 ·rw[<- this];rfl
theorem bA.same{sz d:Nat}{l:List D}{v:zA}(h:bA t sz l v):same d v v=true:=by
 obtain⟨cl,h1,_⟩:=h
 rcases h1 with⟨rfl,_⟩ | ⟨b,off,cap,rfl,_⟩
 all_goals grind [Am.same,Nat.beq_refl]
def Zo{sz:Nat}{l:List D}{v:zA}(h:bA t sz l v):cZ .nilslice v=true:=by
 obtain⟨cl,h1,_⟩:=h
 rcases h1 with⟨rfl,_⟩ | ⟨b,off,cap,rfl,_⟩<;>rfl
theorem At.load{b off j n:Nat}{cs:List zA}(h:At t b off cs){ty:Nat}{y:lD}(hy:C.tys.get ty=some y)(ha:y.desc.isAgg=true)(hn:y.size=n)(hj:j+n<=cs.length):mA C ty ⟨0,t⟩ (.ptr b (off+j))=some (.agg ((cs.drop j).take n)):=by
 obtain⟨c,m,lo,h1,h2⟩:=h
 unfold mA;simp only[zA.asPtr,qA];rw[hy,qA];unfold qE;rw[h1,qA];simp only[vA.asCells,qA];unfold fR;rw[ha,cond_true,hn];have key:∀(n j:Nat),j+n<=cs.length->c.many n (off+j)=some ((cs.drop j).take n):=by
  intro n;induction n with
  | zero=>intro j _;simp;rfl
  | succ n ih=>
   intro j hj;have hlt:j<cs.length:=by omega
   rw[Tr.many_succ,h2 j cs[j] (ybd hlt),qA,show off+j+1=off+(j+1) by omega,ih (j+1) (by omega),qA,ybl hlt,List.take_succ_cons]
 simp_all
theorem At.load1{b off j:Nat}{cs:List zA}{a:zA}(h:At t b off cs){ty:Nat}{y:lD}(hy:C.tys.get ty=some y)(ha:y.desc.isAgg=false)(hj:cs[j]?=some a):mA C ty ⟨0,t⟩ (.ptr b (off+j))=some a:=by
 obtain⟨c,m,lo,h1,h2⟩:=h
 simp_all [mA,zA.asPtr,qE,vA.asCells,fR]
structure zH (C:oA) (T el sz:Nat) (agg:Bool):Prop where
 ty:∃y,C.tys.get T=some y/\y.desc.asSlice=some el
 el:∃y,C.tys.get el=some y/\y.size=sz/\y.desc.isAgg=agg
def BQ(agg:Bool)(cs:List zA):zA:=if agg then .agg cs else match cs with | a::_=>a | []=>.nilptr
theorem zH.at{T el sz:Nat}{agg:Bool}(h:zH C T el sz agg)(h1:agg=false->sz=1){l:List D}{v:zA}(hr:bA t sz l v){i:Nat}{d:D}(hi:l[i]?=some d) :
  ∃b off cs,xC C T v (.int .i64 (i:Int))=some (.ptr b off)/\mA C el ⟨0,t⟩ (.ptr b off)=some (BQ agg cs)/\At t b off cs/\cs.length=sz/\RD t d cs:=by
 obtain⟨⟨y,hy1,hy2⟩,⟨z,hz1,hz2,hz3⟩⟩:=h
 obtain⟨cl,he,hd⟩:=hr
 obtain⟨cs,hc,hrd⟩:=hd.get hi
 rcases he with⟨rfl,rfl⟩ | ⟨b,off,cap,rfl,_,_,he⟩
 ·simp at hc
 ·obtain⟨hl,ha⟩:=he i cs hc
  have hlt:i<cl.length:=(ybc.1 hc).1
  refine⟨b,off+i*sz,cs,?_,?_,ha,hl,hrd⟩
  ·unfold xC
   rw[hy1,qA];have:(zA.int .i64 (i:Int)).asNat=some i:=rfl
   rw[this,qA];simp only[zA.asSlice];rw[hy2,qA,hz1,qA,qC.2 hlt,hz2];rfl
  ·cases agg with
   | true=>
    have:=ha.load (j:=0) hz1 hz3 hz2 (by omega)
    simp only[yct,ycr]at this;rw[this,<- hl,List.take_length];rfl
   | false=>
    have hs:=h1 rfl
    cases cs with
    | nil=>simp_all
    | cons a r=>
     have:=ha.load1 (j:=0) (a:=a) hz1 hz3 (by simp)
     rw[yct]at this;rw[this];rfl
end
section
variable {t:Tr vA}{C:oA}
theorem zH.front{T el sz:Nat}{agg:Bool}(h:zH C T el sz agg){l:List D}{v:zA}(hr:bA t sz l v){k:Nat}(hk:k<=l.length) :
  ∃v',vG C T ⟨0,t⟩ v none (some (.int .i64 (k:Int)))=some v'/\bA t sz (l.take k) v':=by
 obtain⟨⟨y,hy1,hy2⟩,⟨z,hz1,hz2,hz3⟩⟩:=h
 obtain⟨cl,he,hd⟩:=hr
 have hlen:=hd.length
 unfold vG;rw[hy1,qA];have hb:∀y,jW y (.int .i64 (k:Int))=xB (Nat.ble k y) (some k):=fun y=>rfl
 rcases he with⟨rfl,rfl⟩ | ⟨b,off,cap,rfl,hcap,⟨c,n,lo,hg,hlo⟩,he⟩
 ·have:k=0:=by grind
  subst this;refine⟨.nilslice,?_,[],.inl ⟨rfl,rfl⟩,by simp[wD]⟩
  unfold gN;simp only[zA.asStr,zA.asSlice,zA.asPtr];rw[hy2,qA,hz1,qA];rfl
 ·refine⟨.slice b off k cap,?_,cl.take k,.inr ⟨b,off,cap,?_,?_,⟨c,n,lo,hg,hlo⟩,fun i cs hi=>?_⟩,?_⟩
  ·unfold gN
   simp only[zA.asStr,zA.asSlice];rw[hy2,qA];unfold uQ;rw[hz1,qA];unfold dQ Aj;simp only[hb];rw[show Nat.ble k cap=true from oE.2 (by omega)]
   simp only[yE,qA];have he2:iN ⟨0,t⟩ b z.size cap 0 false=false:=by
    unfold iN qE;rw[hg,qA];simp only[vA.asCells];rcases hlo with rfl | ⟨x,rfl,hx⟩
    ·rfl
    ·simp
   rw[he2,yay,cond_false];have hf:mO ⟨0,t⟩ b z.size cap 0 false=true:=by
    unfold mO qE;rw[hg,qA];simp only[vA.asCells];rcases hlo with rfl | ⟨x,rfl,hx⟩
    all_goals simp_all
   rw[show Nat.ble k cap=true from oE.2 (by omega),hf]
   simp only[Bool.and_self,yE];congr 1
   cases hq:Nat.beq cap 0<;>simp
  ·simp_all
  ·grind
  ·grind
  ·refine wD.mk (by simp_all) fun i d cs h1 h2=>?_
   rw[ydf]at h1 h2;split at h1
   ·rename_i e
    rw[yab e]at h2;obtain⟨cs',h3,h4⟩:=hd.get h1
    simp_all
   grind
end
mutual
def D.zs:D->List zA
 | .int k _=>[.int k 0]
 | .bool _=>[.bool false]
 | .str _=>[.str []]
 | .sl _ _=>[.nilslice]
 | .st l=>D.zss l
def D.zss:List D->List zA
 | []=>[]
 | d::l=>d.zs++D.zss l
end
def KD:∀(z z' l l':List zA),yS z l=true->yS z' l'=true->yS (z++z') (l++l')=true
 | [],_,[],_,_,h=>h
 | a::z,z',b::l,l',h,k=>by
  unfold yS at h;rw[ybb]at h;show(cZ a b&&yS (z++z') (l++l'))=true
  rw[h.1,KD z z' l l' h.2 k];rfl
 | [],_,_::_,_,h,_=>by cases h
 | _::_,_,[],_,h,_=>by cases h
mutual
theorem Zn{t:Tr vA}:∀(d:D) (cs:List zA),RD t d cs->yS d.zs cs=true
 | .int k n,cs,h=>by
  rw[RD]at h;subst h;show(cZ (.int k 0) (.int k n)&&true)=true
  grind [cZ,zA.asIntK,dO]
 | .bool _,cs,h=>by rw[RD]at h;subst h;rfl
 | .str _,cs,h=>by rw[RD]at h;subst h;rfl
 | .sl sz l,cs,h=>by
  rw[pM]at h;obtain⟨v,rfl,h⟩:=h
  show(cZ .nilslice v&&true)=true
  rw[Zo h];rfl
 | .st l,cs,h=>by
  rw[oI]at h;obtain⟨cl,rfl,h⟩:=h
  show yS (D.zss l) cl.flatten=true
  exact KB l cl h
theorem KB{t:Tr vA}:∀(l:List D) (cl:List (List zA)),wD t l cl->yS (D.zss l) cl.flatten=true
 | [],cl,h=>by rw[wD]at h;subst h;rfl
 | d::l,cl,h=>by
  rw[wD]at h;obtain⟨c,r,rfl,h1,h2⟩:=h
  show yS (d.zs++D.zss l) (c::r).flatten=true
  rw[yas];exact KD _ _ _ _ (Zn d c h1) (KB l r h2)
end
theorem yC{k:IntKind}{n:Int}:Hp k (.int k n)=some n:=by unfold Hp;simp only[zA.asIntK,qA];rw[dO.2 rfl];rfl
def Cn{b:Bool}:(zA.bool b).asBool=some b:=rfl
theorem Pd{d:Nat}{k:IntKind}{n:Int}:same d (.int k n) (.int k n)=true:=by
 cases d<;>simp[same,dO,gZ]
theorem QT{d:Nat}{b:Bool}:same d (.bool b) (.bool b)=true:=by cases d<;>simp[same,fU]
theorem iC{n:Int}(h1 : -9223372036854775808<=n)(h2:n<9223372036854775808):cA .i64 n=n:=by
 grind [wP,IntKind.wrap,IntKind.bits,IntKind.signed]
def vL{t:Tr vA}{d:D}{cs zs:List zA}(h:RD t d cs)(hz:d.zs=zs):jJ zs (.agg cs)=some (cellsOf cs):=by
 unfold jJ;simp only[zA.asAgg,qA];rw[<- hz,Zn d cs h];rfl
theorem cQ{zs l:List zA}(h:yS zs l=true):jJ zs (.agg l)=some (cellsOf l):=by
 simp_all [jJ,zA.asAgg]
end Go.Am
