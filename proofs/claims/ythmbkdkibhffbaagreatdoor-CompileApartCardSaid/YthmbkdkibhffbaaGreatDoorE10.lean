/- Seat 19: types, functions, variables, what the library's functions are worth; awake. -/
import Derived.ProofKit
import Derived.Test.YthmbkdkibhffbaaGreatDoorE08
import Derived.Test.YthmbkdkibhffbaaGreatDoorE09
set_option linter.all false
noncomputable section
set_option maxRecDepth 100000
namespace Go.Am
open Go Go.RowKit Go.Proofs
theorem zso:allT (fun t ty=>match tyOf Tryz.prog t with | some u=>eqTy u ty | none=>false) tys (fun n=>n)=true:=by kernel_rfl
theorem zsn{C:iA}(hC:C.tys=tys):aF Tryz.prog C:=by
 intro t ty h;rw[hC]at h;have:=z7m tys _ zso t ty h
 cases hu:tyOf Tryz.prog t with
 | none=>rw[hu]at this;cases this
 | some u=>rw[hu]at this;rw[z6y this]
theorem zln : (Tryz.funcs.toList.all fun fn => !(fn.name == "runtime.NumGoroutine")) = true := by kernel_rfl
theorem zou{C:iA}(hC:C.fns=fns):zhl Tryz.prog C:=by
 intro f fn h;rw[hC]at h;unfold fns at h;rw[Tr.get_ofList]at h;have h2:Tryz.prog.funcs[f]?=some fn:=by
  show Tryz.funcs[f]?=some fn
  simpa using h
 refine⟨h2,?_⟩
 have:=ybc.1 zln fn (ybw h)
 simpa using this
def zL:List (List UInt8):=sU.map fun l=>l.map fun n=>n.toUInt8
def u64s (l:List Int):List Value:=l.map fun n=>.int .u64 n
theorem zm6{μ:Mu}:∀l:List Int,rB μ (l.map fun n=>zA.int .u64 n) (u64s l)
 | []=>.nil
 | b::l=>.cons (by rw[rA]) (zm6 l)
structure fI (w:World):Prop where
 kinds:∃t,w.heap[0]?=some (.cells (zrs zL).toArray t (0,0))
 most:∃m,w.cell? ⟨2,0,none⟩=some (.int .i64 m)
 pow:∃t,w.heap[5]?=some (.cells (u64s aP).toArray t (0,0))
theorem fI.size{w:World}(h:fI w):6<=w.heap.size:=by
 obtain⟨t,h⟩:=h.pow
 have:=(yaf.1 h).1
 omega
theorem fI.below{w w':World}{N:Nat}(hN:6<=N)(h:fI w)(hb:Below N w w'):fI w':=by
 refine⟨?_,?_,?_⟩
 ·obtain⟨t,h⟩:=h.kinds;exact⟨t,by rw[hb.block 0 (by omega)];exact h⟩
 ·obtain⟨m,h⟩:=h.most;exact⟨m,by rw[hb.cell (p:=⟨2,0,none⟩) (by show 2<N;omega)];exact h⟩
 ·obtain⟨t,h⟩:=h.pow;exact⟨t,by rw[hb.block 5 (by omega)];exact h⟩
theorem fI.tab {w : World} (h : fI w) : Lib.TabIs Tryz.prog w "internal/strconv.uint64pow10" .u64 Lib.pow10Tab := by
 obtain⟨t,h⟩:=h.pow
 have hg : Tryz.prog.globalNamed "internal/strconv.uint64pow10" = some 5 := by kernel_rfl
 unfold Lib.TabIs World.var?
 rw[hg];simp only[Option.bind_some,h];rfl
theorem zhz:(zL.map fun b=>zA.str (b.map UInt8.toNat))=sU.map zA.str:=by
 have h:((zL.map fun b=>b.map UInt8.toNat) == sU)=true:=by kernel_rfl
 have h:=eq_of_beq h
 rw[<- h,List.map_map];rfl
theorem hrel19{w:World}(h:fI w):oB 256 w.heap.size mu0 H19 w:=by
 have hget:∀a x,H19.t.get a=some x->(a=0/\x=.cells (Tr.ofList (sU.map zA.str)) (wB (sU.map zA.str)) none)\/(a=5/\x=.cells (Tr.ofList (aP.map fun n=>zA.int .u64 n)) (wB (aP.map fun n=>zA.int .u64 n)) none):=by
  intro a x hx;have hx:(glob 0 (sU.map zA.str) (glob 5 (aP.map fun n=>.int .u64 n) .leaf)).get a=some x:=hx
  unfold glob at hx;rw[Tr.get_set,Tr.get_set]at hx;split at hx
  ·rename_i e;exact .inl ⟨e,(ybj hx).symm⟩
  ·split at hx
   ·rename_i e;exact .inr ⟨e,(ybj hx).symm⟩
   ·rw[Tr.get_leaf]at hx;cases hx
 have hsz:=h.size
 refine⟨yal _,fun g hg=>by simp[mu0,hg],fun a x i _ hx hi=>?_,yal _,yal _,fun a ha=>?_,fun a x i hx hi=>?_,fun a i ha hi=>?_,fun a b x y i j hx _ _ _ ha _ _=>?_,fun a x t ha=>by cases ha⟩
 ·rcases hget a x hx with⟨rfl,rfl⟩ | ⟨rfl,rfl⟩<;>cases hi<;>exact⟨Nat.lt_of_lt_of_le (by decide) hsz,rfl,rfl⟩
 ·have ha:256<=a:=ha
  refine⟨by simp[mu0];omega,?_⟩
  cases hx:H19.t.get a with
  | none=>rfl
  | some x=>rcases hget a x hx with⟨rfl,_⟩ | ⟨rfl,_⟩<;>omega
 ·rcases hget a x hx with⟨rfl,rfl⟩ | ⟨rfl,rfl⟩
  ·obtain⟨t,h⟩:=h.kinds
   cases hi;exact⟨_,h,by rw[<- zhz];exact zjv (znk zL) t⟩
  ·obtain⟨t,h⟩:=h.pow
   cases hi;exact⟨_,h,zjv (zm6 aP) t⟩
 ·simp[mu0]at hi;omega
 ·rcases hget a x hx with⟨rfl,_⟩ | ⟨rfl,_⟩<;>omega
theorem lT{s:ByteArray}{l:List Nat}(h:vE s=l):s.data.toList.map UInt8.toNat=l:=h
theorem zfj{f:Nat}{fn:Func}(hf:Tryz.funcs[f]?=some fn)(hb:fn.body.isSome=true){args:Array Value}{w:World}:(callFunc f args).run Tryz.prog w=.ok (.enter f args) w:=
 zY (C:=C19w) (zou rfl) (show fns.get f=some fn by unfold fns;rw[Tr.get_ofList];simpa using hf) hb
section
variable {B N:Nat}{μ:Mu}{H:pA}{w:World}{args:List zA}{args':Array Value}{v:zA}
theorem zf1{a b:zA}(h:rB μ [a,b] args'.toList):∃x y,args' = #[x,y]/\rA μ a x/\rA μ b y:=by
 rw[rB]at h;obtain⟨x,r,h1,h2,h3⟩:=h
 rw[rB]at h3;obtain⟨y,r',h4,h5,h6⟩:=h3
 rw[rB]at h6;subst h4 h6
 exact⟨x,y,by apply Array.toList_inj.1;simpa using h1,h2,h5⟩
theorem zqg(hv:zan args H=some v)(hl:rB μ args args'.toList) :
  (callFunc 343 args').run Tryz.prog w=.ok (.enter 343 args') w/\Calls Tryz.prog 343 args' w fun e w'=>∃v',e=.returned v'/\rA μ v v'/\Below w.heap.size w w':=by
 refine⟨zfj (fn:=Tryz.f343) Tryz.func343 (by kernel_rfl),?_⟩
 unfold zan at hv;split at hv
 case h_2=>cases hv
 rename_i s c;rw[mB,oC]at hv;obtain⟨hc,hv⟩:=hv
 cases hv;obtain⟨x,y,rfl,hx,hy⟩:=zf1 hl
 simp only[rA]at hx hy;obtain⟨s',rfl,hs⟩:=hx
 subst hy;refine(Tryz.stringslite_IndexByte s' (Int.ofNat c) w).mono fun e w' ⟨he,hw⟩=>?_
 subst hw;refine⟨_,he,?_,Below.refl _ _⟩
 have hcc:(c.toUInt8).toNat=c:=by simp[Nat.toUInt8,UInt8.toNat_ofNat'];omega
 have:=zon c.toUInt8 s'.data.toList
 rw[hcc,lT hs]at this;rw[rA];show Value.int .i64 (Lib.indexByte s'.data.toList c.toUInt8)=_
 rw[<- this];done
theorem zgh(hI:fI w)(hv:zcl args H=some v)(hl:rB μ args args'.toList) :
  (callFunc 242 args').run Tryz.prog w=.ok (.enter 242 args') w/\Calls Tryz.prog 242 args' w fun e w'=>∃v',e=.returned v'/\rA μ v v'/\Below w.heap.size w w':=by
 refine⟨zfj (fn:=Tryz.f242) Tryz.func242 (by kernel_rfl),?_⟩
 unfold zcl at hv;split at hv
 case h_2=>cases hv
 rename_i s c;rw[mB,oC,fD]at hv;obtain⟨hlen,hv⟩:=hv
 cases hv;obtain⟨x,y,rfl,hx,hy⟩:=zf1 hl
 rw[rA]at hx hy;obtain⟨s',rfl,hs⟩:=hx
 obtain⟨c',rfl,hc⟩:=hy
 obtain⟨m,hm⟩:=hI.most
 have hsz:s'.size<4294967281:=by
  have:=congrArg List.length (lT hs)
  simp at this;omega
 refine(Tryz.strings_Contains s' c' m w hsz hm).mono fun e w' ⟨he,hw⟩=>?_
 subst hw;refine⟨_,he,?_,Below.refl _ _⟩
 have:=zdi c'.data.toList s'.data.toList
 rw[lT hs,lT hc]at this;rw[rA,this]
theorem zz3(hI:fI w)(hv:pCut args H=some v)(hl:rB μ args args'.toList) :
  (callFunc 238 args').run Tryz.prog w=.ok (.enter 238 args') w/\Calls Tryz.prog 238 args' w fun e w'=>∃v',e=.returned v'/\rA μ v v'/\Below w.heap.size w w':=by
 refine⟨zfj (fn:=Tryz.f238) Tryz.func238 (by kernel_rfl),?_⟩
 unfold pCut at hv;split at hv
 case h_2=>cases hv
 rename_i s c;rw[mB,oC,fD]at hv;obtain⟨hlen,hv⟩:=hv
 obtain⟨x,y,rfl,hx,hy⟩:=zf1 hl
 rw[rA]at hx hy;obtain⟨s',rfl,hs⟩:=hx
 obtain⟨c',rfl,hc⟩:=hy
 obtain⟨m,hm⟩:=hI.most
 have hsz:s'.size<4294967281:=by
  have:=congrArg List.length (lT hs)
  simp at this;omega
 refine(Tryz.strings_Cut s' c' m w hsz hm).mono fun e w' ⟨he,n,hw⟩=>?_
 subst hw;have hb:Below w.heap.size w (w.drewN n):=⟨rfl,rfl,rfl,yal _,fun _ _=>rfl⟩
 refine⟨_,he,?_,hb⟩
 have hcut:=z32 c'.data.toList s'.data.toList
 rw[lT hs,lT hc]at hcut
 cases hx:z1o c s with
 | none=>
  rw[hx]at hcut hv
  cases hv;have hcut:Lib.index s'.data.toList c'.data.toList = -1:=hcut
  have e:Lib.cut s'.data.toList c'.data.toList=(s'.data.toList,[],false):=by unfold Lib.cut;rw[hcut];rfl
  rw[e,rA];exact⟨_,rfl,.cons (by rw[rA];exact⟨_,rfl,by rw[<- hs]⟩) (.cons (by rw[rA];exact⟨_,rfl,by simp[vE]⟩) (.single (by rw[rA])))⟩
 | some p=>
  rw[hx]at hcut hv
  cases hv;obtain⟨a,b,rfl,h1,h2,h3⟩:=hcut
  have e:Lib.cut s'.data.toList c'.data.toList=(a,b,true):=by unfold Lib.cut;rw[if_pos h1,h2,h3]
  rw[e,rA];exact⟨_,rfl,.cons (by rw[rA];exact⟨_,rfl,by simp[vE]⟩) (.cons (by rw[rA];exact⟨_,rfl,by simp[vE]⟩) (.single (by rw[rA])))⟩
theorem zu0(hI:fI w)(hv:zu8 args H=some v)(hl:rB μ args args'.toList) :
  (callFunc 291 args').run Tryz.prog w=.ok (.enter 291 args') w/\Calls Tryz.prog 291 args' w fun e w'=>∃v',e=.returned v'/\rA μ v v'/\Below w.heap.size w w':=by
 refine⟨zfj (fn:=Tryz.f291) Tryz.func291 (by kernel_rfl),?_⟩
 unfold zu8 at hv;split at hv
 case h_2=>cases hv
 rename_i n;rw[mB,yac]at hv;obtain⟨⟨h1,h2⟩,hv⟩:=hv
 cases hv;rw[rB]at hl;obtain⟨x,r,he,hx,hr⟩:=hl
 rw[rB]at hr;rw[rA]at hx;subst hr hx
 have:args' = #[.int .i64 n]:=by apply Array.toList_inj.1;simpa using he
 subst this;have g1 : -9223372036854775808<=n:=(zlw _ _).1 h1
 have g2:n<9223372036854775808:=(zc7 _ _).1 h2
 refine(Tryz.strconv_Itoa n g1 (by omega) w hI.tab).mono fun e w' ⟨he,k,os,hw⟩=>?_
 subst hw;refine⟨_,he,by rw[rA];exact⟨_,rfl,rfl⟩,⟨rfl,rfl,rfl,?_,fun j hj=>?_⟩⟩
 ·simp[Sort.grow,World.drewN]
 ·show(w.heap++os)[j]?=w.heap[j]?
  rw[Array.getElem?_append_left hj]
end
theorem zle(N:Nat):zdv Tryz.prog C19w 256 N fI:=by
 intro f g hg args H v hv μ w args' _ hI hl;have hg:zgg.get f=some g:=hg
 unfold zgg at hg;rw[Tr.get_set,Tr.get_set]at hg;split at hg
 ·rename_i e;subst e;cases hg;exact .inr (zgh hI hv hl)
 ·split at hg
  ·rename_i e;subst e;cases hg;exact .inr (zqg hv hl)
  ·rw[Tr.get_leaf]at hg;cases hg
theorem sim19w(N:Nat)(hN:6<=N):Sim Tryz.prog C19w 256 N fI:=
 ⟨zsn rfl,zou rfl,zle N,yal _,by kernel_rfl,fun _ _ hb h=>h.below hN hb⟩
theorem zks{C:iA}{f n:Nat}{args:List zA}{args':Array Value}{w:World}(hw:fI w)(hS:Sim Tryz.prog C 256 w.heap.size fI)(hroot:C.root=f)(hl:rB mu0 args args'.toList)
  (h:fC (znt C n (eP C f args H19))=1):Calls Tryz.prog f args' w fun e w'=>e=.returned (.bool true)/\Below w.heap.size w w':=by
 obtain⟨H',hr⟩:=z6r h
 unfold eP at hr;have stuck:∀(n k:Nat),znt C n (.fail k)=.fail k:=by
  intro n;induction n with
  | zero=>intro k;rfl
  | succ n ih=>
   intro k;show znt C n (znt C n (.fail k))=_
   rw[ih,ih]
 cases he:wJ C f args false with
 | none=>
  rw[he]at hr;rw[stuck]at hr
  cases hr
 | some g=>
  rw[he]at hr;refine(zjx hS hw hroot (hrel19 hw) hl he hr).mono fun e w' ⟨v',μ',h1,_,h3,_,h5⟩=>?_
  rw[rA]at h3;exact⟨by rw[h1,h3],h5⟩
theorem zmp{w:World}(hw:fI w):Calls Tryz.prog 14 #[] w fun e w'=>e=.returned (.bool true)/\Below w.heap.size w w':=
 zks hw (sim19w _ hw.size) rfl .nil zyc
end Go.Am
namespace Go.Am
open Go Go.RowKit Go.Proofs
def zh4(C:iA)(n:Nat)(o:gC):gC:=Nat.rec (motive:=fun _=>gC) o (fun _ g=>zK C g) n
def todoO:gC->List mD | .next s=>s.fr.todo | _=>[]
def tmO:gC->Tm | .next s=>s.fr.tm | _=>⟨0,.leaf,[]⟩
def rM:gC->oI | .next s=>s.fr.R | _=>⟨0,0,[],.run,false,none⟩
def csO:gC->List vC | .next s=>s.cs | _=>[]
def xJ:gC->pA | .next s=>s.H | _=>⟨0,.leaf⟩
def z7c:Code->Array Oper | .seq (.region _ ops _) _=>ops | .region _ ops _=>ops | _ => #[]
def z1r:Code->List mD | .seq _ b=>[.code b] | _=>[]
def z5e (o:gC):Array Oper:=match todoO o with | .code c::_=>z7c c | _ => #[]
def restO(o:gC):List mD:=match todoO o with | .code c::k=>iF (z1r c) k | _=>[]
def goO (C:iA)(o:gC)(i:Nat)(tm:Tm)(H:pA):gC:=bP C (z5e o) (restO o) (rM o) (csO o) (pK (z5e o).toList i) tm H
def opO (o:gC)(i:Nat):Option Oper:=qD (z5e o).toList i
def zpx (C:iA)(o:gC)(i:Nat):Tm:=
 List.rec (motive:=fun _=>Tm->Tm) (fun tm=>tm) (fun p _ g tm=>g (match ((bE p.op).f C (.now tm) (xJ o)).asVal with | some q=>putA (rM o).n tm p.dst q.1 | none=>tm)) (dO (z5e o).toList i) (tmO o).cut
theorem z6m{C:iA}{o:gC}{i:Nat}{p:Oper}{tm:Tm}{H H':pA}{v:zA}(ho:opO o i=some p)(hg:p.guard=none)(hv:((bE p.op).f C (.now tm) H).asVal=some (v,H')) :
  goO C o i tm H=goO C o (i+1) (putA (rM o).n tm p.dst v) H':=by
 have hd:pK (z5e o).toList i=p::pK (z5e o).toList (i+1):=by
  unfold opO at ho;rw[bD]at ho;rw[xO,xO];have hlt:=(yad.1 ho).1
  rw[yam hlt];congr 1
  exact(yad.1 ho).2
 unfold goO;rw[hd,tZ];have hw:pF p.guard (z5e o) tm=some true:=by rw[hg];rfl
 rw[hw];simp only[hv]
theorem z0i{C:iA}{e:xD}{H:pA}{t:Nat}{a:Operand}{b off:Nat}{ty:wD}{c:Tr zA × Nat × Option Nat}{v:zA}(h1:ev a e=some (.ptr b off))(h2:C.tys.get t=some ty)(h3:rD H b=some c)(h4:rN ty c.1 off=some v) :
  ((bE (.load t a)).f C e H).asVal=some (v,H):=by
 show(lv (qN t a) C e H).asVal=_
 unfold lv qN;rw[h1,sA,show(zA.ptr b off).asPtr=some (b,off) from rfl,sA,h2,sA,h3,sA,h4]
 rfl
theorem zv2{C:iA}{e:xD}{H:pA}{o:Op}{l:LOp}(ha:(bE o).f=lv l){v:zA}(h:l C e H=some v):((bE o).f C e H).asVal=some (v,H):=by
 rw[ha];unfold lv;rw[h];rfl
def atO (C:iA)(o:gC)(i:Nat)(tm:Tm)(H:pA):Option (zA × pA × Option Nat):=
 ob (opO o i) fun p=>uB (aK p.guard) (ob ((bE p.op).f C (.now tm) H).asVal fun q=>some (q.1,q.2,p.dst))
theorem zjf{C:iA}{o:gC}{i:Nat}{tm:Tm}{H H':pA}{v:zA}{d:Option Nat}(h:atO C o i tm H=some (v,H',d)):goO C o i tm H=goO C o (i+1) (putA (rM o).n tm d v) H':=by
 unfold atO at h;simp only[mA,mB]at h;obtain⟨p,h1,h2,q,h3,h4⟩:=h
 cases h4;have hg:p.guard=none:=by cases hx:p.guard with | none=>rfl | some x=>rw[hx]at h2;cases h2
 exact z6m h1 hg h3
def z2t:Code->Bool | .region _ _ false=>true | .seq (.region _ _ false) _=>true | _=>false
def z2r:List mD->Bool | .code c::_=>z2t c | _=>false
def z2s:gC->Bool | .next s=>bif s.fr.R.mode.running then z2r s.fr.todo else false | _=>false
theorem ze7{α:Type}(l:List α):pK l 0=l:=by rw[xO];rfl
theorem zze{C:iA}{o:gC}(h:z2s o=true):zK C o=goO C o 0 (tmO o).cut (xJ o):=by
 cases o with
 | next s=>
  obtain⟨⟨todo,tm,R⟩,cs,H⟩:=s
  have h:(bif R.mode.running then z2r todo else false)=true:=h
  rw[kC]at h;split at h
  case isFalse=>cases h
  rename_i hr;show(bif R.mode.running then zg8 C todo tm R cs H else zbw C ⟨todo,tm,R⟩ cs H)=_
  rw[hr,cond_true]
  cases todo with
  | nil=>cases h
  | cons x k=>
   cases x with
   | code c=>
    have h:z2t c=true:=h
    cases c with
    | region id ops d=>
     cases d with
     | true=>cases h
     | false=>unfold goO;rw[ze7];rfl
    | seq a b=>
     cases a with
     | region id ops d=>
      cases d with
      | true=>cases h
      | false=>unfold goO;rw[ze7];rfl
     | _=>cases h
    | _=>cases h
   | _=>cases h
 | _=>cases h
def CL:iA:=⟨fns,ks,tys,plans,.leaf,257,318⟩
def HL (c:Tr zA)(n:Nat):pA:=⟨257,Tr.set .leaf 256 (.cells c n none)⟩
def zla:gC->Option zA | .done v _=>some v | _=>none
theorem zqc{o:gC}{v:zA}(h:zla o=some v):∃H,o=.done v H:=by
 cases o with
 | done u H=>cases h;exact⟨H,rfl⟩
 | _=>cases h
section
variable (c:Tr zA)(n off cap:Nat)
theorem long0:zla (znt CL 6 (eP CL 318 [.slice 256 off 0 cap] (HL c n)))=some (.int .u64 0):=by kernel_rfl
theorem longN:zla (znt CL 6 (eP CL 318 [.nilslice] (HL c n)))=some (.int .u64 0):=by kernel_rfl
theorem longE:zla (znt CL 6 (eP CL 318 [.slice 0 0 0 0] (HL c n)))=some (.int .u64 0):=by kernel_rfl
def l1 (len:Nat):gC:=zh4 CL 17 (eP CL 318 [.slice 256 off len cap] (HL c n))
theorem z0v:zK CL (l1 c n off cap 1)=goO CL (l1 c n off cap 1) 4 (zpx CL (l1 c n off cap 1) 4) (xJ (l1 c n off cap 1)):=by kernel_rfl
theorem z0u:zK CL (l1 c n off cap 2)=goO CL (l1 c n off cap 2) 4 (zpx CL (l1 c n off cap 2) 4) (xJ (l1 c n off cap 2)):=by kernel_rfl
def ldOp:Oper->Option (Nat × Operand):=fun o=>match o.op with | .load t a=>some (t,a) | _=>none
theorem l1_op1:(match opO (l1 c n off cap 1) 4 with | some p=>(ldOp p,aK p.guard,p.dst) | none=>(none,false,none))=(some (328,.tmp 14),true,some 15):=by kernel_rfl
theorem l1_ev1:ev (.tmp 14) (.now (zpx CL (l1 c n off cap 1) 4))=some (.ptr 256 (off+0*1)):=by kernel_rfl
theorem l1_ev2:ev (.tmp 14) (.now (zpx CL (l1 c n off cap 2) 4))=some (.ptr 256 (off+1*1)):=by kernel_rfl
theorem z50:rD (xJ (l1 c n off cap 1)) 256=some (c,n,none):=by kernel_rfl
theorem z5z:rD (xJ (l1 c n off cap 2)) 256=some (c,n,none):=by kernel_rfl
theorem l1_op2:(match opO (l1 c n off cap 2) 4 with | some p=>(ldOp p,aK p.guard,p.dst) | none=>(none,false,none))=(some (328,.tmp 14),true,some 15):=by kernel_rfl
def l2 (len x:Nat):gC:=goO CL (l1 c n off cap len) 5 (putA (rM (l1 c n off cap len)).n (zpx CL (l1 c n off cap len) 4) (some 15) (.int .u32 (.ofNat x))) (xJ (l1 c n off cap len))
def l3 (len x:Nat):gC:=zh4 CL 3 (l2 c n off cap len x)
theorem z0t(x:Nat):zK CL (l3 c n off cap 1 x)=goO CL (l3 c n off cap 1 x) 4 (zpx CL (l3 c n off cap 1 x) 4) (xJ (l3 c n off cap 1 x)):=by kernel_rfl
theorem z0s(x:Nat):zK CL (l3 c n off cap 2 x)=goO CL (l3 c n off cap 2 x) 4 (zpx CL (l3 c n off cap 2 x) 4) (xJ (l3 c n off cap 2 x)):=by kernel_rfl
def z2z:Oper->Option (Nat × Operand × Operand):=fun o=>match o.op with | .binOp .or t a b _=>some (t,a,b) | _=>none
theorem l3_op1(x:Nat):(match opO (l3 c n off cap 1 x) 4 with | some p=>(z2z p,aK p.guard,p.dst) | none=>(none,false,none))=(some (56,.tmp 9,.tmp 11),true,some 12):=by kernel_rfl
theorem l3_op2(x:Nat):(match opO (l3 c n off cap 2 x) 4 with | some p=>(z2z p,aK p.guard,p.dst) | none=>(none,false,none))=(some (56,.tmp 9,.tmp 11),true,some 12):=by kernel_rfl
theorem l3_or1(x:Nat):bK .or 56 (.tmp 9) (.tmp 11) CL (.now (zpx CL (l3 c n off cap 1 x) 4)) (xJ (l3 c n off cap 1 x))=uH Nat.lor .u64 (vA .u64 (.ofNat 0*.ofNat 4294967296)) (vA .u64 (.ofNat x)):=by kernel_rfl
theorem l3_or2(x:Nat):bK .or 56 (.tmp 9) (.tmp 11) CL (.now (zpx CL (l3 c n off cap 2 x) 4)) (xJ (l3 c n off cap 2 x))=uH Nat.lor .u64 (vA .u64 (.ofNat 0*.ofNat 4294967296)) (vA .u64 (.ofNat x)):=by kernel_rfl
def l4 (len x z:Nat):gC:=goO CL (l3 c n off cap len x) 5 (putA (rM (l3 c n off cap len x)).n (zpx CL (l3 c n off cap len x) 4) (some 12) (.int .u64 (.ofNat z))) (xJ (l3 c n off cap len x))
theorem l4_end(x z:Nat):zla (znt CL 6 (l4 c n off cap 1 x z))=some (.int .u64 (.ofNat z)):=by kernel_rfl
def l5 (y z:Nat):gC:=zh4 CL 12 (l4 c n off cap 2 y z)
theorem z5y(y z:Nat):zK CL (l5 c n off cap y z)=goO CL (l5 c n off cap y z) 4 (zpx CL (l5 c n off cap y z) 4) (xJ (l5 c n off cap y z)):=by kernel_rfl
theorem l5_op(y z:Nat):(match opO (l5 c n off cap y z) 4 with | some p=>(ldOp p,aK p.guard,p.dst) | none=>(none,false,none))=(some (328,.tmp 14),true,some 15):=by kernel_rfl
theorem l5_ev(y z:Nat):ev (.tmp 14) (.now (zpx CL (l5 c n off cap y z) 4))=some (.ptr 256 (off+0*1)):=by kernel_rfl
theorem l5_blk(y z:Nat):rD (xJ (l5 c n off cap y z)) 256=some (c,n,none):=by kernel_rfl
def l6 (y z x:Nat):gC:=goO CL (l5 c n off cap y z) 5 (putA (rM (l5 c n off cap y z)).n (zpx CL (l5 c n off cap y z) 4) (some 15) (.int .u32 (.ofNat x))) (xJ (l5 c n off cap y z))
def l7 (y z x:Nat):gC:=zh4 CL 3 (l6 c n off cap y z x)
theorem z0r(y z x:Nat):z2s (l7 c n off cap y z x)=true:=by kernel_rfl
def zzq:Oper->Option (Nat × Operand × Operand):=fun o=>match o.op with | .binOp .shl t a k _=>some (t,a,k) | _=>none
def tA (y z x:Nat):Tm:=putA (rM (l7 c n off cap y z x)).n (tmO (l7 c n off cap y z x)).cut (some 8) (.int .u64 (.ofNat z))
theorem l7_0(y z x:Nat):atO CL (l7 c n off cap y z x) 0 (tmO (l7 c n off cap y z x)).cut (xJ (l7 c n off cap y z x))=some (.int .u64 (.ofNat z),xJ (l7 c n off cap y z x),some 8):=by kernel_rfl
theorem l7_opS(y z x:Nat):(match opO (l7 c n off cap y z x) 1 with | some p=>(zzq p,aK p.guard,p.dst) | none=>(none,false,none))=(some (56,.tmp 8,.const (.int .u64 32)),true,some 9):=by kernel_rfl
theorem l7_evS(y z x:Nat):ev (.tmp 8) (.now (tA c n off cap y z x))=some (.int .u64 (.ofNat z)):=by kernel_rfl
def tB (y z x s:Nat):Tm:=putA (rM (l7 c n off cap y z x)).n (tA c n off cap y z x) (some 9) (.int .u64 (.ofNat s))
theorem l7_2(y z x s:Nat):atO CL (l7 c n off cap y z x) 2 (tB c n off cap y z x s) (xJ (l7 c n off cap y z x))=some (.int .u32 (.ofNat x),xJ (l7 c n off cap y z x),some 10):=by kernel_rfl
def tC (y z x s:Nat):Tm:=putA (rM (l7 c n off cap y z x)).n (tB c n off cap y z x s) (some 10) (.int .u32 (.ofNat x))
theorem l7_3(y z x s:Nat):atO CL (l7 c n off cap y z x) 3 (tC c n off cap y z x s) (xJ (l7 c n off cap y z x))=some (.int .u64 (vA .u64 (.ofNat x)),xJ (l7 c n off cap y z x),some 11):=by kernel_rfl
def tD (y z x s x':Nat):Tm:=putA (rM (l7 c n off cap y z x)).n (tC c n off cap y z x s) (some 11) (.int .u64 (.ofNat x'))
theorem l7_op(y z x:Nat):(match opO (l7 c n off cap y z x) 4 with | some p=>(z2z p,aK p.guard,p.dst) | none=>(none,false,none))=(some (56,.tmp 9,.tmp 11),true,some 12):=by kernel_rfl
theorem l7_ev9(y z x s x':Nat):ev (.tmp 9) (.now (tD c n off cap y z x s x'))=some (.int .u64 (.ofNat s)):=by kernel_rfl
theorem z5x(y z x s x':Nat):ev (.tmp 11) (.now (tD c n off cap y z x s x'))=some (.int .u64 (.ofNat x')):=by kernel_rfl
def l8 (y z x s x' u:Nat):gC:=goO CL (l7 c n off cap y z x) 5 (putA (rM (l7 c n off cap y z x)).n (tD c n off cap y z x s x') (some 12) (.int .u64 (.ofNat u))) (xJ (l7 c n off cap y z x))
theorem l8_end(y z x s x' u:Nat):zla (znt CL 6 (l8 c n off cap y z x s x' u))=some (.int .u64 (.ofNat u)):=by kernel_rfl
theorem aG:CL.tys.get 328=some ⟨.int .u32,1,4,[.int .u32 0],true⟩:=by kernel_rfl
end
end Go.Am
namespace Go.Am
open Go Go.RowKit
@[simp] theorem dE {α:Type} {x:Option α}:uB true x=x:=rfl
inductive D where
 | int (k:IntKind) (n:Int)
 | bool (b:Bool)
 | str (s:List Nat)
 | sl (sz:Nat) (l:List D)
 | st (l:List D)
def At (t:Tr lA)(b off:Nat)(cs:List zA):Prop:=∃c n lo,t.get b=some (.cells c n lo)/\∀(j:Nat) a,cs[j]?=some a->c.get (off+j)=some a
def fG(t:Tr lA)(sz:Nat)(v:zA)(cl:List (List zA)):Prop:=
 (v=.nilslice/\cl=[])\/∃b off cap,v=.slice b off cl.length cap/\cl.length<=cap/\(∃c n lo,t.get b=some (.cells c n lo)/\(lo=none\/lo=some sz))/\∀(i:Nat) cs,cl[i]?=some cs->cs.length=sz/\At t b (off+i*sz) cs
mutual
/-- cells read as data -/
def RD (t:Tr lA):D->List zA->Prop
 | .int k n,cs=>cs=[.int k n]
 | .bool b,cs=>cs=[.bool b]
 | .str s,cs=>cs=[.str s]
 | .sl sz l,cs=>∃a cl,cs=[a]/\fG t sz a cl/\mC t l cl
 | .st l,cs=>∃cl,cs=cl.flatten/\mC t l cl
def mC (t:Tr lA):List D->List (List zA)->Prop
 | [],cl=>cl=[]
 | d::l,cl=>∃c r,cl=c::r/\RD t d c/\mC t l r
end
def dA (t t':Tr lA):Prop:=∀b y,t.get b=some y->t'.get b=some y
theorem dA.refl(t:Tr lA):dA t t:=fun _ _ h=>h
theorem dA.trans{a b c:Tr lA}(h:dA a b)(k:dA b c):dA a c:=fun x y e=>k x y (h x y e)
section
variable {t t':Tr lA}{C:iA}
theorem At.mono(h:dA t t'){b off:Nat}{cs:List zA}(k:At t b off cs):At t' b off cs:=by
 obtain⟨c,n,lo,h1,h2⟩:=k;exact⟨c,n,lo,h _ _ h1,h2⟩
theorem fG.mono(h:dA t t'){sz:Nat}{v:zA}{cl:List (List zA)}(k:fG t sz v cl):fG t' sz v cl:=by
 rcases k with k | ⟨b,off,cap,h1,h3,⟨c,n,lo,h4,h5⟩,h2⟩
 ·exact .inl k
 ·exact .inr ⟨b,off,cap,h1,h3,⟨c,n,lo,h _ _ h4,h5⟩,fun i cs hi=>⟨(h2 i cs hi).1,(h2 i cs hi).2.mono h⟩⟩
mutual
theorem RD.mono(h:dA t t'):∀(d:D) (cs:List zA),RD t d cs->RD t' d cs
 | .int _ _,_,k=>k
 | .bool _,_,k=>k
 | .str _,_,k=>k
 | .sl _ l,_,⟨a,cl,h1,h2,h3⟩=>⟨a,cl,h1,h2.mono h,mC.mono h l cl h3⟩
 | .st l,_,⟨cl,h1,h2⟩=>⟨cl,h1,mC.mono h l cl h2⟩
theorem mC.mono(h:dA t t'):∀(l:List D) (cl:List (List zA)),mC t l cl->mC t' l cl
 | [],_,k=>k
 | d::l,_,⟨c,r,h1,h2,h3⟩=>⟨c,r,h1,RD.mono h d c h2,mC.mono h l r h3⟩
end
theorem mC.length:∀ {l:List D} {cl:List (List zA)},mC t l cl->cl.length=l.length:=by
 intro l;induction l with
 | nil=>intro cl h;rw[mC]at h;simp[h]
 | cons d l ih=>intro cl h;rw[mC]at h;obtain⟨c,r,rfl,_,h3⟩:=h;simp[ih h3]
theorem mC.get:∀ {l:List D} {cl:List (List zA)} {i:Nat} {d:D},mC t l cl->l[i]?=some d->∃cs,cl[i]?=some cs/\RD t d cs:=by
 intro l;induction l with
 | nil=>intro cl i d _ h;simp at h
 | cons e l ih=>
  intro cl i d h hi;rw[mC]at h;obtain⟨c,r,rfl,h2,h3⟩:=h
  cases i with
  | zero=>simp at hi;subst hi;exact⟨c,by simp,h2⟩
  | succ i=>simp at hi;obtain⟨cs,h4,h5⟩:=ih h3 hi;exact⟨cs,by simpa using h4,h5⟩
theorem mC.mk:∀ {l:List D} {cl:List (List zA)},cl.length=l.length->(∀(i:Nat) d cs,l[i]?=some d->cl[i]?=some cs->RD t d cs)->mC t l cl:=by
 intro l;induction l with
 | nil=>intro cl h _;rw[mC];simpa using h
 | cons e l ih=>
  intro cl h k
  cases cl with
  | nil=>simp at h
  | cons c r=>
   rw[mC];exact⟨c,r,rfl,k 0 e c (by simp) (by simp),ih (by simpa using h) fun i d cs h1 h2=>k (i+1) d cs (by simpa using h1) (by simpa using h2)⟩
@[simp] theorem fL {k:IntKind} {n:Int} {cs:List zA}:RD t (.int k n) cs ↔ cs=[.int k n]:=Iff.rfl
@[simp] theorem lQ {b:Bool} {cs:List zA}:RD t (.bool b) cs ↔ cs=[.bool b]:=Iff.rfl
@[simp] theorem qO {s:List Nat} {cs:List zA}:RD t (.str s) cs ↔ cs=[.str s]:=Iff.rfl
def oA (t:Tr lA)(sz:Nat)(l:List D)(v:zA):Prop:=∃cl,fG t sz v cl/\mC t l cl
theorem oA.mono(h:dA t t'){sz:Nat}{l:List D}{v:zA}(k:oA t sz l v):oA t' sz l v:=by
 obtain⟨cl,h1,h2⟩:=k;exact⟨cl,h1.mono h,mC.mono h _ _ h2⟩
theorem uK{sz:Nat}{l:List D}{cs:List zA}:RD t (.sl sz l) cs ↔ ∃v,cs=[v]/\oA t sz l v:=by
 rw[RD];constructor
 ·rintro⟨a,cl,rfl,h1,h2⟩;exact⟨a,rfl,cl,h1,h2⟩
 ·rintro⟨a,rfl,cl,h1,h2⟩;exact⟨a,cl,rfl,h1,h2⟩
theorem gI{l:List D}{cs:List zA}:RD t (.st l) cs ↔ ∃cl,cs=cl.flatten/\mC t l cl:=by rw[RD]
theorem gE{cl:List (List zA)}:mC t [] cl ↔ cl=[]:=by rw[mC]
theorem eD{d:D}{l:List D}{cl:List (List zA)}:mC t (d::l) cl ↔ ∃c r,cl=c::r/\RD t d c/\mC t l r:=by rw[mC]
theorem oA.one{sz:Nat}{l:List D}{v:zA}(h:oA t sz l v):zA.one v=true:=by
 obtain⟨cl,h1,_⟩:=h
 rcases h1 with⟨rfl,_⟩ | ⟨b,off,cap,rfl,_⟩
 ·decide
 ·rfl
theorem oA.len{sz:Nat}{l:List D}{v:zA}(h:oA t sz l v):vB v=some (.int .i64 (l.length:Int)):=by
 obtain⟨cl,h1,h2⟩:=h
 have:=h2.length
 rcases h1 with⟨rfl,rfl⟩ | ⟨b,off,cap,rfl,_⟩
 ·have:l.length=0:=this.symm
  rw[this];rfl
 ·rw[<- this];rfl
theorem oA.same{sz d:Nat}{l:List D}{v:zA}(h:oA t sz l v):same d v v=true:=by
 obtain⟨cl,h1,_⟩:=h
 rcases h1 with⟨rfl,_⟩ | ⟨b,off,cap,rfl,_⟩
 ·cases d <;> (unfold Am.same;rfl)
 ·have e:∀n,Nat.beq n n=true:=Nat.beq_refl
  cases d <;> (unfold Am.same;simp only[e,Bool.and_self])
theorem bH{sz:Nat}{l:List D}{v:zA}(h:oA t sz l v):mG .nilslice v=true:=by
 obtain⟨cl,h1,_⟩:=h
 rcases h1 with⟨rfl,_⟩ | ⟨b,off,cap,rfl,_⟩<;>rfl
theorem At.load{b off j n:Nat}{cs:List zA}(h:At t b off cs){ty:Nat}{y:wD}(hy:C.tys.get ty=some y)(ha:y.desc.isAgg=true)(hn:y.size=n)(hj:j+n<=cs.length):jA C ty ⟨0,t⟩ (.ptr b (off+j))=some (.agg ((cs.drop j).take n)):=by
 obtain⟨c,m,lo,h1,h2⟩:=h
 unfold jA;simp only[zA.asPtr,sA];rw[hy,sA];unfold rD;rw[h1,sA];simp only[lA.asCells,sA];unfold rN;rw[ha,cond_true,hn];have key:∀(n j:Nat),j+n<=cs.length->c.many n (off+j)=some ((cs.drop j).take n):=by
  intro n;induction n with
  | zero=>intro j _;simp;rfl
  | succ n ih=>
   intro j hj;have hlt:j<cs.length:=by omega
   rw[Tr.many_succ,h2 j cs[j] (yae hlt),sA,show off+j+1=off+(j+1) by omega,ih (j+1) (by omega),sA,yam hlt,List.take_succ_cons]
 rw[key n j hj];rfl
theorem At.load1{b off j:Nat}{cs:List zA}{a:zA}(h:At t b off cs){ty:Nat}{y:wD}(hy:C.tys.get ty=some y)(ha:y.desc.isAgg=false)(hj:cs[j]?=some a):jA C ty ⟨0,t⟩ (.ptr b (off+j))=some a:=by
 obtain⟨c,m,lo,h1,h2⟩:=h
 unfold jA;simp only[zA.asPtr,sA];rw[hy,sA];unfold rD;rw[h1,sA];simp only[lA.asCells,sA];unfold rN;rw[ha,cond_false];exact h2 j a hj
structure rE (C:iA) (T el sz:Nat) (agg:Bool):Prop where
 ty:∃y,C.tys.get T=some y/\y.desc.asSlice=some el
 el:∃y,C.tys.get el=some y/\y.size=sz/\y.desc.isAgg=agg
def zef(agg:Bool)(cs:List zA):zA:=if agg then .agg cs else match cs with | a::_=>a | []=>.nilptr
theorem rE.at{T el sz:Nat}{agg:Bool}(h:rE C T el sz agg)(h1:agg=false->sz=1){l:List D}{v:zA}(hr:oA t sz l v){i:Nat}{d:D}(hi:l[i]?=some d) :
  ∃b off cs,xB C T v (.int .i64 (i:Int))=some (.ptr b off)/\jA C el ⟨0,t⟩ (.ptr b off)=some (zef agg cs)/\At t b off cs/\cs.length=sz/\RD t d cs:=by
 obtain⟨⟨y,hy1,hy2⟩,⟨z,hz1,hz2,hz3⟩⟩:=h
 obtain⟨cl,he,hd⟩:=hr
 obtain⟨cs,hc,hrd⟩:=hd.get hi
 rcases he with⟨rfl,rfl⟩ | ⟨b,off,cap,rfl,_,_,he⟩
 ·simp at hc
 ·obtain⟨hl,ha⟩:=he i cs hc
  have hlt:i<cl.length:=(yad.1 hc).1
  refine⟨b,off+i*sz,cs,?_,?_,ha,hl,hrd⟩
  ·unfold xB
   rw[hy1,sA];have:(zA.int .i64 (i:Int)).asNat=some i:=rfl
   rw[this,sA];simp only[zA.asSlice];rw[hy2,sA,hz1,sA,oC.2 hlt,hz2];rfl
  ·cases agg with
   | true=>
    have:=ha.load (j:=0) hz1 hz3 hz2 (by omega)
    simp only[ybu,ybs]at this;rw[this,<- hl,List.take_length];rfl
   | false=>
    have hs:=h1 rfl
    cases cs with
    | nil=>simp at hl;omega
    | cons a r=>
     have:=ha.load1 (j:=0) (a:=a) hz1 hz3 (by simp)
     rw[ybu]at this;rw[this];rfl
end
section
variable {t:Tr lA}{C:iA}
theorem rE.front{T el sz:Nat}{agg:Bool}(h:rE C T el sz agg){l:List D}{v:zA}(hr:oA t sz l v){k:Nat}(hk:k<=l.length) :
  ∃v',uG C T ⟨0,t⟩ v none (some (.int .i64 (k:Int)))=some v'/\oA t sz (l.take k) v':=by
 obtain⟨⟨y,hy1,hy2⟩,⟨z,hz1,hz2,hz3⟩⟩:=h
 obtain⟨cl,he,hd⟩:=hr
 have hlen:=hd.length
 unfold uG;rw[hy1,sA];have hb:∀y,oQ y (.int .i64 (k:Int))=uB (Nat.ble k y) (some k):=fun y=>rfl
 rcases he with⟨rfl,rfl⟩ | ⟨b,off,cap,rfl,hcap,⟨c,n,lo,hg,hlo⟩,he⟩
 ·have:k=0:=by simp at hlen;omega
  subst this;refine⟨.nilslice,?_,[],.inl ⟨rfl,rfl⟩,by simp[mC]⟩
  unfold yK;simp only[zA.asStr,zA.asSlice,zA.asPtr];rw[hy2,sA,hz1,sA];rfl
 ·refine⟨.slice b off k cap,?_,cl.take k,.inr ⟨b,off,cap,?_,?_,⟨c,n,lo,hg,hlo⟩,fun i cs hi=>?_⟩,?_⟩
  ·unfold yK
   simp only[zA.asStr,zA.asSlice];rw[hy2,sA];unfold gK;rw[hz1,sA];unfold fM iS;simp only[hb];rw[show Nat.ble k cap=true from oE.2 (by omega)]
   simp only[dE,sA];have he2:mH ⟨0,t⟩ b z.size cap 0 false=false:=by
    unfold mH rD;rw[hg,sA];simp only[lA.asCells];rcases hlo with rfl | rfl
    ·rfl
    ·simp
   rw[he2,Bool.and_false,cond_false];have hf:xH ⟨0,t⟩ b z.size cap 0 false=true:=by
    unfold xH rD;rw[hg,sA];simp only[lA.asCells];rcases hlo with rfl | rfl
    ·rfl
    ·simp[hz2]
   rw[show Nat.ble k cap=true from oE.2 (by omega),hf]
   simp only[Bool.and_self,dE];congr 1
   cases hq:Nat.beq cap 0<;>simp
  ·rw[ycb];congr 1;omega
  ·rw[ycb];omega
  ·rw[ycg]at hi
   split at hi
   ·exact he i cs hi
   ·cases hi
  ·refine mC.mk (by rw[ycb,ycb];omega) fun i d cs h1 h2=>?_
   rw[ycg]at h1 h2;split at h1
   ·rename_i e
    rw[if_pos e]at h2;obtain⟨cs',h3,h4⟩:=hd.get h1
    rw[h3]at h2;cases h2;exact h4
   ·cases h1
end
mutual
def D.zs:D->List zA
 | .int k _=>[.int k 0]
 | .bool _=>[.bool false]
 | .str _=>[.str []]
 | .sl _ _=>[.nilslice]
 | .st l=>D.zss l
def D.zss:List D->List zA
 | []=>[]
 | d::l=>d.zs++D.zss l
end
theorem zjh:∀(z z' l l':List zA),jM z l=true->jM z' l'=true->jM (z++z') (l++l')=true
 | [],_,[],_,_,h=>h
 | a::z,z',b::l,l',h,k=>by
  unfold jM at h;rw[yac]at h;show(mG a b&&jM (z++z') (l++l'))=true
  rw[h.1,zjh z z' l l' h.2 k];rfl
 | [],_,_::_,_,h,_=>by cases h
 | _::_,_,[],_,h,_=>by cases h
mutual
theorem zl0{t:Tr lA}:∀(d:D) (cs:List zA),RD t d cs->jM d.zs cs=true
 | .int k n,cs,h=>by
  rw[RD]at h;subst h;show(mG (.int k 0) (.int k n)&&true)=true
  simp only[mG,zA.asIntK,Bool.and_true];exact jJ.2 rfl
 | .bool _,cs,h=>by rw[RD]at h;subst h;rfl
 | .str _,cs,h=>by rw[RD]at h;subst h;rfl
 | .sl sz l,cs,h=>by
  rw[uK]at h;obtain⟨v,rfl,h⟩:=h
  show(mG .nilslice v&&true)=true
  rw[bH h];rfl
 | .st l,cs,h=>by
  rw[gI]at h;obtain⟨cl,rfl,h⟩:=h
  show jM (D.zss l) cl.flatten=true
  exact zow l cl h
theorem zow{t:Tr lA}:∀(l:List D) (cl:List (List zA)),mC t l cl->jM (D.zss l) cl.flatten=true
 | [],cl,h=>by rw[mC]at h;subst h;rfl
 | d::l,cl,h=>by
  rw[mC]at h;obtain⟨c,r,rfl,h1,h2⟩:=h
  show jM (d.zs++D.zss l) (c::r).flatten=true
  rw[List.flatten_cons];exact zjh _ _ _ _ (zl0 d c h1) (zow l r h2)
end
theorem yB{k:IntKind}{n:Int}:zyw k (.int k n)=some n:=by unfold zyw;simp only[zA.asIntK,sA];rw[jJ.2 rfl];rfl
theorem pD{b:Bool}:(zA.bool b).asBool=some b:=rfl
theorem qI{s:List Nat}:(zA.str s).asStr=some s:=rfl
theorem hO{d:Nat}{k:IntKind}{n:Int}:same d (.int k n) (.int k n)=true:=by
 cases d<;>simp[same,jJ,vQ]
theorem zud{d:Nat}{b:Bool}:same d (.bool b) (.bool b)=true:=by cases d<;>simp[same,nQ]
theorem zbb{d:Nat}{s:List Nat}:same d (.str s) (.str s)=true:=by cases d<;>simp[same,sP]
theorem zC{n:Int}(h1 : -9223372036854775808<=n)(h2:n<9223372036854775808):vA .i64 n=n:=by
 rw[rK];simp only[IntKind.wrap,IntKind.bits,IntKind.signed];simp;omega
theorem pI{t:Tr lA}{d:D}{cs zs:List zA}(h:RD t d cs)(hz:d.zs=zs):wG zs (.agg cs)=some (cellsOf cs):=by
 unfold wG;simp only[zA.asAgg,sA];rw[<- hz,zl0 d cs h];rfl
theorem gL{zs l:List zA}(h:jM zs l=true):wG zs (.agg l)=some (cellsOf l):=by
 unfold wG;simp only[zA.asAgg,sA,h];rfl
end Go.Am
namespace Go.Am
open Go Go.RowKit
def lC (l:List Nat):List D:=l.map fun(n:Nat)=>D.int .u16 (n:Int)
theorem rP(l:List Nat):(lC l).length=l.length:=by simp[lC]
structure rH where
 neg:Bool
 limbs:List Nat
def rH.d(w:rH):D:=.st [.bool w.neg,.sl 1 (lC w.limbs)]
structure uF where
 n:rH
 d:rH
def uF.dd(f:uF):D:=.st [f.n.d,f.d.d]
structure zB where
 kind:Nat
 f:uF
 i:Int
def zB.d(v:zB):D:=.st [.int .u8 v.kind,v.f.dd,.int .i64 v.i]
inductive uA where
 | mk (op:Nat) (name:List Nat) (v:zB) (args:List uA)
def uA.op:uA->Nat | .mk o _ _ _=>o
def uA.name:uA->List Nat | .mk _ n _ _=>n
def uA.v:uA->zB | .mk _ _ v _=>v
def uA.args:uA->List uA | .mk _ _ _ a=>a
mutual
def uA.d:uA->D
 | .mk op name v args=>.st [.int .u8 op,.str name,v.d,.sl 9 (uA.ds args)]
def uA.ds:List uA->List D
 | []=>[]
 | x::l=>x.d::uA.ds l
end
theorem uA.ds_eq(l:List uA):uA.ds l=l.map uA.d:=by
 induction l with
 | nil=>rfl
 | cons x l ih=>simp[uA.ds,ih]
structure cE where
 a:Int
 b:Int
 known:Int
 f:uF
def cE.d(r:cE):D:=.st [.int .i64 r.a,.int .i64 r.b,.int .i64 r.known,r.f.dd]
structure nE where
 name:List Nat
 two:Bool
 rows:List cE
def nE.d(x:nE):D:=.st [.str x.name,.bool x.two,.sl 7 (x.rows.map cE.d)]
structure vJ where
 name:List Nat
 kind:Nat
 fact:Bool
def vJ.d(x:vJ):D:=.st [.str x.name,.int .u8 x.kind,.bool x.fact]
structure dC where
 name:List Nat
 label:List Nat
 from_:Int
 to:Int
 known:Int
 off:Bool
 when_:uA
 then_:uA
def dC.d(x:dC):D:=.st [.str x.name,.str x.label,.int .i64 x.from_,.int .i64 x.to,.int .i64 x.known,.bool x.off,x.when_.d,x.then_.d]
structure fF where
 name:List Nat
 defs:List vJ
 tables:List nE
 clauses:List dC
def fF.d(x:fF):D:=.st [.str x.name,.sl 3 (x.defs.map vJ.d),.sl 3 (x.tables.map nE.d),.sl 24 (x.clauses.map dC.d)]
section
variable {t:Tr lA}{cs:List zA}
theorem zV{w:rH}(h:RD t w.d cs):∃v,cs=[.bool w.neg,v]/\oA t 1 (lC w.limbs) v:=by
 unfold rH.d at h;simp only[gI,eD,gE,uK,lQ]at h;obtain⟨cl,rfl,c,r,rfl,rfl,c',r',rfl,⟨v,rfl,h⟩,rfl⟩:=h
 exact⟨v,rfl,h⟩
theorem zci{f:uF}(h:RD t f.dd cs):∃u v,cs=[.bool f.n.neg,u,.bool f.d.neg,v]/\oA t 1 (lC f.n.limbs) u/\oA t 1 (lC f.d.limbs) v:=by
 unfold uF.dd at h;simp only[gI,eD,gE]at h;obtain⟨cl,rfl,c,r,rfl,h1,c',r',rfl,h2,rfl⟩:=h
 obtain⟨u,rfl,h3⟩:=zV h1
 obtain⟨v,rfl,h4⟩:=zV h2
 exact⟨u,v,rfl,h3,h4⟩
theorem zey{v:zB}(h:RD t v.d cs):∃a b,cs=[.int .u8 v.kind,.bool v.f.n.neg,a,.bool v.f.d.neg,b,.int .i64 v.i]/\oA t 1 (lC v.f.n.limbs) a/\oA t 1 (lC v.f.d.limbs) b:=by
 unfold zB.d at h;simp only[gI,eD,gE,fL]at h;obtain⟨cl,rfl,c,r,rfl,rfl,c',r',rfl,h2,c'',r'',rfl,rfl,rfl⟩:=h
 obtain⟨a,b,rfl,h3,h4⟩:=zci h2
 exact⟨a,b,rfl,h3,h4⟩
theorem bI{x:uA}(h:RD t x.d cs):∃a b c,cs=[.int .u8 x.op,.str x.name,.int .u8 x.v.kind,.bool x.v.f.n.neg,a,.bool x.v.f.d.neg,b,.int .i64 x.v.i,c] ∧
  oA t 1 (lC x.v.f.n.limbs) a/\oA t 1 (lC x.v.f.d.limbs) b/\oA t 9 (x.args.map uA.d) c:=by
 obtain⟨op,name,v,args⟩:=x
 unfold uA.d at h;rw[uA.ds_eq]at h;simp only[gI,eD,gE,fL,qO,uK]at h;obtain⟨cl,rfl,c,r,rfl,rfl,c',r',rfl,rfl,c'',r'',rfl,hv,c3,r3,rfl,⟨w,rfl,h4⟩,rfl⟩:=h
 obtain⟨a,b,rfl,h5,h6⟩:=zey hv
 exact⟨a,b,w,rfl,h5,h6,h4⟩
theorem zih{r:cE}(h:RD t r.d cs):∃a b,cs=[.int .i64 r.a,.int .i64 r.b,.int .i64 r.known,.bool r.f.n.neg,a,.bool r.f.d.neg,b]/\oA t 1 (lC r.f.n.limbs) a/\oA t 1 (lC r.f.d.limbs) b:=by
 unfold cE.d at h;simp only[gI,eD,gE,fL]at h;obtain⟨cl,rfl,c,r,rfl,rfl,c',r',rfl,rfl,c'',r'',rfl,rfl,c3,r3,rfl,hf,rfl⟩:=h
 obtain⟨a,b,rfl,h3,h4⟩:=zci hf
 exact⟨a,b,rfl,h3,h4⟩
theorem nW{x:nE}(h:RD t x.d cs):∃a,cs=[.str x.name,.bool x.two,a]/\oA t 7 (x.rows.map cE.d) a:=by
 unfold nE.d at h;simp only[gI,eD,gE,qO,lQ,uK]at h;obtain⟨cl,rfl,c,r,rfl,rfl,c',r',rfl,rfl,c'',r'',rfl,⟨a,rfl,h⟩,rfl⟩:=h
 exact⟨a,rfl,h⟩
theorem rd_def{x:vJ}(h:RD t x.d cs):cs=[.str x.name,.int .u8 x.kind,.bool x.fact]:=by
 unfold vJ.d at h;simp only[gI,eD,gE,qO,lQ,fL]at h;obtain⟨cl,rfl,c,r,rfl,rfl,c',r',rfl,rfl,c'',r'',rfl,rfl,rfl⟩:=h
 rfl
def jC(x:uA)(a b c:zA):List zA:=[.int .u8 x.op,.str x.name,.int .u8 x.v.kind,.bool x.v.f.n.neg,a,.bool x.v.f.d.neg,b,.int .i64 x.v.i,c]
theorem uY{x:dC}(h:RD t x.d cs):∃a b c a' b' c',cs=[.str x.name,.str x.label,.int .i64 x.from_,.int .i64 x.to,.int .i64 x.known,.bool x.off]++jC x.when_ a b c++jC x.then_ a' b' c' ∧
  RD t x.when_.d (jC x.when_ a b c)/\RD t x.then_.d (jC x.then_ a' b' c'):=by
 unfold dC.d at h;simp only[gI,eD,gE,qO,lQ,fL]at h;obtain⟨cl,rfl,c1,r1,rfl,rfl,c2,r2,rfl,rfl,c3,r3,rfl,rfl,c4,r4,rfl,rfl,c5,r5,rfl,rfl,c6,r6,rfl,rfl,c7,r7,rfl,h7,c8,r8,rfl,h8,rfl⟩:=h
 obtain⟨a,b,c,e1,_⟩:=bI h7
 obtain⟨a',b',c',e2,_⟩:=bI h8
 subst e1 e2
 exact⟨a,b,c,a',b',c',rfl,h7,h8⟩
theorem yV{x:fF}(h:RD t x.d cs):∃a b c,cs=[.str x.name,a,b,c]/\oA t 3 (x.defs.map vJ.d) a/\oA t 3 (x.tables.map nE.d) b/\oA t 24 (x.clauses.map dC.d) c:=by
 unfold fF.d at h;simp only[gI,eD,gE,qO,uK]at h;obtain⟨cl,rfl,c1,r1,rfl,rfl,c2,r2,rfl,⟨a,rfl,h1⟩,c3,r3,rfl,⟨b,rfl,h2⟩,c4,r4,rfl,⟨c,rfl,h3⟩,rfl⟩:=h
 exact⟨a,b,c,rfl,h1,h2,h3⟩
end
theorem rH.zs(x:rH):x.d.zs=[.bool false,.nilslice]:=rfl
theorem uF.zs(x:uF):x.dd.zs=[.bool false,.nilslice,.bool false,.nilslice]:=rfl
theorem zB.zs(x:zB):x.d.zs=[.int .u8 0,.bool false,.nilslice,.bool false,.nilslice,.int .i64 0]:=rfl
theorem uA.zs(x:uA):x.d.zs=[.int .u8 0,.str [],.int .u8 0,.bool false,.nilslice,.bool false,.nilslice,.int .i64 0,.nilslice]:=by cases x;rfl
theorem cE.zs(x:cE):x.d.zs=[.int .i64 0,.int .i64 0,.int .i64 0,.bool false,.nilslice,.bool false,.nilslice]:=rfl
theorem nE.zs(x:nE):x.d.zs=[.str [],.bool false,.nilslice]:=rfl
theorem dC.zs(x:dC):x.d.zs=[.str [],.str [],.int .i64 0,.int .i64 0,.int .i64 0,.bool false,.int .u8 0,.str [],.int .u8 0,.bool false,.nilslice,.bool false,.nilslice,.int .i64 0,.nilslice,.int .u8 0,.str [],.int .u8 0,.bool false,.nilslice,.bool false,.nilslice,.int .i64 0,.nilslice]:=by
 obtain⟨_,_,_,_,_,_,w,v⟩:=x;cases w;cases v;rfl
theorem fF.zs(x:fF):x.d.zs=[.str [],.nilslice,.nilslice,.nilslice]:=rfl
def qL(f:uF):Nat:=1+f.n.limbs.length+f.d.limbs.length
mutual
/-- the size, as it is counted up to a limit -/
def mJ:uA->Int->Int
 | .mk _ name v args,left=>dN args left (qL v.f+(name.length:Int) / 30)
def dN:List uA->Int->Int->Int
 | [],_,n=>n
 | x::l,left,n=>if n<=left then dN l left (n+mJ x (left-n))else n
end
def xE:Nat:=1125899906842624
def uF.ok(f:uF):Prop:=f.n.limbs.length<xE/\f.d.limbs.length<xE
mutual
def uA.ok:uA->Prop
 | .mk _ name v args=>name.length<xE/\v.f.ok/\args.length<xE/\uA.oks args
def uA.oks:List uA->Prop
 | []=>True
 | x::l=>x.ok/\uA.oks l
end
end Go.Am
namespace Go.Am
open Go Go.RowKit
theorem tW{f:uF}(h:f.ok):qL f<4503599627370496:=by
 unfold uF.ok xE at h;unfold qL;omega
mutual
theorem dX:∀(x:uA) (left:Int),x.ok->0<=mJ x left/\mJ x left<=max left 0+9007199254740992
 | .mk op name v args,left,h=>by
  unfold uA.ok at h;obtain⟨h1,h2,_,h4⟩:=h
  have hf:=tW h2
  unfold xE at h1;unfold mJ;have:=sW args left (qL v.f+(name.length:Int) / 30) h4 (by omega)
  omega
theorem sW:∀(l:List uA) (left n:Int),uA.oks l->0<=n->n<=dN l left n/\dN l left n<=max n (left+9007199254740992)
 | [],left,n,_,_=>by unfold dN;omega
 | x::l,left,n,h,hn=>by
  unfold uA.oks at h;unfold dN;split
  ·have h1:=dX x (left-n) h.1
   have h2:=sW l left (n+mJ x (left-n)) h.2 (by omega)
   omega
  ·omega
end
theorem dB{a b:Int}:(iB a b=true) ↔ a<b:=zc7 a b
theorem nG{a b:Int}:(rC a b=true) ↔ a<=b:=zlw a b
theorem uX{α:Type}{l:List α}{i:Nat}{x:α}{r:List α}(h:l.drop i=x::r):l[i]?=some x/\l.drop (i+1)=r/\i<l.length:=by
 have h1:(l.drop i)[0]?=some x:=by rw[h];rfl
 rw[ycf]at h1;have hi:i<l.length:=by
  rcases Nat.lt_or_ge i l.length with hl | hl
  ·exact hl
  ·rw[yau hl]at h;cases h
 refine⟨by simpa using h1,?_,hi⟩
 have:=List.drop_drop (l:=l) (i:=1) (j:=i)
 rw[h]at this;simpa[Nat.add_comm]using this.symm
theorem vX{α:Type}{l:List α}{i:Nat}(h:l.drop i=[]):l.length<=i:=by
 rcases Nat.lt_or_ge i l.length with hl | hl
 ·have:=congrArg List.length h;simp at this;omega
 ·exact hl
theorem tS(l:List Nat):(Int.ofNat (wB l))=(l.length:Int):=by rw[fD];rfl
theorem zkl(cs:List zA):zef true cs=.agg cs:=rfl
end Go.Am
namespace Go.Am
open Go Go.RowKit
def pC(k:IntKind)(l:List Nat):List D:=l.map fun(n:Nat)=>D.int k (n:Int)
theorem xI{k:IntKind}(l:List Nat):(pC k l).length=l.length:=by simp[pC]
theorem zxs{k:IntKind}{l:List Nat}{i x:Nat}(h:l[i]?=some x):(pC k l)[i]?=some (.int k (x:Int)):=by simp[pC,h]
theorem zfl{k:IntKind}{l:List Nat}{n:Nat}:(pC k l).take n=pC k (l.take n):=by simp[pC]
def wF (t:Tr lA)(b:Nat)(k:IntKind)(l:List Nat):Prop:=∃c,t.get b=some (.cells c l.length none)/\∀(j:Nat) x,l[j]?=some x->c.get j=some (.int k (x:Int))
def oD (b:Nat)(t t':Tr lA):Prop:=∀c,c≠b->t'.get c=t.get c
theorem oD.refl(b:Nat)(t:Tr lA):oD b t t:=fun _ _=>rfl
theorem oD.trans{b:Nat}{x y z:Tr lA}(h:oD b x y)(k:oD b y z):oD b x z:=fun c hc=>(k c hc).trans (h c hc)
section
variable {t t' t0:Tr lA}{C:iA}{b:Nat}{k:IntKind}{l:List Nat}
theorem wF.off(h:wF t b k l){c:Nat}(hc:b≠c)(ho:oD c t t'):wF t' b k l:=by
 obtain⟨x,h1,h2⟩:=h;exact⟨x,by rw[ho b hc];exact h1,h2⟩
theorem wF.tle(h:wF t b k l)(ho:dA t t'):wF t' b k l:=by
 obtain⟨x,h1,h2⟩:=h;exact⟨x,ho _ _ h1,h2⟩
theorem dA.off(h:dA t0 t)(hb:t0.get b=none)(ho:oD b t t'):dA t0 t':=by
 intro c y hc;rw[ho c (by intro e;rw[e,hb]at hc;cases hc)]
 exact h c y hc
theorem wF.slice(h:wF t b k l){off n cap:Nat}(hn:off+n<=l.length)(hc:n<=cap):oA t 1 (pC k ((l.drop off).take n)) (.slice b off n cap):=by
 obtain⟨c,h1,h2⟩:=h
 refine⟨((l.drop off).take n).map fun(x:Nat)=>[.int k (x:Int)],.inr ⟨b,off,cap,?_,?_,⟨c,_,none,h1,.inl rfl⟩,fun i cs hi=>?_⟩,?_⟩
 ·congr 1;simp;omega
 ·simp;omega
 ·simp only[yav,Option.map_eq_some_iff]at hi
  obtain⟨x,hx,rfl⟩:=hi
  refine⟨rfl,c,_,none,h1,fun j a hj=>?_⟩
  cases j with
  | zero=>
   simp at hj;subst hj;rw[ycg]at hx;split at hx
   ·rw[ycf]at hx
    exact h2 (off+i*1+0) x (by rw[show off+i*1+0=off+i by omega];exact hx)
   ·cases hx
  | succ j=>simp at hj
 ·refine mC.mk (by simp[pC]) fun i d cs hd hc=>?_
  simp only[pC,yav,Option.map_eq_some_iff]at hd hc;obtain⟨x,hx,rfl⟩:=hd
  obtain⟨y,hy,rfl⟩:=hc
  rw[hx]at hy;cases hy;rfl
theorem wF.all(h:wF t b k l){cap:Nat}(hc:l.length<=cap):oA t 1 (pC k l) (.slice b 0 l.length cap):=by
 have:=h.slice (off:=0) (n:=l.length) (by omega) hc
 simpa using this
theorem dL{T el sz:Nat}{agg:Bool}(h:rE C T el sz agg){off n cap i:Nat}(hi:i<n):xB C T (.slice b off n cap) (.int .i64 (i:Int))=some (.ptr b (off+i*sz)):=by
 obtain⟨⟨y,hy1,hy2⟩,⟨z,hz1,hz2,hz3⟩⟩:=h
 unfold xB;rw[hy1,sA];have:(zA.int .i64 (i:Int)).asNat=some i:=rfl
 rw[this,sA];simp only[zA.asSlice];rw[hy2,sA,hz1,sA,oC.2 hi,hz2];rfl
theorem wF.load(h:wF t b k l){j x:Nat}(hj:l[j]?=some x){ty:Nat}{y:wD}(hy:C.tys.get ty=some y)(ha:y.desc.isAgg=false):jA C ty ⟨0,t⟩ (.ptr b j)=some (.int k (x:Int)):=by
 obtain⟨c,h1,h2⟩:=h
 unfold jA;simp only[zA.asPtr,sA];rw[hy,sA];unfold rD;rw[h1,sA];simp only[lA.asCells,sA];unfold rN;rw[ha,cond_false];exact h2 j x hj
theorem wF.store(h:wF t b k l)(hb:C.base<=b){j:Nat}(hj:j<l.length)(x:Nat){ty:Nat}{y:wD}(hy:C.tys.get ty=some y)(hs:y.size=1) :
  ∃t',(∀n,lD C ty (.ptr b j) (.int k (x:Int)) ⟨n,t⟩=some (tE,⟨n,t'⟩))/\wF t' b k (l.set j x)/\oD b t t':=by
 obtain⟨c,h1,h2⟩:=h
 refine⟨t.set b (.cells (c.setMany [.int k (x:Int)] j) l.length none),fun n=>?_,⟨c.setMany [.int k (x:Int)] j,?_,fun i y hi=>?_⟩,fun d hd=>?_⟩
 ·unfold lD
  rw[hy,sA];simp only[zA.asPtr,sA,zA.cells,zA.asAgg];rw[hs];have e1:Nat.beq (wB [zA.int k (x:Int)]) 1=true:=rfl
  rw[e1,dE];unfold iK rD;have e2:(!Nat.blt b C.base)=true:=by
   cases hq:Nat.blt b C.base with
   | true=>have:=oC.1 hq;omega
   | false=>rfl
  rw[e2,dE,h1,sA];simp only[lA.asCells,sA];have e3:Nat.ble (j+wB [zA.int k (x:Int)]) l.length=true:=oE.2 hj
  have e4:pB zA.one [zA.int k (x:Int)]=true:=rfl
  rw[e3,e4];rfl
 ·rw[Tr.get_set,if_pos rfl,yci]
 ·rw[Tr.get_setMany]
  rw[ybx]at hi;split at hi
  ·rename_i e
   subst e;rw[if_pos (by simp)]
   cases hi;simp
  ·rename_i e
   rw[if_neg (by simp;omega)]
   exact h2 i y hi
 ·rw[Tr.get_set,if_neg hd]
theorem bT{T el:Nat}{y z:wD}(hT:C.tys.get T=some y)(hel:y.desc.asSlice=some el)(hz:C.tys.get el=some z)(hzero:z.zero=[.int k 0])(hs:z.size=1)(hby:z.bytes<=8){n:Nat}(hn:n<1000000)(hb:t.get b=none) :
  ∃t',uL C T (.int .i64 (n:Int)) (.int .i64 (n:Int)) ⟨b,t⟩=some (.slice b 0 n n,⟨b+1,t'⟩)/\wF t' b k (List.replicate n 0)/\dA t t'/\oD b t t':=by
 have hrep:∀n,tJ [zA.int k 0] n=List.replicate n (.int k 0):=by
  intro n;induction n with
  | zero=>rfl
  | succ n ih=>unfold tJ;rw[ih,dH,List.replicate_succ];rfl
 refine⟨t.set b (.cells (Tr.ofList (tJ z.zero n)) (wB (tJ z.zero n)) none),?_,⟨Tr.ofList (tJ z.zero n),?_,fun j x hj=>?_⟩,fun c y' hc=>?_,fun c hc=>?_⟩
 ·unfold uL
  rw[hT,sA,hel,sA,hz,sA];have e1:(zA.int .i64 (n:Int)).asNat=some n:=rfl
  rw[e1,sA,sA];have e2:(Nat.ble n n&&Nat.blt n 1000000&&Nat.blt (n*z.bytes) 1000000000&&Nat.beq (wB z.zero) z.size)=true:=by
   rw[hzero,hs,show Nat.ble n n=true from oE.2 (yal n),oC.2 hn]
   have:n*z.bytes<1000000000:=by
    have:=ycc (Nat.le_of_lt hn) hby
    omega
   rw[oC.2 this];rfl
  rw[e2,dE];rfl
 ·rw[Tr.get_set,if_pos rfl,hzero,hrep,fD];simp
 ·rw[List.getElem?_replicate]at hj
  split at hj
  ·cases hj
   rw[Tr.get_ofList,hzero,hrep,List.getElem?_replicate];rename_i e;rw[if_pos e];rfl
  ·cases hj
 ·rw[Tr.get_set,if_neg (by intro e;rw[e,hb]at hc;cases hc)];exact hc
 ·rw[Tr.get_set,if_neg hc]
end
end Go.Am
namespace Go.Am
def val (B:Nat):List Nat->Nat
 | []=>0
 | a::l=>a+B*val B l
def fB(B:Nat)(l:List Nat):Prop:=∀x∈l,x<B
def norm (l:List Nat):Prop:=∀h:l≠[],l.getLast h≠0
theorem nU(B:Nat):∀(l m:List Nat),val B (l++m)=val B l+B^l.length*val B m
 | [],m=>by simp[val]
 | a::l,m=>by
  simp only[List.cons_append,val,nU B l m,yao,Nat.pow_succ];rw[yan,<- yak,yai B (B^l.length)]
  omega
theorem uM{B:Nat}(hB:0<B):∀ {l:List Nat},fB B l->val B l<B^l.length
 | [],_=>by simp[val]
 | a::l,h=>by
  have h1:=h a (yaz)
  have h2:=uM hB (l:=l) fun x hx=>h x (yas _ hx)
  simp only[val,yao,Nat.pow_succ];have h3:B*(val B l+1)<=B*B^l.length:=yaw B h2
  rw[yan,yai B (B^l.length)]at h3
  omega
theorem rT(B:Nat)(l:List Nat)(n:Nat):val B l=val B (l.take n)+B^(l.take n).length*val B (l.drop n):=by
 rw[<- nU,List.take_append_drop]
theorem nR{B:Nat}{l:List Nat}(h:fB B l)(n:Nat):fB B (l.take n):=fun x hx=>h x (List.mem_of_mem_take hx)
theorem zrn{B:Nat}{l:List Nat}(h:fB B l)(n:Nat):fB B (l.drop n):=fun x hx=>h x (List.mem_of_mem_drop hx)
theorem zyh{B:Nat}{l m:List Nat}(h:fB B l)(k:fB B m):fB B (l++m):=fun x hx=>(List.mem_append.1 hx).elim (h x) (k x)
def rF:List Nat->List Nat
 | []=>[]
 | a::l=>if rF l=[]/\a=0 then []else a::rF l
theorem iP(B:Nat):∀l:List Nat,val B (rF l)=val B l
 | []=>rfl
 | a::l=>by
  unfold rF;have ih:=iP B l
  split
  ·rename_i h
   rw[h.1]at ih;have:val B l=0:=by rw[<- ih];rfl
   simp[val,this,h.2]
  ·simp[val,ih]
theorem tR:∀l:List Nat,norm (rF l)
 | []=>fun h=>(h rfl).elim
 | a::l=>by
  have ih:=tR l
  unfold rF;split
  ·exact fun h=>(h rfl).elim
  ·rename_i h
   intro hne;by_cases hs:rF l=[]
   ·have ha:a≠0:=fun e=>h ⟨hs,e⟩
    simp[hs,ha]
   ·rw[List.getLast_cons hs];exact ih hs
theorem mR{B:Nat}:∀ {l:List Nat},fB B l->fB B (rF l)
 | [],h=>h
 | a::l,h=>by
  have ih:=mR (l:=l) fun x hx=>h x (yas _ hx)
  unfold rF;split
  ·exact fun x hx=>(by cases hx)
  ·exact fun x hx=>(yat.1 hx).elim (fun e=>e ▸ h a yaz) (ih x)
theorem zh1:∀l:List Nat,(rF l).length<=l.length
 | []=>yal _
 | a::l=>by unfold rF;have:=zh1 l;split<;>simp<;>omega
theorem zak:∀l:List Nat,rF (l++[0])=rF l
 | []=>by simp[rF]
 | a::l=>by
  show(if rF (l++[0])=[]/\a=0 then []else a::rF (l++[0]))=_
  rw[zak l];rfl
theorem wW:∀ {l:List Nat},norm l->rF l=l
 | [],_=>rfl
 | a::l,h=>by
  have hl:norm l:=by
   intro hne;have:=h (by simp)
   rw[List.getLast_cons hne]at this;exact this
  unfold rF;rw[wW hl];split
  ·rename_i e
   have:=h (by simp)
   obtain⟨rfl,rfl⟩:=e
   simp at this
  ·rfl
theorem zlm{B:Nat}(hB:0<B){l:List Nat}(h:norm l)(h0:val B l=0):l=[]:=by
 have key:∀l:List Nat,val B l=0->∀x∈l,x=0:=by
  intro l;induction l with
  | nil=>intro _ x hx;cases hx
  | cons a l ih=>
   intro h x hx;simp only[val]at h;have ha:a=0:=by omega
   have hm:B*val B l=0:=by omega
   have hl:val B l=0:=by
    rcases Nat.mul_eq_zero.1 hm with e | e
    ·omega
    ·exact e
   rcases yat.1 hx with rfl | hx
   ·exact ha
   ·exact ih hl x hx
 rcases List.eq_nil_or_concat l with e | ⟨m,a,e⟩
 ·exact e
 ·exfalso
  subst e;have:=h (by simp)
  simp at this;exact this (key _ h0 a (by simp))
theorem zsc{B:Nat}{l:List Nat}(h:norm l)(hne:l≠[]):B^(l.length-1)<=val B l:=by
 rcases List.eq_nil_or_concat l with e | ⟨m,a,e⟩
 ·exact absurd e hne
 ·rw[List.concat_eq_append]at e
  subst e;have:=h (by simp)
  simp at this;rw[nU];simp only[yah,yao,yay,val];have:1<=a+B*0:=by omega
  calc B^(m.length+1-1)=B^m.length*1:=by simp
   _<=B^m.length*(a+B*0):=yaw _ this
   _<=_:=Nat.le_add_left _ _
theorem zsb{B:Nat}(hB:0<B):∀ {l m:List Nat},fB B l->fB B m->l.length=m.length->val B l=val B m->l=m
 | [],[],_,_,_,_=>rfl
 | a::l,b::m,h1,h2,hl,hv=>by
  have ha:=h1 a yaz
  have hb:=h2 b yaz
  simp only[val]at hv;have e1:a=b:=by
   have:=congrArg (· % B) hv
   simp only[Nat.add_mul_mod_self_left,Nat.mod_eq_of_lt ha,Nat.mod_eq_of_lt hb]at this;exact this
  subst e1;have e2:val B l=val B m:=by
   have:B*val B l=B*val B m:=by omega
   exact Nat.eq_of_mul_eq_mul_left hB this
  rw[zsb hB (fun x hx=>h1 x (yas _ hx)) (fun x hx=>h2 x (yas _ hx)) (by simpa using hl) e2]
 | [],_::_,_,_,h,_=>by simp at h
 | _::_,[],_,_,h,_=>by simp at h
theorem fO{B:Nat}(hB:1<B){l m:List Nat}(h1:fB B l)(h3:norm m)(hv:val B m<=val B l):m.length<=l.length:=by
 by_cases hm:m=[]
 ·simp[hm]
 ·have a:=zsc (B:=B) h3 hm
  have b:=uM (by omega) h1
  have:B^(m.length-1)<B^l.length:=by omega
  have:=(Nat.pow_lt_pow_iff_right hB).1 this
  omega
theorem z0e{B:Nat}(hB:1<B){l m:List Nat}(h1:fB B l)(h2:fB B m)(h3:norm l)(h4:norm m)(hv:val B l=val B m):l=m:=by
 have a:=fO hB h1 h4 (by omega)
 have b:=fO hB h2 h3 (by omega)
 exact zsb (by omega) h1 h2 (by omega) hv
def wK (a b:List Nat):Int:=if a.length≠b.length then(if a.length<b.length then -1 else 1)else go a b
where go:List Nat->List Nat->Int
 | a::l,b::m=>if go l m≠0 then go l m else if a<b then -1 else if b<a then 1 else 0
 | _,_=>0
theorem zx0{B:Nat}:∀ {a b:List Nat},fB B a->fB B b->a.length=b.length->(wK.go a b<0 ↔ val B a<val B b)/\(wK.go a b=0 ↔ val B a=val B b)
 | [],[],_,_,_=>by simp[wK.go,val]
 | a::l,b::m,h1,h2,hl=>by
  have ha:=h1 a yaz
  have hb:=h2 b yaz
  obtain⟨i1,i2⟩:=zx0 (a:=l) (b:=m) (fun x hx=>h1 x (yas _ hx)) (fun x hx=>h2 x (yas _ hx)) (by simpa using hl)
  have lt_of:∀ {x y:Nat},x<y->∀u v,u<B->u+B*x<v+B*y:=by
   intro x y h u v hu;have:B*(x+1)<=B*y:=yaw B h
   rw[yan]at this;omega
  unfold wK.go;simp only[val];by_cases h0:wK.go l m=0
  ·have e:=i2.1 h0
   rw[if_neg (by simpa using h0),e]
   by_cases c1:a<b
   ·rw[if_pos c1];constructor<;>constructor<;>intro h<;>omega
   ·rw[if_neg c1]
    by_cases c2:b<a
    ·rw[if_pos c2];constructor<;>constructor<;>intro h<;>omega
    ·rw[if_neg c2];constructor<;>constructor<;>intro h<;>omega
  ·rw[if_pos h0]
   constructor
   ·rw[i1]
    constructor
    ·intro h;exact lt_of h a b ha
    ·intro h
     rcases Nat.lt_trichotomy (val B l) (val B m)with g | g | g
     ·exact g
     ·exact absurd (i2.2 g) h0
     ·have:=lt_of g b a hb;omega
   ·constructor
    ·intro h;exact absurd h h0
    ·intro h
     rcases Nat.lt_trichotomy (val B l) (val B m)with g | g | g
     ·have:=lt_of g a b ha;omega
     ·exact i2.2 g
     ·have:=lt_of g b a hb;omega
 | [],_::_,_,_,h=>by simp at h
 | _::_,[],_,_,h=>by simp at h
theorem zxz{B:Nat}(hB:1<B){a b:List Nat}(h1:fB B a)(h2:fB B b)(h3:norm a)(h4:norm b):wK a b<0 ↔ val B a<val B b:=by
 unfold wK;by_cases hl:a.length=b.length
 ·rw[if_neg (by simpa using hl)];exact(zx0 h1 h2 hl).1
 ·rw[if_pos hl]
  by_cases hlt:a.length<b.length
  ·rw[if_pos hlt]
   refine⟨fun _=>?_,fun _=>by omega⟩
   rcases Nat.lt_or_ge (val B a) (val B b)with g | g
   ·exact g
   ·have:=fO hB h1 h4 g;omega
  ·rw[if_neg hlt]
   refine⟨fun h=>by omega,fun h=>?_⟩
   have:=fO hB h2 h3 (by omega);omega
end Go.Am
namespace Go.Am
open Go Go.RowKit
theorem eF{n:Int}(h1:0<=n)(h2:n<18446744073709551616):vA .u64 n=n:=by
 rw[rK];simp only[IntKind.wrap,IntKind.bits,IntKind.signed];simp;omega
theorem gQ{n:Int}(h1:0<=n)(h2:n<4294967296):vA .u32 n=n:=by
 rw[rK];simp only[IntKind.wrap,IntKind.bits,IntKind.signed];simp;omega
theorem zy0{n:Int}(h1:0<=n)(h2:n<65536):vA .u16 n=n:=by
 rw[rK];simp only[IntKind.wrap,IntKind.bits,IntKind.signed];simp;omega
theorem zr6{n:Int}(h1:0<=n)(h2:n<256):vA .u8 n=n:=by
 rw[rK];simp only[IntKind.wrap,IntKind.bits,IntKind.signed];simp;omega
theorem iR(n:Int):vA .u64 n=n%18446744073709551616:=by
 rw[rK];simp only[IntKind.wrap,IntKind.bits,IntKind.signed];simp
theorem zN(n:Int):vA .u32 n=n%4294967296:=by
 rw[rK];simp only[IntKind.wrap,IntKind.bits,IntKind.signed];simp
theorem zr5(n:Int):vA .u16 n=n%65536:=by
 rw[rK];simp only[IntKind.wrap,IntKind.bits,IntKind.signed];simp
theorem vO{f:Nat->Nat->Nat}{k:IntKind}{x y:Nat}(h1:x<kG k)(h2:y<kG k):uH f k (x:Int) (y:Int)=some (.int k (f x y:Nat)):=by
 unfold uH;have e1:dK (x:Int)=some x:=rfl
 have e2:dK (y:Int)=some y:=rfl
 rw[e1,sA,e2,sA,oC.2 h1,oC.2 h2];rfl
theorem zgv{k:IntKind}{x y:Nat}(h0:0<y)(hw:vA k ((x / y:Nat):Int)=((x / y:Nat):Int)):z0z k (x:Int) (y:Int)=some (.int k ((x / y:Nat):Int)):=by
 unfold z0z;have:wA (y:Int) 0=false:=by
  cases hq:wA (y:Int) 0 with
  | false=>rfl
  | true=>have:=(vQ _ _).1 hq;omega
 rw[this,cond_false,Int.tdiv_eq_ediv_of_nonneg (by omega)]
 rw[<- Int.natCast_ediv,hw]
theorem zbi{k:IntKind}{x y:Nat}(h0:0<y):zru k (x:Int) (y:Int)=some (.int k ((x%y:Nat):Int)):=by
 unfold zru;have:wA (y:Int) 0=false:=by
  cases hq:wA (y:Int) 0 with
  | false=>rfl
  | true=>have:=(vQ _ _).1 hq;omega
 rw[this,cond_false,Int.tmod_eq_emod_of_nonneg (by omega),<- Int.natCast_emod]
theorem jE{a b:Int}:(wA a b=true) ↔ a=b:=vQ a b
theorem lI{a b:Int}:((!wA a b)=true) ↔ a≠b:=by rw[ybq,<- Bool.not_eq_true,jE]
theorem zbd{b:Bool}:((!b)=true) ↔ b=false:=by simp
theorem zcc{a b n:Nat}(h:b<2^n):Nat.lor (a*2^n) b=a*2^n+b:=by
 show a*2^n ||| b=_
 rw[<- Nat.shiftLeft_eq,<- Nat.shiftLeft_add_eq_or_of_lt h,Nat.shiftLeft_eq]
theorem or_low{a b n:Nat}(h:b<2^n)(ha:a%2^n=0):Nat.lor a b=a+b:=by
 obtain⟨c,hc⟩:=Nat.dvd_of_mod_eq_zero ha
 subst hc;rw[yai];exact zcc h
theorem oA.idx{t:Tr lA}{C:iA}{T el:Nat}(h:rE C T el 1 false){k:IntKind}{l:List Nat}{v:zA}(hr:oA t 1 (pC k l) v){i x:Nat}(hi:l[i]?=some x) :
  ∃b off,xB C T v (.int .i64 (i:Int))=some (.ptr b off)/\jA C el ⟨0,t⟩ (.ptr b off)=some (.int k (x:Int)):=by
 obtain⟨b,off,cs,h1,h2,_,_,h5⟩:=rE.at h (fun _=>rfl) hr (zxs hi)
 rw[fL]at h5;subst h5;exact⟨b,off,h1,h2⟩
theorem uO(x:Nat)(n:Nat):Int.fdiv (x:Int) (n:Int)=((x / n:Nat):Int):=by
 rw[Int.fdiv_eq_ediv_of_nonneg _ (by omega)];exact(Int.natCast_ediv x n).symm
theorem getElem?_of_lt{l:List Nat}{i:Nat}(h:i<l.length):∃x,l[i]?=some x:=⟨l[i],yae h⟩
theorem iI{B:Nat}{l:List Nat}(h:fB B l){i x:Nat}(hi:l[i]?=some x):x<B:=h x (ybw hi)
theorem rY{l:List Nat}(h:l≠[]):∃m x,l=m++[x]:=by
 rcases List.eq_nil_or_concat l with e | ⟨m,a,e⟩
 ·exact absurd e h
 ·exact⟨m,a,by rw[e,List.concat_eq_append]⟩
end Go.Am
namespace Go.Am
open Go Go.RowKit Go.Proofs
theorem zv5{p:Oper}{t:Nat}{a:Operand}(h:ldOp p=some (t,a)):p.op=.load t a:=by
 unfold ldOp at h;split at h
 ·rename_i e;cases h;exact e
 ·cases h
theorem zgz{C:iA}{o:gC}{i:Nat}{tm:Tm}{H:pA}{t:Nat}{a:Operand}{d:Option Nat}{b off:Nat}{ty:wD}{cc:Tr zA × Nat × Option Nat}{v:zA}
  (ho:(match opO o i with | some p=>(ldOp p,aK p.guard,p.dst) | none=>(none,false,none))=(some (t,a),true,d)) (h1:ev a (.now tm)=some (.ptr b off)) (h2:C.tys.get t=some ty) (h3:rD H b=some cc) (h4:rN ty cc.1 off=some v) :
  goO C o i tm H=goO C o (i+1) (putA (rM o).n tm d v) H:=by
 refine zjf (v:=v) (H':=H) (d:=d) ?_
 unfold atO
 cases hp:opO o i with
 | none=>rw[hp]at ho;cases ho
 | some p=>
  rw[hp]at ho;simp only[Prod.mk.injEq]at ho;obtain⟨g1,g2,g3⟩:=ho
  rw[sA,g2,zv5 g1,z0i h1 h2 h3 h4,g3];rfl
theorem zg0{C:iA}{o:gC}{i:Nat}{tm:Tm}{H:pA}{t:Nat}{a b:Operand}{d:Option Nat}{v:zA}{op:BinOp}{f:Oper->Option (Nat × Operand × Operand)}(hf:∀p,f p=some (t,a,b)->∃u,p.op=.binOp op t a b u)
  (ho:(match opO o i with | some p=>(f p,aK p.guard,p.dst) | none=>(none,false,none))=(some (t,a,b),true,d)) (hv:bK op t a b C (.now tm) H=some v) :
  goO C o i tm H=goO C o (i+1) (putA (rM o).n tm d v) H:=by
 refine zjf (v:=v) (H':=H) (d:=d) ?_
 unfold atO
 cases hp:opO o i with
 | none=>rw[hp]at ho;cases ho
 | some p=>
  rw[hp]at ho;simp only[Prod.mk.injEq]at ho;obtain⟨g1,g2,g3⟩:=ho
  obtain⟨u,hu⟩:=hf p g1
  have:((bE p.op).f C (.now tm) H).asVal=some (v,H):=by
   rw[hu];exact zv2 (l:=bK op t a b) rfl hv
  rw[sA,g2,this,g3];rfl
theorem zcm{t:Nat}{a b:Operand}(p:Oper)(h:z2z p=some (t,a,b)):∃u,p.op=.binOp .or t a b u:=by
 unfold z2z at h;split at h
 ·rename_i e;cases h;exact⟨_,e⟩
 ·cases h
theorem zp6{t:Nat}{a b:Operand}(p:Oper)(h:zzq p=some (t,a,b)):∃u,p.op=.binOp .shl t a b u:=by
 unfold zzq at h;split at h
 ·rename_i e;cases h;exact⟨_,e⟩
 ·cases h
theorem z2y{x y:Nat}(hx:x<18446744073709551616)(hy:y<18446744073709551616):uH Nat.lor .u64 (.ofNat x) (.ofNat y)=some (.int .u64 (.ofNat (Nat.lor x y))):=vO hx hy
theorem zft{x:Nat}(h:x<18446744073709551616):vA .u64 (.ofNat x)=.ofNat x:=eF (by show(0:Int)<=(x:Int);omega) (by show(x:Int)<_;omega)
section
variable {c:Tr zA}{n off cap:Nat}
theorem zvu{x:Nat}(hx:c.get off=some (.int .u32 (.ofNat x))):zK CL (l1 c n off cap 1)=l2 c n off cap 1 x:=by
 rw[z0v,zgz (l1_op1 c n off cap) (l1_ev1 c n off cap) aG (z50 c n off cap) (v:=.int .u32 (.ofNat x)) hx]
 rfl
theorem zvt{x:Nat}(hx:c.get (off+1)=some (.int .u32 (.ofNat x))):zK CL (l1 c n off cap 2)=l2 c n off cap 2 x:=by
 rw[z0u,zgz (l1_op2 c n off cap) (l1_ev2 c n off cap) aG (z5z c n off cap) (v:=.int .u32 (.ofNat x)) hx]
 rfl
theorem zero_or{x:Nat}(hx:x<4294967296):uH Nat.lor .u64 (vA .u64 (.ofNat 0*.ofNat 4294967296)) (vA .u64 (.ofNat x))=some (.int .u64 (.ofNat x)):=by
 have e:vA .u64 (.ofNat 0*.ofNat 4294967296)=.ofNat 0:=by decide
 rw[e,zft (by omega),z2y (by decide) (by omega)]
 show some (zA.int .u64 (.ofNat (0 ||| x)))=_
 rw[Nat.zero_or]
theorem zvs{x:Nat}(hx:x<4294967296):zK CL (l3 c n off cap 1 x)=l4 c n off cap 1 x x:=by
 rw[z0t,zg0 (op:=.or) (f:=z2z) zcm (l3_op1 c n off cap x) (v:=.int .u64 (.ofNat x)) (by rw[l3_or1];exact zero_or hx)]
 rfl
theorem zvr{x:Nat}(hx:x<4294967296):zK CL (l3 c n off cap 2 x)=l4 c n off cap 2 x x:=by
 rw[z0s,zg0 (op:=.or) (f:=z2z) zcm (l3_op2 c n off cap x) (v:=.int .u64 (.ofNat x)) (by rw[l3_or2];exact zero_or hx)]
 rfl
theorem zqq{y z x:Nat}(hx:c.get off=some (.int .u32 (.ofNat x))):zK CL (l5 c n off cap y z)=l6 c n off cap y z x:=by
 rw[z5y,zgz (l5_op c n off cap y z) (l5_ev c n off cap y z) aG (l5_blk c n off cap y z) (v:=.int .u32 (.ofNat x)) hx]
 rfl
theorem zvw{y z x:Nat}(hz:z<4294967296)(hx:x<4294967296):zK CL (l7 c n off cap y z x)=l8 c n off cap y z x (z*4294967296) x (z*4294967296+x):=by
 have hb:∀(p q:Operand) (u v:Nat),(yL .or).f CL 56 p q (.int .u64 (.ofNat u)) (.int .u64 (.ofNat v))=uH Nat.lor .u64 (.ofNat u) (.ofNat v):=fun _ _ _ _=>rfl
 have hs:∀(p q:Operand) (u:Nat),(yL .shl).f CL 56 p q (.int .u64 (.ofNat u)) (.int .u64 32)=zqy .u64 (.ofNat u) 32:=fun _ _ _=>rfl
 have hw:vA .u64 (.ofNat z*.ofNat (2^32))=.ofNat (z*4294967296):=by
  rw[show(Int.ofNat z*Int.ofNat (2^32))=Int.ofNat (z*4294967296) from rfl,zft (by omega)]
 rw[zze (z0r c n off cap y z x),zjf (l7_0 c n off cap y z x)]
 show goO CL _ 1 (tA c n off cap y z x) _=_
 rw[zg0 (op:=.shl) (f:=zzq) zp6 (l7_opS c n off cap y z x) (v:=.int .u64 (.ofNat (z*4294967296))) (by
  unfold bK;rw[l7_evS,sA,show ev (.const (.int .u64 32)) (.now (tA c n off cap y z x))=some (.int .u64 32) from rfl,sA,hs]
  unfold zqy bR;rw[show dK 32=some 32 from rfl,sA,show min 32 IntKind.u64.bits=32 from rfl,sA,hw])]
 show goO CL _ 2 (tB c n off cap y z x (z*4294967296)) _=_
 rw[zjf (l7_2 c n off cap y z x (z*4294967296))]
 show goO CL _ 3 (tC c n off cap y z x (z*4294967296)) _=_
 have h3:=l7_3 c n off cap y z x (z*4294967296)
 rw[zft (by omega:x<18446744073709551616)]at h3
 rw[zjf h3];show goO CL _ 4 (tD c n off cap y z x (z*4294967296) x) _=_
 rw[zg0 (op:=.or) (f:=z2z) zcm (l7_op c n off cap y z x) (v:=.int .u64 (.ofNat (z*4294967296+x))) (by
  unfold bK;rw[l7_ev9,sA,z5x,sA,hb,z2y (by omega) (by omega),show(4294967296:Nat)=2^32 from rfl,zcc (by omega)])]
 rfl
end
def muL (i:Option BI):Mu:=⟨fun g=>if g<256 then some ⟨g,true,0,0,true⟩else if g=256 then i else none,fun _=>none⟩
theorem z6g{w:World}{c:Tr zA}{n:Nat}{i:Option BI}(hi:∀j,i=some j->j.b<w.heap.size/\∃o,w.heap[j.b]?=some o/\iH (muL i) j (.cells c n none) o):oB 257 w.heap.size (muL i) (HL c n) w:=by
 have hget:∀a x,(HL c n).t.get a=some x->a=256/\x=.cells c n none:=by
  intro a x hx;have hx:(Tr.set .leaf 256 (.cells c n none)).get a=some x:=hx
  rw[Tr.get_set]at hx;split at hx
  ·rename_i e;exact⟨e,(ybj hx).symm⟩
  ·rw[Tr.get_leaf]at hx;cases hx
 have h256:(muL i) 256=i:=by show(if 256<256 then some (⟨256,true,0,0,true⟩:BI)else if 256=256 then i else none)=i;rw[if_neg (by omega),if_pos rfl]
 refine⟨by omega,fun g hg=>by show(if g<256 then some (⟨g,true,0,0,true⟩:BI)else if g=256 then i else none)=_;rw[if_pos hg],fun a x j _ hx hj=>?_,yal _,yal _,fun a ha=>?_,fun a x j hx hj=>?_,fun a j ha hj=>?_,fun a b x y j k hx _ _ _ ha _ _=>?_,fun a x t ha=>by cases ha⟩
 ·obtain⟨rfl,rfl⟩:=hget a x hx
  rw[h256]at hj;exact⟨(hi j hj).1,rfl,rfl⟩
 ·have ha:257<=a:=ha
  refine⟨by show(if a<256 then some (⟨a,true,0,0,true⟩:BI)else if a=256 then i else none)=none;rw[if_neg (by omega),if_neg (by omega)],?_⟩
  cases hx:(HL c n).t.get a with
  | none=>rfl
  | some x=>have:=(hget a x hx).1;omega
 ·obtain⟨rfl,rfl⟩:=hget a x hx
  rw[h256]at hj;exact(hi j hj).2
 ·have hj:(if a<256 then some ⟨a,true,0,0,true⟩else if a=256 then i else none)=some j:=hj
  rw[if_neg (by omega),if_neg (by omega)]at hj
  cases hj
 ·have:=(hget a x hx).1;omega
theorem simL(N:Nat):Sim Tryz.prog CL 257 N (fun _=>True):=
 ⟨zsn rfl,zou rfl,fun f g hg=>by(have hg:Tr.leaf.get f=some g:=hg;rw[Tr.get_leaf]at hg;cases hg),yal _,by kernel_rfl,fun _ _ _ h=>h⟩
theorem zt4{P:Program}{C:iA}{B N:Nat}{μ:Mu}{w:World}{base:List Frame}(hF:zhl P C){f:Nat}{args:List zA}{args':Array Value}{H:pA}(hH:oB B N μ H w)(hl:rB μ args args'.toList){g:vC}(he:wJ C f args false=some g) :
  uD P C B N μ base (lone (Frame.enter P f args' .normal) base w) w (eP C f args H):=by
 unfold eP;rw[he];exact⟨μ,_,[],w,.refl _ _,fun _ _ h=>h,Below.refl N w,hH,(kV (cur:=some H) hF he hl).1,.nil⟩
theorem kT{P:Program}{C:iA}{B N:Nat}{I:World->Prop}{μ:Mu}{w:World}{base:List Frame}{m:Machine}(hS:Sim P C B N I)(hI:I w):∀(n:Nat) {o:gC},uD P C B N μ base m w o->uD P C B N μ base m w (zh4 C n o)
 | 0,_,h=>h
 | n+1,_,h=>aQ hS hI (kT hS hI n h)
theorem z60(a:zA):∃g,wJ CL 318 [a] false=some g:=by
 have:(wJ CL 318 [a] false).isSome=true:=by kernel_rfl
 exact Option.isSome_iff_exists.1 this
theorem zdn{w:World}{i:Option BI}{c:Tr zA}{n:Nat}(hH:oB 257 w.heap.size (muL i) (HL c n) w){a:zA}{a':Value}(hl:rA (muL i) a a'){u:Nat}{o:gC}
  (hrun:∀base m,uD Tryz.prog CL 257 w.heap.size (muL i) base m w (eP CL 318 [a] (HL c n))->uD Tryz.prog CL 257 w.heap.size (muL i) base m w o) (ho:zla o=some (.int .u64 (.ofNat u))) :
  Calls Tryz.prog 318 #[a'] w fun e w'=>e=.returned (.int .u64 (.ofNat u))/\Below w.heap.size w w':=by
 intro base;obtain⟨g,he⟩:=z60 a
 have h0:=hrun base _ (zt4 (base:=base) (simL w.heap.size).fns hH (args' := #[a']) (.single hl) he)
 obtain⟨H',hd⟩:=zqc ho
 rw[hd]at h0;obtain⟨μ',b,w',v',h2,h3,h4,h5,h6,h7,h8⟩:=h0
 rw[rA]at h6;subst h6;exact⟨_,w',b,⟨rfl,h4⟩,h2,h7,h8⟩
theorem kU{a:zA}{x:Nat}(h:zkr a=some x):a=.int .u32 (.ofNat x)/\x<4294967296:=by
 unfold zkr at h;simp only[mA,mB,bM,jJ,beq_iff_eq,oC]at h;obtain⟨p,rfl,h1,y,h2,h3,h4⟩:=h
 cases h4;rw[jW]at h2;rw[h1,h2];exact⟨rfl,h3⟩
theorem zuz{B N:Nat}{μ:Mu}{H:pA}{w:World}{args:List zA}{args':Array Value}{v:zA}(hH:oB B N μ H w)(hv:zu7 args H=some v)(hl:rB μ args args'.toList) :
  (callFunc 318 args').run Tryz.prog w=.ok (.enter 318 args') w/\Calls Tryz.prog 318 args' w fun e w'=>∃v',e=.returned v'/\rA μ v v'/\Below w.heap.size w w':=by
 refine⟨zfj (fn:=Tryz.f318) Tryz.func318 (by kernel_rfl),?_⟩
 have fC:∀ {a':Value} {u:Nat},args' = #[a']->v=.int .u64 (.ofNat u)->(Calls Tryz.prog 318 #[a'] w fun e w'=>e=.returned (.int .u64 (.ofNat u))/\Below w.heap.size w w') →
   Calls Tryz.prog 318 args' w fun e w'=>∃v',e=.returned v'/\rA μ v v'/\Below w.heap.size w w':=by
  intro a' u e1 e2 h;rw[e1];exact h.mono fun e w' ⟨h1,h2⟩=>⟨_,h1,by rw[e2,rA],h2⟩
 unfold zu7 at hv;split at hv
 case h_2=>cases hv
 rename_i a;rw[rB]at hl;obtain⟨x,r,he,hx,hr⟩:=hl
 rw[rB]at hr;subst hr;have hargs:args' = #[x]:=by apply Array.toList_inj.1;simpa using he
 cases hs:a.asSlice with
 | none=>
  rw[hs]at hv;rw[mB,wC]at hv;obtain⟨h1,h2⟩:=hv
  cases h2;have ha:a=.nilslice:=kO.2.1.1 h1
  subst ha;rw[rA]at hx;subst hx;refine fC (u:=0) hargs rfl (zdn (i:=none) (c:=.leaf) (n:=0) (z6g fun j hj=>by cases hj) (a:=.nilslice) (by rw[rA]) (fun base m h=>bU (simL _) trivial 6 h) (longN .leaf 0))
 | some s=>
  rw[hs]at hv;obtain⟨sb,off,len,cap⟩:=s
  have ha:=fS.1 hs
  simp only at ha
  subst ha;simp only[kC]at hv;split at hv
  case isFalse=>cases hv
  rename_i hlen;have hlen:=oC.1 hlen
  simp only[mA]at hv;obtain⟨cc,hcc,l,hm,hv⟩:=hv
  rw[rA]at hx;rcases hx with⟨j,cap',hj,rfl,_,_,_⟩ | ⟨k1,k3,k4,A,rc,rfl,k2⟩
  rotate_left
  ·rw[k3]at hm
   cases hm
   cases hv;exact fC (u:=0) hargs rfl (zdn (i:=none) (c:=.leaf) (n:=0) (z6g fun j hj=>by cases hj) (a:=.slice 0 1 0 0) (by rw[rA];exact .inr ⟨rfl,rfl,rfl,A,rc,rfl,.inr rfl⟩) (fun base m h=>bU (simL _) trivial 6 h) (longE .leaf 0))
  obtain⟨o,ho1,ho2⟩:=hH.blk _ _ j (fV hcc) hj
  obtain⟨cs,elem,fr,rfl,hn,_,hc,_⟩:=ho2
  obtain⟨hl1,hl2⟩:=Tr.many_some _ _ _ _ hm
  have hget:∀k,(Tr.setMany l .leaf off).get k=if off<=k/\k<off+l.length then l[k-off]? else none:=fun k=>by rw[Tr.get_setMany,Tr.get_leaf]
  have ints:∀a∈l,∃x:Nat,a=.int .u32 (.ofNat x):=by
   intro a ha;match l,hv,ha with
   | [],_,ha=>cases ha
   | [b],hv,ha=>
    simp only[zlq,mA]at hv;obtain⟨y,hy,_⟩:=hv
    simp at ha;subst ha;exact⟨y,(kU hy).1⟩
   | [b,d],hv,ha=>
    simp only[zlq,mA]at hv;obtain⟨y,hy,z,hz,_⟩:=hv
    simp at ha;rcases ha with rfl | rfl
    ·exact⟨y,(kU hy).1⟩
    ·exact⟨z,(kU hz).1⟩
  have hrel:oB 257 w.heap.size (muL (some ⟨j.b,true,0,0,true⟩)) (HL (Tr.setMany l .leaf off) cs.size) w:=by
   refine z6g fun q hq=>?_
   cases hq;refine⟨(yaf.1 ho1).1,_,ho1,cs,elem,fr,rfl,yal _,.inl rfl,fun k u hu=>?_,rfl⟩
   rw[hget]at hu;split at hu
   case isFalse=>cases hu
   rename_i hk;have h1:=hl2 (k-off) (by omega)
   rw[show off+(k-off)=k by omega,hu]at h1
   obtain⟨g1,v',g2,g3⟩:=hc k u h1
   obtain⟨y,rfl⟩:=ints u (ybw hu)
   rw[rA]at g3;exact⟨by omega,v',g2,by rw[rA];exact g3⟩
  have hvr:rA (muL (some ⟨j.b,true,0,0,true⟩)) (.slice 256 off len cap') (.slice (some ⟨j.b,off,none⟩) len cap'):=by
   rw[rA];exact .inl ⟨⟨j.b,true,0,0,true⟩,cap',rfl,rfl,yal _,fun _=>rfl,fun h=>by cases h⟩
  have hS:=simL w.heap.size
  match l,hv,hl1,hl2,hget,hrel with
  | [],hv,hl1,_,_,hrel=>
   have:len=0:=by simpa using hl1.symm
   subst this
   cases hv;exact fC (u:=0) hargs rfl (zdn hrel hvr (fun base m h=>bU hS trivial 6 h) (long0 _ _ _ _))
  | [a],hv,hl1,hl2,hget,hrel=>
   have:len=1:=by simpa using hl1.symm
   subst this;simp only[zlq,mA]at hv;obtain⟨y,hy,hv⟩:=hv
   cases hv;obtain⟨rfl,hlt⟩:=kU hy
   have g0:(Tr.setMany [zA.int .u32 (.ofNat y)] .leaf off).get off=some (.int .u32 (.ofNat y)):=by rw[hget,if_pos (by simp)];simp
   refine fC (u:=y) hargs rfl (zdn hrel hvr (o:=znt CL 6 (l4 (Tr.setMany [zA.int .u32 (.ofNat y)] .leaf off) cs.size off cap' 1 y y)) (fun base m h=>?_) (l4_end _ _ _ _ _ _))
   refine bU hS trivial 6 ?_
   rw[<- zvs hlt];refine aQ hS trivial (kT hS trivial 3 ?_)
   rw[<- zvu g0];exact aQ hS trivial (kT hS trivial 17 h)
  | [a,b],hv,hl1,hl2,hget,hrel=>
   have:len=2:=by simpa using hl1.symm
   subst this;simp only[zlq,mA]at hv;obtain⟨y,hy,z,hz,hv⟩:=hv
   cases hv;obtain⟨rfl,hlt⟩:=kU hy
   obtain⟨rfl,hlt2⟩:=kU hz
   have g0:(Tr.setMany [zA.int .u32 (.ofNat y),zA.int .u32 (.ofNat z)] .leaf off).get off=some (.int .u32 (.ofNat y)):=by rw[hget,if_pos (by simp)];simp
   have g1:(Tr.setMany [zA.int .u32 (.ofNat y),zA.int .u32 (.ofNat z)] .leaf off).get (off+1)=some (.int .u32 (.ofNat z)):=by rw[hget,if_pos (by simp)];simp
   refine fC (u:=z*4294967296+y) hargs (by rw[show y+4294967296*z=z*4294967296+y by omega]) (zdn hrel hvr (o:=znt CL 6 (l8 (Tr.setMany [zA.int .u32 (.ofNat y),zA.int .u32 (.ofNat z)] .leaf off) cs.size off cap' z z y (z*4294967296) y (z*4294967296+y))) (fun base m h=>?_) (l8_end _ _ _ _ _ _ _ _ _ _))
   refine bU hS trivial 6 ?_
   rw[<- zvw hlt2 hlt];refine aQ hS trivial (kT hS trivial 3 ?_)
   rw[<- zqq g0];refine aQ hS trivial (kT hS trivial 12 ?_)
   rw[<- zvr hlt2];refine aQ hS trivial (kT hS trivial 3 ?_)
   rw[<- zvt g1];exact aQ hS trivial (kT hS trivial 17 h)
end Go.Am
namespace Go.Am
open Go Go.RowKit Go.Proofs
theorem zqf[cC](B N:Nat):zdv Tryz.prog yA B N fI:=by
 intro f g hg args H v hv μ w args' hH hI hl;have hg:zuy.get f=some g:=hg
 unfold zuy at hg;rw[Tr.get_set,Tr.get_set,Tr.get_set,Tr.get_set]at hg;split at hg
 ·rename_i e;subst e;cases hg;exact .inr (zu0 hI hv hl)
 ·split at hg
  ·rename_i e;subst e;cases hg;exact .inr (zz3 hI hv hl)
  ·split at hg
   ·rename_i e;subst e;cases hg;exact .inr (zuz hH hv hl)
   ·split at hg
    ·rename_i e
     subst e
     cases hg;refine .inr ⟨zfj (fn:=Tryz.f14) Tryz.func14 (by kernel_rfl),?_⟩
     unfold z5c at hv;split at hv
     case h_2=>cases hv
     cases hv;rw[rB]at hl;have:args' = #[]:=by apply Array.toList_inj.1;simpa using hl
     subst this;exact(zmp hI).mono fun e w' ⟨h1,h2⟩=>⟨_,h1,by rw[rA],h2⟩
    ·rw[Tr.get_leaf]at hg;cases hg
theorem sim19[cC](hN:6<=cC.n):Sim Tryz.prog yA (256+cC.n) cC.n fI:=
 ⟨zsn rfl,zou rfl,zqf _ _,yal _,by kernel_rfl,fun _ _ hb h=>h.below hN hb⟩
end Go.Am
