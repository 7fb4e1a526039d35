/- Seat 19: types, functions, variables, what the library's functions are worth; awake. -/
import Derived.ProofKit
import Derived.Test.YthmbkdkibhffbaaGreatDoorG08
import Derived.Test.YthmbkdkibhffbaaGreatDoorG09
set_option linter.all false
noncomputable section
set_option maxRecDepth 100000
namespace Go.Am
open Go Go.RowKit Go.Proofs
theorem zsq:allT (fun t ty=>match tyOf Tryz.prog t with | some u=>eqTy u ty | none=>false) tys (fun n=>n)=true:=by kernel_rfl
theorem zsp{C:iA}(hC:C.tys=tys):vG Tryz.prog C:=by
 intro t ty h;rw[hC]at h;have:=z7k tys _ zsq t ty h
 cases hu:tyOf Tryz.prog t with
 | none=>rw[hu]at this;cases this
 | some u=>rw[hu]at this;rw[z62 this]
theorem zl0 : (Tryz.funcs.toList.all fun fn => !(fn.name == "runtime.NumGoroutine")) = true := by kernel_rfl
theorem zo8{C:iA}(hC:C.fns=fns):zh1 Tryz.prog C:=by
 intro f fn h;rw[hC]at h;unfold fns at h;rw[Tr.get_ofList]at h;have h2:Tryz.prog.funcs[f]?=some fn:=by
  show Tryz.funcs[f]?=some fn
  simpa using h
 refine⟨h2,?_⟩
 have:=ybc.1 zl0 fn (ybw h)
 simpa using this
def xL:List (List UInt8):=gU.map fun l=>l.map fun n=>n.toUInt8
def u64s (l:List Int):List Value:=l.map fun n=>.int .u64 n
theorem znj{μ:Mu}:∀l:List Int,qB μ (l.map fun n=>zA.int .u64 n) (u64s l)
 | []=>.nil
 | b::l=>.cons (by rw[rA]) (znj l)
structure aI (w:World):Prop where
 kinds:∃t,w.heap[0]?=some (.cells (zrx xL).toArray t (0,0))
 most:∃m,w.cell? ⟨2,0,none⟩=some (.int .i64 m)
 pow:∃t,w.heap[5]?=some (.cells (u64s wQ).toArray t (0,0))
theorem aI.size{w:World}(h:aI w):6<=w.heap.size:=by
 obtain⟨t,h⟩:=h.pow
 have:=(yaf.1 h).1
 omega
theorem aI.below{w w':World}{N:Nat}(hN:6<=N)(h:aI w)(hb:Below N w w'):aI w':=by
 refine⟨?_,?_,?_⟩
 ·obtain⟨t,h⟩:=h.kinds;exact⟨t,by rw[hb.block 0 (by omega)];exact h⟩
 ·obtain⟨m,h⟩:=h.most;exact⟨m,by rw[hb.cell (p:=⟨2,0,none⟩) (by show 2<N;omega)];exact h⟩
 ·obtain⟨t,h⟩:=h.pow;exact⟨t,by rw[hb.block 5 (by omega)];exact h⟩
theorem aI.tab {w : World} (h : aI w) : Lib.TabIs Tryz.prog w "internal/strconv.uint64pow10" .u64 Lib.pow10Tab := by
 obtain⟨t,h⟩:=h.pow
 have hg : Tryz.prog.globalNamed "internal/strconv.uint64pow10" = some 5 := by kernel_rfl
 unfold Lib.TabIs World.var?
 rw[hg];simp only[Option.bind_some,h];rfl
theorem zih:(xL.map fun b=>zA.str (b.map UInt8.toNat))=gU.map zA.str:=by
 have h:((xL.map fun b=>b.map UInt8.toNat) == gU)=true:=by kernel_rfl
 have h:=eq_of_beq h
 rw[<- h,List.map_map];rfl
theorem hrel19{w:World}(h:aI w):oB 256 w.heap.size mu0 H19 w:=by
 have hget:∀a x,H19.t.get a=some x->(a=0/\x=.cells (Tr.ofList (gU.map zA.str)) (wB (gU.map zA.str)) none)\/(a=5/\x=.cells (Tr.ofList (wQ.map fun n=>zA.int .u64 n)) (wB (wQ.map fun n=>zA.int .u64 n)) none):=by
  intro a x hx;have hx:(glob 0 (gU.map zA.str) (glob 5 (wQ.map fun n=>.int .u64 n) .leaf)).get a=some x:=hx
  unfold glob at hx;rw[Tr.get_set,Tr.get_set]at hx;split at hx
  ·rename_i e;exact .inl ⟨e,(ybj hx).symm⟩
  ·split at hx
   ·rename_i e;exact .inr ⟨e,(ybj hx).symm⟩
   ·rw[Tr.get_leaf]at hx;cases hx
 have hsz:=h.size
 refine⟨yal _,fun g hg=>by simp[mu0,hg],fun a x i _ hx hi=>?_,yal _,yal _,fun a ha=>?_,fun a x i hx hi=>?_,fun a i ha hi=>?_,fun a b x y i j hx _ _ _ ha _ _=>?_,fun a x t ha=>by cases ha⟩
 ·rcases hget a x hx with⟨rfl,rfl⟩ | ⟨rfl,rfl⟩<;>cases hi<;>exact⟨Nat.lt_of_lt_of_le (by decide) hsz,rfl,rfl⟩
 ·have ha:256<=a:=ha
  refine⟨by simp[mu0];omega,?_⟩
  cases hx:H19.t.get a with
  | none=>rfl
  | some x=>rcases hget a x hx with⟨rfl,_⟩ | ⟨rfl,_⟩<;>omega
 ·rcases hget a x hx with⟨rfl,rfl⟩ | ⟨rfl,rfl⟩
  ·obtain⟨t,h⟩:=h.kinds
   cases hi;exact⟨_,h,by rw[<- zih];exact zj9 (znv xL) t⟩
  ·obtain⟨t,h⟩:=h.pow
   cases hi;exact⟨_,h,zj9 (znj wQ) t⟩
 ·simp[mu0]at hi;omega
 ·rcases hget a x hx with⟨rfl,_⟩ | ⟨rfl,_⟩<;>omega
theorem cT{s:ByteArray}{l:List Nat}(h:tE s=l):s.data.toList.map UInt8.toNat=l:=h
theorem zf2{f:Nat}{fn:Func}(hf:Tryz.funcs[f]?=some fn)(hb:fn.body.isSome=true){args:Array Value}{w:World}:(callFunc f args).run Tryz.prog w=.ok (.enter f args) w:=
 wY (C:=C19w) (zo8 rfl) (show fns.get f=some fn by unfold fns;rw[Tr.get_ofList];simpa using hf) hb
section
variable {B N:Nat}{μ:Mu}{H:qA}{w:World}{args:List zA}{args':Array Value}{v:zA}
theorem zgh{a b:zA}(h:qB μ [a,b] args'.toList):∃x y,args' = #[x,y]/\rA μ a x/\rA μ b y:=by
 rw[qB]at h;obtain⟨x,r,h1,h2,h3⟩:=h
 rw[qB]at h3;obtain⟨y,r',h4,h5,h6⟩:=h3
 rw[qB]at h6;subst h4 h6
 exact⟨x,y,by apply Array.toList_inj.1;simpa using h1,h2,h5⟩
theorem zqm(hv:zar args H=some v)(hl:qB μ args args'.toList) :
  (callFunc 343 args').run Tryz.prog w=.ok (.enter 343 args') w/\Calls Tryz.prog 343 args' w fun e w'=>∃v',e=.returned v'/\rA μ v v'/\Below w.heap.size w w':=by
 refine⟨zf2 (fn:=Tryz.f343) Tryz.func343 (by kernel_rfl),?_⟩
 unfold zar at hv;split at hv
 case h_2=>cases hv
 rename_i s c;rw[lB,lC]at hv;obtain⟨hc,hv⟩:=hv
 cases hv;obtain⟨x,y,rfl,hx,hy⟩:=zgh hl
 simp only[rA]at hx hy;obtain⟨s',rfl,hs⟩:=hx
 subst hy;refine(Tryz.stringslite_IndexByte s' (Int.ofNat c) w).mono fun e w' ⟨he,hw⟩=>?_
 subst hw;refine⟨_,he,?_,Below.refl _ _⟩
 have hcc:(c.toUInt8).toNat=c:=by simp[Nat.toUInt8,UInt8.toNat_ofNat'];omega
 have:=zo2 c.toUInt8 s'.data.toList
 rw[hcc,cT hs]at this;rw[rA];show Value.int .i64 (Lib.indexByte s'.data.toList c.toUInt8)=_
 rw[<- this];done
theorem zgz(hI:aI w)(hv:zc5 args H=some v)(hl:qB μ args args'.toList) :
  (callFunc 242 args').run Tryz.prog w=.ok (.enter 242 args') w/\Calls Tryz.prog 242 args' w fun e w'=>∃v',e=.returned v'/\rA μ v v'/\Below w.heap.size w w':=by
 refine⟨zf2 (fn:=Tryz.f242) Tryz.func242 (by kernel_rfl),?_⟩
 unfold zc5 at hv;split at hv
 case h_2=>cases hv
 rename_i s c;rw[lB,lC,bD]at hv;obtain⟨hlen,hv⟩:=hv
 cases hv;obtain⟨x,y,rfl,hx,hy⟩:=zgh hl
 rw[rA]at hx hy;obtain⟨s',rfl,hs⟩:=hx
 obtain⟨c',rfl,hc⟩:=hy
 obtain⟨m,hm⟩:=hI.most
 have hsz:s'.size<4294967281:=by
  have:=congrArg List.length (cT hs)
  simp at this;omega
 refine(Tryz.strings_Contains s' c' m w hsz hm).mono fun e w' ⟨he,hw⟩=>?_
 subst hw;refine⟨_,he,?_,Below.refl _ _⟩
 have:=zdy c'.data.toList s'.data.toList
 rw[cT hs,cT hc]at this;rw[rA,this]
theorem zz4(hI:aI w)(hv:pCut args H=some v)(hl:qB μ args args'.toList) :
  (callFunc 238 args').run Tryz.prog w=.ok (.enter 238 args') w/\Calls Tryz.prog 238 args' w fun e w'=>∃v',e=.returned v'/\rA μ v v'/\Below w.heap.size w w':=by
 refine⟨zf2 (fn:=Tryz.f238) Tryz.func238 (by kernel_rfl),?_⟩
 unfold pCut at hv;split at hv
 case h_2=>cases hv
 rename_i s c;rw[lB,lC,bD]at hv;obtain⟨hlen,hv⟩:=hv
 obtain⟨x,y,rfl,hx,hy⟩:=zgh hl
 rw[rA]at hx hy;obtain⟨s',rfl,hs⟩:=hx
 obtain⟨c',rfl,hc⟩:=hy
 obtain⟨m,hm⟩:=hI.most
 have hsz:s'.size<4294967281:=by
  have:=congrArg List.length (cT hs)
  simp at this;omega
 refine(Tryz.strings_Cut s' c' m w hsz hm).mono fun e w' ⟨he,n,hw⟩=>?_
 subst hw;have hb:Below w.heap.size w (w.drewN n):=⟨rfl,rfl,rfl,yal _,fun _ _=>rfl⟩
 refine⟨_,he,?_,hb⟩
 have hcut:=z33 c'.data.toList s'.data.toList
 rw[cT hs,cT hc]at hcut
 cases hx:z1o c s with
 | none=>
  rw[hx]at hcut hv
  cases hv;have hcut:Lib.index s'.data.toList c'.data.toList = -1:=hcut
  have e:Lib.cut s'.data.toList c'.data.toList=(s'.data.toList,[],false):=by unfold Lib.cut;rw[hcut];rfl
  rw[e,rA];exact⟨_,rfl,.cons (by rw[rA];exact⟨_,rfl,by rw[<- hs]⟩) (.cons (by rw[rA];exact⟨_,rfl,by simp[tE]⟩) (.single (by rw[rA])))⟩
 | some p=>
  rw[hx]at hcut hv
  cases hv;obtain⟨a,b,rfl,h1,h2,h3⟩:=hcut
  have e:Lib.cut s'.data.toList c'.data.toList=(a,b,true):=by unfold Lib.cut;rw[if_pos h1,h2,h3]
  rw[e,rA];exact⟨_,rfl,.cons (by rw[rA];exact⟨_,rfl,by simp[tE]⟩) (.cons (by rw[rA];exact⟨_,rfl,by simp[tE]⟩) (.single (by rw[rA])))⟩
theorem zuz(hI:aI w)(hv:zu6 args H=some v)(hl:qB μ args args'.toList) :
  (callFunc 291 args').run Tryz.prog w=.ok (.enter 291 args') w/\Calls Tryz.prog 291 args' w fun e w'=>∃v',e=.returned v'/\rA μ v v'/\Below w.heap.size w w':=by
 refine⟨zf2 (fn:=Tryz.f291) Tryz.func291 (by kernel_rfl),?_⟩
 unfold zu6 at hv;split at hv
 case h_2=>cases hv
 rename_i n;rw[lB,yac]at hv;obtain⟨⟨h1,h2⟩,hv⟩:=hv
 cases hv;rw[qB]at hl;obtain⟨x,r,he,hx,hr⟩:=hl
 rw[qB]at hr;rw[rA]at hx;subst hr hx
 have:args' = #[.int .i64 n]:=by apply Array.toList_inj.1;simpa using he
 subst this;have g1 : -9223372036854775808<=n:=(zma _ _).1 h1
 have g2:n<9223372036854775808:=(zdp _ _).1 h2
 refine(Tryz.strconv_Itoa n g1 (by omega) w hI.tab).mono fun e w' ⟨he,k,os,hw⟩=>?_
 subst hw;refine⟨_,he,by rw[rA];exact⟨_,rfl,rfl⟩,⟨rfl,rfl,rfl,?_,fun j hj=>?_⟩⟩
 ·simp[Sort.grow,World.drewN]
 ·show(w.heap++os)[j]?=w.heap[j]?
  rw[Array.getElem?_append_left hj]
end
theorem zls(N:Nat):zec Tryz.prog C19w 256 N aI:=by
 intro f g hg args H v hv μ w args' _ hI hl;have hg:zgy.get f=some g:=hg
 unfold zgy at hg;rw[Tr.get_set,Tr.get_set]at hg;split at hg
 ·rename_i e;subst e;cases hg;exact .inr (zgz hI hv hl)
 ·split at hg
  ·rename_i e;subst e;cases hg;exact .inr (zqm hv hl)
  ·rw[Tr.get_leaf]at hg;cases hg
theorem sim19w(N:Nat)(hN:6<=N):Sim Tryz.prog C19w 256 N aI:=
 ⟨zsp rfl,zo8 rfl,zls N,yal _,by kernel_rfl,fun _ _ hb h=>h.below hN hb⟩
theorem zk6{C:iA}{f n:Nat}{args:List zA}{args':Array Value}{w:World}(hw:aI w)(hS:Sim Tryz.prog C 256 w.heap.size aI)(hroot:C.root=f)(hl:qB mu0 args args'.toList)
  (h:aC (zn5 C n (zQ C f args H19))=1):Calls Tryz.prog f args' w fun e w'=>e=.returned (.bool true)/\Below w.heap.size w w':=by
 obtain⟨H',hr⟩:=z6v h
 unfold zQ at hr;have stuck:∀(n k:Nat),zn5 C n (.fail k)=.fail k:=by
  intro n;induction n with
  | zero=>intro k;rfl
  | succ n ih=>
   intro k;show zn5 C n (zn5 C n (.fail k))=_
   rw[ih,ih]
 cases he:vJ C f args false with
 | none=>
  rw[he]at hr;rw[stuck]at hr
  cases hr
 | some g=>
  rw[he]at hr;refine(zkb hS hw hroot (hrel19 hw) hl he hr).mono fun e w' ⟨v',μ',h1,_,h3,_,h5⟩=>?_
  rw[rA]at h3;exact⟨by rw[h1,h3],h5⟩
theorem zm2{w:World}(hw:aI w):Calls Tryz.prog 14 #[] w fun e w'=>e=.returned (.bool true)/\Below w.heap.size w w':=
 zk6 hw (sim19w _ hw.size) rfl .nil zya
end Go.Am
namespace Go.Am
open Go Go.RowKit Go.Proofs
def zim(C:iA)(n:Nat)(o:fC):fC:=Nat.rec (motive:=fun _=>fC) o (fun _ g=>xK C g) n
def todoO:fC->List fD | .next s=>s.fr.todo | _=>[]
def tmO:fC->Tm | .next s=>s.fr.tm | _=>⟨0,.leaf,[]⟩
def qM:fC->jI | .next s=>s.fr.R | _=>⟨0,0,[],.run,false,none⟩
def csO:fC->List xC | .next s=>s.cs | _=>[]
def wJ:fC->qA | .next s=>s.H | _=>⟨0,.leaf⟩
def z7b:Code->Array Oper | .seq (.region _ ops _) _=>ops | .region _ ops _=>ops | _ => #[]
def z1q:Code->List fD | .seq _ b=>[.code b] | _=>[]
def z5i (o:fC):Array Oper:=match todoO o with | .code c::_=>z7b c | _ => #[]
def restO(o:fC):List fD:=match todoO o with | .code c::k=>cF (z1q c) k | _=>[]
def goO (C:iA)(o:fC)(i:Nat)(tm:Tm)(H:qA):fC:=xQ C (z5i o) (restO o) (qM o) (csO o) (lK (z5i o).toList i) tm H
def opO (o:fC)(i:Nat):Option Oper:=oD (z5i o).toList i
def zp7 (C:iA)(o:fC)(i:Nat):Tm:=
 List.rec (motive:=fun _=>Tm->Tm) (fun tm=>tm) (fun p _ g tm=>g (match ((bE p.op).f C (.now tm) (wJ o)).asVal with | some q=>putA (qM o).n tm p.dst q.1 | none=>tm)) (xP (z5i o).toList i) (tmO o).cut
theorem z6s{C:iA}{o:fC}{i:Nat}{p:Oper}{tm:Tm}{H H':qA}{v:zA}(ho:opO o i=some p)(hg:p.guard=none)(hv:((bE p.op).f C (.now tm) H).asVal=some (v,H')) :
  goO C o i tm H=goO C o (i+1) (putA (qM o).n tm p.dst v) H':=by
 have hd:lK (z5i o).toList i=p::lK (z5i o).toList (i+1):=by
  unfold opO at ho;rw[vE]at ho;rw[rO,rO];have hlt:=(yad.1 ho).1
  rw[yam hlt];congr 1
  exact(yad.1 ho).2
 unfold goO;rw[hd,tZ];have hw:kF p.guard (z5i o) tm=some true:=by rw[hg];rfl
 rw[hw];simp only[hv]
theorem z0l{C:iA}{e:wD}{H:qA}{t:Nat}{a:Operand}{b off:Nat}{ty:vD}{c:Tr zA × Nat × Option Nat}{v:zA}(h1:ev a e=some (.ptr b off))(h2:C.tys.get t=some ty)(h3:nD H b=some c)(h4:oN ty c.1 off=some v) :
  ((bE (.load t a)).f C e H).asVal=some (v,H):=by
 show(lv (mN t a) C e H).asVal=_
 unfold lv mN;rw[h1,sA,show(zA.ptr b off).asPtr=some (b,off) from rfl,sA,h2,sA,h3,sA,h4]
 rfl
theorem zvz{C:iA}{e:wD}{H:qA}{o:Op}{l:LOp}(ha:(bE o).f=lv l){v:zA}(h:l C e H=some v):((bE o).f C e H).asVal=some (v,H):=by
 rw[ha];unfold lv;rw[h];rfl
def atO (C:iA)(o:fC)(i:Nat)(tm:Tm)(H:qA):Option (zA × qA × Option Nat):=
 ob (opO o i) fun p=>sB (yL p.guard) (ob ((bE p.op).f C (.now tm) H).asVal fun q=>some (q.1,q.2,p.dst))
theorem zjx{C:iA}{o:fC}{i:Nat}{tm:Tm}{H H':qA}{v:zA}{d:Option Nat}(h:atO C o i tm H=some (v,H',d)):goO C o i tm H=goO C o (i+1) (putA (qM o).n tm d v) H':=by
 unfold atO at h;simp only[lA,lB]at h;obtain⟨p,h1,h2,q,h3,h4⟩:=h
 cases h4;have hg:p.guard=none:=by cases hx:p.guard with | none=>rfl | some x=>rw[hx]at h2;cases h2
 exact z6s h1 hg h3
def z2t:Code->Bool | .region _ _ false=>true | .seq (.region _ _ false) _=>true | _=>false
def z2r:List fD->Bool | .code c::_=>z2t c | _=>false
def z2s:fC->Bool | .next s=>bif s.fr.R.mode.running then z2r s.fr.todo else false | _=>false
theorem zfq{α:Type}(l:List α):lK l 0=l:=by rw[rO];rfl
theorem zzg{C:iA}{o:fC}(h:z2s o=true):xK C o=goO C o 0 (tmO o).cut (wJ o):=by
 cases o with
 | next s=>
  obtain⟨⟨todo,tm,R⟩,cs,H⟩:=s
  have h:(bif R.mode.running then z2r todo else false)=true:=h
  rw[iC]at h;split at h
  case isFalse=>cases h
  rename_i hr;show(bif R.mode.running then zho C todo tm R cs H else zce C ⟨todo,tm,R⟩ cs H)=_
  rw[hr,cond_true]
  cases todo with
  | nil=>cases h
  | cons x k=>
   cases x with
   | code c=>
    have h:z2t c=true:=h
    cases c with
    | region id ops d=>
     cases d with
     | true=>cases h
     | false=>unfold goO;rw[zfq];rfl
    | seq a b=>
     cases a with
     | region id ops d=>
      cases d with
      | true=>cases h
      | false=>unfold goO;rw[zfq];rfl
     | _=>cases h
    | _=>cases h
   | _=>cases h
 | _=>cases h
def CL:iA:=⟨fns,ks,tys,plans,.leaf,257,318⟩
def HL (c:Tr zA)(n:Nat):qA:=⟨257,Tr.set .leaf 256 (.cells c n none)⟩
def zlo:fC->Option zA | .done v _=>some v | _=>none
theorem zqi{o:fC}{v:zA}(h:zlo o=some v):∃H,o=.done v H:=by
 cases o with
 | done u H=>cases h;exact⟨H,rfl⟩
 | _=>cases h
section
variable (c:Tr zA)(n off cap:Nat)
theorem long0:zlo (zn5 CL 6 (zQ CL 318 [.slice 256 off 0 cap] (HL c n)))=some (.int .u64 0):=by kernel_rfl
theorem longN:zlo (zn5 CL 6 (zQ CL 318 [.nilslice] (HL c n)))=some (.int .u64 0):=by kernel_rfl
theorem longE:zlo (zn5 CL 6 (zQ CL 318 [.slice 0 0 0 0] (HL c n)))=some (.int .u64 0):=by kernel_rfl
def l1 (len:Nat):fC:=zim CL 17 (zQ CL 318 [.slice 256 off len cap] (HL c n))
theorem z0x:xK CL (l1 c n off cap 1)=goO CL (l1 c n off cap 1) 4 (zp7 CL (l1 c n off cap 1) 4) (wJ (l1 c n off cap 1)):=by kernel_rfl
theorem z0w:xK CL (l1 c n off cap 2)=goO CL (l1 c n off cap 2) 4 (zp7 CL (l1 c n off cap 2) 4) (wJ (l1 c n off cap 2)):=by kernel_rfl
def ldOp:Oper->Option (Nat × Operand):=fun o=>match o.op with | .load t a=>some (t,a) | _=>none
theorem l1_op1:(match opO (l1 c n off cap 1) 4 with | some p=>(ldOp p,yL p.guard,p.dst) | none=>(none,false,none))=(some (328,.tmp 14),true,some 15):=by kernel_rfl
theorem l1_ev1:ev (.tmp 14) (.now (zp7 CL (l1 c n off cap 1) 4))=some (.ptr 256 (off+0*1)):=by kernel_rfl
theorem l1_ev2:ev (.tmp 14) (.now (zp7 CL (l1 c n off cap 2) 4))=some (.ptr 256 (off+1*1)):=by kernel_rfl
theorem z58:nD (wJ (l1 c n off cap 1)) 256=some (c,n,none):=by kernel_rfl
theorem z57:nD (wJ (l1 c n off cap 2)) 256=some (c,n,none):=by kernel_rfl
theorem l1_op2:(match opO (l1 c n off cap 2) 4 with | some p=>(ldOp p,yL p.guard,p.dst) | none=>(none,false,none))=(some (328,.tmp 14),true,some 15):=by kernel_rfl
def l2 (len x:Nat):fC:=goO CL (l1 c n off cap len) 5 (putA (qM (l1 c n off cap len)).n (zp7 CL (l1 c n off cap len) 4) (some 15) (.int .u32 (.ofNat x))) (wJ (l1 c n off cap len))
def l3 (len x:Nat):fC:=zim CL 3 (l2 c n off cap len x)
theorem z0v(x:Nat):xK CL (l3 c n off cap 1 x)=goO CL (l3 c n off cap 1 x) 4 (zp7 CL (l3 c n off cap 1 x) 4) (wJ (l3 c n off cap 1 x)):=by kernel_rfl
theorem z0u(x:Nat):xK CL (l3 c n off cap 2 x)=goO CL (l3 c n off cap 2 x) 4 (zp7 CL (l3 c n off cap 2 x) 4) (wJ (l3 c n off cap 2 x)):=by kernel_rfl
def z2z:Oper->Option (Nat × Operand × Operand):=fun o=>match o.op with | .binOp .or t a b _=>some (t,a,b) | _=>none
theorem l3_op1(x:Nat):(match opO (l3 c n off cap 1 x) 4 with | some p=>(z2z p,yL p.guard,p.dst) | none=>(none,false,none))=(some (56,.tmp 9,.tmp 11),true,some 12):=by kernel_rfl
theorem l3_op2(x:Nat):(match opO (l3 c n off cap 2 x) 4 with | some p=>(z2z p,yL p.guard,p.dst) | none=>(none,false,none))=(some (56,.tmp 9,.tmp 11),true,some 12):=by kernel_rfl
theorem l3_or1(x:Nat):zL .or 56 (.tmp 9) (.tmp 11) CL (.now (zp7 CL (l3 c n off cap 1 x) 4)) (wJ (l3 c n off cap 1 x))=oH Nat.lor .u64 (vA .u64 (.ofNat 0*.ofNat 4294967296)) (vA .u64 (.ofNat x)):=by kernel_rfl
theorem l3_or2(x:Nat):zL .or 56 (.tmp 9) (.tmp 11) CL (.now (zp7 CL (l3 c n off cap 2 x) 4)) (wJ (l3 c n off cap 2 x))=oH Nat.lor .u64 (vA .u64 (.ofNat 0*.ofNat 4294967296)) (vA .u64 (.ofNat x)):=by kernel_rfl
def l4 (len x z:Nat):fC:=goO CL (l3 c n off cap len x) 5 (putA (qM (l3 c n off cap len x)).n (zp7 CL (l3 c n off cap len x) 4) (some 12) (.int .u64 (.ofNat z))) (wJ (l3 c n off cap len x))
theorem l4_end(x z:Nat):zlo (zn5 CL 6 (l4 c n off cap 1 x z))=some (.int .u64 (.ofNat z)):=by kernel_rfl
def l5 (y z:Nat):fC:=zim CL 12 (l4 c n off cap 2 y z)
theorem z56(y z:Nat):xK CL (l5 c n off cap y z)=goO CL (l5 c n off cap y z) 4 (zp7 CL (l5 c n off cap y z) 4) (wJ (l5 c n off cap y z)):=by kernel_rfl
theorem l5_op(y z:Nat):(match opO (l5 c n off cap y z) 4 with | some p=>(ldOp p,yL p.guard,p.dst) | none=>(none,false,none))=(some (328,.tmp 14),true,some 15):=by kernel_rfl
theorem l5_ev(y z:Nat):ev (.tmp 14) (.now (zp7 CL (l5 c n off cap y z) 4))=some (.ptr 256 (off+0*1)):=by kernel_rfl
theorem l5_blk(y z:Nat):nD (wJ (l5 c n off cap y z)) 256=some (c,n,none):=by kernel_rfl
def l6 (y z x:Nat):fC:=goO CL (l5 c n off cap y z) 5 (putA (qM (l5 c n off cap y z)).n (zp7 CL (l5 c n off cap y z) 4) (some 15) (.int .u32 (.ofNat x))) (wJ (l5 c n off cap y z))
def l7 (y z x:Nat):fC:=zim CL 3 (l6 c n off cap y z x)
theorem z0t(y z x:Nat):z2s (l7 c n off cap y z x)=true:=by kernel_rfl
def zzq:Oper->Option (Nat × Operand × Operand):=fun o=>match o.op with | .binOp .shl t a k _=>some (t,a,k) | _=>none
def tA (y z x:Nat):Tm:=putA (qM (l7 c n off cap y z x)).n (tmO (l7 c n off cap y z x)).cut (some 8) (.int .u64 (.ofNat z))
theorem l7_0(y z x:Nat):atO CL (l7 c n off cap y z x) 0 (tmO (l7 c n off cap y z x)).cut (wJ (l7 c n off cap y z x))=some (.int .u64 (.ofNat z),wJ (l7 c n off cap y z x),some 8):=by kernel_rfl
theorem l7_opS(y z x:Nat):(match opO (l7 c n off cap y z x) 1 with | some p=>(zzq p,yL p.guard,p.dst) | none=>(none,false,none))=(some (56,.tmp 8,.const (.int .u64 32)),true,some 9):=by kernel_rfl
theorem l7_evS(y z x:Nat):ev (.tmp 8) (.now (tA c n off cap y z x))=some (.int .u64 (.ofNat z)):=by kernel_rfl
def tB (y z x s:Nat):Tm:=putA (qM (l7 c n off cap y z x)).n (tA c n off cap y z x) (some 9) (.int .u64 (.ofNat s))
theorem l7_2(y z x s:Nat):atO CL (l7 c n off cap y z x) 2 (tB c n off cap y z x s) (wJ (l7 c n off cap y z x))=some (.int .u32 (.ofNat x),wJ (l7 c n off cap y z x),some 10):=by kernel_rfl
def tC (y z x s:Nat):Tm:=putA (qM (l7 c n off cap y z x)).n (tB c n off cap y z x s) (some 10) (.int .u32 (.ofNat x))
theorem l7_3(y z x s:Nat):atO CL (l7 c n off cap y z x) 3 (tC c n off cap y z x s) (wJ (l7 c n off cap y z x))=some (.int .u64 (vA .u64 (.ofNat x)),wJ (l7 c n off cap y z x),some 11):=by kernel_rfl
def tD (y z x s x':Nat):Tm:=putA (qM (l7 c n off cap y z x)).n (tC c n off cap y z x s) (some 11) (.int .u64 (.ofNat x'))
theorem l7_op(y z x:Nat):(match opO (l7 c n off cap y z x) 4 with | some p=>(z2z p,yL p.guard,p.dst) | none=>(none,false,none))=(some (56,.tmp 9,.tmp 11),true,some 12):=by kernel_rfl
theorem l7_ev9(y z x s x':Nat):ev (.tmp 9) (.now (tD c n off cap y z x s x'))=some (.int .u64 (.ofNat s)):=by kernel_rfl
theorem z55(y z x s x':Nat):ev (.tmp 11) (.now (tD c n off cap y z x s x'))=some (.int .u64 (.ofNat x')):=by kernel_rfl
def l8 (y z x s x' u:Nat):fC:=goO CL (l7 c n off cap y z x) 5 (putA (qM (l7 c n off cap y z x)).n (tD c n off cap y z x s x') (some 12) (.int .u64 (.ofNat u))) (wJ (l7 c n off cap y z x))
theorem l8_end(y z x s x' u:Nat):zlo (zn5 CL 6 (l8 c n off cap y z x s x' u))=some (.int .u64 (.ofNat u)):=by kernel_rfl
theorem wH:CL.tys.get 328=some ⟨.int .u32,1,4,[.int .u32 0],true⟩:=by kernel_rfl
end
end Go.Am
namespace Go.Am
open Go Go.RowKit
@[simp] theorem qF {α:Type} {x:Option α}:sB true x=x:=rfl
inductive D where
 | int (k:IntKind) (n:Int)
 | bool (b:Bool)
 | str (s:List Nat)
 | sl (sz:Nat) (l:List D)
 | st (l:List D)
def At (t:Tr jA)(b off:Nat)(cs:List zA):Prop:=∃c n lo,t.get b=some (.cells c n lo)/\∀(j:Nat) a,cs[j]?=some a->c.get (off+j)=some a
def sH(t:Tr jA)(sz:Nat)(v:zA)(cl:List (List zA)):Prop:=
 (v=.nilslice/\cl=[])\/∃b off cap,v=.slice b off cl.length cap/\cl.length<=cap/\(∃c n lo,t.get b=some (.cells c n lo)/\(lo=none\/lo=some sz))/\∀(i:Nat) cs,cl[i]?=some cs->cs.length=sz/\At t b (off+i*sz) cs
mutual
/-- cells read as data -/
def RD (t:Tr jA):D->List zA->Prop
 | .int k n,cs=>cs=[.int k n]
 | .bool b,cs=>cs=[.bool b]
 | .str s,cs=>cs=[.str s]
 | .sl sz l,cs=>∃a cl,cs=[a]/\sH t sz a cl/\kC t l cl
 | .st l,cs=>∃cl,cs=cl.flatten/\kC t l cl
def kC (t:Tr jA):List D->List (List zA)->Prop
 | [],cl=>cl=[]
 | d::l,cl=>∃c r,cl=c::r/\RD t d c/\kC t l r
end
def cA (t t':Tr jA):Prop:=∀b y,t.get b=some y->t'.get b=some y
theorem cA.refl(t:Tr jA):cA t t:=fun _ _ h=>h
theorem cA.trans{a b c:Tr jA}(h:cA a b)(k:cA b c):cA a c:=fun x y e=>k x y (h x y e)
section
variable {t t':Tr jA}{C:iA}
theorem At.mono(h:cA t t'){b off:Nat}{cs:List zA}(k:At t b off cs):At t' b off cs:=by
 obtain⟨c,n,lo,h1,h2⟩:=k;exact⟨c,n,lo,h _ _ h1,h2⟩
theorem sH.mono(h:cA t t'){sz:Nat}{v:zA}{cl:List (List zA)}(k:sH t sz v cl):sH t' sz v cl:=by
 rcases k with k | ⟨b,off,cap,h1,h3,⟨c,n,lo,h4,h5⟩,h2⟩
 ·exact .inl k
 ·exact .inr ⟨b,off,cap,h1,h3,⟨c,n,lo,h _ _ h4,h5⟩,fun i cs hi=>⟨(h2 i cs hi).1,(h2 i cs hi).2.mono h⟩⟩
mutual
theorem RD.mono(h:cA t t'):∀(d:D) (cs:List zA),RD t d cs->RD t' d cs
 | .int _ _,_,k=>k
 | .bool _,_,k=>k
 | .str _,_,k=>k
 | .sl _ l,_,⟨a,cl,h1,h2,h3⟩=>⟨a,cl,h1,h2.mono h,kC.mono h l cl h3⟩
 | .st l,_,⟨cl,h1,h2⟩=>⟨cl,h1,kC.mono h l cl h2⟩
theorem kC.mono(h:cA t t'):∀(l:List D) (cl:List (List zA)),kC t l cl->kC t' l cl
 | [],_,k=>k
 | d::l,_,⟨c,r,h1,h2,h3⟩=>⟨c,r,h1,RD.mono h d c h2,kC.mono h l r h3⟩
end
theorem kC.length:∀ {l:List D} {cl:List (List zA)},kC t l cl->cl.length=l.length:=by
 intro l;induction l with
 | nil=>intro cl h;rw[kC]at h;simp[h]
 | cons d l ih=>intro cl h;rw[kC]at h;obtain⟨c,r,rfl,_,h3⟩:=h;simp[ih h3]
theorem kC.get:∀ {l:List D} {cl:List (List zA)} {i:Nat} {d:D},kC t l cl->l[i]?=some d->∃cs,cl[i]?=some cs/\RD t d cs:=by
 intro l;induction l with
 | nil=>intro cl i d _ h;simp at h
 | cons e l ih=>
  intro cl i d h hi;rw[kC]at h;obtain⟨c,r,rfl,h2,h3⟩:=h
  cases i with
  | zero=>simp at hi;subst hi;exact⟨c,by simp,h2⟩
  | succ i=>simp at hi;obtain⟨cs,h4,h5⟩:=ih h3 hi;exact⟨cs,by simpa using h4,h5⟩
theorem kC.mk:∀ {l:List D} {cl:List (List zA)},cl.length=l.length->(∀(i:Nat) d cs,l[i]?=some d->cl[i]?=some cs->RD t d cs)->kC t l cl:=by
 intro l;induction l with
 | nil=>intro cl h _;rw[kC];simpa using h
 | cons e l ih=>
  intro cl h k
  cases cl with
  | nil=>simp at h
  | cons c r=>
   rw[kC];exact⟨c,r,rfl,k 0 e c (by simp) (by simp),ih (by simpa using h) fun i d cs h1 h2=>k (i+1) d cs (by simpa using h1) (by simpa using h2)⟩
@[simp] theorem gL {k:IntKind} {n:Int} {cs:List zA}:RD t (.int k n) cs ↔ cs=[.int k n]:=Iff.rfl
@[simp] theorem cQ {b:Bool} {cs:List zA}:RD t (.bool b) cs ↔ cs=[.bool b]:=Iff.rfl
@[simp] theorem zN {s:List Nat} {cs:List zA}:RD t (.str s) cs ↔ cs=[.str s]:=Iff.rfl
def oA (t:Tr jA)(sz:Nat)(l:List D)(v:zA):Prop:=∃cl,sH t sz v cl/\kC t l cl
theorem oA.mono(h:cA t t'){sz:Nat}{l:List D}{v:zA}(k:oA t sz l v):oA t' sz l v:=by
 obtain⟨cl,h1,h2⟩:=k;exact⟨cl,h1.mono h,kC.mono h _ _ h2⟩
theorem aJ{sz:Nat}{l:List D}{cs:List zA}:RD t (.sl sz l) cs ↔ ∃v,cs=[v]/\oA t sz l v:=by
 rw[RD];constructor
 ·rintro⟨a,cl,rfl,h1,h2⟩;exact⟨a,rfl,cl,h1,h2⟩
 ·rintro⟨a,rfl,cl,h1,h2⟩;exact⟨a,cl,rfl,h1,h2⟩
theorem kI{l:List D}{cs:List zA}:RD t (.st l) cs ↔ ∃cl,cs=cl.flatten/\kC t l cl:=by rw[RD]
theorem oE{cl:List (List zA)}:kC t [] cl ↔ cl=[]:=by rw[kC]
theorem zE{d:D}{l:List D}{cl:List (List zA)}:kC t (d::l) cl ↔ ∃c r,cl=c::r/\RD t d c/\kC t l r:=by rw[kC]
theorem oA.one{sz:Nat}{l:List D}{v:zA}(h:oA t sz l v):zA.one v=true:=by
 obtain⟨cl,h1,_⟩:=h
 rcases h1 with⟨rfl,_⟩ | ⟨b,off,cap,rfl,_⟩
 ·decide
 ·rfl
theorem oA.len{sz:Nat}{l:List D}{v:zA}(h:oA t sz l v):uB v=some (.int .i64 (l.length:Int)):=by
 obtain⟨cl,h1,h2⟩:=h
 have:=h2.length
 rcases h1 with⟨rfl,rfl⟩ | ⟨b,off,cap,rfl,_⟩
 ·have:l.length=0:=this.symm
  rw[this];rfl
 ·rw[<- this];rfl
theorem oA.same{sz d:Nat}{l:List D}{v:zA}(h:oA t sz l v):same d v v=true:=by
 obtain⟨cl,h1,_⟩:=h
 rcases h1 with⟨rfl,_⟩ | ⟨b,off,cap,rfl,_⟩
 ·cases d <;> (unfold Am.same;rfl)
 ·have e:∀n,Nat.beq n n=true:=Nat.beq_refl
  cases d <;> (unfold Am.same;simp only[e,Bool.and_self])
theorem yI{sz:Nat}{l:List D}{v:zA}(h:oA t sz l v):gG .nilslice v=true:=by
 obtain⟨cl,h1,_⟩:=h
 rcases h1 with⟨rfl,_⟩ | ⟨b,off,cap,rfl,_⟩<;>rfl
theorem At.load{b off j n:Nat}{cs:List zA}(h:At t b off cs){ty:Nat}{y:vD}(hy:C.tys.get ty=some y)(ha:y.desc.isAgg=true)(hn:y.size=n)(hj:j+n<=cs.length):mA C ty ⟨0,t⟩ (.ptr b (off+j))=some (.agg ((cs.drop j).take n)):=by
 obtain⟨c,m,lo,h1,h2⟩:=h
 unfold mA;simp only[zA.asPtr,sA];rw[hy,sA];unfold nD;rw[h1,sA];simp only[jA.asCells,sA];unfold oN;rw[ha,cond_true,hn];have key:∀(n j:Nat),j+n<=cs.length->c.many n (off+j)=some ((cs.drop j).take n):=by
  intro n;induction n with
  | zero=>intro j _;simp;rfl
  | succ n ih=>
   intro j hj;have hlt:j<cs.length:=by omega
   rw[Tr.many_succ,h2 j cs[j] (yae hlt),sA,show off+j+1=off+(j+1) by omega,ih (j+1) (by omega),sA,yam hlt,List.take_succ_cons]
 rw[key n j hj];rfl
theorem At.load1{b off j:Nat}{cs:List zA}{a:zA}(h:At t b off cs){ty:Nat}{y:vD}(hy:C.tys.get ty=some y)(ha:y.desc.isAgg=false)(hj:cs[j]?=some a):mA C ty ⟨0,t⟩ (.ptr b (off+j))=some a:=by
 obtain⟨c,m,lo,h1,h2⟩:=h
 unfold mA;simp only[zA.asPtr,sA];rw[hy,sA];unfold nD;rw[h1,sA];simp only[jA.asCells,sA];unfold oN;rw[ha,cond_false];exact h2 j a hj
structure jE (C:iA) (T el sz:Nat) (agg:Bool):Prop where
 ty:∃y,C.tys.get T=some y/\y.desc.asSlice=some el
 el:∃y,C.tys.get el=some y/\y.size=sz/\y.desc.isAgg=agg
def zew(agg:Bool)(cs:List zA):zA:=if agg then .agg cs else match cs with | a::_=>a | []=>.nilptr
theorem jE.at{T el sz:Nat}{agg:Bool}(h:jE C T el sz agg)(h1:agg=false->sz=1){l:List D}{v:zA}(hr:oA t sz l v){i:Nat}{d:D}(hi:l[i]?=some d) :
  ∃b off cs,zB C T v (.int .i64 (i:Int))=some (.ptr b off)/\mA C el ⟨0,t⟩ (.ptr b off)=some (zew agg cs)/\At t b off cs/\cs.length=sz/\RD t d cs:=by
 obtain⟨⟨y,hy1,hy2⟩,⟨z,hz1,hz2,hz3⟩⟩:=h
 obtain⟨cl,he,hd⟩:=hr
 obtain⟨cs,hc,hrd⟩:=hd.get hi
 rcases he with⟨rfl,rfl⟩ | ⟨b,off,cap,rfl,_,_,he⟩
 ·simp at hc
 ·obtain⟨hl,ha⟩:=he i cs hc
  have hlt:i<cl.length:=(yad.1 hc).1
  refine⟨b,off+i*sz,cs,?_,?_,ha,hl,hrd⟩
  ·unfold zB
   rw[hy1,sA];have:(zA.int .i64 (i:Int)).asNat=some i:=rfl
   rw[this,sA];simp only[zA.asSlice];rw[hy2,sA,hz1,sA,lC.2 hlt,hz2];rfl
  ·cases agg with
   | true=>
    have:=ha.load (j:=0) hz1 hz3 hz2 (by omega)
    simp only[ybu,ybs]at this;rw[this,<- hl,List.take_length];rfl
   | false=>
    have hs:=h1 rfl
    cases cs with
    | nil=>simp at hl;omega
    | cons a r=>
     have:=ha.load1 (j:=0) (a:=a) hz1 hz3 (by simp)
     rw[ybu]at this;rw[this];rfl
end
section
variable {t:Tr jA}{C:iA}
theorem jE.front{T el sz:Nat}{agg:Bool}(h:jE C T el sz agg){l:List D}{v:zA}(hr:oA t sz l v){k:Nat}(hk:k<=l.length) :
  ∃v',yH C T ⟨0,t⟩ v none (some (.int .i64 (k:Int)))=some v'/\oA t sz (l.take k) v':=by
 obtain⟨⟨y,hy1,hy2⟩,⟨z,hz1,hz2,hz3⟩⟩:=h
 obtain⟨cl,he,hd⟩:=hr
 have hlen:=hd.length
 unfold yH;rw[hy1,sA];have hb:∀y,fR y (.int .i64 (k:Int))=sB (Nat.ble k y) (some k):=fun y=>rfl
 rcases he with⟨rfl,rfl⟩ | ⟨b,off,cap,rfl,hcap,⟨c,n,lo,hg,hlo⟩,he⟩
 ·have:k=0:=by simp at hlen;omega
  subst this;refine⟨.nilslice,?_,[],.inl ⟨rfl,rfl⟩,by simp[kC]⟩
  unfold pK;simp only[zA.asStr,zA.asSlice,zA.asPtr];rw[hy2,sA,hz1,sA];rfl
 ·refine⟨.slice b off k cap,?_,cl.take k,.inr ⟨b,off,cap,?_,?_,⟨c,n,lo,hg,hlo⟩,fun i cs hi=>?_⟩,?_⟩
  ·unfold pK
   simp only[zA.asStr,zA.asSlice];rw[hy2,sA];unfold rL;rw[hz1,sA];unfold fN zd6;simp only[hb];rw[show Nat.ble k cap=true from cE.2 (by omega)]
   simp only[qF,sA];have he2:aH ⟨0,t⟩ b z.size cap 0 false=false:=by
    unfold aH nD;rw[hg,sA];simp only[jA.asCells];rcases hlo with rfl | rfl
    ·rfl
    ·simp
   rw[he2,Bool.and_false,cond_false];have hf:lH ⟨0,t⟩ b z.size cap 0 false=true:=by
    unfold lH nD;rw[hg,sA];simp only[jA.asCells];rcases hlo with rfl | rfl
    ·rfl
    ·simp[hz2]
   rw[show Nat.ble k cap=true from cE.2 (by omega),hf]
   simp only[Bool.and_self,qF];congr 1
   cases hq:Nat.beq cap 0<;>simp
  ·rw[ycb];congr 1;omega
  ·rw[ycb];omega
  ·rw[ycg]at hi
   split at hi
   ·exact he i cs hi
   ·cases hi
  ·refine kC.mk (by rw[ycb,ycb];omega) fun i d cs h1 h2=>?_
   rw[ycg]at h1 h2;split at h1
   ·rename_i e
    rw[if_pos e]at h2;obtain⟨cs',h3,h4⟩:=hd.get h1
    rw[h3]at h2;cases h2;exact h4
   ·cases h1
end
mutual
def D.zs:D->List zA
 | .int k _=>[.int k 0]
 | .bool _=>[.bool false]
 | .str _=>[.str []]
 | .sl _ _=>[.nilslice]
 | .st l=>D.zss l
def D.zss:List D->List zA
 | []=>[]
 | d::l=>d.zs++D.zss l
end
theorem zjz:∀(z z' l l':List zA),jM z l=true->jM z' l'=true->jM (z++z') (l++l')=true
 | [],_,[],_,_,h=>h
 | a::z,z',b::l,l',h,k=>by
  unfold jM at h;rw[yac]at h;show(gG a b&&jM (z++z') (l++l'))=true
  rw[h.1,zjz z z' l l' h.2 k];rfl
 | [],_,_::_,_,h,_=>by cases h
 | _::_,_,[],_,h,_=>by cases h
mutual
theorem zw8{t:Tr jA}:∀(d:D) (cs:List zA),RD t d cs->jM d.zs cs=true
 | .int k n,cs,h=>by
  rw[RD]at h;subst h;show(gG (.int k 0) (.int k n)&&true)=true
  simp only[gG,zA.asIntK,Bool.and_true];exact iJ.2 rfl
 | .bool _,cs,h=>by rw[RD]at h;subst h;rfl
 | .str _,cs,h=>by rw[RD]at h;subst h;rfl
 | .sl sz l,cs,h=>by
  rw[aJ]at h;obtain⟨v,rfl,h⟩:=h
  show(gG .nilslice v&&true)=true
  rw[yI h];rfl
 | .st l,cs,h=>by
  rw[kI]at h;obtain⟨cl,rfl,h⟩:=h
  show jM (D.zss l) cl.flatten=true
  exact zpa l cl h
theorem zpa{t:Tr jA}:∀(l:List D) (cl:List (List zA)),kC t l cl->jM (D.zss l) cl.flatten=true
 | [],cl,h=>by rw[kC]at h;subst h;rfl
 | d::l,cl,h=>by
  rw[kC]at h;obtain⟨c,r,rfl,h1,h2⟩:=h
  show jM (d.zs++D.zss l) (c::r).flatten=true
  rw[List.flatten_cons];exact zjz _ _ _ _ (zw8 d c h1) (zpa l r h2)
end
theorem yB{k:IntKind}{n:Int}:zyu k (.int k n)=some n:=by unfold zyu;simp only[zA.asIntK,sA];rw[iJ.2 rfl];rfl
theorem mD{b:Bool}:(zA.bool b).asBool=some b:=rfl
theorem lI{s:List Nat}:(zA.str s).asStr=some s:=rfl
theorem aL{d:Nat}{k:IntKind}{n:Int}:same d (.int k n) (.int k n)=true:=by
 cases d<;>simp[same,iJ,qQ]
theorem zue{d:Nat}{b:Bool}:same d (.bool b) (.bool b)=true:=by cases d<;>simp[same,eQ]
theorem zbq{d:Nat}{s:List Nat}:same d (.str s) (.str s)=true:=by cases d<;>simp[same,lO]
theorem fB{n:Int}(h1 : -9223372036854775808<=n)(h2:n<9223372036854775808):vA .i64 n=n:=by
 rw[qK];simp only[IntKind.wrap,IntKind.bits,IntKind.signed];simp;omega
theorem jL{t:Tr jA}{d:D}{cs zs:List zA}(h:RD t d cs)(hz:d.zs=zs):qG zs (.agg cs)=some (cellsOf cs):=by
 unfold qG;simp only[zA.asAgg,sA];rw[<- hz,zw8 d cs h];rfl
theorem iL{zs l:List zA}(h:jM zs l=true):qG zs (.agg l)=some (cellsOf l):=by
 unfold qG;simp only[zA.asAgg,sA,h];rfl
end Go.Am
namespace Go.Am
open Go Go.RowKit
def jC (l:List Nat):List D:=l.map fun(n:Nat)=>D.int .u16 (n:Int)
theorem gQ(l:List Nat):(jC l).length=l.length:=by simp[jC]
structure dH where
 neg:Bool
 limbs:List Nat
def dH.d(w:dH):D:=.st [.bool w.neg,.sl 1 (jC w.limbs)]
structure gF where
 n:dH
 d:dH
def gF.dd(f:gF):D:=.st [f.n.d,f.d.d]
structure aA where
 kind:Nat
 f:gF
 i:Int
def aA.d(v:aA):D:=.st [.int .u8 v.kind,v.f.dd,.int .i64 v.i]
inductive uA where
 | mk (op:Nat) (name:List Nat) (v:aA) (args:List uA)
def uA.op:uA->Nat | .mk o _ _ _=>o
def uA.name:uA->List Nat | .mk _ n _ _=>n
def uA.v:uA->aA | .mk _ _ v _=>v
def uA.args:uA->List uA | .mk _ _ _ a=>a
mutual
def uA.d:uA->D
 | .mk op name v args=>.st [.int .u8 op,.str name,v.d,.sl 9 (uA.ds args)]
def uA.ds:List uA->List D
 | []=>[]
 | x::l=>x.d::uA.ds l
end
theorem uA.ds_eq(l:List uA):uA.ds l=l.map uA.d:=by
 induction l with
 | nil=>rfl
 | cons x l ih=>simp[uA.ds,ih]
structure uF where
 a:Int
 b:Int
 known:Int
 f:gF
def uF.d(r:uF):D:=.st [.int .i64 r.a,.int .i64 r.b,.int .i64 r.known,r.f.dd]
structure vF where
 name:List Nat
 two:Bool
 rows:List uF
def vF.d(x:vF):D:=.st [.str x.name,.bool x.two,.sl 7 (x.rows.map uF.d)]
structure dJ where
 name:List Nat
 kind:Nat
 fact:Bool
def dJ.d(x:dJ):D:=.st [.str x.name,.int .u8 x.kind,.bool x.fact]
structure jD where
 name:List Nat
 label:List Nat
 from_:Int
 to:Int
 known:Int
 off:Bool
 when_:uA
 then_:uA
def jD.d(x:jD):D:=.st [.str x.name,.str x.label,.int .i64 x.from_,.int .i64 x.to,.int .i64 x.known,.bool x.off,x.when_.d,x.then_.d]
structure cH where
 name:List Nat
 defs:List dJ
 tables:List vF
 clauses:List jD
def cH.d(x:cH):D:=.st [.str x.name,.sl 3 (x.defs.map dJ.d),.sl 3 (x.tables.map vF.d),.sl 24 (x.clauses.map jD.d)]
section
variable {t:Tr jA}{cs:List zA}
theorem zgu{w:dH}(h:RD t w.d cs):∃v,cs=[.bool w.neg,v]/\oA t 1 (jC w.limbs) v:=by
 unfold dH.d at h;simp only[kI,zE,oE,aJ,cQ]at h;obtain⟨cl,rfl,c,r,rfl,rfl,c',r',rfl,⟨v,rfl,h⟩,rfl⟩:=h
 exact⟨v,rfl,h⟩
theorem zuq{f:gF}(h:RD t f.dd cs):∃u v,cs=[.bool f.n.neg,u,.bool f.d.neg,v]/\oA t 1 (jC f.n.limbs) u/\oA t 1 (jC f.d.limbs) v:=by
 unfold gF.dd at h;simp only[kI,zE,oE]at h;obtain⟨cl,rfl,c,r,rfl,h1,c',r',rfl,h2,rfl⟩:=h
 obtain⟨u,rfl,h3⟩:=zgu h1
 obtain⟨v,rfl,h4⟩:=zgu h2
 exact⟨u,v,rfl,h3,h4⟩
theorem zc1{v:aA}(h:RD t v.d cs):∃a b,cs=[.int .u8 v.kind,.bool v.f.n.neg,a,.bool v.f.d.neg,b,.int .i64 v.i]/\oA t 1 (jC v.f.n.limbs) a/\oA t 1 (jC v.f.d.limbs) b:=by
 unfold aA.d at h;simp only[kI,zE,oE,gL]at h;obtain⟨cl,rfl,c,r,rfl,rfl,c',r',rfl,h2,c'',r'',rfl,rfl,rfl⟩:=h
 obtain⟨a,b,rfl,h3,h4⟩:=zuq h2
 exact⟨a,b,rfl,h3,h4⟩
theorem cK{x:uA}(h:RD t x.d cs):∃a b c,cs=[.int .u8 x.op,.str x.name,.int .u8 x.v.kind,.bool x.v.f.n.neg,a,.bool x.v.f.d.neg,b,.int .i64 x.v.i,c] ∧
  oA t 1 (jC x.v.f.n.limbs) a/\oA t 1 (jC x.v.f.d.limbs) b/\oA t 9 (x.args.map uA.d) c:=by
 obtain⟨op,name,v,args⟩:=x
 unfold uA.d at h;rw[uA.ds_eq]at h;simp only[kI,zE,oE,gL,zN,aJ]at h;obtain⟨cl,rfl,c,r,rfl,rfl,c',r',rfl,rfl,c'',r'',rfl,hv,c3,r3,rfl,⟨w,rfl,h4⟩,rfl⟩:=h
 obtain⟨a,b,rfl,h5,h6⟩:=zc1 hv
 exact⟨a,b,w,rfl,h5,h6,h4⟩
theorem zod{r:uF}(h:RD t r.d cs):∃a b,cs=[.int .i64 r.a,.int .i64 r.b,.int .i64 r.known,.bool r.f.n.neg,a,.bool r.f.d.neg,b]/\oA t 1 (jC r.f.n.limbs) a/\oA t 1 (jC r.f.d.limbs) b:=by
 unfold uF.d at h;simp only[kI,zE,oE,gL]at h;obtain⟨cl,rfl,c,r,rfl,rfl,c',r',rfl,rfl,c'',r'',rfl,rfl,c3,r3,rfl,hf,rfl⟩:=h
 obtain⟨a,b,rfl,h3,h4⟩:=zuq hf
 exact⟨a,b,rfl,h3,h4⟩
theorem zbr{x:vF}(h:RD t x.d cs):∃a,cs=[.str x.name,.bool x.two,a]/\oA t 7 (x.rows.map uF.d) a:=by
 unfold vF.d at h;simp only[kI,zE,oE,zN,cQ,aJ]at h;obtain⟨cl,rfl,c,r,rfl,rfl,c',r',rfl,rfl,c'',r'',rfl,⟨a,rfl,h⟩,rfl⟩:=h
 exact⟨a,rfl,h⟩
theorem rd_def{x:dJ}(h:RD t x.d cs):cs=[.str x.name,.int .u8 x.kind,.bool x.fact]:=by
 unfold dJ.d at h;simp only[kI,zE,oE,zN,cQ,gL]at h;obtain⟨cl,rfl,c,r,rfl,rfl,c',r',rfl,rfl,c'',r'',rfl,rfl,rfl⟩:=h
 rfl
def mC(x:uA)(a b c:zA):List zA:=[.int .u8 x.op,.str x.name,.int .u8 x.v.kind,.bool x.v.f.n.neg,a,.bool x.v.f.d.neg,b,.int .i64 x.v.i,c]
theorem zc2{x:jD}(h:RD t x.d cs):∃a b c a' b' c',cs=[.str x.name,.str x.label,.int .i64 x.from_,.int .i64 x.to,.int .i64 x.known,.bool x.off]++mC x.when_ a b c++mC x.then_ a' b' c' ∧
  RD t x.when_.d (mC x.when_ a b c)/\RD t x.then_.d (mC x.then_ a' b' c'):=by
 unfold jD.d at h;simp only[kI,zE,oE,zN,cQ,gL]at h;obtain⟨cl,rfl,c1,r1,rfl,rfl,c2,r2,rfl,rfl,c3,r3,rfl,rfl,c4,r4,rfl,rfl,c5,r5,rfl,rfl,c6,r6,rfl,rfl,c7,r7,rfl,h7,c8,r8,rfl,h8,rfl⟩:=h
 obtain⟨a,b,c,e1,_⟩:=cK h7
 obtain⟨a',b',c',e2,_⟩:=cK h8
 subst e1 e2
 exact⟨a,b,c,a',b',c',rfl,h7,h8⟩
theorem oV{x:cH}(h:RD t x.d cs):∃a b c,cs=[.str x.name,a,b,c]/\oA t 3 (x.defs.map dJ.d) a/\oA t 3 (x.tables.map vF.d) b/\oA t 24 (x.clauses.map jD.d) c:=by
 unfold cH.d at h;simp only[kI,zE,oE,zN,aJ]at h;obtain⟨cl,rfl,c1,r1,rfl,rfl,c2,r2,rfl,⟨a,rfl,h1⟩,c3,r3,rfl,⟨b,rfl,h2⟩,c4,r4,rfl,⟨c,rfl,h3⟩,rfl⟩:=h
 exact⟨a,b,c,rfl,h1,h2,h3⟩
end
theorem dH.zs(x:dH):x.d.zs=[.bool false,.nilslice]:=rfl
theorem gF.zs(x:gF):x.dd.zs=[.bool false,.nilslice,.bool false,.nilslice]:=rfl
theorem aA.zs(x:aA):x.d.zs=[.int .u8 0,.bool false,.nilslice,.bool false,.nilslice,.int .i64 0]:=rfl
theorem uA.zs(x:uA):x.d.zs=[.int .u8 0,.str [],.int .u8 0,.bool false,.nilslice,.bool false,.nilslice,.int .i64 0,.nilslice]:=by cases x;rfl
theorem uF.zs(x:uF):x.d.zs=[.int .i64 0,.int .i64 0,.int .i64 0,.bool false,.nilslice,.bool false,.nilslice]:=rfl
theorem vF.zs(x:vF):x.d.zs=[.str [],.bool false,.nilslice]:=rfl
theorem jD.zs(x:jD):x.d.zs=[.str [],.str [],.int .i64 0,.int .i64 0,.int .i64 0,.bool false,.int .u8 0,.str [],.int .u8 0,.bool false,.nilslice,.bool false,.nilslice,.int .i64 0,.nilslice,.int .u8 0,.str [],.int .u8 0,.bool false,.nilslice,.bool false,.nilslice,.int .i64 0,.nilslice]:=by
 obtain⟨_,_,_,_,_,_,w,v⟩:=x;cases w;cases v;rfl
def nK(f:gF):Nat:=1+f.n.limbs.length+f.d.limbs.length
mutual
/-- the size, as it is counted up to a limit -/
def lJ:uA->Int->Int
 | .mk _ name v args,left=>xO args left (nK v.f+(name.length:Int) / 30)
def xO:List uA->Int->Int->Int
 | [],_,n=>n
 | x::l,left,n=>if n<=left then xO l left (n+lJ x (left-n))else n
end
def qC:Nat:=1125899906842624
def gF.ok(f:gF):Prop:=f.n.limbs.length<qC/\f.d.limbs.length<qC
mutual
def uA.ok:uA->Prop
 | .mk _ name v args=>name.length<qC/\v.f.ok/\args.length<qC/\uA.oks args
def uA.oks:List uA->Prop
 | []=>True
 | x::l=>x.ok/\uA.oks l
end
end Go.Am
namespace Go.Am
open Go Go.RowKit
theorem aT{f:gF}(h:f.ok):nK f<4503599627370496:=by
 unfold gF.ok qC at h;unfold nK;omega
mutual
theorem uV:∀(x:uA) (left:Int),x.ok->0<=lJ x left/\lJ x left<=max left 0+9007199254740992
 | .mk op name v args,left,h=>by
  unfold uA.ok at h;obtain⟨h1,h2,_,h4⟩:=h
  have hf:=aT h2
  unfold qC at h1;unfold lJ;have:=pW args left (nK v.f+(name.length:Int) / 30) h4 (by omega)
  omega
theorem pW:∀(l:List uA) (left n:Int),uA.oks l->0<=n->n<=xO l left n/\xO l left n<=max n (left+9007199254740992)
 | [],left,n,_,_=>by unfold xO;omega
 | x::l,left,n,h,hn=>by
  unfold uA.oks at h;unfold xO;split
  ·have h1:=uV x (left-n) h.1
   have h2:=pW l left (n+lJ x (left-n)) h.2 (by omega)
   omega
  ·omega
end
theorem mB{a b:Int}:(iB a b=true) ↔ a<b:=zdp a b
theorem xF{a b:Int}:(sC a b=true) ↔ a<=b:=zma a b
theorem kU{α:Type}{l:List α}{i:Nat}{x:α}{r:List α}(h:l.drop i=x::r):l[i]?=some x/\l.drop (i+1)=r/\i<l.length:=by
 have h1:(l.drop i)[0]?=some x:=by rw[h];rfl
 rw[ycf]at h1;have hi:i<l.length:=by
  rcases Nat.lt_or_ge i l.length with hl | hl
  ·exact hl
  ·rw[yau hl]at h;cases h
 refine⟨by simpa using h1,?_,hi⟩
 have:=List.drop_drop (l:=l) (i:=1) (j:=i)
 rw[h]at this;simpa[Nat.add_comm]using this.symm
theorem lU{α:Type}{l:List α}{i:Nat}(h:l.drop i=[]):l.length<=i:=by
 rcases Nat.lt_or_ge i l.length with hl | hl
 ·have:=congrArg List.length h;simp at this;omega
 ·exact hl
theorem mR(l:List Nat):(Int.ofNat (wB l))=(l.length:Int):=by rw[bD];rfl
theorem zkz(cs:List zA):zew true cs=.agg cs:=rfl
end Go.Am
namespace Go.Am
open Go Go.RowKit
def oC(k:IntKind)(l:List Nat):List D:=l.map fun(n:Nat)=>D.int k (n:Int)
theorem uI{k:IntKind}(l:List Nat):(oC k l).length=l.length:=by simp[oC]
theorem zxt{k:IntKind}{l:List Nat}{i x:Nat}(h:l[i]?=some x):(oC k l)[i]?=some (.int k (x:Int)):=by simp[oC,h]
theorem zf4{k:IntKind}{l:List Nat}{n:Nat}:(oC k l).take n=oC k (l.take n):=by simp[oC]
def tF (t:Tr jA)(b:Nat)(k:IntKind)(l:List Nat):Prop:=∃c,t.get b=some (.cells c l.length none)/\∀(j:Nat) x,l[j]?=some x->c.get j=some (.int k (x:Int))
def kD (b:Nat)(t t':Tr jA):Prop:=∀c,c≠b->t'.get c=t.get c
theorem kD.refl(b:Nat)(t:Tr jA):kD b t t:=fun _ _=>rfl
theorem kD.trans{b:Nat}{x y z:Tr jA}(h:kD b x y)(k:kD b y z):kD b x z:=fun c hc=>(k c hc).trans (h c hc)
section
variable {t t' t0:Tr jA}{C:iA}{b:Nat}{k:IntKind}{l:List Nat}
theorem tF.off(h:tF t b k l){c:Nat}(hc:b≠c)(ho:kD c t t'):tF t' b k l:=by
 obtain⟨x,h1,h2⟩:=h;exact⟨x,by rw[ho b hc];exact h1,h2⟩
theorem tF.tle(h:tF t b k l)(ho:cA t t'):tF t' b k l:=by
 obtain⟨x,h1,h2⟩:=h;exact⟨x,ho _ _ h1,h2⟩
theorem cA.off(h:cA t0 t)(hb:t0.get b=none)(ho:kD b t t'):cA t0 t':=by
 intro c y hc;rw[ho c (by intro e;rw[e,hb]at hc;cases hc)]
 exact h c y hc
theorem tF.slice(h:tF t b k l){off n cap:Nat}(hn:off+n<=l.length)(hc:n<=cap):oA t 1 (oC k ((l.drop off).take n)) (.slice b off n cap):=by
 obtain⟨c,h1,h2⟩:=h
 refine⟨((l.drop off).take n).map fun(x:Nat)=>[.int k (x:Int)],.inr ⟨b,off,cap,?_,?_,⟨c,_,none,h1,.inl rfl⟩,fun i cs hi=>?_⟩,?_⟩
 ·congr 1;simp;omega
 ·simp;omega
 ·simp only[yav,Option.map_eq_some_iff]at hi
  obtain⟨x,hx,rfl⟩:=hi
  refine⟨rfl,c,_,none,h1,fun j a hj=>?_⟩
  cases j with
  | zero=>
   simp at hj;subst hj;rw[ycg]at hx;split at hx
   ·rw[ycf]at hx
    exact h2 (off+i*1+0) x (by rw[show off+i*1+0=off+i by omega];exact hx)
   ·cases hx
  | succ j=>simp at hj
 ·refine kC.mk (by simp[oC]) fun i d cs hd hc=>?_
  simp only[oC,yav,Option.map_eq_some_iff]at hd hc;obtain⟨x,hx,rfl⟩:=hd
  obtain⟨y,hy,rfl⟩:=hc
  rw[hx]at hy;cases hy;rfl
theorem tF.all(h:tF t b k l){cap:Nat}(hc:l.length<=cap):oA t 1 (oC k l) (.slice b 0 l.length cap):=by
 have:=h.slice (off:=0) (n:=l.length) (by omega) hc
 simpa using this
theorem dL{T el sz:Nat}{agg:Bool}(h:jE C T el sz agg){off n cap i:Nat}(hi:i<n):zB C T (.slice b off n cap) (.int .i64 (i:Int))=some (.ptr b (off+i*sz)):=by
 obtain⟨⟨y,hy1,hy2⟩,⟨z,hz1,hz2,hz3⟩⟩:=h
 unfold zB;rw[hy1,sA];have:(zA.int .i64 (i:Int)).asNat=some i:=rfl
 rw[this,sA];simp only[zA.asSlice];rw[hy2,sA,hz1,sA,lC.2 hi,hz2];rfl
theorem tF.load(h:tF t b k l){j x:Nat}(hj:l[j]?=some x){ty:Nat}{y:vD}(hy:C.tys.get ty=some y)(ha:y.desc.isAgg=false):mA C ty ⟨0,t⟩ (.ptr b j)=some (.int k (x:Int)):=by
 obtain⟨c,h1,h2⟩:=h
 unfold mA;simp only[zA.asPtr,sA];rw[hy,sA];unfold nD;rw[h1,sA];simp only[jA.asCells,sA];unfold oN;rw[ha,cond_false];exact h2 j x hj
theorem tF.store(h:tF t b k l)(hb:C.base<=b){j:Nat}(hj:j<l.length)(x:Nat){ty:Nat}{y:vD}(hy:C.tys.get ty=some y)(hs:y.size=1) :
  ∃t',(∀n,xE C ty (.ptr b j) (.int k (x:Int)) ⟨n,t⟩=some (rE,⟨n,t'⟩))/\tF t' b k (l.set j x)/\kD b t t':=by
 obtain⟨c,h1,h2⟩:=h
 refine⟨t.set b (.cells (c.setMany [.int k (x:Int)] j) l.length none),fun n=>?_,⟨c.setMany [.int k (x:Int)] j,?_,fun i y hi=>?_⟩,fun d hd=>?_⟩
 ·unfold xE
  rw[hy,sA];simp only[zA.asPtr,sA,zA.cells,zA.asAgg];rw[hs];have e1:Nat.beq (wB [zA.int k (x:Int)]) 1=true:=rfl
  rw[e1,qF];unfold fK nD;have e2:(!Nat.blt b C.base)=true:=by
   cases hq:Nat.blt b C.base with
   | true=>have:=lC.1 hq;omega
   | false=>rfl
  rw[e2,qF,h1,sA];simp only[jA.asCells,sA];have e3:Nat.ble (j+wB [zA.int k (x:Int)]) l.length=true:=cE.2 hj
  have e4:bB zA.one [zA.int k (x:Int)]=true:=rfl
  rw[e3,e4];rfl
 ·rw[Tr.get_set,if_pos rfl,yci]
 ·rw[Tr.get_setMany]
  rw[ybx]at hi;split at hi
  ·rename_i e
   subst e;rw[if_pos (by simp)]
   cases hi;simp
  ·rename_i e
   rw[if_neg (by simp;omega)]
   exact h2 i y hi
 ·rw[Tr.get_set,if_neg hd]
theorem uU{T el:Nat}{y z:vD}(hT:C.tys.get T=some y)(hel:y.desc.asSlice=some el)(hz:C.tys.get el=some z)(hzero:z.zero=[.int k 0])(hs:z.size=1)(hby:z.bytes<=8){n:Nat}(hn:n<1000000)(hb:t.get b=none) :
  ∃t',sL C T (.int .i64 (n:Int)) (.int .i64 (n:Int)) ⟨b,t⟩=some (.slice b 0 n n,⟨b+1,t'⟩)/\tF t' b k (List.replicate n 0)/\cA t t'/\kD b t t':=by
 have hrep:∀n,rJ [zA.int k 0] n=List.replicate n (.int k 0):=by
  intro n;induction n with
  | zero=>rfl
  | succ n ih=>unfold rJ;rw[ih,eH,List.replicate_succ];rfl
 refine⟨t.set b (.cells (Tr.ofList (rJ z.zero n)) (wB (rJ z.zero n)) none),?_,⟨Tr.ofList (rJ z.zero n),?_,fun j x hj=>?_⟩,fun c y' hc=>?_,fun c hc=>?_⟩
 ·unfold sL
  rw[hT,sA,hel,sA,hz,sA];have e1:(zA.int .i64 (n:Int)).asNat=some n:=rfl
  rw[e1,sA,sA];have e2:(Nat.ble n n&&Nat.blt n 1000000&&Nat.blt (n*z.bytes) 1000000000&&Nat.beq (wB z.zero) z.size)=true:=by
   rw[hzero,hs,show Nat.ble n n=true from cE.2 (yal n),lC.2 hn]
   have:n*z.bytes<1000000000:=by
    have:=ycc (Nat.le_of_lt hn) hby
    omega
   rw[lC.2 this];rfl
  rw[e2,qF];rfl
 ·rw[Tr.get_set,if_pos rfl,hzero,hrep,bD];simp
 ·rw[List.getElem?_replicate]at hj
  split at hj
  ·cases hj
   rw[Tr.get_ofList,hzero,hrep,List.getElem?_replicate];rename_i e;rw[if_pos e];rfl
  ·cases hj
 ·rw[Tr.get_set,if_neg (by intro e;rw[e,hb]at hc;cases hc)];exact hc
 ·rw[Tr.get_set,if_neg hc]
end
end Go.Am
namespace Go.Am
def val (B:Nat):List Nat->Nat
 | []=>0
 | a::l=>a+B*val B l
def dB(B:Nat)(l:List Nat):Prop:=∀x∈l,x<B
def norm (l:List Nat):Prop:=∀h:l≠[],l.getLast h≠0
theorem bU(B:Nat):∀(l m:List Nat),val B (l++m)=val B l+B^l.length*val B m
 | [],m=>by simp[val]
 | a::l,m=>by
  simp only[List.cons_append,val,bU B l m,yao,Nat.pow_succ];rw[yan,<- yak,yai B (B^l.length)]
  omega
theorem uM{B:Nat}(hB:0<B):∀ {l:List Nat},dB B l->val B l<B^l.length
 | [],_=>by simp[val]
 | a::l,h=>by
  have h1:=h a (yaz)
  have h2:=uM hB (l:=l) fun x hx=>h x (yas _ hx)
  simp only[val,yao,Nat.pow_succ];have h3:B*(val B l+1)<=B*B^l.length:=yaw B h2
  rw[yan,yai B (B^l.length)]at h3
  omega
theorem jT(B:Nat)(l:List Nat)(n:Nat):val B l=val B (l.take n)+B^(l.take n).length*val B (l.drop n):=by
 rw[<- bU,List.take_append_drop]
theorem bR{B:Nat}{l:List Nat}(h:dB B l)(n:Nat):dB B (l.take n):=fun x hx=>h x (List.mem_of_mem_take hx)
theorem zrs{B:Nat}{l:List Nat}(h:dB B l)(n:Nat):dB B (l.drop n):=fun x hx=>h x (List.mem_of_mem_drop hx)
theorem zyf{B:Nat}{l m:List Nat}(h:dB B l)(k:dB B m):dB B (l++m):=fun x hx=>(List.mem_append.1 hx).elim (h x) (k x)
def nF:List Nat->List Nat
 | []=>[]
 | a::l=>if nF l=[]/\a=0 then []else a::nF l
theorem dP(B:Nat):∀l:List Nat,val B (nF l)=val B l
 | []=>rfl
 | a::l=>by
  unfold nF;have ih:=dP B l
  split
  ·rename_i h
   rw[h.1]at ih;have:val B l=0:=by rw[<- ih];rfl
   simp[val,this,h.2]
  ·simp[val,ih]
theorem nR:∀l:List Nat,norm (nF l)
 | []=>fun h=>(h rfl).elim
 | a::l=>by
  have ih:=nR l
  unfold nF;split
  ·exact fun h=>(h rfl).elim
  ·rename_i h
   intro hne;by_cases hs:nF l=[]
   ·have ha:a≠0:=fun e=>h ⟨hs,e⟩
    simp[hs,ha]
   ·rw[List.getLast_cons hs];exact ih hs
theorem aR{B:Nat}:∀ {l:List Nat},dB B l->dB B (nF l)
 | [],h=>h
 | a::l,h=>by
  have ih:=aR (l:=l) fun x hx=>h x (yas _ hx)
  unfold nF;split
  ·exact fun x hx=>(by cases hx)
  ·exact fun x hx=>(yat.1 hx).elim (fun e=>e ▸ h a yaz) (ih x)
theorem zij:∀l:List Nat,(nF l).length<=l.length
 | []=>yal _
 | a::l=>by unfold nF;have:=zij l;split<;>simp<;>omega
theorem zan:∀l:List Nat,nF (l++[0])=nF l
 | []=>by simp[nF]
 | a::l=>by
  show(if nF (l++[0])=[]/\a=0 then []else a::nF (l++[0]))=_
  rw[zan l];rfl
theorem sW:∀ {l:List Nat},norm l->nF l=l
 | [],_=>rfl
 | a::l,h=>by
  have hl:norm l:=by
   intro hne;have:=h (by simp)
   rw[List.getLast_cons hne]at this;exact this
  unfold nF;rw[sW hl];split
  ·rename_i e
   have:=h (by simp)
   obtain⟨rfl,rfl⟩:=e
   simp at this
  ·rfl
theorem zlz{B:Nat}(hB:0<B){l:List Nat}(h:norm l)(h0:val B l=0):l=[]:=by
 have key:∀l:List Nat,val B l=0->∀x∈l,x=0:=by
  intro l;induction l with
  | nil=>intro _ x hx;cases hx
  | cons a l ih=>
   intro h x hx;simp only[val]at h;have ha:a=0:=by omega
   have hm:B*val B l=0:=by omega
   have hl:val B l=0:=by
    rcases Nat.mul_eq_zero.1 hm with e | e
    ·omega
    ·exact e
   rcases yat.1 hx with rfl | hx
   ·exact ha
   ·exact ih hl x hx
 rcases List.eq_nil_or_concat l with e | ⟨m,a,e⟩
 ·exact e
 ·exfalso
  subst e;have:=h (by simp)
  simp at this;exact this (key _ h0 a (by simp))
theorem zse{B:Nat}{l:List Nat}(h:norm l)(hne:l≠[]):B^(l.length-1)<=val B l:=by
 rcases List.eq_nil_or_concat l with e | ⟨m,a,e⟩
 ·exact absurd e hne
 ·rw[List.concat_eq_append]at e
  subst e;have:=h (by simp)
  simp at this;rw[bU];simp only[yah,yao,yay,val];have:1<=a+B*0:=by omega
  calc B^(m.length+1-1)=B^m.length*1:=by simp
   _<=B^m.length*(a+B*0):=yaw _ this
   _<=_:=Nat.le_add_left _ _
theorem zsd{B:Nat}(hB:0<B):∀ {l m:List Nat},dB B l->dB B m->l.length=m.length->val B l=val B m->l=m
 | [],[],_,_,_,_=>rfl
 | a::l,b::m,h1,h2,hl,hv=>by
  have ha:=h1 a yaz
  have hb:=h2 b yaz
  simp only[val]at hv;have e1:a=b:=by
   have:=congrArg (· % B) hv
   simp only[Nat.add_mul_mod_self_left,Nat.mod_eq_of_lt ha,Nat.mod_eq_of_lt hb]at this;exact this
  subst e1;have e2:val B l=val B m:=by
   have:B*val B l=B*val B m:=by omega
   exact Nat.eq_of_mul_eq_mul_left hB this
  rw[zsd hB (fun x hx=>h1 x (yas _ hx)) (fun x hx=>h2 x (yas _ hx)) (by simpa using hl) e2]
 | [],_::_,_,_,h,_=>by simp at h
 | _::_,[],_,_,h,_=>by simp at h
theorem zP{B:Nat}(hB:1<B){l m:List Nat}(h1:dB B l)(h3:norm m)(hv:val B m<=val B l):m.length<=l.length:=by
 by_cases hm:m=[]
 ·simp[hm]
 ·have a:=zse (B:=B) h3 hm
  have b:=uM (by omega) h1
  have:B^(m.length-1)<B^l.length:=by omega
  have:=(Nat.pow_lt_pow_iff_right hB).1 this
  omega
theorem z0g{B:Nat}(hB:1<B){l m:List Nat}(h1:dB B l)(h2:dB B m)(h3:norm l)(h4:norm m)(hv:val B l=val B m):l=m:=by
 have a:=zP hB h1 h4 (by omega)
 have b:=zP hB h2 h3 (by omega)
 exact zsd (by omega) h1 h2 (by omega) hv
def vK (a b:List Nat):Int:=if a.length≠b.length then(if a.length<b.length then -1 else 1)else go a b
where go:List Nat->List Nat->Int
 | a::l,b::m=>if go l m≠0 then go l m else if a<b then -1 else if b<a then 1 else 0
 | _,_=>0
theorem zxy{B:Nat}:∀ {a b:List Nat},dB B a->dB B b->a.length=b.length->(vK.go a b<0 ↔ val B a<val B b)/\(vK.go a b=0 ↔ val B a=val B b)
 | [],[],_,_,_=>by simp[vK.go,val]
 | a::l,b::m,h1,h2,hl=>by
  have ha:=h1 a yaz
  have hb:=h2 b yaz
  obtain⟨i1,i2⟩:=zxy (a:=l) (b:=m) (fun x hx=>h1 x (yas _ hx)) (fun x hx=>h2 x (yas _ hx)) (by simpa using hl)
  have lt_of:∀ {x y:Nat},x<y->∀u v,u<B->u+B*x<v+B*y:=by
   intro x y h u v hu;have:B*(x+1)<=B*y:=yaw B h
   rw[yan]at this;omega
  unfold vK.go;simp only[val];by_cases h0:vK.go l m=0
  ·have e:=i2.1 h0
   rw[if_neg (by simpa using h0),e]
   by_cases c1:a<b
   ·rw[if_pos c1];constructor<;>constructor<;>intro h<;>omega
   ·rw[if_neg c1]
    by_cases c2:b<a
    ·rw[if_pos c2];constructor<;>constructor<;>intro h<;>omega
    ·rw[if_neg c2];constructor<;>constructor<;>intro h<;>omega
  ·rw[if_pos h0]
   constructor
   ·rw[i1]
    constructor
    ·intro h;exact lt_of h a b ha
    ·intro h
     rcases Nat.lt_trichotomy (val B l) (val B m)with g | g | g
     ·exact g
     ·exact absurd (i2.2 g) h0
     ·have:=lt_of g b a hb;omega
   ·constructor
    ·intro h;exact absurd h h0
    ·intro h
     rcases Nat.lt_trichotomy (val B l) (val B m)with g | g | g
     ·have:=lt_of g a b ha;omega
     ·exact i2.2 g
     ·have:=lt_of g b a hb;omega
 | [],_::_,_,_,h=>by simp at h
 | _::_,[],_,_,h=>by simp at h
theorem zxx{B:Nat}(hB:1<B){a b:List Nat}(h1:dB B a)(h2:dB B b)(h3:norm a)(h4:norm b):vK a b<0 ↔ val B a<val B b:=by
 unfold vK;by_cases hl:a.length=b.length
 ·rw[if_neg (by simpa using hl)];exact(zxy h1 h2 hl).1
 ·rw[if_pos hl]
  by_cases hlt:a.length<b.length
  ·rw[if_pos hlt]
   refine⟨fun _=>?_,fun _=>by omega⟩
   rcases Nat.lt_or_ge (val B a) (val B b)with g | g
   ·exact g
   ·have:=zP hB h1 h4 g;omega
  ·rw[if_neg hlt]
   refine⟨fun h=>by omega,fun h=>?_⟩
   have:=zP hB h2 h3 (by omega);omega
end Go.Am
namespace Go.Am
open Go Go.RowKit
theorem bF{n:Int}(h1:0<=n)(h2:n<18446744073709551616):vA .u64 n=n:=by
 rw[qK];simp only[IntKind.wrap,IntKind.bits,IntKind.signed];simp;omega
theorem zR{n:Int}(h1:0<=n)(h2:n<4294967296):vA .u32 n=n:=by
 rw[qK];simp only[IntKind.wrap,IntKind.bits,IntKind.signed];simp;omega
theorem zyz{n:Int}(h1:0<=n)(h2:n<65536):vA .u16 n=n:=by
 rw[qK];simp only[IntKind.wrap,IntKind.bits,IntKind.signed];simp;omega
theorem zr8{n:Int}(h1:0<=n)(h2:n<256):vA .u8 n=n:=by
 rw[qK];simp only[IntKind.wrap,IntKind.bits,IntKind.signed];simp;omega
theorem uS(n:Int):vA .u64 n=n%18446744073709551616:=by
 rw[qK];simp only[IntKind.wrap,IntKind.bits,IntKind.signed];simp
theorem yN(n:Int):vA .u32 n=n%4294967296:=by
 rw[qK];simp only[IntKind.wrap,IntKind.bits,IntKind.signed];simp
theorem zr7(n:Int):vA .u16 n=n%65536:=by
 rw[qK];simp only[IntKind.wrap,IntKind.bits,IntKind.signed];simp
theorem pO{f:Nat->Nat->Nat}{k:IntKind}{x y:Nat}(h1:x<cG k)(h2:y<cG k):oH f k (x:Int) (y:Int)=some (.int k (f x y:Nat)):=by
 unfold oH;have e1:aK (x:Int)=some x:=rfl
 have e2:aK (y:Int)=some y:=rfl
 rw[e1,sA,e2,sA,lC.2 h1,lC.2 h2];rfl
theorem zhc{k:IntKind}{x y:Nat}(h0:0<y)(hw:vA k ((x / y:Nat):Int)=((x / y:Nat):Int)):z02 k (x:Int) (y:Int)=some (.int k ((x / y:Nat):Int)):=by
 unfold z02;have:wA (y:Int) 0=false:=by
  cases hq:wA (y:Int) 0 with
  | false=>rfl
  | true=>have:=(qQ _ _).1 hq;omega
 rw[this,cond_false,Int.tdiv_eq_ediv_of_nonneg (by omega)]
 rw[<- Int.natCast_ediv,hw]
theorem zby{k:IntKind}{x y:Nat}(h0:0<y):zrz k (x:Int) (y:Int)=some (.int k ((x%y:Nat):Int)):=by
 unfold zrz;have:wA (y:Int) 0=false:=by
  cases hq:wA (y:Int) 0 with
  | false=>rfl
  | true=>have:=(qQ _ _).1 hq;omega
 rw[this,cond_false,Int.tmod_eq_emod_of_nonneg (by omega),<- Int.natCast_emod]
theorem cD{a b:Int}:(wA a b=true) ↔ a=b:=qQ a b
theorem zI{a b:Int}:((!wA a b)=true) ↔ a≠b:=by rw[ybq,<- Bool.not_eq_true,cD]
theorem zbu{b:Bool}:((!b)=true) ↔ b=false:=by simp
theorem zcu{a b n:Nat}(h:b<2^n):Nat.lor (a*2^n) b=a*2^n+b:=by
 show a*2^n ||| b=_
 rw[<- Nat.shiftLeft_eq,<- Nat.shiftLeft_add_eq_or_of_lt h,Nat.shiftLeft_eq]
theorem or_low{a b n:Nat}(h:b<2^n)(ha:a%2^n=0):Nat.lor a b=a+b:=by
 obtain⟨c,hc⟩:=Nat.dvd_of_mod_eq_zero ha
 subst hc;rw[yai];exact zcu h
theorem oA.idx{t:Tr jA}{C:iA}{T el:Nat}(h:jE C T el 1 false){k:IntKind}{l:List Nat}{v:zA}(hr:oA t 1 (oC k l) v){i x:Nat}(hi:l[i]?=some x) :
  ∃b off,zB C T v (.int .i64 (i:Int))=some (.ptr b off)/\mA C el ⟨0,t⟩ (.ptr b off)=some (.int k (x:Int)):=by
 obtain⟨b,off,cs,h1,h2,_,_,h5⟩:=jE.at h (fun _=>rfl) hr (zxt hi)
 rw[gL]at h5;subst h5;exact⟨b,off,h1,h2⟩
theorem oO(x:Nat)(n:Nat):Int.fdiv (x:Int) (n:Int)=((x / n:Nat):Int):=by
 rw[Int.fdiv_eq_ediv_of_nonneg _ (by omega)];exact(Int.natCast_ediv x n).symm
theorem getElem?_of_lt{l:List Nat}{i:Nat}(h:i<l.length):∃x,l[i]?=some x:=⟨l[i],yae h⟩
theorem bI{B:Nat}{l:List Nat}(h:dB B l){i x:Nat}(hi:l[i]?=some x):x<B:=h x (ybw hi)
theorem zaf{l:List Nat}(h:l≠[]):∃m x,l=m++[x]:=by
 rcases List.eq_nil_or_concat l with e | ⟨m,a,e⟩
 ·exact absurd e h
 ·exact⟨m,a,by rw[e,List.concat_eq_append]⟩
end Go.Am
namespace Go.Am
open Go Go.RowKit Go.Proofs
theorem zv2{p:Oper}{t:Nat}{a:Operand}(h:ldOp p=some (t,a)):p.op=.load t a:=by
 unfold ldOp at h;split at h
 ·rename_i e;cases h;exact e
 ·cases h
theorem zhg{C:iA}{o:fC}{i:Nat}{tm:Tm}{H:qA}{t:Nat}{a:Operand}{d:Option Nat}{b off:Nat}{ty:vD}{cc:Tr zA × Nat × Option Nat}{v:zA}
  (ho:(match opO o i with | some p=>(ldOp p,yL p.guard,p.dst) | none=>(none,false,none))=(some (t,a),true,d)) (h1:ev a (.now tm)=some (.ptr b off)) (h2:C.tys.get t=some ty) (h3:nD H b=some cc) (h4:oN ty cc.1 off=some v) :
  goO C o i tm H=goO C o (i+1) (putA (qM o).n tm d v) H:=by
 refine zjx (v:=v) (H':=H) (d:=d) ?_
 unfold atO
 cases hp:opO o i with
 | none=>rw[hp]at ho;cases ho
 | some p=>
  rw[hp]at ho;simp only[Prod.mk.injEq]at ho;obtain⟨g1,g2,g3⟩:=ho
  rw[sA,g2,zv2 g1,z0l h1 h2 h3 h4,g3];rfl
theorem zhh{C:iA}{o:fC}{i:Nat}{tm:Tm}{H:qA}{t:Nat}{a b:Operand}{d:Option Nat}{v:zA}{op:BinOp}{f:Oper->Option (Nat × Operand × Operand)}(hf:∀p,f p=some (t,a,b)->∃u,p.op=.binOp op t a b u)
  (ho:(match opO o i with | some p=>(f p,yL p.guard,p.dst) | none=>(none,false,none))=(some (t,a,b),true,d)) (hv:zL op t a b C (.now tm) H=some v) :
  goO C o i tm H=goO C o (i+1) (putA (qM o).n tm d v) H:=by
 refine zjx (v:=v) (H':=H) (d:=d) ?_
 unfold atO
 cases hp:opO o i with
 | none=>rw[hp]at ho;cases ho
 | some p=>
  rw[hp]at ho;simp only[Prod.mk.injEq]at ho;obtain⟨g1,g2,g3⟩:=ho
  obtain⟨u,hu⟩:=hf p g1
  have:((bE p.op).f C (.now tm) H).asVal=some (v,H):=by
   rw[hu];exact zvz (l:=zL op t a b) rfl hv
  rw[sA,g2,this,g3];rfl
theorem zc6{t:Nat}{a b:Operand}(p:Oper)(h:z2z p=some (t,a,b)):∃u,p.op=.binOp .or t a b u:=by
 unfold z2z at h;split at h
 ·rename_i e;cases h;exact⟨_,e⟩
 ·cases h
theorem zqd{t:Nat}{a b:Operand}(p:Oper)(h:zzq p=some (t,a,b)):∃u,p.op=.binOp .shl t a b u:=by
 unfold zzq at h;split at h
 ·rename_i e;cases h;exact⟨_,e⟩
 ·cases h
theorem z2y{x y:Nat}(hx:x<18446744073709551616)(hy:y<18446744073709551616):oH Nat.lor .u64 (.ofNat x) (.ofNat y)=some (.int .u64 (.ofNat (Nat.lor x y))):=pO hx hy
theorem zga{x:Nat}(h:x<18446744073709551616):vA .u64 (.ofNat x)=.ofNat x:=bF (by show(0:Int)<=(x:Int);omega) (by show(x:Int)<_;omega)
section
variable {c:Tr zA}{n off cap:Nat}
theorem zvr{x:Nat}(hx:c.get off=some (.int .u32 (.ofNat x))):xK CL (l1 c n off cap 1)=l2 c n off cap 1 x:=by
 rw[z0x,zhg (l1_op1 c n off cap) (l1_ev1 c n off cap) wH (z58 c n off cap) (v:=.int .u32 (.ofNat x)) hx]
 rfl
theorem zvq{x:Nat}(hx:c.get (off+1)=some (.int .u32 (.ofNat x))):xK CL (l1 c n off cap 2)=l2 c n off cap 2 x:=by
 rw[z0w,zhg (l1_op2 c n off cap) (l1_ev2 c n off cap) wH (z57 c n off cap) (v:=.int .u32 (.ofNat x)) hx]
 rfl
theorem zero_or{x:Nat}(hx:x<4294967296):oH Nat.lor .u64 (vA .u64 (.ofNat 0*.ofNat 4294967296)) (vA .u64 (.ofNat x))=some (.int .u64 (.ofNat x)):=by
 have e:vA .u64 (.ofNat 0*.ofNat 4294967296)=.ofNat 0:=by decide
 rw[e,zga (by omega),z2y (by decide) (by omega)]
 show some (zA.int .u64 (.ofNat (0 ||| x)))=_
 rw[Nat.zero_or]
theorem zvp{x:Nat}(hx:x<4294967296):xK CL (l3 c n off cap 1 x)=l4 c n off cap 1 x x:=by
 rw[z0v,zhh (op:=.or) (f:=z2z) zc6 (l3_op1 c n off cap x) (v:=.int .u64 (.ofNat x)) (by rw[l3_or1];exact zero_or hx)]
 rfl
theorem zvo{x:Nat}(hx:x<4294967296):xK CL (l3 c n off cap 2 x)=l4 c n off cap 2 x x:=by
 rw[z0u,zhh (op:=.or) (f:=z2z) zc6 (l3_op2 c n off cap x) (v:=.int .u64 (.ofNat x)) (by rw[l3_or2];exact zero_or hx)]
 rfl
theorem zqv{y z x:Nat}(hx:c.get off=some (.int .u32 (.ofNat x))):xK CL (l5 c n off cap y z)=l6 c n off cap y z x:=by
 rw[z56,zhg (l5_op c n off cap y z) (l5_ev c n off cap y z) wH (l5_blk c n off cap y z) (v:=.int .u32 (.ofNat x)) hx]
 rfl
theorem zvt{y z x:Nat}(hz:z<4294967296)(hx:x<4294967296):xK CL (l7 c n off cap y z x)=l8 c n off cap y z x (z*4294967296) x (z*4294967296+x):=by
 have hb:∀(p q:Operand) (u v:Nat),(wL .or).f CL 56 p q (.int .u64 (.ofNat u)) (.int .u64 (.ofNat v))=oH Nat.lor .u64 (.ofNat u) (.ofNat v):=fun _ _ _ _=>rfl
 have hs:∀(p q:Operand) (u:Nat),(wL .shl).f CL 56 p q (.int .u64 (.ofNat u)) (.int .u64 32)=zq3 .u64 (.ofNat u) 32:=fun _ _ _=>rfl
 have hw:vA .u64 (.ofNat z*.ofNat (2^32))=.ofNat (z*4294967296):=by
  rw[show(Int.ofNat z*Int.ofNat (2^32))=Int.ofNat (z*4294967296) from rfl,zga (by omega)]
 rw[zzg (z0t c n off cap y z x),zjx (l7_0 c n off cap y z x)]
 show goO CL _ 1 (tA c n off cap y z x) _=_
 rw[zhh (op:=.shl) (f:=zzq) zqd (l7_opS c n off cap y z x) (v:=.int .u64 (.ofNat (z*4294967296))) (by
  unfold zL;rw[l7_evS,sA,show ev (.const (.int .u64 32)) (.now (tA c n off cap y z x))=some (.int .u64 32) from rfl,sA,hs]
  unfold zq3 qS;rw[show aK 32=some 32 from rfl,sA,show min 32 IntKind.u64.bits=32 from rfl,sA,hw])]
 show goO CL _ 2 (tB c n off cap y z x (z*4294967296)) _=_
 rw[zjx (l7_2 c n off cap y z x (z*4294967296))]
 show goO CL _ 3 (tC c n off cap y z x (z*4294967296)) _=_
 have h3:=l7_3 c n off cap y z x (z*4294967296)
 rw[zga (by omega:x<18446744073709551616)]at h3
 rw[zjx h3];show goO CL _ 4 (tD c n off cap y z x (z*4294967296) x) _=_
 rw[zhh (op:=.or) (f:=z2z) zc6 (l7_op c n off cap y z x) (v:=.int .u64 (.ofNat (z*4294967296+x))) (by
  unfold zL;rw[l7_ev9,sA,z55,sA,hb,z2y (by omega) (by omega),show(4294967296:Nat)=2^32 from rfl,zcu (by omega)])]
 rfl
end
def muL (i:Option BI):Mu:=⟨fun g=>if g<256 then some ⟨g,true,0,0,true⟩else if g=256 then i else none,fun _=>none⟩
theorem z6n{w:World}{c:Tr zA}{n:Nat}{i:Option BI}(hi:∀j,i=some j->j.b<w.heap.size/\∃o,w.heap[j.b]?=some o/\iH (muL i) j (.cells c n none) o):oB 257 w.heap.size (muL i) (HL c n) w:=by
 have hget:∀a x,(HL c n).t.get a=some x->a=256/\x=.cells c n none:=by
  intro a x hx;have hx:(Tr.set .leaf 256 (.cells c n none)).get a=some x:=hx
  rw[Tr.get_set]at hx;split at hx
  ·rename_i e;exact⟨e,(ybj hx).symm⟩
  ·rw[Tr.get_leaf]at hx;cases hx
 have h256:(muL i) 256=i:=by show(if 256<256 then some (⟨256,true,0,0,true⟩:BI)else if 256=256 then i else none)=i;rw[if_neg (by omega),if_pos rfl]
 refine⟨by omega,fun g hg=>by show(if g<256 then some (⟨g,true,0,0,true⟩:BI)else if g=256 then i else none)=_;rw[if_pos hg],fun a x j _ hx hj=>?_,yal _,yal _,fun a ha=>?_,fun a x j hx hj=>?_,fun a j ha hj=>?_,fun a b x y j k hx _ _ _ ha _ _=>?_,fun a x t ha=>by cases ha⟩
 ·obtain⟨rfl,rfl⟩:=hget a x hx
  rw[h256]at hj;exact⟨(hi j hj).1,rfl,rfl⟩
 ·have ha:257<=a:=ha
  refine⟨by show(if a<256 then some (⟨a,true,0,0,true⟩:BI)else if a=256 then i else none)=none;rw[if_neg (by omega),if_neg (by omega)],?_⟩
  cases hx:(HL c n).t.get a with
  | none=>rfl
  | some x=>have:=(hget a x hx).1;omega
 ·obtain⟨rfl,rfl⟩:=hget a x hx
  rw[h256]at hj;exact(hi j hj).2
 ·have hj:(if a<256 then some ⟨a,true,0,0,true⟩else if a=256 then i else none)=some j:=hj
  rw[if_neg (by omega),if_neg (by omega)]at hj
  cases hj
 ·have:=(hget a x hx).1;omega
theorem simL(N:Nat):Sim Tryz.prog CL 257 N (fun _=>True):=
 ⟨zsp rfl,zo8 rfl,fun f g hg=>by(have hg:Tr.leaf.get f=some g:=hg;rw[Tr.get_leaf]at hg;cases hg),yal _,by kernel_rfl,fun _ _ _ h=>h⟩
theorem zt3{P:Program}{C:iA}{B N:Nat}{μ:Mu}{w:World}{base:List Frame}(hF:zh1 P C){f:Nat}{args:List zA}{args':Array Value}{H:qA}(hH:oB B N μ H w)(hl:qB μ args args'.toList){g:xC}(he:vJ C f args false=some g) :
  qD P C B N μ base (lone (Frame.enter P f args' .normal) base w) w (zQ C f args H):=by
 unfold zQ;rw[he];exact⟨μ,_,[],w,.refl _ _,fun _ _ h=>h,Below.refl N w,hH,(eV (cur:=some H) hF he hl).1,.nil⟩
theorem bT{P:Program}{C:iA}{B N:Nat}{I:World->Prop}{μ:Mu}{w:World}{base:List Frame}{m:Machine}(hS:Sim P C B N I)(hI:I w):∀(n:Nat) {o:fC},qD P C B N μ base m w o->qD P C B N μ base m w (zim C n o)
 | 0,_,h=>h
 | n+1,_,h=>tR hS hI (bT hS hI n h)
theorem z64(a:zA):∃g,vJ CL 318 [a] false=some g:=by
 have:(vJ CL 318 [a] false).isSome=true:=by kernel_rfl
 exact Option.isSome_iff_exists.1 this
theorem zd3{w:World}{i:Option BI}{c:Tr zA}{n:Nat}(hH:oB 257 w.heap.size (muL i) (HL c n) w){a:zA}{a':Value}(hl:rA (muL i) a a'){u:Nat}{o:fC}
  (hrun:∀base m,qD Tryz.prog CL 257 w.heap.size (muL i) base m w (zQ CL 318 [a] (HL c n))->qD Tryz.prog CL 257 w.heap.size (muL i) base m w o) (ho:zlo o=some (.int .u64 (.ofNat u))) :
  Calls Tryz.prog 318 #[a'] w fun e w'=>e=.returned (.int .u64 (.ofNat u))/\Below w.heap.size w w':=by
 intro base;obtain⟨g,he⟩:=z64 a
 have h0:=hrun base _ (zt3 (base:=base) (simL w.heap.size).fns hH (args' := #[a']) (.single hl) he)
 obtain⟨H',hd⟩:=zqi ho
 rw[hd]at h0;obtain⟨μ',b,w',v',h2,h3,h4,h5,h6,h7,h8⟩:=h0
 rw[rA]at h6;subst h6;exact⟨_,w',b,⟨rfl,h4⟩,h2,h7,h8⟩
theorem yV{a:zA}{x:Nat}(h:zk5 a=some x):a=.int .u32 (.ofNat x)/\x<4294967296:=by
 unfold zk5 at h;simp only[lA,lB,cM,iJ,beq_iff_eq,lC]at h;obtain⟨p,rfl,h1,y,h2,h3,h4⟩:=h
 cases h4;rw[gW]at h2;rw[h1,h2];exact⟨rfl,h3⟩
theorem zuy{B N:Nat}{μ:Mu}{H:qA}{w:World}{args:List zA}{args':Array Value}{v:zA}(hH:oB B N μ H w)(hv:zu5 args H=some v)(hl:qB μ args args'.toList) :
  (callFunc 318 args').run Tryz.prog w=.ok (.enter 318 args') w/\Calls Tryz.prog 318 args' w fun e w'=>∃v',e=.returned v'/\rA μ v v'/\Below w.heap.size w w':=by
 refine⟨zf2 (fn:=Tryz.f318) Tryz.func318 (by kernel_rfl),?_⟩
 have aC:∀ {a':Value} {u:Nat},args' = #[a']->v=.int .u64 (.ofNat u)->(Calls Tryz.prog 318 #[a'] w fun e w'=>e=.returned (.int .u64 (.ofNat u))/\Below w.heap.size w w') →
   Calls Tryz.prog 318 args' w fun e w'=>∃v',e=.returned v'/\rA μ v v'/\Below w.heap.size w w':=by
  intro a' u e1 e2 h;rw[e1];exact h.mono fun e w' ⟨h1,h2⟩=>⟨_,h1,by rw[e2,rA],h2⟩
 unfold zu5 at hv;split at hv
 case h_2=>cases hv
 rename_i a;rw[qB]at hl;obtain⟨x,r,he,hx,hr⟩:=hl
 rw[qB]at hr;subst hr;have hargs:args' = #[x]:=by apply Array.toList_inj.1;simpa using he
 cases hs:a.asSlice with
 | none=>
  rw[hs]at hv;rw[lB,zC]at hv;obtain⟨h1,h2⟩:=hv
  cases h2;have ha:a=.nilslice:=fO.2.1.1 h1
  subst ha;rw[rA]at hx;subst hx;refine aC (u:=0) hargs rfl (zd3 (i:=none) (c:=.leaf) (n:=0) (z6n fun j hj=>by cases hj) (a:=.nilslice) (by rw[rA]) (fun base m h=>qV (simL _) trivial 6 h) (longN .leaf 0))
 | some s=>
  rw[hs]at hv;obtain⟨sb,off,len,cap⟩:=s
  have ha:=yT.1 hs
  simp only at ha
  subst ha;simp only[iC]at hv;split at hv
  case isFalse=>cases hv
  rename_i hlen;have hlen:=lC.1 hlen
  simp only[lA]at hv;obtain⟨cc,hcc,l,hm,hv⟩:=hv
  rw[rA]at hx;rcases hx with⟨j,cap',hj,rfl,_,_,_⟩ | ⟨k1,k3,k4,A,rc,rfl,k2⟩
  rotate_left
  ·rw[k3]at hm
   cases hm
   cases hv;exact aC (u:=0) hargs rfl (zd3 (i:=none) (c:=.leaf) (n:=0) (z6n fun j hj=>by cases hj) (a:=.slice 0 1 0 0) (by rw[rA];exact .inr ⟨rfl,rfl,rfl,A,rc,rfl,.inr rfl⟩) (fun base m h=>qV (simL _) trivial 6 h) (longE .leaf 0))
  obtain⟨o,ho1,ho2⟩:=hH.blk _ _ j (zW hcc) hj
  obtain⟨cs,elem,fr,rfl,hn,_,hc,_⟩:=ho2
  obtain⟨hl1,hl2⟩:=Tr.many_some _ _ _ _ hm
  have hget:∀k,(Tr.setMany l .leaf off).get k=if off<=k/\k<off+l.length then l[k-off]? else none:=fun k=>by rw[Tr.get_setMany,Tr.get_leaf]
  have ints:∀a∈l,∃x:Nat,a=.int .u32 (.ofNat x):=by
   intro a ha;match l,hv,ha with
   | [],_,ha=>cases ha
   | [b],hv,ha=>
    simp only[zl4,lA]at hv;obtain⟨y,hy,_⟩:=hv
    simp at ha;subst ha;exact⟨y,(yV hy).1⟩
   | [b,d],hv,ha=>
    simp only[zl4,lA]at hv;obtain⟨y,hy,z,hz,_⟩:=hv
    simp at ha;rcases ha with rfl | rfl
    ·exact⟨y,(yV hy).1⟩
    ·exact⟨z,(yV hz).1⟩
  have hrel:oB 257 w.heap.size (muL (some ⟨j.b,true,0,0,true⟩)) (HL (Tr.setMany l .leaf off) cs.size) w:=by
   refine z6n fun q hq=>?_
   cases hq;refine⟨(yaf.1 ho1).1,_,ho1,cs,elem,fr,rfl,yal _,.inl rfl,fun k u hu=>?_,rfl⟩
   rw[hget]at hu;split at hu
   case isFalse=>cases hu
   rename_i hk;have h1:=hl2 (k-off) (by omega)
   rw[show off+(k-off)=k by omega,hu]at h1
   obtain⟨g1,v',g2,g3⟩:=hc k u h1
   obtain⟨y,rfl⟩:=ints u (ybw hu)
   rw[rA]at g3;exact⟨by omega,v',g2,by rw[rA];exact g3⟩
  have hvr:rA (muL (some ⟨j.b,true,0,0,true⟩)) (.slice 256 off len cap') (.slice (some ⟨j.b,off,none⟩) len cap'):=by
   rw[rA];exact .inl ⟨⟨j.b,true,0,0,true⟩,cap',rfl,rfl,yal _,fun _=>rfl,fun h=>by cases h⟩
  have hS:=simL w.heap.size
  match l,hv,hl1,hl2,hget,hrel with
  | [],hv,hl1,_,_,hrel=>
   have:len=0:=by simpa using hl1.symm
   subst this
   cases hv;exact aC (u:=0) hargs rfl (zd3 hrel hvr (fun base m h=>qV hS trivial 6 h) (long0 _ _ _ _))
  | [a],hv,hl1,hl2,hget,hrel=>
   have:len=1:=by simpa using hl1.symm
   subst this;simp only[zl4,lA]at hv;obtain⟨y,hy,hv⟩:=hv
   cases hv;obtain⟨rfl,hlt⟩:=yV hy
   have g0:(Tr.setMany [zA.int .u32 (.ofNat y)] .leaf off).get off=some (.int .u32 (.ofNat y)):=by rw[hget,if_pos (by simp)];simp
   refine aC (u:=y) hargs rfl (zd3 hrel hvr (o:=zn5 CL 6 (l4 (Tr.setMany [zA.int .u32 (.ofNat y)] .leaf off) cs.size off cap' 1 y y)) (fun base m h=>?_) (l4_end _ _ _ _ _ _))
   refine qV hS trivial 6 ?_
   rw[<- zvp hlt];refine tR hS trivial (bT hS trivial 3 ?_)
   rw[<- zvr g0];exact tR hS trivial (bT hS trivial 17 h)
  | [a,b],hv,hl1,hl2,hget,hrel=>
   have:len=2:=by simpa using hl1.symm
   subst this;simp only[zl4,lA]at hv;obtain⟨y,hy,z,hz,hv⟩:=hv
   cases hv;obtain⟨rfl,hlt⟩:=yV hy
   obtain⟨rfl,hlt2⟩:=yV hz
   have g0:(Tr.setMany [zA.int .u32 (.ofNat y),zA.int .u32 (.ofNat z)] .leaf off).get off=some (.int .u32 (.ofNat y)):=by rw[hget,if_pos (by simp)];simp
   have g1:(Tr.setMany [zA.int .u32 (.ofNat y),zA.int .u32 (.ofNat z)] .leaf off).get (off+1)=some (.int .u32 (.ofNat z)):=by rw[hget,if_pos (by simp)];simp
   refine aC (u:=z*4294967296+y) hargs (by rw[show y+4294967296*z=z*4294967296+y by omega]) (zd3 hrel hvr (o:=zn5 CL 6 (l8 (Tr.setMany [zA.int .u32 (.ofNat y),zA.int .u32 (.ofNat z)] .leaf off) cs.size off cap' z z y (z*4294967296) y (z*4294967296+y))) (fun base m h=>?_) (l8_end _ _ _ _ _ _ _ _ _ _))
   refine qV hS trivial 6 ?_
   rw[<- zvt hlt2 hlt];refine tR hS trivial (bT hS trivial 3 ?_)
   rw[<- zqv g0];refine tR hS trivial (bT hS trivial 12 ?_)
   rw[<- zvo hlt2];refine tR hS trivial (bT hS trivial 3 ?_)
   rw[<- zvq g1];exact tR hS trivial (bT hS trivial 17 h)
end Go.Am
namespace Go.Am
open Go Go.RowKit Go.Proofs
theorem zql[dC](B N:Nat):zec Tryz.prog yA B N aI:=by
 intro f g hg args H v hv μ w args' hH hI hl;have hg:zux.get f=some g:=hg
 unfold zux at hg;rw[Tr.get_set,Tr.get_set,Tr.get_set,Tr.get_set]at hg;split at hg
 ·rename_i e;subst e;cases hg;exact .inr (zuz hI hv hl)
 ·split at hg
  ·rename_i e;subst e;cases hg;exact .inr (zz4 hI hv hl)
  ·split at hg
   ·rename_i e;subst e;cases hg;exact .inr (zuy hH hv hl)
   ·split at hg
    ·rename_i e
     subst e
     cases hg;refine .inr ⟨zf2 (fn:=Tryz.f14) Tryz.func14 (by kernel_rfl),?_⟩
     unfold z5g at hv;split at hv
     case h_2=>cases hv
     cases hv;rw[qB]at hl;have:args' = #[]:=by apply Array.toList_inj.1;simpa using hl
     subst this;exact(zm2 hI).mono fun e w' ⟨h1,h2⟩=>⟨_,h1,by rw[rA],h2⟩
    ·rw[Tr.get_leaf]at hg;cases hg
theorem sim19[dC](hN:6<=dC.n):Sim Tryz.prog yA (256+dC.n) dC.n aI:=
 ⟨zsp rfl,zo8 rfl,zql _ _,yal _,by kernel_rfl,fun _ _ hb h=>h.below hN hb⟩
end Go.Am
