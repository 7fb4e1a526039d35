/- Seat 19: types, functions, variables, what the library's functions are worth; awake. -/
import Derived.ProofKit
import Derived.Test.YthmbkdkibhffbaaGreatDoorD08
import Derived.Test.YthmbkdkibhffbaaGreatDoorD09
set_option linter.all false
noncomputable section
set_option maxRecDepth 100000
namespace Go.Am
open Go Go.RowKit Go.Proofs
theorem zrf:allT (fun t ty=>match tyOf Tryz.prog t with | some u=>eqTy u ty | none=>false) tys (fun n=>n)=true:=by kernel_rfl
theorem zre{C:iA}(hC:C.tys=tys):fF Tryz.prog C:=by
 intro t ty h;rw[hC]at h;have:=z50 tys _ zrf t ty h
 cases hu:tyOf Tryz.prog t with
 | none=>rw[hu]at this;cases this
 | some u=>rw[hu]at this;rw[z5h this]
theorem zkm : (Tryz.funcs.toList.all fun fn => !(fn.name == "runtime.NumGoroutine")) = true := by kernel_rfl
theorem znv{C:iA}(hC:C.fns=fns):zgv Tryz.prog C:=by
 intro f fn h;rw[hC]at h;unfold fns at h;rw[Tr.get_ofList]at h;have h2:Tryz.prog.funcs[f]?=some fn:=by
  show Tryz.funcs[f]?=some fn
  simpa using h
 refine⟨h2,?_⟩
 have:=ybc.1 zkm fn (ybw h)
 simpa using this
def eK:List (List UInt8):=bT.map fun l=>l.map fun n=>n.toUInt8
def u64s (l:List Int):List Value:=l.map fun n=>.int .u64 n
theorem zl3{μ:Mu}:∀l:List Int,qB μ (l.map fun n=>zA.int .u64 n) (u64s l)
 | []=>.nil
 | b::l=>.cons (by rw[sA]) (zl3 l)
structure mI (w:World):Prop where
 kinds:∃t,w.heap[0]?=some (.cells (zql eK).toArray t (0,0))
 most:∃m,w.cell? ⟨2,0,none⟩=some (.int .i64 m)
 pow:∃t,w.heap[5]?=some (.cells (u64s oP).toArray t (0,0))
theorem mI.size{w:World}(h:mI w):6<=w.heap.size:=by
 obtain⟨t,h⟩:=h.pow
 have:=(yaf.1 h).1
 omega
theorem mI.below{w w':World}{N:Nat}(hN:6<=N)(h:mI w)(hb:Below N w w'):mI w':=by
 refine⟨?_,?_,?_⟩
 ·obtain⟨t,h⟩:=h.kinds;exact⟨t,by rw[hb.block 0 (by omega)];exact h⟩
 ·obtain⟨m,h⟩:=h.most;exact⟨m,by rw[hb.cell (p:=⟨2,0,none⟩) (by show 2<N;omega)];exact h⟩
 ·obtain⟨t,h⟩:=h.pow;exact⟨t,by rw[hb.block 5 (by omega)];exact h⟩
theorem mI.tab {w : World} (h : mI w) : Lib.TabIs Tryz.prog w "internal/strconv.uint64pow10" .u64 Lib.pow10Tab := by
 obtain⟨t,h⟩:=h.pow
 have hg : Tryz.prog.globalNamed "internal/strconv.uint64pow10" = some 5 := by kernel_rfl
 unfold Lib.TabIs World.var?
 rw[hg];simp only[Option.bind_some,h];rfl
theorem zhc:(eK.map fun b=>zA.str (b.map UInt8.toNat))=bT.map zA.str:=by
 have h:((eK.map fun b=>b.map UInt8.toNat) == bT)=true:=by kernel_rfl
 have h:=eq_of_beq h
 rw[<- h,List.map_map];rfl
theorem hrel19{w:World}(h:mI w):pB 256 w.heap.size mu0 H19 w:=by
 have hget:∀a x,H19.t.get a=some x->(a=0/\x=.cells (Tr.ofList (bT.map zA.str)) (uB (bT.map zA.str)) none)\/(a=5/\x=.cells (Tr.ofList (oP.map fun n=>zA.int .u64 n)) (uB (oP.map fun n=>zA.int .u64 n)) none):=by
  intro a x hx;have hx:(glob 0 (bT.map zA.str) (glob 5 (oP.map fun n=>.int .u64 n) .leaf)).get a=some x:=hx
  unfold glob at hx;rw[Tr.get_set,Tr.get_set]at hx;split at hx
  ·rename_i e;exact .inl ⟨e,(ybj hx).symm⟩
  ·split at hx
   ·rename_i e;exact .inr ⟨e,(ybj hx).symm⟩
   ·rw[Tr.get_leaf]at hx;cases hx
 have hsz:=h.size
 refine⟨yal _,fun g hg=>by simp[mu0,hg],fun a x i _ hx hi=>?_,yal _,yal _,fun a ha=>?_,fun a x i hx hi=>?_,fun a i ha hi=>?_,fun a b x y i j hx _ _ _ ha _ _=>?_,fun a x t ha=>by cases ha⟩
 ·rcases hget a x hx with⟨rfl,rfl⟩ | ⟨rfl,rfl⟩<;>cases hi<;>exact⟨Nat.lt_of_lt_of_le (by decide) hsz,rfl,rfl⟩
 ·have ha:256<=a:=ha
  refine⟨by simp[mu0];omega,?_⟩
  cases hx:H19.t.get a with
  | none=>rfl
  | some x=>rcases hget a x hx with⟨rfl,_⟩ | ⟨rfl,_⟩<;>omega
 ·rcases hget a x hx with⟨rfl,rfl⟩ | ⟨rfl,rfl⟩
  ·obtain⟨t,h⟩:=h.kinds
   cases hi;exact⟨_,h,by rw[<- zhc];exact ziz (zmi eK) t⟩
  ·obtain⟨t,h⟩:=h.pow
   cases hi;exact⟨_,h,ziz (zl3 oP) t⟩
 ·simp[mu0]at hi;omega
 ·rcases hget a x hx with⟨rfl,_⟩ | ⟨rfl,_⟩<;>omega
theorem zT{s:ByteArray}{l:List Nat}(h:uE s=l):s.data.toList.map UInt8.toNat=l:=h
theorem zeu{f:Nat}{fn:Func}(hf:Tryz.funcs[f]?=some fn)(hb:fn.body.isSome=true){args:Array Value}{w:World}:(callFunc f args).run Tryz.prog w=.ok (.enter f args) w:=
 mX (C:=C19w) (znv rfl) (show fns.get f=some fn by unfold fns;rw[Tr.get_ofList];simpa using hf) hb
section
variable {B N:Nat}{μ:Mu}{H:rA}{w:World}{args:List zA}{args':Array Value}{v:zA}
theorem zfc{a b:zA}(h:qB μ [a,b] args'.toList):∃x y,args' = #[x,y]/\sA μ a x/\sA μ b y:=by
 rw[qB]at h;obtain⟨x,r,h1,h2,h3⟩:=h
 rw[qB]at h3;obtain⟨y,r',h4,h5,h6⟩:=h3
 rw[qB]at h6;subst h4 h6
 exact⟨x,y,by apply Array.toList_inj.1;simpa using h1,h2,h5⟩
theorem zpd(hv:bY args H=some v)(hl:qB μ args args'.toList) :
  (callFunc 343 args').run Tryz.prog w=.ok (.enter 343 args') w/\Calls Tryz.prog 343 args' w fun e w'=>∃v',e=.returned v'/\sA μ v v'/\Below w.heap.size w w':=by
 refine⟨zeu (fn:=Tryz.f343) Tryz.func343 (by kernel_rfl),?_⟩
 unfold bY at hv;split at hv
 case h_2=>cases hv
 rename_i s c;rw[mB,pC]at hv;obtain⟨hc,hv⟩:=hv
 cases hv;obtain⟨x,y,rfl,hx,hy⟩:=zfc hl
 simp only[sA]at hx hy;obtain⟨s',rfl,hs⟩:=hx
 subst hy;refine(Tryz.stringslite_IndexByte s' (Int.ofNat c) w).mono fun e w' ⟨he,hw⟩=>?_
 subst hw;refine⟨_,he,?_,Below.refl _ _⟩
 have hcc:(c.toUInt8).toNat=c:=by simp[Nat.toUInt8,UInt8.toNat_ofNat'];omega
 have:=zno c.toUInt8 s'.data.toList
 rw[hcc,zT hs]at this;rw[sA];show Value.int .i64 (Lib.indexByte s'.data.toList c.toUInt8)=_
 rw[<- this];done
theorem zft(hI:mI w)(hv:zb9 args H=some v)(hl:qB μ args args'.toList) :
  (callFunc 242 args').run Tryz.prog w=.ok (.enter 242 args') w/\Calls Tryz.prog 242 args' w fun e w'=>∃v',e=.returned v'/\sA μ v v'/\Below w.heap.size w w':=by
 refine⟨zeu (fn:=Tryz.f242) Tryz.func242 (by kernel_rfl),?_⟩
 unfold zb9 at hv;split at hv
 case h_2=>cases hv
 rename_i s c;rw[mB,pC,xE]at hv;obtain⟨hlen,hv⟩:=hv
 cases hv;obtain⟨x,y,rfl,hx,hy⟩:=zfc hl
 rw[sA]at hx hy;obtain⟨s',rfl,hs⟩:=hx
 obtain⟨c',rfl,hc⟩:=hy
 obtain⟨m,hm⟩:=hI.most
 have hsz:s'.size<4294967281:=by
  have:=congrArg List.length (zT hs)
  simp at this;omega
 refine(Tryz.strings_Contains s' c' m w hsz hm).mono fun e w' ⟨he,hw⟩=>?_
 subst hw;refine⟨_,he,?_,Below.refl _ _⟩
 have:=zcy c'.data.toList s'.data.toList
 rw[zT hs,zT hc]at this;rw[sA,this]
theorem zyk(hI:mI w)(hv:pCut args H=some v)(hl:qB μ args args'.toList) :
  (callFunc 238 args').run Tryz.prog w=.ok (.enter 238 args') w/\Calls Tryz.prog 238 args' w fun e w'=>∃v',e=.returned v'/\sA μ v v'/\Below w.heap.size w w':=by
 refine⟨zeu (fn:=Tryz.f238) Tryz.func238 (by kernel_rfl),?_⟩
 unfold pCut at hv;split at hv
 case h_2=>cases hv
 rename_i s c;rw[mB,pC,xE]at hv;obtain⟨hlen,hv⟩:=hv
 obtain⟨x,y,rfl,hx,hy⟩:=zfc hl
 rw[sA]at hx hy;obtain⟨s',rfl,hs⟩:=hx
 obtain⟨c',rfl,hc⟩:=hy
 obtain⟨m,hm⟩:=hI.most
 have hsz:s'.size<4294967281:=by
  have:=congrArg List.length (zT hs)
  simp at this;omega
 refine(Tryz.strings_Cut s' c' m w hsz hm).mono fun e w' ⟨he,n,hw⟩=>?_
 subst hw;have hb:Below w.heap.size w (w.drewN n):=⟨rfl,rfl,rfl,yal _,fun _ _=>rfl⟩
 refine⟨_,he,?_,hb⟩
 have hcut:=z2j c'.data.toList s'.data.toList
 rw[zT hs,zT hc]at hcut
 cases hx:zz6 c s with
 | none=>
  rw[hx]at hcut hv
  cases hv;have hcut:Lib.index s'.data.toList c'.data.toList = -1:=hcut
  have e:Lib.cut s'.data.toList c'.data.toList=(s'.data.toList,[],false):=by unfold Lib.cut;rw[hcut];rfl
  rw[e,sA];exact⟨_,rfl,.cons (by rw[sA];exact⟨_,rfl,by rw[<- hs]⟩) (.cons (by rw[sA];exact⟨_,rfl,by simp[uE]⟩) (.single (by rw[sA])))⟩
 | some p=>
  rw[hx]at hcut hv
  cases hv;obtain⟨a,b,rfl,h1,h2,h3⟩:=hcut
  have e:Lib.cut s'.data.toList c'.data.toList=(a,b,true):=by unfold Lib.cut;rw[if_pos h1,h2,h3]
  rw[e,sA];exact⟨_,rfl,.cons (by rw[sA];exact⟨_,rfl,by simp[uE]⟩) (.cons (by rw[sA];exact⟨_,rfl,by simp[uE]⟩) (.single (by rw[sA])))⟩
theorem zth(hI:mI w)(hv:ztp args H=some v)(hl:qB μ args args'.toList) :
  (callFunc 291 args').run Tryz.prog w=.ok (.enter 291 args') w/\Calls Tryz.prog 291 args' w fun e w'=>∃v',e=.returned v'/\sA μ v v'/\Below w.heap.size w w':=by
 refine⟨zeu (fn:=Tryz.f291) Tryz.func291 (by kernel_rfl),?_⟩
 unfold ztp at hv;split at hv
 case h_2=>cases hv
 rename_i n;rw[mB,yac]at hv;obtain⟨⟨h1,h2⟩,hv⟩:=hv
 cases hv;rw[qB]at hl;obtain⟨x,r,he,hx,hr⟩:=hl
 rw[qB]at hr;rw[sA]at hx;subst hr hx
 have:args' = #[.int .i64 n]:=by apply Array.toList_inj.1;simpa using he
 subst this;have g1 : -9223372036854775808<=n:=(zkv _ _).1 h1
 have g2:n<9223372036854775808:=(zcp _ _).1 h2
 refine(Tryz.strconv_Itoa n g1 (by omega) w hI.tab).mono fun e w' ⟨he,k,os,hw⟩=>?_
 subst hw;refine⟨_,he,by rw[sA];exact⟨_,rfl,rfl⟩,⟨rfl,rfl,rfl,?_,fun j hj=>?_⟩⟩
 ·simp[Sort.grow,World.drewN]
 ·show(w.heap++os)[j]?=w.heap[j]?
  rw[Array.getElem?_append_left hj]
end
theorem zkd(N:Nat):zdd Tryz.prog C19w 256 N mI:=by
 intro f g hg args H v hv μ w args' _ hI hl;have hg:zfs.get f=some g:=hg
 unfold zfs at hg;rw[Tr.get_set,Tr.get_set]at hg;split at hg
 ·rename_i e;subst e;cases hg;exact .inr (zft hI hv hl)
 ·split at hg
  ·rename_i e;subst e;cases hg;exact .inr (zpd hv hl)
  ·rw[Tr.get_leaf]at hg;cases hg
theorem sim19w(N:Nat)(hN:6<=N):Sim Tryz.prog C19w 256 N mI:=
 ⟨zre rfl,znv rfl,zkd N,yal _,by kernel_rfl,fun _ _ hb h=>h.below hN hb⟩
theorem zjt{C:iA}{f n:Nat}{args:List zA}{args':Array Value}{w:World}(hw:mI w)(hS:Sim Tryz.prog C 256 w.heap.size mI)(hroot:C.root=f)(hl:qB mu0 args args'.toList)
  (h:dC (zms C n (qP C f args H19))=1):Calls Tryz.prog f args' w fun e w'=>e=.returned (.bool true)/\Below w.heap.size w w':=by
 obtain⟨H',hr⟩:=z5a h
 unfold qP at hr;have stuck:∀(n k:Nat),zms C n (.fail k)=.fail k:=by
  intro n;induction n with
  | zero=>intro k;rfl
  | succ n ih=>
   intro k;show zms C n (zms C n (.fail k))=_
   rw[ih,ih]
 cases he:fI C f args false with
 | none=>
  rw[he]at hr;rw[stuck]at hr
  cases hr
 | some g=>
  rw[he]at hr;refine(zi1 hS hw hroot (hrel19 hw) hl he hr).mono fun e w' ⟨v',μ',h1,_,h3,_,h5⟩=>?_
  rw[sA]at h3;exact⟨by rw[h1,h3],h5⟩
theorem zlo{w:World}(hw:mI w):Calls Tryz.prog 14 #[] w fun e w'=>e=.returned (.bool true)/\Below w.heap.size w w':=
 zjt hw (sim19w _ hw.size) rfl .nil zwp
end Go.Am
namespace Go.Am
open Go Go.RowKit Go.Proofs
def zhh(C:iA)(n:Nat)(o:eC):eC:=Nat.rec (motive:=fun _=>eC) o (fun _ g=>jJ C g) n
def todoO:eC->List iD | .next s=>s.fr.todo | _=>[]
def tmO:eC->Tm | .next s=>s.fr.tm | _=>⟨0,.leaf,[]⟩
def yM:eC->rI | .next s=>s.fr.R | _=>⟨0,0,[],.run,false,none⟩
def csO:eC->List xC | .next s=>s.cs | _=>[]
def gI:eC->rA | .next s=>s.H | _=>⟨0,.leaf⟩
def z5p:Code->Array Oper | .seq (.region _ ops _) _=>ops | .region _ ops _=>ops | _ => #[]
def zz8:Code->List iD | .seq _ b=>[.code b] | _=>[]
def z3w (o:eC):Array Oper:=match todoO o with | .code c::_=>z5p c | _ => #[]
def restO(o:eC):List iD:=match todoO o with | .code c::k=>jF (zz8 c) k | _=>[]
def goO (C:iA)(o:eC)(i:Nat)(tm:Tm)(H:rA):eC:=pP C (z3w o) (restO o) (yM o) (csO o) (vK (z3w o).toList i) tm H
def opO (o:eC)(i:Nat):Option Oper:=nD (z3w o).toList i
def zov (C:iA)(o:eC)(i:Nat):Tm:=
 List.rec (motive:=fun _=>Tm->Tm) (fun tm=>tm) (fun p _ g tm=>g (match ((rF p.op).f C (.now tm) (gI o)).asVal with | some q=>putA (yM o).n tm p.dst q.1 | none=>tm)) (pO (z3w o).toList i) (tmO o).cut
theorem z44{C:iA}{o:eC}{i:Nat}{p:Oper}{tm:Tm}{H H':rA}{v:zA}(ho:opO o i=some p)(hg:p.guard=none)(hv:((rF p.op).f C (.now tm) H).asVal=some (v,H')) :
  goO C o i tm H=goO C o (i+1) (putA (yM o).n tm p.dst v) H':=by
 have hd:vK (z3w o).toList i=p::vK (z3w o).toList (i+1):=by
  unfold opO at ho;rw[dD]at ho;rw[lO,lO];have hlt:=(yad.1 ho).1
  rw[yam hlt];congr 1
  exact(yad.1 ho).2
 unfold goO;rw[hd,eY];have hw:gE p.guard (z3w o) tm=some true:=by rw[hg];rfl
 rw[hw];simp only[hv]
theorem zy3{C:iA}{e:xD}{H:rA}{t:Nat}{a:Operand}{b off:Nat}{ty:wD}{c:Tr zA × Nat × Option Nat}{v:zA}(h1:ev a e=some (.ptr b off))(h2:C.tys.get t=some ty)(h3:oD H b=some c)(h4:cM ty c.1 off=some v) :
  ((rF (.load t a)).f C e H).asVal=some (v,H):=by
 show(lv (bM t a) C e H).asVal=_
 unfold lv bM;rw[h1,uA,show(zA.ptr b off).asPtr=some (b,off) from rfl,uA,h2,uA,h3,uA,h4]
 rfl
theorem zug{C:iA}{e:xD}{H:rA}{o:Op}{l:LOp}(ha:(rF o).f=lv l){v:zA}(h:l C e H=some v):((rF o).f C e H).asVal=some (v,H):=by
 rw[ha];unfold lv;rw[h];rfl
def atO (C:iA)(o:eC)(i:Nat)(tm:Tm)(H:rA):Option (zA × rA × Option Nat):=
 ob (opO o i) fun p=>sB (fK p.guard) (ob ((rF p.op).f C (.now tm) H).asVal fun q=>some (q.1,q.2,p.dst))
theorem zil{C:iA}{o:eC}{i:Nat}{tm:Tm}{H H':rA}{v:zA}{d:Option Nat}(h:atO C o i tm H=some (v,H',d)):goO C o i tm H=goO C o (i+1) (putA (yM o).n tm d v) H':=by
 unfold atO at h;simp only[mA,mB]at h;obtain⟨p,h1,h2,q,h3,h4⟩:=h
 cases h4;have hg:p.guard=none:=by cases hx:p.guard with | none=>rfl | some x=>rw[hx]at h2;cases h2
 exact z44 h1 hg h3
def z1b:Code->Bool | .region _ _ false=>true | .seq (.region _ _ false) _=>true | _=>false
def z09:List iD->Bool | .code c::_=>z1b c | _=>false
def z1a:eC->Bool | .next s=>bif s.fr.R.mode.running then z09 s.fr.todo else false | _=>false
theorem zej{α:Type}(l:List α):vK l 0=l:=by rw[lO];rfl
theorem zxv{C:iA}{o:eC}(h:z1a o=true):jJ C o=goO C o 0 (tmO o).cut (gI o):=by
 cases o with
 | next s=>
  obtain⟨⟨todo,tm,R⟩,cs,H⟩:=s
  have h:(bif R.mode.running then z09 todo else false)=true:=h
  rw[jC]at h;split at h
  case isFalse=>cases h
  rename_i hr;show(bif R.mode.running then zgj C todo tm R cs H else zbo C ⟨todo,tm,R⟩ cs H)=_
  rw[hr,cond_true]
  cases todo with
  | nil=>cases h
  | cons x k=>
   cases x with
   | code c=>
    have h:z1b c=true:=h
    cases c with
    | region id ops d=>
     cases d with
     | true=>cases h
     | false=>unfold goO;rw[zej];rfl
    | seq a b=>
     cases a with
     | region id ops d=>
      cases d with
      | true=>cases h
      | false=>unfold goO;rw[zej];rfl
     | _=>cases h
    | _=>cases h
   | _=>cases h
 | _=>cases h
def CL:iA:=⟨fns,ks,tys,plans,.leaf,257,318⟩
def HL (c:Tr zA)(n:Nat):rA:=⟨257,Tr.set .leaf 256 (.cells c n none)⟩
def zj9:eC->Option zA | .done v _=>some v | _=>none
theorem zo9{o:eC}{v:zA}(h:zj9 o=some v):∃H,o=.done v H:=by
 cases o with
 | done u H=>cases h;exact⟨H,rfl⟩
 | _=>cases h
section
variable (c:Tr zA)(n off cap:Nat)
theorem long0:zj9 (zms CL 6 (qP CL 318 [.slice 256 off 0 cap] (HL c n)))=some (.int .u64 0):=by kernel_rfl
theorem longN:zj9 (zms CL 6 (qP CL 318 [.nilslice] (HL c n)))=some (.int .u64 0):=by kernel_rfl
theorem longE:zj9 (zms CL 6 (qP CL 318 [.slice 0 0 0 0] (HL c n)))=some (.int .u64 0):=by kernel_rfl
def l1 (len:Nat):eC:=zhh CL 17 (qP CL 318 [.slice 256 off len cap] (HL c n))
theorem zzg:jJ CL (l1 c n off cap 1)=goO CL (l1 c n off cap 1) 4 (zov CL (l1 c n off cap 1) 4) (gI (l1 c n off cap 1)):=by kernel_rfl
theorem zzf:jJ CL (l1 c n off cap 2)=goO CL (l1 c n off cap 2) 4 (zov CL (l1 c n off cap 2) 4) (gI (l1 c n off cap 2)):=by kernel_rfl
def ldOp:Oper->Option (Nat × Operand):=fun o=>match o.op with | .load t a=>some (t,a) | _=>none
theorem l1_op1:(match opO (l1 c n off cap 1) 4 with | some p=>(ldOp p,fK p.guard,p.dst) | none=>(none,false,none))=(some (328,.tmp 14),true,some 15):=by kernel_rfl
theorem l1_ev1:ev (.tmp 14) (.now (zov CL (l1 c n off cap 1) 4))=some (.ptr 256 (off+0*1)):=by kernel_rfl
theorem l1_ev2:ev (.tmp 14) (.now (zov CL (l1 c n off cap 2) 4))=some (.ptr 256 (off+1*1)):=by kernel_rfl
theorem z4m:oD (gI (l1 c n off cap 1)) 256=some (c,n,none):=by kernel_rfl
theorem z4l:oD (gI (l1 c n off cap 2)) 256=some (c,n,none):=by kernel_rfl
theorem l1_op2:(match opO (l1 c n off cap 2) 4 with | some p=>(ldOp p,fK p.guard,p.dst) | none=>(none,false,none))=(some (328,.tmp 14),true,some 15):=by kernel_rfl
def l2 (len x:Nat):eC:=goO CL (l1 c n off cap len) 5 (putA (yM (l1 c n off cap len)).n (zov CL (l1 c n off cap len) 4) (some 15) (.int .u32 (.ofNat x))) (gI (l1 c n off cap len))
def l3 (len x:Nat):eC:=zhh CL 3 (l2 c n off cap len x)
theorem zze(x:Nat):jJ CL (l3 c n off cap 1 x)=goO CL (l3 c n off cap 1 x) 4 (zov CL (l3 c n off cap 1 x) 4) (gI (l3 c n off cap 1 x)):=by kernel_rfl
theorem zzd(x:Nat):jJ CL (l3 c n off cap 2 x)=goO CL (l3 c n off cap 2 x) 4 (zov CL (l3 c n off cap 2 x) 4) (gI (l3 c n off cap 2 x)):=by kernel_rfl
def z1h:Oper->Option (Nat × Operand × Operand):=fun o=>match o.op with | .binOp .or t a b _=>some (t,a,b) | _=>none
theorem l3_op1(x:Nat):(match opO (l3 c n off cap 1 x) 4 with | some p=>(z1h p,fK p.guard,p.dst) | none=>(none,false,none))=(some (56,.tmp 9,.tmp 11),true,some 12):=by kernel_rfl
theorem l3_op2(x:Nat):(match opO (l3 c n off cap 2 x) 4 with | some p=>(z1h p,fK p.guard,p.dst) | none=>(none,false,none))=(some (56,.tmp 9,.tmp 11),true,some 12):=by kernel_rfl
theorem l3_or1(x:Nat):gK .or 56 (.tmp 9) (.tmp 11) CL (.now (zov CL (l3 c n off cap 1 x) 4)) (gI (l3 c n off cap 1 x))=qH Nat.lor .u64 (vA .u64 (.ofNat 0*.ofNat 4294967296)) (vA .u64 (.ofNat x)):=by kernel_rfl
theorem l3_or2(x:Nat):gK .or 56 (.tmp 9) (.tmp 11) CL (.now (zov CL (l3 c n off cap 2 x) 4)) (gI (l3 c n off cap 2 x))=qH Nat.lor .u64 (vA .u64 (.ofNat 0*.ofNat 4294967296)) (vA .u64 (.ofNat x)):=by kernel_rfl
def l4 (len x z:Nat):eC:=goO CL (l3 c n off cap len x) 5 (putA (yM (l3 c n off cap len x)).n (zov CL (l3 c n off cap len x) 4) (some 12) (.int .u64 (.ofNat z))) (gI (l3 c n off cap len x))
theorem l4_end(x z:Nat):zj9 (zms CL 6 (l4 c n off cap 1 x z))=some (.int .u64 (.ofNat z)):=by kernel_rfl
def l5 (y z:Nat):eC:=zhh CL 12 (l4 c n off cap 2 y z)
theorem z4k(y z:Nat):jJ CL (l5 c n off cap y z)=goO CL (l5 c n off cap y z) 4 (zov CL (l5 c n off cap y z) 4) (gI (l5 c n off cap y z)):=by kernel_rfl
theorem l5_op(y z:Nat):(match opO (l5 c n off cap y z) 4 with | some p=>(ldOp p,fK p.guard,p.dst) | none=>(none,false,none))=(some (328,.tmp 14),true,some 15):=by kernel_rfl
theorem l5_ev(y z:Nat):ev (.tmp 14) (.now (zov CL (l5 c n off cap y z) 4))=some (.ptr 256 (off+0*1)):=by kernel_rfl
theorem l5_blk(y z:Nat):oD (gI (l5 c n off cap y z)) 256=some (c,n,none):=by kernel_rfl
def l6 (y z x:Nat):eC:=goO CL (l5 c n off cap y z) 5 (putA (yM (l5 c n off cap y z)).n (zov CL (l5 c n off cap y z) 4) (some 15) (.int .u32 (.ofNat x))) (gI (l5 c n off cap y z))
def l7 (y z x:Nat):eC:=zhh CL 3 (l6 c n off cap y z x)
theorem zzc(y z x:Nat):z1a (l7 c n off cap y z x)=true:=by kernel_rfl
def zx8:Oper->Option (Nat × Operand × Operand):=fun o=>match o.op with | .binOp .shl t a k _=>some (t,a,k) | _=>none
def tA (y z x:Nat):Tm:=putA (yM (l7 c n off cap y z x)).n (tmO (l7 c n off cap y z x)).cut (some 8) (.int .u64 (.ofNat z))
theorem l7_0(y z x:Nat):atO CL (l7 c n off cap y z x) 0 (tmO (l7 c n off cap y z x)).cut (gI (l7 c n off cap y z x))=some (.int .u64 (.ofNat z),gI (l7 c n off cap y z x),some 8):=by kernel_rfl
theorem l7_opS(y z x:Nat):(match opO (l7 c n off cap y z x) 1 with | some p=>(zx8 p,fK p.guard,p.dst) | none=>(none,false,none))=(some (56,.tmp 8,.const (.int .u64 32)),true,some 9):=by kernel_rfl
theorem l7_evS(y z x:Nat):ev (.tmp 8) (.now (tA c n off cap y z x))=some (.int .u64 (.ofNat z)):=by kernel_rfl
def tB (y z x s:Nat):Tm:=putA (yM (l7 c n off cap y z x)).n (tA c n off cap y z x) (some 9) (.int .u64 (.ofNat s))
theorem l7_2(y z x s:Nat):atO CL (l7 c n off cap y z x) 2 (tB c n off cap y z x s) (gI (l7 c n off cap y z x))=some (.int .u32 (.ofNat x),gI (l7 c n off cap y z x),some 10):=by kernel_rfl
def tC (y z x s:Nat):Tm:=putA (yM (l7 c n off cap y z x)).n (tB c n off cap y z x s) (some 10) (.int .u32 (.ofNat x))
theorem l7_3(y z x s:Nat):atO CL (l7 c n off cap y z x) 3 (tC c n off cap y z x s) (gI (l7 c n off cap y z x))=some (.int .u64 (vA .u64 (.ofNat x)),gI (l7 c n off cap y z x),some 11):=by kernel_rfl
def tD (y z x s x':Nat):Tm:=putA (yM (l7 c n off cap y z x)).n (tC c n off cap y z x s) (some 11) (.int .u64 (.ofNat x'))
theorem l7_op(y z x:Nat):(match opO (l7 c n off cap y z x) 4 with | some p=>(z1h p,fK p.guard,p.dst) | none=>(none,false,none))=(some (56,.tmp 9,.tmp 11),true,some 12):=by kernel_rfl
theorem l7_ev9(y z x s x':Nat):ev (.tmp 9) (.now (tD c n off cap y z x s x'))=some (.int .u64 (.ofNat s)):=by kernel_rfl
theorem z4j(y z x s x':Nat):ev (.tmp 11) (.now (tD c n off cap y z x s x'))=some (.int .u64 (.ofNat x')):=by kernel_rfl
def l8 (y z x s x' u:Nat):eC:=goO CL (l7 c n off cap y z x) 5 (putA (yM (l7 c n off cap y z x)).n (tD c n off cap y z x s x') (some 12) (.int .u64 (.ofNat u))) (gI (l7 c n off cap y z x))
theorem l8_end(y z x s x' u:Nat):zj9 (zms CL 6 (l8 c n off cap y z x s x' u))=some (.int .u64 (.ofNat u)):=by kernel_rfl
theorem aG:CL.tys.get 328=some ⟨.int .u32,1,4,[.int .u32 0],true⟩:=by kernel_rfl
end
end Go.Am
namespace Go.Am
open Go Go.RowKit
@[simp] theorem fE {α:Type} {x:Option α}:sB true x=x:=rfl
inductive D where
 | int (k:IntKind) (n:Int)
 | bool (b:Bool)
 | str (s:List Nat)
 | sl (sz:Nat) (l:List D)
 | st (l:List D)
def At (t:Tr lA)(b off:Nat)(cs:List zA):Prop:=∃c n lo,t.get b=some (.cells c n lo)/\∀(j:Nat) a,cs[j]?=some a->c.get (off+j)=some a
def oG(t:Tr lA)(sz:Nat)(v:zA)(cl:List (List zA)):Prop:=
 (v=.nilslice/\cl=[])\/∃b off cap,v=.slice b off cl.length cap/\cl.length<=cap/\(∃c n lo,t.get b=some (.cells c n lo)/\(lo=none\/lo=some sz))/\∀(i:Nat) cs,cl[i]?=some cs->cs.length=sz/\At t b (off+i*sz) cs
mutual
/-- cells read as data -/
def RD (t:Tr lA):D->List zA->Prop
 | .int k n,cs=>cs=[.int k n]
 | .bool b,cs=>cs=[.bool b]
 | .str s,cs=>cs=[.str s]
 | .sl sz l,cs=>∃a cl,cs=[a]/\oG t sz a cl/\fC t l cl
 | .st l,cs=>∃cl,cs=cl.flatten/\fC t l cl
def fC (t:Tr lA):List D->List (List zA)->Prop
 | [],cl=>cl=[]
 | d::l,cl=>∃c r,cl=c::r/\RD t d c/\fC t l r
end
def dA (t t':Tr lA):Prop:=∀b y,t.get b=some y->t'.get b=some y
theorem dA.refl(t:Tr lA):dA t t:=fun _ _ h=>h
theorem dA.trans{a b c:Tr lA}(h:dA a b)(k:dA b c):dA a c:=fun x y e=>k x y (h x y e)
section
variable {t t':Tr lA}{C:iA}
theorem At.mono(h:dA t t'){b off:Nat}{cs:List zA}(k:At t b off cs):At t' b off cs:=by
 obtain⟨c,n,lo,h1,h2⟩:=k;exact⟨c,n,lo,h _ _ h1,h2⟩
theorem oG.mono(h:dA t t'){sz:Nat}{v:zA}{cl:List (List zA)}(k:oG t sz v cl):oG t' sz v cl:=by
 rcases k with k | ⟨b,off,cap,h1,h3,⟨c,n,lo,h4,h5⟩,h2⟩
 ·exact .inl k
 ·exact .inr ⟨b,off,cap,h1,h3,⟨c,n,lo,h _ _ h4,h5⟩,fun i cs hi=>⟨(h2 i cs hi).1,(h2 i cs hi).2.mono h⟩⟩
mutual
theorem RD.mono(h:dA t t'):∀(d:D) (cs:List zA),RD t d cs->RD t' d cs
 | .int _ _,_,k=>k
 | .bool _,_,k=>k
 | .str _,_,k=>k
 | .sl _ l,_,⟨a,cl,h1,h2,h3⟩=>⟨a,cl,h1,h2.mono h,fC.mono h l cl h3⟩
 | .st l,_,⟨cl,h1,h2⟩=>⟨cl,h1,fC.mono h l cl h2⟩
theorem fC.mono(h:dA t t'):∀(l:List D) (cl:List (List zA)),fC t l cl->fC t' l cl
 | [],_,k=>k
 | d::l,_,⟨c,r,h1,h2,h3⟩=>⟨c,r,h1,RD.mono h d c h2,fC.mono h l r h3⟩
end
theorem fC.length:∀ {l:List D} {cl:List (List zA)},fC t l cl->cl.length=l.length:=by
 intro l;induction l with
 | nil=>intro cl h;rw[fC]at h;simp[h]
 | cons d l ih=>intro cl h;rw[fC]at h;obtain⟨c,r,rfl,_,h3⟩:=h;simp[ih h3]
theorem fC.get:∀ {l:List D} {cl:List (List zA)} {i:Nat} {d:D},fC t l cl->l[i]?=some d->∃cs,cl[i]?=some cs/\RD t d cs:=by
 intro l;induction l with
 | nil=>intro cl i d _ h;simp at h
 | cons e l ih=>
  intro cl i d h hi;rw[fC]at h;obtain⟨c,r,rfl,h2,h3⟩:=h
  cases i with
  | zero=>simp at hi;subst hi;exact⟨c,by simp,h2⟩
  | succ i=>simp at hi;obtain⟨cs,h4,h5⟩:=ih h3 hi;exact⟨cs,by simpa using h4,h5⟩
theorem fC.mk:∀ {l:List D} {cl:List (List zA)},cl.length=l.length->(∀(i:Nat) d cs,l[i]?=some d->cl[i]?=some cs->RD t d cs)->fC t l cl:=by
 intro l;induction l with
 | nil=>intro cl h _;rw[fC];simpa using h
 | cons e l ih=>
  intro cl h k
  cases cl with
  | nil=>simp at h
  | cons c r=>
   rw[fC];exact⟨c,r,rfl,k 0 e c (by simp) (by simp),ih (by simpa using h) fun i d cs h1 h2=>k (i+1) d cs (by simpa using h1) (by simpa using h2)⟩
@[simp] theorem bK {k:IntKind} {n:Int} {cs:List zA}:RD t (.int k n) cs ↔ cs=[.int k n]:=Iff.rfl
@[simp] theorem cP {b:Bool} {cs:List zA}:RD t (.bool b) cs ↔ cs=[.bool b]:=Iff.rfl
@[simp] theorem rN {s:List Nat} {cs:List zA}:RD t (.str s) cs ↔ cs=[.str s]:=Iff.rfl
def oA (t:Tr lA)(sz:Nat)(l:List D)(v:zA):Prop:=∃cl,oG t sz v cl/\fC t l cl
theorem oA.mono(h:dA t t'){sz:Nat}{l:List D}{v:zA}(k:oA t sz l v):oA t' sz l v:=by
 obtain⟨cl,h1,h2⟩:=k;exact⟨cl,h1.mono h,fC.mono h _ _ h2⟩
theorem cI{sz:Nat}{l:List D}{cs:List zA}:RD t (.sl sz l) cs ↔ ∃v,cs=[v]/\oA t sz l v:=by
 rw[RD];constructor
 ·rintro⟨a,cl,rfl,h1,h2⟩;exact⟨a,rfl,cl,h1,h2⟩
 ·rintro⟨a,rfl,cl,h1,h2⟩;exact⟨a,cl,rfl,h1,h2⟩
theorem nI{l:List D}{cs:List zA}:RD t (.st l) cs ↔ ∃cl,cs=cl.flatten/\fC t l cl:=by rw[RD]
theorem lE{cl:List (List zA)}:fC t [] cl ↔ cl=[]:=by rw[fC]
theorem fD{d:D}{l:List D}{cl:List (List zA)}:fC t (d::l) cl ↔ ∃c r,cl=c::r/\RD t d c/\fC t l r:=by rw[fC]
theorem oA.one{sz:Nat}{l:List D}{v:zA}(h:oA t sz l v):zA.one v=true:=by
 obtain⟨cl,h1,_⟩:=h
 rcases h1 with⟨rfl,_⟩ | ⟨b,off,cap,rfl,_⟩
 ·decide
 ·rfl
theorem oA.len{sz:Nat}{l:List D}{v:zA}(h:oA t sz l v):rB v=some (.int .i64 (l.length:Int)):=by
 obtain⟨cl,h1,h2⟩:=h
 have:=h2.length
 rcases h1 with⟨rfl,rfl⟩ | ⟨b,off,cap,rfl,_⟩
 ·have:l.length=0:=this.symm
  rw[this];rfl
 ·rw[<- this];rfl
theorem oA.same{sz d:Nat}{l:List D}{v:zA}(h:oA t sz l v):same d v v=true:=by
 obtain⟨cl,h1,_⟩:=h
 rcases h1 with⟨rfl,_⟩ | ⟨b,off,cap,rfl,_⟩
 ·cases d <;> (unfold Am.same;rfl)
 ·have e:∀n,Nat.beq n n=true:=Nat.beq_refl
  cases d <;> (unfold Am.same;simp only[e,Bool.and_self])
theorem eH{sz:Nat}{l:List D}{v:zA}(h:oA t sz l v):pG .nilslice v=true:=by
 obtain⟨cl,h1,_⟩:=h
 rcases h1 with⟨rfl,_⟩ | ⟨b,off,cap,rfl,_⟩<;>rfl
theorem At.load{b off j n:Nat}{cs:List zA}(h:At t b off cs){ty:Nat}{y:wD}(hy:C.tys.get ty=some y)(ha:y.desc.isAgg=true)(hn:y.size=n)(hj:j+n<=cs.length):jA C ty ⟨0,t⟩ (.ptr b (off+j))=some (.agg ((cs.drop j).take n)):=by
 obtain⟨c,m,lo,h1,h2⟩:=h
 unfold jA;simp only[zA.asPtr,uA];rw[hy,uA];unfold oD;rw[h1,uA];simp only[lA.asCells,uA];unfold cM;rw[ha,cond_true,hn];have key:∀(n j:Nat),j+n<=cs.length->c.many n (off+j)=some ((cs.drop j).take n):=by
  intro n;induction n with
  | zero=>intro j _;simp;rfl
  | succ n ih=>
   intro j hj;have hlt:j<cs.length:=by omega
   rw[Tr.many_succ,h2 j cs[j] (yae hlt),uA,show off+j+1=off+(j+1) by omega,ih (j+1) (by omega),uA,yam hlt,List.take_succ_cons]
 rw[key n j hj];rfl
theorem At.load1{b off j:Nat}{cs:List zA}{a:zA}(h:At t b off cs){ty:Nat}{y:wD}(hy:C.tys.get ty=some y)(ha:y.desc.isAgg=false)(hj:cs[j]?=some a):jA C ty ⟨0,t⟩ (.ptr b (off+j))=some a:=by
 obtain⟨c,m,lo,h1,h2⟩:=h
 unfold jA;simp only[zA.asPtr,uA];rw[hy,uA];unfold oD;rw[h1,uA];simp only[lA.asCells,uA];unfold cM;rw[ha,cond_false];exact h2 j a hj
structure nF (C:iA) (T el sz:Nat) (agg:Bool):Prop where
 ty:∃y,C.tys.get T=some y/\y.desc.asSlice=some el
 el:∃y,C.tys.get el=some y/\y.size=sz/\y.desc.isAgg=agg
def zds(agg:Bool)(cs:List zA):zA:=if agg then .agg cs else match cs with | a::_=>a | []=>.nilptr
theorem nF.at{T el sz:Nat}{agg:Bool}(h:nF C T el sz agg)(h1:agg=false->sz=1){l:List D}{v:zA}(hr:oA t sz l v){i:Nat}{d:D}(hi:l[i]?=some d) :
  ∃b off cs,yB C T v (.int .i64 (i:Int))=some (.ptr b off)/\jA C el ⟨0,t⟩ (.ptr b off)=some (zds agg cs)/\At t b off cs/\cs.length=sz/\RD t d cs:=by
 obtain⟨⟨y,hy1,hy2⟩,⟨z,hz1,hz2,hz3⟩⟩:=h
 obtain⟨cl,he,hd⟩:=hr
 obtain⟨cs,hc,hrd⟩:=hd.get hi
 rcases he with⟨rfl,rfl⟩ | ⟨b,off,cap,rfl,_,_,he⟩
 ·simp at hc
 ·obtain⟨hl,ha⟩:=he i cs hc
  have hlt:i<cl.length:=(yad.1 hc).1
  refine⟨b,off+i*sz,cs,?_,?_,ha,hl,hrd⟩
  ·unfold yB
   rw[hy1,uA];have:(zA.int .i64 (i:Int)).asNat=some i:=rfl
   rw[this,uA];simp only[zA.asSlice];rw[hy2,uA,hz1,uA,pC.2 hlt,hz2];rfl
  ·cases agg with
   | true=>
    have:=ha.load (j:=0) hz1 hz3 hz2 (by omega)
    simp only[ybu,ybs]at this;rw[this,<- hl,List.take_length];rfl
   | false=>
    have hs:=h1 rfl
    cases cs with
    | nil=>simp at hl;omega
    | cons a r=>
     have:=ha.load1 (j:=0) (a:=a) hz1 hz3 (by simp)
     rw[ybu]at this;rw[this];rfl
end
section
variable {t:Tr lA}{C:iA}
theorem nF.front{T el sz:Nat}{agg:Bool}(h:nF C T el sz agg){l:List D}{v:zA}(hr:oA t sz l v){k:Nat}(hk:k<=l.length) :
  ∃v',cG C T ⟨0,t⟩ v none (some (.int .i64 (k:Int)))=some v'/\oA t sz (l.take k) v':=by
 obtain⟨⟨y,hy1,hy2⟩,⟨z,hz1,hz2,hz3⟩⟩:=h
 obtain⟨cl,he,hd⟩:=hr
 have hlen:=hd.length
 unfold cG;rw[hy1,uA];have hb:∀y,cQ y (.int .i64 (k:Int))=sB (Nat.ble k y) (some k):=fun y=>rfl
 rcases he with⟨rfl,rfl⟩ | ⟨b,off,cap,rfl,hcap,⟨c,n,lo,hg,hlo⟩,he⟩
 ·have:k=0:=by simp at hlen;omega
  subst this;refine⟨.nilslice,?_,[],.inl ⟨rfl,rfl⟩,by simp[fC]⟩
  unfold aJ;simp only[zA.asStr,zA.asSlice,zA.asPtr];rw[hy2,uA,hz1,uA];rfl
 ·refine⟨.slice b off k cap,?_,cl.take k,.inr ⟨b,off,cap,?_,?_,⟨c,n,lo,hg,hlo⟩,fun i cs hi=>?_⟩,?_⟩
  ·unfold aJ
   simp only[zA.asStr,zA.asSlice];rw[hy2,uA];unfold wL;rw[hz1,uA];unfold vN zc7;simp only[hb];rw[show Nat.ble k cap=true from eE.2 (by omega)]
   simp only[fE,uA];have he2:iH ⟨0,t⟩ b z.size cap 0 false=false:=by
    unfold iH oD;rw[hg,uA];simp only[lA.asCells];rcases hlo with rfl | rfl
    ·rfl
    ·simp
   rw[he2,Bool.and_false,cond_false];have hf:oH ⟨0,t⟩ b z.size cap 0 false=true:=by
    unfold oH oD;rw[hg,uA];simp only[lA.asCells];rcases hlo with rfl | rfl
    ·rfl
    ·simp[hz2]
   rw[show Nat.ble k cap=true from eE.2 (by omega),hf]
   simp only[Bool.and_self,fE];congr 1
   cases hq:Nat.beq cap 0<;>simp
  ·rw[ycb];congr 1;omega
  ·rw[ycb];omega
  ·rw[ycg]at hi
   split at hi
   ·exact he i cs hi
   ·cases hi
  ·refine fC.mk (by rw[ycb,ycb];omega) fun i d cs h1 h2=>?_
   rw[ycg]at h1 h2;split at h1
   ·rename_i e
    rw[if_pos e]at h2;obtain⟨cs',h3,h4⟩:=hd.get h1
    rw[h3]at h2;cases h2;exact h4
   ·cases h1
end
mutual
def D.zs:D->List zA
 | .int k _=>[.int k 0]
 | .bool _=>[.bool false]
 | .str _=>[.str []]
 | .sl _ _=>[.nilslice]
 | .st l=>D.zss l
def D.zss:List D->List zA
 | []=>[]
 | d::l=>d.zs++D.zss l
end
theorem zin:∀(z z' l l':List zA),rM z l=true->rM z' l'=true->rM (z++z') (l++l')=true
 | [],_,[],_,_,h=>h
 | a::z,z',b::l,l',h,k=>by
  unfold rM at h;rw[yac]at h;show(pG a b&&rM (z++z') (l++l'))=true
  rw[h.1,zin z z' l l' h.2 k];rfl
 | [],_,_::_,_,h,_=>by cases h
 | _::_,_,[],_,h,_=>by cases h
mutual
theorem zvo{t:Tr lA}:∀(d:D) (cs:List zA),RD t d cs->rM d.zs cs=true
 | .int k n,cs,h=>by
  rw[RD]at h;subst h;show(pG (.int k 0) (.int k n)&&true)=true
  simp only[pG,zA.asIntK,Bool.and_true];exact oJ.2 rfl
 | .bool _,cs,h=>by rw[RD]at h;subst h;rfl
 | .str _,cs,h=>by rw[RD]at h;subst h;rfl
 | .sl sz l,cs,h=>by
  rw[cI]at h;obtain⟨v,rfl,h⟩:=h
  show(pG .nilslice v&&true)=true
  rw[eH h];rfl
 | .st l,cs,h=>by
  rw[nI]at h;obtain⟨cl,rfl,h⟩:=h
  show rM (D.zss l) cl.flatten=true
  exact zny l cl h
theorem zny{t:Tr lA}:∀(l:List D) (cl:List (List zA)),fC t l cl->rM (D.zss l) cl.flatten=true
 | [],cl,h=>by rw[fC]at h;subst h;rfl
 | d::l,cl,h=>by
  rw[fC]at h;obtain⟨c,r,rfl,h1,h2⟩:=h
  show rM (d.zs++D.zss l) (c::r).flatten=true
  rw[List.flatten_cons];exact zin _ _ _ _ (zvo d c h1) (zny l r h2)
end
theorem zB{k:IntKind}{n:Int}:zzj k (.int k n)=some n:=by unfold zzj;simp only[zA.asIntK,uA];rw[oJ.2 rfl];rfl
theorem qD{b:Bool}:(zA.bool b).asBool=some b:=rfl
theorem sI{s:List Nat}:(zA.str s).asStr=some s:=rfl
theorem sO{d:Nat}{k:IntKind}{n:Int}:same d (.int k n) (.int k n)=true:=by
 cases d<;>simp[same,oJ,iP]
theorem zsy{d:Nat}{b:Bool}:same d (.bool b) (.bool b)=true:=by cases d<;>simp[same,vS]
theorem za0{d:Nat}{s:List Nat}:same d (.str s) (.str s)=true:=by cases d<;>simp[same,zO]
theorem zC{n:Int}(h1 : -9223372036854775808<=n)(h2:n<9223372036854775808):vA .i64 n=n:=by
 rw[bJ];simp only[IntKind.wrap,IntKind.bits,IntKind.signed];simp;omega
theorem bO{t:Tr lA}{d:D}{cs zs:List zA}(h:RD t d cs)(hz:d.zs=zs):mG zs (.agg cs)=some (cellsOf cs):=by
 unfold mG;simp only[zA.asAgg,uA];rw[<- hz,zvo d cs h];rfl
theorem cK{zs l:List zA}(h:rM zs l=true):mG zs (.agg l)=some (cellsOf l):=by
 unfold mG;simp only[zA.asAgg,uA,h];rfl
end Go.Am
namespace Go.Am
open Go Go.RowKit
def gC (l:List Nat):List D:=l.map fun(n:Nat)=>D.int .u16 (n:Int)
theorem dT(l:List Nat):(gC l).length=l.length:=by simp[gC]
structure yI where
 neg:Bool
 limbs:List Nat
def yI.d(w:yI):D:=.st [.bool w.neg,.sl 1 (gC w.limbs)]
structure lF where
 n:yI
 d:yI
def lF.dd(f:lF):D:=.st [f.n.d,f.d.d]
structure xB where
 kind:Nat
 f:lF
 i:Int
def xB.d(v:xB):D:=.st [.int .u8 v.kind,v.f.dd,.int .i64 v.i]
inductive qA where
 | mk (op:Nat) (name:List Nat) (v:xB) (args:List qA)
def qA.op:qA->Nat | .mk o _ _ _=>o
def qA.name:qA->List Nat | .mk _ n _ _=>n
def qA.v:qA->xB | .mk _ _ v _=>v
def qA.args:qA->List qA | .mk _ _ _ a=>a
mutual
def qA.d:qA->D
 | .mk op name v args=>.st [.int .u8 op,.str name,v.d,.sl 9 (qA.ds args)]
def qA.ds:List qA->List D
 | []=>[]
 | x::l=>x.d::qA.ds l
end
theorem qA.ds_eq(l:List qA):qA.ds l=l.map qA.d:=by
 induction l with
 | nil=>rfl
 | cons x l ih=>simp[qA.ds,ih]
structure uF where
 a:Int
 b:Int
 known:Int
 f:lF
def uF.d(r:uF):D:=.st [.int .i64 r.a,.int .i64 r.b,.int .i64 r.known,r.f.dd]
structure yF where
 name:List Nat
 two:Bool
 rows:List uF
def yF.d(x:yF):D:=.st [.str x.name,.bool x.two,.sl 7 (x.rows.map uF.d)]
structure lJ where
 name:List Nat
 kind:Nat
 fact:Bool
def lJ.d(x:lJ):D:=.st [.str x.name,.int .u8 x.kind,.bool x.fact]
structure kC where
 name:List Nat
 label:List Nat
 from_:Int
 to:Int
 known:Int
 off:Bool
 when_:qA
 then_:qA
def kC.d(x:kC):D:=.st [.str x.name,.str x.label,.int .i64 x.from_,.int .i64 x.to,.int .i64 x.known,.bool x.off,x.when_.d,x.then_.d]
structure yH where
 name:List Nat
 defs:List lJ
 tables:List yF
 clauses:List kC
def yH.d(x:yH):D:=.st [.str x.name,.sl 3 (x.defs.map lJ.d),.sl 3 (x.tables.map yF.d),.sl 24 (x.clauses.map kC.d)]
section
variable {t:Tr lA}{cs:List zA}
theorem zfo{w:yI}(h:RD t w.d cs):∃v,cs=[.bool w.neg,v]/\oA t 1 (gC w.limbs) v:=by
 unfold yI.d at h;simp only[nI,fD,lE,cI,cP]at h;obtain⟨cl,rfl,c,r,rfl,rfl,c',r',rfl,⟨v,rfl,h⟩,rfl⟩:=h
 exact⟨v,rfl,h⟩
theorem zs8{f:lF}(h:RD t f.dd cs):∃u v,cs=[.bool f.n.neg,u,.bool f.d.neg,v]/\oA t 1 (gC f.n.limbs) u/\oA t 1 (gC f.d.limbs) v:=by
 unfold lF.dd at h;simp only[nI,fD,lE]at h;obtain⟨cl,rfl,c,r,rfl,h1,c',r',rfl,h2,rfl⟩:=h
 obtain⟨u,rfl,h3⟩:=zfo h1
 obtain⟨v,rfl,h4⟩:=zfo h2
 exact⟨u,v,rfl,h3,h4⟩
theorem z1d{v:xB}(h:RD t v.d cs):∃a b,cs=[.int .u8 v.kind,.bool v.f.n.neg,a,.bool v.f.d.neg,b,.int .i64 v.i]/\oA t 1 (gC v.f.n.limbs) a/\oA t 1 (gC v.f.d.limbs) b:=by
 unfold xB.d at h;simp only[nI,fD,lE,bK]at h;obtain⟨cl,rfl,c,r,rfl,rfl,c',r',rfl,h2,c'',r'',rfl,rfl,rfl⟩:=h
 obtain⟨a,b,rfl,h3,h4⟩:=zs8 h2
 exact⟨a,b,rfl,h3,h4⟩
theorem jL{x:qA}(h:RD t x.d cs):∃a b c,cs=[.int .u8 x.op,.str x.name,.int .u8 x.v.kind,.bool x.v.f.n.neg,a,.bool x.v.f.d.neg,b,.int .i64 x.v.i,c] ∧
  oA t 1 (gC x.v.f.n.limbs) a/\oA t 1 (gC x.v.f.d.limbs) b/\oA t 9 (x.args.map qA.d) c:=by
 obtain⟨op,name,v,args⟩:=x
 unfold qA.d at h;rw[qA.ds_eq]at h;simp only[nI,fD,lE,bK,rN,cI]at h;obtain⟨cl,rfl,c,r,rfl,rfl,c',r',rfl,rfl,c'',r'',rfl,hv,c3,r3,rfl,⟨w,rfl,h4⟩,rfl⟩:=h
 obtain⟨a,b,rfl,h5,h6⟩:=z1d hv
 exact⟨a,b,w,rfl,h5,h6,h4⟩
theorem zmy{r:uF}(h:RD t r.d cs):∃a b,cs=[.int .i64 r.a,.int .i64 r.b,.int .i64 r.known,.bool r.f.n.neg,a,.bool r.f.d.neg,b]/\oA t 1 (gC r.f.n.limbs) a/\oA t 1 (gC r.f.d.limbs) b:=by
 unfold uF.d at h;simp only[nI,fD,lE,bK]at h;obtain⟨cl,rfl,c,r,rfl,rfl,c',r',rfl,rfl,c'',r'',rfl,rfl,c3,r3,rfl,hf,rfl⟩:=h
 obtain⟨a,b,rfl,h3,h4⟩:=zs8 hf
 exact⟨a,b,rfl,h3,h4⟩
theorem za2{x:yF}(h:RD t x.d cs):∃a,cs=[.str x.name,.bool x.two,a]/\oA t 7 (x.rows.map uF.d) a:=by
 unfold yF.d at h;simp only[nI,fD,lE,rN,cP,cI]at h;obtain⟨cl,rfl,c,r,rfl,rfl,c',r',rfl,rfl,c'',r'',rfl,⟨a,rfl,h⟩,rfl⟩:=h
 exact⟨a,rfl,h⟩
theorem rd_def{x:lJ}(h:RD t x.d cs):cs=[.str x.name,.int .u8 x.kind,.bool x.fact]:=by
 unfold lJ.d at h;simp only[nI,fD,lE,rN,cP,bK]at h;obtain⟨cl,rfl,c,r,rfl,rfl,c',r',rfl,rfl,c'',r'',rfl,rfl,rfl⟩:=h
 rfl
def iC(x:qA)(a b c:zA):List zA:=[.int .u8 x.op,.str x.name,.int .u8 x.v.kind,.bool x.v.f.n.neg,a,.bool x.v.f.d.neg,b,.int .i64 x.v.i,c]
theorem jX{x:kC}(h:RD t x.d cs):∃a b c a' b' c',cs=[.str x.name,.str x.label,.int .i64 x.from_,.int .i64 x.to,.int .i64 x.known,.bool x.off]++iC x.when_ a b c++iC x.then_ a' b' c' ∧
  RD t x.when_.d (iC x.when_ a b c)/\RD t x.then_.d (iC x.then_ a' b' c'):=by
 unfold kC.d at h;simp only[nI,fD,lE,rN,cP,bK]at h;obtain⟨cl,rfl,c1,r1,rfl,rfl,c2,r2,rfl,rfl,c3,r3,rfl,rfl,c4,r4,rfl,rfl,c5,r5,rfl,rfl,c6,r6,rfl,rfl,c7,r7,rfl,h7,c8,r8,rfl,h8,rfl⟩:=h
 obtain⟨a,b,c,e1,_⟩:=jL h7
 obtain⟨a',b',c',e2,_⟩:=jL h8
 subst e1 e2
 exact⟨a,b,c,a',b',c',rfl,h7,h8⟩
theorem zb7{x:yH}(h:RD t x.d cs):∃a b c,cs=[.str x.name,a,b,c]/\oA t 3 (x.defs.map lJ.d) a/\oA t 3 (x.tables.map yF.d) b/\oA t 24 (x.clauses.map kC.d) c:=by
 unfold yH.d at h;simp only[nI,fD,lE,rN,cI]at h;obtain⟨cl,rfl,c1,r1,rfl,rfl,c2,r2,rfl,⟨a,rfl,h1⟩,c3,r3,rfl,⟨b,rfl,h2⟩,c4,r4,rfl,⟨c,rfl,h3⟩,rfl⟩:=h
 exact⟨a,b,c,rfl,h1,h2,h3⟩
end
theorem yI.zs(x:yI):x.d.zs=[.bool false,.nilslice]:=rfl
theorem xB.zs(x:xB):x.d.zs=[.int .u8 0,.bool false,.nilslice,.bool false,.nilslice,.int .i64 0]:=rfl
theorem qA.zs(x:qA):x.d.zs=[.int .u8 0,.str [],.int .u8 0,.bool false,.nilslice,.bool false,.nilslice,.int .i64 0,.nilslice]:=by cases x;rfl
theorem uF.zs(x:uF):x.d.zs=[.int .i64 0,.int .i64 0,.int .i64 0,.bool false,.nilslice,.bool false,.nilslice]:=rfl
theorem yF.zs(x:yF):x.d.zs=[.str [],.bool false,.nilslice]:=rfl
theorem kC.zs(x:kC):x.d.zs=[.str [],.str [],.int .i64 0,.int .i64 0,.int .i64 0,.bool false,.int .u8 0,.str [],.int .u8 0,.bool false,.nilslice,.bool false,.nilslice,.int .i64 0,.nilslice,.int .u8 0,.str [],.int .u8 0,.bool false,.nilslice,.bool false,.nilslice,.int .i64 0,.nilslice]:=by
 obtain⟨_,_,_,_,_,_,w,v⟩:=x;cases w;cases v;rfl
def rR(f:lF):Nat:=1+f.n.limbs.length+f.d.limbs.length
mutual
/-- the size, as it is counted up to a limit -/
def gM:qA->Int->Int
 | .mk _ name v args,left=>oQ args left (rR v.f+(name.length:Int) / 30)
def oQ:List qA->Int->Int->Int
 | [],_,n=>n
 | x::l,left,n=>if n<=left then oQ l left (n+gM x (left-n))else n
end
def lD:Nat:=1125899906842624
def lF.ok(f:lF):Prop:=f.n.limbs.length<lD/\f.d.limbs.length<lD
mutual
def qA.ok:qA->Prop
 | .mk _ name v args=>name.length<lD/\v.f.ok/\args.length<lD/\qA.oks args
def qA.oks:List qA->Prop
 | []=>True
 | x::l=>x.ok/\qA.oks l
end
end Go.Am
namespace Go.Am
open Go Go.RowKit
theorem aV{f:lF}(h:f.ok):rR f<4503599627370496:=by
 unfold lF.ok lD at h;unfold rR;omega
mutual
theorem qX:∀(x:qA) (left:Int),x.ok->0<=gM x left/\gM x left<=max left 0+9007199254740992
 | .mk op name v args,left,h=>by
  unfold qA.ok at h;obtain⟨h1,h2,_,h4⟩:=h
  have hf:=aV h2
  unfold lD at h1;unfold gM;have:=zb1 args left (rR v.f+(name.length:Int) / 30) h4 (by omega)
  omega
theorem zb1:∀(l:List qA) (left n:Int),qA.oks l->0<=n->n<=oQ l left n/\oQ l left n<=max n (left+9007199254740992)
 | [],left,n,_,_=>by unfold oQ;omega
 | x::l,left,n,h,hn=>by
  unfold qA.oks at h;unfold oQ;split
  ·have h1:=qX x (left-n) h.1
   have h2:=zb1 l left (n+gM x (left-n)) h.2 (by omega)
   omega
  ·omega
end
theorem jB{a b:Int}:(fB a b=true) ↔ a<b:=zcp a b
theorem qG{a b:Int}:(qC a b=true) ↔ a<=b:=zkv a b
theorem yY{α:Type}{l:List α}{i:Nat}{x:α}{r:List α}(h:l.drop i=x::r):l[i]?=some x/\l.drop (i+1)=r/\i<l.length:=by
 have h1:(l.drop i)[0]?=some x:=by rw[h];rfl
 rw[ycf]at h1;have hi:i<l.length:=by
  rcases Nat.lt_or_ge i l.length with hl | hl
  ·exact hl
  ·rw[yau hl]at h;cases h
 refine⟨by simpa using h1,?_,hi⟩
 have:=List.drop_drop (l:=l) (i:=1) (j:=i)
 rw[h]at this;simpa[Nat.add_comm]using this.symm
theorem zY{α:Type}{l:List α}{i:Nat}(h:l.drop i=[]):l.length<=i:=by
 rcases Nat.lt_or_ge i l.length with hl | hl
 ·have:=congrArg List.length h;simp at this;omega
 ·exact hl
theorem lR(l:List Nat):(Int.ofNat (uB l))=(l.length:Int):=by rw[xE];rfl
theorem zjm(cs:List zA):zds true cs=.agg cs:=rfl
end Go.Am
namespace Go.Am
open Go Go.RowKit
def oC(k:IntKind)(l:List Nat):List D:=l.map fun(n:Nat)=>D.int k (n:Int)
theorem bH{k:IntKind}(l:List Nat):(oC k l).length=l.length:=by simp[oC]
theorem zv7{k:IntKind}{l:List Nat}{i x:Nat}(h:l[i]?=some x):(oC k l)[i]?=some (.int k (x:Int)):=by simp[oC,h]
theorem zex{k:IntKind}{l:List Nat}{n:Nat}:(oC k l).take n=oC k (l.take n):=by simp[oC]
def xF (t:Tr lA)(b:Nat)(k:IntKind)(l:List Nat):Prop:=∃c,t.get b=some (.cells c l.length none)/\∀(j:Nat) x,l[j]?=some x->c.get j=some (.int k (x:Int))
def cC (b:Nat)(t t':Tr lA):Prop:=∀c,c≠b->t'.get c=t.get c
theorem cC.refl(b:Nat)(t:Tr lA):cC b t t:=fun _ _=>rfl
theorem cC.trans{b:Nat}{x y z:Tr lA}(h:cC b x y)(k:cC b y z):cC b x z:=fun c hc=>(k c hc).trans (h c hc)
section
variable {t t' t0:Tr lA}{C:iA}{b:Nat}{k:IntKind}{l:List Nat}
theorem xF.off(h:xF t b k l){c:Nat}(hc:b≠c)(ho:cC c t t'):xF t' b k l:=by
 obtain⟨x,h1,h2⟩:=h;exact⟨x,by rw[ho b hc];exact h1,h2⟩
theorem xF.tle(h:xF t b k l)(ho:dA t t'):xF t' b k l:=by
 obtain⟨x,h1,h2⟩:=h;exact⟨x,ho _ _ h1,h2⟩
theorem dA.off(h:dA t0 t)(hb:t0.get b=none)(ho:cC b t t'):dA t0 t':=by
 intro c y hc;rw[ho c (by intro e;rw[e,hb]at hc;cases hc)]
 exact h c y hc
theorem xF.slice(h:xF t b k l){off n cap:Nat}(hn:off+n<=l.length)(hc:n<=cap):oA t 1 (oC k ((l.drop off).take n)) (.slice b off n cap):=by
 obtain⟨c,h1,h2⟩:=h
 refine⟨((l.drop off).take n).map fun(x:Nat)=>[.int k (x:Int)],.inr ⟨b,off,cap,?_,?_,⟨c,_,none,h1,.inl rfl⟩,fun i cs hi=>?_⟩,?_⟩
 ·congr 1;simp;omega
 ·simp;omega
 ·simp only[yav,Option.map_eq_some_iff]at hi
  obtain⟨x,hx,rfl⟩:=hi
  refine⟨rfl,c,_,none,h1,fun j a hj=>?_⟩
  cases j with
  | zero=>
   simp at hj;subst hj;rw[ycg]at hx;split at hx
   ·rw[ycf]at hx
    exact h2 (off+i*1+0) x (by rw[show off+i*1+0=off+i by omega];exact hx)
   ·cases hx
  | succ j=>simp at hj
 ·refine fC.mk (by simp[oC]) fun i d cs hd hc=>?_
  simp only[oC,yav,Option.map_eq_some_iff]at hd hc;obtain⟨x,hx,rfl⟩:=hd
  obtain⟨y,hy,rfl⟩:=hc
  rw[hx]at hy;cases hy;rfl
theorem xF.all(h:xF t b k l){cap:Nat}(hc:l.length<=cap):oA t 1 (oC k l) (.slice b 0 l.length cap):=by
 have:=h.slice (off:=0) (n:=l.length) (by omega) hc
 simpa using this
theorem xL{T el sz:Nat}{agg:Bool}(h:nF C T el sz agg){off n cap i:Nat}(hi:i<n):yB C T (.slice b off n cap) (.int .i64 (i:Int))=some (.ptr b (off+i*sz)):=by
 obtain⟨⟨y,hy1,hy2⟩,⟨z,hz1,hz2,hz3⟩⟩:=h
 unfold yB;rw[hy1,uA];have:(zA.int .i64 (i:Int)).asNat=some i:=rfl
 rw[this,uA];simp only[zA.asSlice];rw[hy2,uA,hz1,uA,pC.2 hi,hz2];rfl
theorem xF.load(h:xF t b k l){j x:Nat}(hj:l[j]?=some x){ty:Nat}{y:wD}(hy:C.tys.get ty=some y)(ha:y.desc.isAgg=false):jA C ty ⟨0,t⟩ (.ptr b j)=some (.int k (x:Int)):=by
 obtain⟨c,h1,h2⟩:=h
 unfold jA;simp only[zA.asPtr,uA];rw[hy,uA];unfold oD;rw[h1,uA];simp only[lA.asCells,uA];unfold cM;rw[ha,cond_false];exact h2 j x hj
theorem xF.store(h:xF t b k l)(hb:C.base<=b){j:Nat}(hj:j<l.length)(x:Nat){ty:Nat}{y:wD}(hy:C.tys.get ty=some y)(hs:y.size=1) :
  ∃t',(∀n,cD C ty (.ptr b j) (.int k (x:Int)) ⟨n,t⟩=some (zE,⟨n,t'⟩))/\xF t' b k (l.set j x)/\cC b t t':=by
 obtain⟨c,h1,h2⟩:=h
 refine⟨t.set b (.cells (c.setMany [.int k (x:Int)] j) l.length none),fun n=>?_,⟨c.setMany [.int k (x:Int)] j,?_,fun i y hi=>?_⟩,fun d hd=>?_⟩
 ·unfold cD
  rw[hy,uA];simp only[zA.asPtr,uA,zA.cells,zA.asAgg];rw[hs];have e1:Nat.beq (uB [zA.int k (x:Int)]) 1=true:=rfl
  rw[e1,fE];unfold nK oD;have e2:(!Nat.blt b C.base)=true:=by
   cases hq:Nat.blt b C.base with
   | true=>have:=pC.1 hq;omega
   | false=>rfl
  rw[e2,fE,h1,uA];simp only[lA.asCells,uA];have e3:Nat.ble (j+uB [zA.int k (x:Int)]) l.length=true:=eE.2 hj
  have e4:iB zA.one [zA.int k (x:Int)]=true:=rfl
  rw[e3,e4];rfl
 ·rw[Tr.get_set,if_pos rfl,yci]
 ·rw[Tr.get_setMany]
  rw[ybx]at hi;split at hi
  ·rename_i e
   subst e;rw[if_pos (by simp)]
   cases hi;simp
  ·rename_i e
   rw[if_neg (by simp;omega)]
   exact h2 i y hi
 ·rw[Tr.get_set,if_neg hd]
theorem kT{T el:Nat}{y z:wD}(hT:C.tys.get T=some y)(hel:y.desc.asSlice=some el)(hz:C.tys.get el=some z)(hzero:z.zero=[.int k 0])(hs:z.size=1)(hby:z.bytes<=8){n:Nat}(hn:n<1000000)(hb:t.get b=none) :
  ∃t',yL C T (.int .i64 (n:Int)) (.int .i64 (n:Int)) ⟨b,t⟩=some (.slice b 0 n n,⟨b+1,t'⟩)/\xF t' b k (List.replicate n 0)/\dA t t'/\cC b t t':=by
 have hrep:∀n,rJ [zA.int k 0] n=List.replicate n (.int k 0):=by
  intro n;induction n with
  | zero=>rfl
  | succ n ih=>unfold rJ;rw[ih,fH,List.replicate_succ];rfl
 refine⟨t.set b (.cells (Tr.ofList (rJ z.zero n)) (uB (rJ z.zero n)) none),?_,⟨Tr.ofList (rJ z.zero n),?_,fun j x hj=>?_⟩,fun c y' hc=>?_,fun c hc=>?_⟩
 ·unfold yL
  rw[hT,uA,hel,uA,hz,uA];have e1:(zA.int .i64 (n:Int)).asNat=some n:=rfl
  rw[e1,uA,uA];have e2:(Nat.ble n n&&Nat.blt n 1000000&&Nat.blt (n*z.bytes) 1000000000&&Nat.beq (uB z.zero) z.size)=true:=by
   rw[hzero,hs,show Nat.ble n n=true from eE.2 (yal n),pC.2 hn]
   have:n*z.bytes<1000000000:=by
    have:=ycc (Nat.le_of_lt hn) hby
    omega
   rw[pC.2 this];rfl
  rw[e2,fE];rfl
 ·rw[Tr.get_set,if_pos rfl,hzero,hrep,xE];simp
 ·rw[List.getElem?_replicate]at hj
  split at hj
  ·cases hj
   rw[Tr.get_ofList,hzero,hrep,List.getElem?_replicate];rename_i e;rw[if_pos e];rfl
  ·cases hj
 ·rw[Tr.get_set,if_neg (by intro e;rw[e,hb]at hc;cases hc)];exact hc
 ·rw[Tr.get_set,if_neg hc]
end
end Go.Am
namespace Go.Am
def val (B:Nat):List Nat->Nat
 | []=>0
 | a::l=>a+B*val B l
def dB(B:Nat)(l:List Nat):Prop:=∀x∈l,x<B
def norm (l:List Nat):Prop:=∀h:l≠[],l.getLast h≠0
theorem xU(B:Nat):∀(l m:List Nat),val B (l++m)=val B l+B^l.length*val B m
 | [],m=>by simp[val]
 | a::l,m=>by
  simp only[List.cons_append,val,xU B l m,yao,Nat.pow_succ];rw[yan,<- yak,yai B (B^l.length)]
  omega
theorem bL{B:Nat}(hB:0<B):∀ {l:List Nat},dB B l->val B l<B^l.length
 | [],_=>by simp[val]
 | a::l,h=>by
  have h1:=h a (yaz)
  have h2:=bL hB (l:=l) fun x hx=>h x (yas _ hx)
  simp only[val,yao,Nat.pow_succ];have h3:B*(val B l+1)<=B*B^l.length:=yaw B h2
  rw[yan,yai B (B^l.length)]at h3
  omega
theorem eS(B:Nat)(l:List Nat)(n:Nat):val B l=val B (l.take n)+B^(l.take n).length*val B (l.drop n):=by
 rw[<- xU,List.take_append_drop]
theorem aQ{B:Nat}{l:List Nat}(h:dB B l)(n:Nat):dB B (l.take n):=fun x hx=>h x (List.mem_of_mem_take hx)
theorem zqh{B:Nat}{l:List Nat}(h:dB B l)(n:Nat):dB B (l.drop n):=fun x hx=>h x (List.mem_of_mem_drop hx)
theorem zwu{B:Nat}{l m:List Nat}(h:dB B l)(k:dB B m):dB B (l++m):=fun x hx=>(List.mem_append.1 hx).elim (h x) (k x)
def sF:List Nat->List Nat
 | []=>[]
 | a::l=>if sF l=[]/\a=0 then []else a::sF l
theorem uP(B:Nat):∀l:List Nat,val B (sF l)=val B l
 | []=>rfl
 | a::l=>by
  unfold sF;have ih:=uP B l
  split
  ·rename_i h
   rw[h.1]at ih;have:val B l=0:=by rw[<- ih];rfl
   simp[val,this,h.2]
  ·simp[val,ih]
theorem gQ:∀l:List Nat,norm (sF l)
 | []=>fun h=>(h rfl).elim
 | a::l=>by
  have ih:=gQ l
  unfold sF;split
  ·exact fun h=>(h rfl).elim
  ·rename_i h
   intro hne;by_cases hs:sF l=[]
   ·have ha:a≠0:=fun e=>h ⟨hs,e⟩
    simp[hs,ha]
   ·rw[List.getLast_cons hs];exact ih hs
theorem zR{B:Nat}:∀ {l:List Nat},dB B l->dB B (sF l)
 | [],h=>h
 | a::l,h=>by
  have ih:=zR (l:=l) fun x hx=>h x (yas _ hx)
  unfold sF;split
  ·exact fun x hx=>(by cases hx)
  ·exact fun x hx=>(yat.1 hx).elim (fun e=>e ▸ h a yaz) (ih x)
theorem zhe:∀l:List Nat,(sF l).length<=l.length
 | []=>yal _
 | a::l=>by unfold sF;have:=zhe l;split<;>simp<;>omega
theorem nY:∀l:List Nat,sF (l++[0])=sF l
 | []=>by simp[sF]
 | a::l=>by
  show(if sF (l++[0])=[]/\a=0 then []else a::sF (l++[0]))=_
  rw[nY l];rfl
theorem dV:∀ {l:List Nat},norm l->sF l=l
 | [],_=>rfl
 | a::l,h=>by
  have hl:norm l:=by
   intro hne;have:=h (by simp)
   rw[List.getLast_cons hne]at this;exact this
  unfold sF;rw[dV hl];split
  ·rename_i e
   have:=h (by simp)
   obtain⟨rfl,rfl⟩:=e
   simp at this
  ·rfl
theorem zkl{B:Nat}(hB:0<B){l:List Nat}(h:norm l)(h0:val B l=0):l=[]:=by
 have key:∀l:List Nat,val B l=0->∀x∈l,x=0:=by
  intro l;induction l with
  | nil=>intro _ x hx;cases hx
  | cons a l ih=>
   intro h x hx;simp only[val]at h;have ha:a=0:=by omega
   have hm:B*val B l=0:=by omega
   have hl:val B l=0:=by
    rcases Nat.mul_eq_zero.1 hm with e | e
    ·omega
    ·exact e
   rcases yat.1 hx with rfl | hx
   ·exact ha
   ·exact ih hl x hx
 rcases List.eq_nil_or_concat l with e | ⟨m,a,e⟩
 ·exact e
 ·exfalso
  subst e;have:=h (by simp)
  simp at this;exact this (key _ h0 a (by simp))
theorem zq4{B:Nat}{l:List Nat}(h:norm l)(hne:l≠[]):B^(l.length-1)<=val B l:=by
 rcases List.eq_nil_or_concat l with e | ⟨m,a,e⟩
 ·exact absurd e hne
 ·rw[List.concat_eq_append]at e
  subst e;have:=h (by simp)
  simp at this;rw[xU];simp only[yah,yao,yay,val];have:1<=a+B*0:=by omega
  calc B^(m.length+1-1)=B^m.length*1:=by simp
   _<=B^m.length*(a+B*0):=yaw _ this
   _<=_:=Nat.le_add_left _ _
theorem zq3{B:Nat}(hB:0<B):∀ {l m:List Nat},dB B l->dB B m->l.length=m.length->val B l=val B m->l=m
 | [],[],_,_,_,_=>rfl
 | a::l,b::m,h1,h2,hl,hv=>by
  have ha:=h1 a yaz
  have hb:=h2 b yaz
  simp only[val]at hv;have e1:a=b:=by
   have:=congrArg (· % B) hv
   simp only[Nat.add_mul_mod_self_left,Nat.mod_eq_of_lt ha,Nat.mod_eq_of_lt hb]at this;exact this
  subst e1;have e2:val B l=val B m:=by
   have:B*val B l=B*val B m:=by omega
   exact Nat.eq_of_mul_eq_mul_left hB this
  rw[zq3 hB (fun x hx=>h1 x (yas _ hx)) (fun x hx=>h2 x (yas _ hx)) (by simpa using hl) e2]
 | [],_::_,_,_,h,_=>by simp at h
 | _::_,[],_,_,h,_=>by simp at h
theorem qO{B:Nat}(hB:1<B){l m:List Nat}(h1:dB B l)(h3:norm m)(hv:val B m<=val B l):m.length<=l.length:=by
 by_cases hm:m=[]
 ·simp[hm]
 ·have a:=zq4 (B:=B) h3 hm
  have b:=bL (by omega) h1
  have:B^(m.length-1)<B^l.length:=by omega
  have:=(Nat.pow_lt_pow_iff_right hB).1 this
  omega
theorem zyy{B:Nat}(hB:1<B){l m:List Nat}(h1:dB B l)(h2:dB B m)(h3:norm l)(h4:norm m)(hv:val B l=val B m):l=m:=by
 have a:=qO hB h1 h4 (by omega)
 have b:=qO hB h2 h3 (by omega)
 exact zq3 (by omega) h1 h2 (by omega) hv
def gJ (a b:List Nat):Int:=if a.length≠b.length then(if a.length<b.length then -1 else 1)else go a b
where go:List Nat->List Nat->Int
 | a::l,b::m=>if go l m≠0 then go l m else if a<b then -1 else if b<a then 1 else 0
 | _,_=>0
theorem zwd{B:Nat}:∀ {a b:List Nat},dB B a->dB B b->a.length=b.length->(gJ.go a b<0 ↔ val B a<val B b)/\(gJ.go a b=0 ↔ val B a=val B b)
 | [],[],_,_,_=>by simp[gJ.go,val]
 | a::l,b::m,h1,h2,hl=>by
  have ha:=h1 a yaz
  have hb:=h2 b yaz
  obtain⟨i1,i2⟩:=zwd (a:=l) (b:=m) (fun x hx=>h1 x (yas _ hx)) (fun x hx=>h2 x (yas _ hx)) (by simpa using hl)
  have lt_of:∀ {x y:Nat},x<y->∀u v,u<B->u+B*x<v+B*y:=by
   intro x y h u v hu;have:B*(x+1)<=B*y:=yaw B h
   rw[yan]at this;omega
  unfold gJ.go;simp only[val];by_cases h0:gJ.go l m=0
  ·have e:=i2.1 h0
   rw[if_neg (by simpa using h0),e]
   by_cases c1:a<b
   ·rw[if_pos c1];constructor<;>constructor<;>intro h<;>omega
   ·rw[if_neg c1]
    by_cases c2:b<a
    ·rw[if_pos c2];constructor<;>constructor<;>intro h<;>omega
    ·rw[if_neg c2];constructor<;>constructor<;>intro h<;>omega
  ·rw[if_pos h0]
   constructor
   ·rw[i1]
    constructor
    ·intro h;exact lt_of h a b ha
    ·intro h
     rcases Nat.lt_trichotomy (val B l) (val B m)with g | g | g
     ·exact g
     ·exact absurd (i2.2 g) h0
     ·have:=lt_of g b a hb;omega
   ·constructor
    ·intro h;exact absurd h h0
    ·intro h
     rcases Nat.lt_trichotomy (val B l) (val B m)with g | g | g
     ·have:=lt_of g a b ha;omega
     ·exact i2.2 g
     ·have:=lt_of g b a hb;omega
 | [],_::_,_,_,h=>by simp at h
 | _::_,[],_,_,h=>by simp at h
theorem zwc{B:Nat}(hB:1<B){a b:List Nat}(h1:dB B a)(h2:dB B b)(h3:norm a)(h4:norm b):gJ a b<0 ↔ val B a<val B b:=by
 unfold gJ;by_cases hl:a.length=b.length
 ·rw[if_neg (by simpa using hl)];exact(zwd h1 h2 hl).1
 ·rw[if_pos hl]
  by_cases hlt:a.length<b.length
  ·rw[if_pos hlt]
   refine⟨fun _=>?_,fun _=>by omega⟩
   rcases Nat.lt_or_ge (val B a) (val B b)with g | g
   ·exact g
   ·have:=qO hB h1 h4 g;omega
  ·rw[if_neg hlt]
   refine⟨fun h=>by omega,fun h=>?_⟩
   have:=qO hB h2 h3 (by omega);omega
end Go.Am
namespace Go.Am
open Go Go.RowKit
theorem kF{n:Int}(h1:0<=n)(h2:n<18446744073709551616):vA .u64 n=n:=by
 rw[bJ];simp only[IntKind.wrap,IntKind.bits,IntKind.signed];simp;omega
theorem yQ{n:Int}(h1:0<=n)(h2:n<4294967296):vA .u32 n=n:=by
 rw[bJ];simp only[IntKind.wrap,IntKind.bits,IntKind.signed];simp;omega
theorem zxf{n:Int}(h1:0<=n)(h2:n<65536):vA .u16 n=n:=by
 rw[bJ];simp only[IntKind.wrap,IntKind.bits,IntKind.signed];simp;omega
theorem zqy{n:Int}(h1:0<=n)(h2:n<256):vA .u8 n=n:=by
 rw[bJ];simp only[IntKind.wrap,IntKind.bits,IntKind.signed];simp;omega
theorem vR(n:Int):vA .u64 n=n%18446744073709551616:=by
 rw[bJ];simp only[IntKind.wrap,IntKind.bits,IntKind.signed];simp
theorem mM(n:Int):vA .u32 n=n%4294967296:=by
 rw[bJ];simp only[IntKind.wrap,IntKind.bits,IntKind.signed];simp
theorem zqx(n:Int):vA .u16 n=n%65536:=by
 rw[bJ];simp only[IntKind.wrap,IntKind.bits,IntKind.signed];simp
theorem gN{f:Nat->Nat->Nat}{k:IntKind}{x y:Nat}(h1:x<kG k)(h2:y<kG k):qH f k (x:Int) (y:Int)=some (.int k (f x y:Nat)):=by
 unfold qH;have e1:jK (x:Int)=some x:=rfl
 have e2:jK (y:Int)=some y:=rfl
 rw[e1,uA,e2,uA,pC.2 h1,pC.2 h2];rfl
theorem zf8{k:IntKind}{x y:Nat}(h0:0<y)(hw:vA k ((x / y:Nat):Int)=((x / y:Nat):Int)):zzk k (x:Int) (y:Int)=some (.int k ((x / y:Nat):Int)):=by
 unfold zzk;have:wA (y:Int) 0=false:=by
  cases hq:wA (y:Int) 0 with
  | false=>rfl
  | true=>have:=(iP _ _).1 hq;omega
 rw[this,cond_false,Int.tdiv_eq_ediv_of_nonneg (by omega)]
 rw[<- Int.natCast_ediv,hw]
theorem za7{k:IntKind}{x y:Nat}(h0:0<y):zqn k (x:Int) (y:Int)=some (.int k ((x%y:Nat):Int)):=by
 unfold zqn;have:wA (y:Int) 0=false:=by
  cases hq:wA (y:Int) 0 with
  | false=>rfl
  | true=>have:=(iP _ _).1 hq;omega
 rw[this,cond_false,Int.tmod_eq_emod_of_nonneg (by omega),<- Int.natCast_emod]
theorem nE{a b:Int}:(wA a b=true) ↔ a=b:=iP a b
theorem vJ{a b:Int}:((!wA a b)=true) ↔ a≠b:=by rw[ybq,<- Bool.not_eq_true,nE]
theorem za4{b:Bool}:((!b)=true) ↔ b=false:=by simp
theorem wT{a b n:Nat}(h:b<2^n):Nat.lor (a*2^n) b=a*2^n+b:=by
 show a*2^n ||| b=_
 rw[<- Nat.shiftLeft_eq,<- Nat.shiftLeft_add_eq_or_of_lt h,Nat.shiftLeft_eq]
theorem or_low{a b n:Nat}(h:b<2^n)(ha:a%2^n=0):Nat.lor a b=a+b:=by
 obtain⟨c,hc⟩:=Nat.dvd_of_mod_eq_zero ha
 subst hc;rw[yai];exact wT h
theorem oA.idx{t:Tr lA}{C:iA}{T el:Nat}(h:nF C T el 1 false){k:IntKind}{l:List Nat}{v:zA}(hr:oA t 1 (oC k l) v){i x:Nat}(hi:l[i]?=some x) :
  ∃b off,yB C T v (.int .i64 (i:Int))=some (.ptr b off)/\jA C el ⟨0,t⟩ (.ptr b off)=some (.int k (x:Int)):=by
 obtain⟨b,off,cs,h1,h2,_,_,h5⟩:=nF.at h (fun _=>rfl) hr (zv7 hi)
 rw[bK]at h5;subst h5;exact⟨b,off,h1,h2⟩
theorem cN(x:Nat)(n:Nat):Int.fdiv (x:Int) (n:Int)=((x / n:Nat):Int):=by
 rw[Int.fdiv_eq_ediv_of_nonneg _ (by omega)];exact(Int.natCast_ediv x n).symm
theorem getElem?_of_lt{l:List Nat}{i:Nat}(h:i<l.length):∃x,l[i]?=some x:=⟨l[i],yae h⟩
theorem oI{B:Nat}{l:List Nat}(h:dB B l){i x:Nat}(hi:l[i]?=some x):x<B:=h x (ybw hi)
theorem eX{l:List Nat}(h:l≠[]):∃m x,l=m++[x]:=by
 rcases List.eq_nil_or_concat l with e | ⟨m,a,e⟩
 ·exact absurd e h
 ·exact⟨m,a,by rw[e,List.concat_eq_append]⟩
end Go.Am
namespace Go.Am
open Go Go.RowKit Go.Proofs
theorem zuj{p:Oper}{t:Nat}{a:Operand}(h:ldOp p=some (t,a)):p.op=.load t a:=by
 unfold ldOp at h;split at h
 ·rename_i e;cases h;exact e
 ·cases h
theorem zgc{C:iA}{o:eC}{i:Nat}{tm:Tm}{H:rA}{t:Nat}{a:Operand}{d:Option Nat}{b off:Nat}{ty:wD}{cc:Tr zA × Nat × Option Nat}{v:zA}
  (ho:(match opO o i with | some p=>(ldOp p,fK p.guard,p.dst) | none=>(none,false,none))=(some (t,a),true,d)) (h1:ev a (.now tm)=some (.ptr b off)) (h2:C.tys.get t=some ty) (h3:oD H b=some cc) (h4:cM ty cc.1 off=some v) :
  goO C o i tm H=goO C o (i+1) (putA (yM o).n tm d v) H:=by
 refine zil (v:=v) (H':=H) (d:=d) ?_
 unfold atO
 cases hp:opO o i with
 | none=>rw[hp]at ho;cases ho
 | some p=>
  rw[hp]at ho;simp only[Prod.mk.injEq]at ho;obtain⟨g1,g2,g3⟩:=ho
  rw[uA,g2,zuj g1,zy3 h1 h2 h3 h4,g3];rfl
theorem zgd{C:iA}{o:eC}{i:Nat}{tm:Tm}{H:rA}{t:Nat}{a b:Operand}{d:Option Nat}{v:zA}{op:BinOp}{f:Oper->Option (Nat × Operand × Operand)}(hf:∀p,f p=some (t,a,b)->∃u,p.op=.binOp op t a b u)
  (ho:(match opO o i with | some p=>(f p,fK p.guard,p.dst) | none=>(none,false,none))=(some (t,a,b),true,d)) (hv:gK op t a b C (.now tm) H=some v) :
  goO C o i tm H=goO C o (i+1) (putA (yM o).n tm d v) H:=by
 refine zil (v:=v) (H':=H) (d:=d) ?_
 unfold atO
 cases hp:opO o i with
 | none=>rw[hp]at ho;cases ho
 | some p=>
  rw[hp]at ho;simp only[Prod.mk.injEq]at ho;obtain⟨g1,g2,g3⟩:=ho
  obtain⟨u,hu⟩:=hf p g1
  have:((rF p.op).f C (.now tm) H).asVal=some (v,H):=by
   rw[hu];exact zug (l:=gK op t a b) rfl hv
  rw[uA,g2,this,g3];rfl
theorem zca{t:Nat}{a b:Operand}(p:Oper)(h:z1h p=some (t,a,b)):∃u,p.op=.binOp .or t a b u:=by
 unfold z1h at h;split at h
 ·rename_i e;cases h;exact⟨_,e⟩
 ·cases h
theorem zo3{t:Nat}{a b:Operand}(p:Oper)(h:zx8 p=some (t,a,b)):∃u,p.op=.binOp .shl t a b u:=by
 unfold zx8 at h;split at h
 ·rename_i e;cases h;exact⟨_,e⟩
 ·cases h
theorem z1g{x y:Nat}(hx:x<18446744073709551616)(hy:y<18446744073709551616):qH Nat.lor .u64 (.ofNat x) (.ofNat y)=some (.int .u64 (.ofNat (Nat.lor x y))):=gN hx hy
theorem ze4{x:Nat}(h:x<18446744073709551616):vA .u64 (.ofNat x)=.ofNat x:=kF (by show(0:Int)<=(x:Int);omega) (by show(x:Int)<_;omega)
section
variable {c:Tr zA}{n off cap:Nat}
theorem zt7{x:Nat}(hx:c.get off=some (.int .u32 (.ofNat x))):jJ CL (l1 c n off cap 1)=l2 c n off cap 1 x:=by
 rw[zzg,zgc (l1_op1 c n off cap) (l1_ev1 c n off cap) aG (z4m c n off cap) (v:=.int .u32 (.ofNat x)) hx]
 rfl
theorem zt6{x:Nat}(hx:c.get (off+1)=some (.int .u32 (.ofNat x))):jJ CL (l1 c n off cap 2)=l2 c n off cap 2 x:=by
 rw[zzf,zgc (l1_op2 c n off cap) (l1_ev2 c n off cap) aG (z4l c n off cap) (v:=.int .u32 (.ofNat x)) hx]
 rfl
theorem zero_or{x:Nat}(hx:x<4294967296):qH Nat.lor .u64 (vA .u64 (.ofNat 0*.ofNat 4294967296)) (vA .u64 (.ofNat x))=some (.int .u64 (.ofNat x)):=by
 have e:vA .u64 (.ofNat 0*.ofNat 4294967296)=.ofNat 0:=by decide
 rw[e,ze4 (by omega),z1g (by decide) (by omega)]
 show some (zA.int .u64 (.ofNat (0 ||| x)))=_
 rw[Nat.zero_or]
theorem zt5{x:Nat}(hx:x<4294967296):jJ CL (l3 c n off cap 1 x)=l4 c n off cap 1 x x:=by
 rw[zze,zgd (op:=.or) (f:=z1h) zca (l3_op1 c n off cap x) (v:=.int .u64 (.ofNat x)) (by rw[l3_or1];exact zero_or hx)]
 rfl
theorem zt4{x:Nat}(hx:x<4294967296):jJ CL (l3 c n off cap 2 x)=l4 c n off cap 2 x x:=by
 rw[zzd,zgd (op:=.or) (f:=z1h) zca (l3_op2 c n off cap x) (v:=.int .u64 (.ofNat x)) (by rw[l3_or2];exact zero_or hx)]
 rfl
theorem zpn{y z x:Nat}(hx:c.get off=some (.int .u32 (.ofNat x))):jJ CL (l5 c n off cap y z)=l6 c n off cap y z x:=by
 rw[z4k,zgc (l5_op c n off cap y z) (l5_ev c n off cap y z) aG (l5_blk c n off cap y z) (v:=.int .u32 (.ofNat x)) hx]
 rfl
theorem zt9{y z x:Nat}(hz:z<4294967296)(hx:x<4294967296):jJ CL (l7 c n off cap y z x)=l8 c n off cap y z x (z*4294967296) x (z*4294967296+x):=by
 have hb:∀(p q:Operand) (u v:Nat),(dK .or).f CL 56 p q (.int .u64 (.ofNat u)) (.int .u64 (.ofNat v))=qH Nat.lor .u64 (.ofNat u) (.ofNat v):=fun _ _ _ _=>rfl
 have hs:∀(p q:Operand) (u:Nat),(dK .shl).f CL 56 p q (.int .u64 (.ofNat u)) (.int .u64 32)=zpv .u64 (.ofNat u) 32:=fun _ _ _=>rfl
 have hw:vA .u64 (.ofNat z*.ofNat (2^32))=.ofNat (z*4294967296):=by
  rw[show(Int.ofNat z*Int.ofNat (2^32))=Int.ofNat (z*4294967296) from rfl,ze4 (by omega)]
 rw[zxv (zzc c n off cap y z x),zil (l7_0 c n off cap y z x)]
 show goO CL _ 1 (tA c n off cap y z x) _=_
 rw[zgd (op:=.shl) (f:=zx8) zo3 (l7_opS c n off cap y z x) (v:=.int .u64 (.ofNat (z*4294967296))) (by
  unfold gK;rw[l7_evS,uA,show ev (.const (.int .u64 32)) (.now (tA c n off cap y z x))=some (.int .u64 32) from rfl,uA,hs]
  unfold zpv qR;rw[show jK 32=some 32 from rfl,uA,show min 32 IntKind.u64.bits=32 from rfl,uA,hw])]
 show goO CL _ 2 (tB c n off cap y z x (z*4294967296)) _=_
 rw[zil (l7_2 c n off cap y z x (z*4294967296))]
 show goO CL _ 3 (tC c n off cap y z x (z*4294967296)) _=_
 have h3:=l7_3 c n off cap y z x (z*4294967296)
 rw[ze4 (by omega:x<18446744073709551616)]at h3
 rw[zil h3];show goO CL _ 4 (tD c n off cap y z x (z*4294967296) x) _=_
 rw[zgd (op:=.or) (f:=z1h) zca (l7_op c n off cap y z x) (v:=.int .u64 (.ofNat (z*4294967296+x))) (by
  unfold gK;rw[l7_ev9,uA,z4j,uA,hb,z1g (by omega) (by omega),show(4294967296:Nat)=2^32 from rfl,wT (by omega)])]
 rfl
end
def muL (i:Option BI):Mu:=⟨fun g=>if g<256 then some ⟨g,true,0,0,true⟩else if g=256 then i else none,fun _=>none⟩
theorem z4y{w:World}{c:Tr zA}{n:Nat}{i:Option BI}(hi:∀j,i=some j->j.b<w.heap.size/\∃o,w.heap[j.b]?=some o/\kH (muL i) j (.cells c n none) o):pB 257 w.heap.size (muL i) (HL c n) w:=by
 have hget:∀a x,(HL c n).t.get a=some x->a=256/\x=.cells c n none:=by
  intro a x hx;have hx:(Tr.set .leaf 256 (.cells c n none)).get a=some x:=hx
  rw[Tr.get_set]at hx;split at hx
  ·rename_i e;exact⟨e,(ybj hx).symm⟩
  ·rw[Tr.get_leaf]at hx;cases hx
 have h256:(muL i) 256=i:=by show(if 256<256 then some (⟨256,true,0,0,true⟩:BI)else if 256=256 then i else none)=i;rw[if_neg (by omega),if_pos rfl]
 refine⟨by omega,fun g hg=>by show(if g<256 then some (⟨g,true,0,0,true⟩:BI)else if g=256 then i else none)=_;rw[if_pos hg],fun a x j _ hx hj=>?_,yal _,yal _,fun a ha=>?_,fun a x j hx hj=>?_,fun a j ha hj=>?_,fun a b x y j k hx _ _ _ ha _ _=>?_,fun a x t ha=>by cases ha⟩
 ·obtain⟨rfl,rfl⟩:=hget a x hx
  rw[h256]at hj;exact⟨(hi j hj).1,rfl,rfl⟩
 ·have ha:257<=a:=ha
  refine⟨by show(if a<256 then some (⟨a,true,0,0,true⟩:BI)else if a=256 then i else none)=none;rw[if_neg (by omega),if_neg (by omega)],?_⟩
  cases hx:(HL c n).t.get a with
  | none=>rfl
  | some x=>have:=(hget a x hx).1;omega
 ·obtain⟨rfl,rfl⟩:=hget a x hx
  rw[h256]at hj;exact(hi j hj).2
 ·have hj:(if a<256 then some ⟨a,true,0,0,true⟩else if a=256 then i else none)=some j:=hj
  rw[if_neg (by omega),if_neg (by omega)]at hj
  cases hj
 ·have:=(hget a x hx).1;omega
theorem simL(N:Nat):Sim Tryz.prog CL 257 N (fun _=>True):=
 ⟨zre rfl,znv rfl,fun f g hg=>by(have hg:Tr.leaf.get f=some g:=hg;rw[Tr.get_leaf]at hg;cases hg),yal _,by kernel_rfl,fun _ _ _ h=>h⟩
theorem zsp{P:Program}{C:iA}{B N:Nat}{μ:Mu}{w:World}{base:List Frame}(hF:zgv P C){f:Nat}{args:List zA}{args':Array Value}{H:rA}(hH:pB B N μ H w)(hl:qB μ args args'.toList){g:xC}(he:fI C f args false=some g) :
  sD P C B N μ base (lone (Frame.enter P f args' .normal) base w) w (qP C f args H):=by
 unfold qP;rw[he];exact⟨μ,_,[],w,.refl _ _,fun _ _ h=>h,Below.refl N w,hH,(sV (cur:=some H) hF he hl).1,.nil⟩
theorem yT{P:Program}{C:iA}{B N:Nat}{I:World->Prop}{μ:Mu}{w:World}{base:List Frame}{m:Machine}(hS:Sim P C B N I)(hI:I w):∀(n:Nat) {o:eC},sD P C B N μ base m w o->sD P C B N μ base m w (zhh C n o)
 | 0,_,h=>h
 | n+1,_,h=>sQ hS hI (yT hS hI n h)
theorem z5j(a:zA):∃g,fI CL 318 [a] false=some g:=by
 have:(fI CL 318 [a] false).isSome=true:=by kernel_rfl
 exact Option.isSome_iff_exists.1 this
theorem zc4{w:World}{i:Option BI}{c:Tr zA}{n:Nat}(hH:pB 257 w.heap.size (muL i) (HL c n) w){a:zA}{a':Value}(hl:sA (muL i) a a'){u:Nat}{o:eC}
  (hrun:∀base m,sD Tryz.prog CL 257 w.heap.size (muL i) base m w (qP CL 318 [a] (HL c n))->sD Tryz.prog CL 257 w.heap.size (muL i) base m w o) (ho:zj9 o=some (.int .u64 (.ofNat u))) :
  Calls Tryz.prog 318 #[a'] w fun e w'=>e=.returned (.int .u64 (.ofNat u))/\Below w.heap.size w w':=by
 intro base;obtain⟨g,he⟩:=z5j a
 have h0:=hrun base _ (zsp (base:=base) (simL w.heap.size).fns hH (args' := #[a']) (.single hl) he)
 obtain⟨H',hd⟩:=zo9 ho
 rw[hd]at h0;obtain⟨μ',b,w',v',h2,h3,h4,h5,h6,h7,h8⟩:=h0
 rw[sA]at h6;subst h6;exact⟨_,w',b,⟨rfl,h4⟩,h2,h7,h8⟩
theorem uU{a:zA}{x:Nat}(h:zjs a=some x):a=.int .u32 (.ofNat x)/\x<4294967296:=by
 unfold zjs at h;simp only[mA,mB,nM,oJ,beq_iff_eq,pC]at h;obtain⟨p,rfl,h1,y,h2,h3,h4⟩:=h
 cases h4;rw[sW]at h2;rw[h1,h2];exact⟨rfl,h3⟩
theorem ztg{B N:Nat}{μ:Mu}{H:rA}{w:World}{args:List zA}{args':Array Value}{v:zA}(hH:pB B N μ H w)(hv:zto args H=some v)(hl:qB μ args args'.toList) :
  (callFunc 318 args').run Tryz.prog w=.ok (.enter 318 args') w/\Calls Tryz.prog 318 args' w fun e w'=>∃v',e=.returned v'/\sA μ v v'/\Below w.heap.size w w':=by
 refine⟨zeu (fn:=Tryz.f318) Tryz.func318 (by kernel_rfl),?_⟩
 have dC:∀ {a':Value} {u:Nat},args' = #[a']->v=.int .u64 (.ofNat u)->(Calls Tryz.prog 318 #[a'] w fun e w'=>e=.returned (.int .u64 (.ofNat u))/\Below w.heap.size w w') →
   Calls Tryz.prog 318 args' w fun e w'=>∃v',e=.returned v'/\sA μ v v'/\Below w.heap.size w w':=by
  intro a' u e1 e2 h;rw[e1];exact h.mono fun e w' ⟨h1,h2⟩=>⟨_,h1,by rw[e2,sA],h2⟩
 unfold zto at hv;split at hv
 case h_2=>cases hv
 rename_i a;rw[qB]at hl;obtain⟨x,r,he,hx,hr⟩:=hl
 rw[qB]at hr;subst hr;have hargs:args' = #[x]:=by apply Array.toList_inj.1;simpa using he
 cases hs:a.asSlice with
 | none=>
  rw[hs]at hv;rw[mB,aB]at hv;obtain⟨h1,h2⟩:=hv
  cases h2;have ha:a=.nilslice:=tO.2.1.1 h1
  subst ha;rw[sA]at hx;subst hx;refine dC (u:=0) hargs rfl (zc4 (i:=none) (c:=.leaf) (n:=0) (z4y fun j hj=>by cases hj) (a:=.nilslice) (by rw[sA]) (fun base m h=>lU (simL _) trivial 6 h) (longN .leaf 0))
 | some s=>
  rw[hs]at hv;obtain⟨sb,off,len,cap⟩:=s
  have ha:=uS.1 hs
  simp only at ha
  subst ha;simp only[jC]at hv;split at hv
  case isFalse=>cases hv
  rename_i hlen;have hlen:=pC.1 hlen
  simp only[mA]at hv;obtain⟨cc,hcc,l,hm,hv⟩:=hv
  rw[sA]at hx;rcases hx with⟨j,cap',hj,rfl,_,_,_⟩ | ⟨k1,k3,k4,A,rc,rfl,k2⟩
  rotate_left
  ·rw[k3]at hm
   cases hm
   cases hv;exact dC (u:=0) hargs rfl (zc4 (i:=none) (c:=.leaf) (n:=0) (z4y fun j hj=>by cases hj) (a:=.slice 0 1 0 0) (by rw[sA];exact .inr ⟨rfl,rfl,rfl,A,rc,rfl,.inr rfl⟩) (fun base m h=>lU (simL _) trivial 6 h) (longE .leaf 0))
  obtain⟨o,ho1,ho2⟩:=hH.blk _ _ j (oV hcc) hj
  obtain⟨cs,elem,fr,rfl,hn,_,hc,_⟩:=ho2
  obtain⟨hl1,hl2⟩:=Tr.many_some _ _ _ _ hm
  have hget:∀k,(Tr.setMany l .leaf off).get k=if off<=k/\k<off+l.length then l[k-off]? else none:=fun k=>by rw[Tr.get_setMany,Tr.get_leaf]
  have ints:∀a∈l,∃x:Nat,a=.int .u32 (.ofNat x):=by
   intro a ha;match l,hv,ha with
   | [],_,ha=>cases ha
   | [b],hv,ha=>
    simp only[zkp,mA]at hv;obtain⟨y,hy,_⟩:=hv
    simp at ha;subst ha;exact⟨y,(uU hy).1⟩
   | [b,d],hv,ha=>
    simp only[zkp,mA]at hv;obtain⟨y,hy,z,hz,_⟩:=hv
    simp at ha;rcases ha with rfl | rfl
    ·exact⟨y,(uU hy).1⟩
    ·exact⟨z,(uU hz).1⟩
  have hrel:pB 257 w.heap.size (muL (some ⟨j.b,true,0,0,true⟩)) (HL (Tr.setMany l .leaf off) cs.size) w:=by
   refine z4y fun q hq=>?_
   cases hq;refine⟨(yaf.1 ho1).1,_,ho1,cs,elem,fr,rfl,yal _,.inl rfl,fun k u hu=>?_,rfl⟩
   rw[hget]at hu;split at hu
   case isFalse=>cases hu
   rename_i hk;have h1:=hl2 (k-off) (by omega)
   rw[show off+(k-off)=k by omega,hu]at h1
   obtain⟨g1,v',g2,g3⟩:=hc k u h1
   obtain⟨y,rfl⟩:=ints u (ybw hu)
   rw[sA]at g3;exact⟨by omega,v',g2,by rw[sA];exact g3⟩
  have hvr:sA (muL (some ⟨j.b,true,0,0,true⟩)) (.slice 256 off len cap') (.slice (some ⟨j.b,off,none⟩) len cap'):=by
   rw[sA];exact .inl ⟨⟨j.b,true,0,0,true⟩,cap',rfl,rfl,yal _,fun _=>rfl,fun h=>by cases h⟩
  have hS:=simL w.heap.size
  match l,hv,hl1,hl2,hget,hrel with
  | [],hv,hl1,_,_,hrel=>
   have:len=0:=by simpa using hl1.symm
   subst this
   cases hv;exact dC (u:=0) hargs rfl (zc4 hrel hvr (fun base m h=>lU hS trivial 6 h) (long0 _ _ _ _))
  | [a],hv,hl1,hl2,hget,hrel=>
   have:len=1:=by simpa using hl1.symm
   subst this;simp only[zkp,mA]at hv;obtain⟨y,hy,hv⟩:=hv
   cases hv;obtain⟨rfl,hlt⟩:=uU hy
   have g0:(Tr.setMany [zA.int .u32 (.ofNat y)] .leaf off).get off=some (.int .u32 (.ofNat y)):=by rw[hget,if_pos (by simp)];simp
   refine dC (u:=y) hargs rfl (zc4 hrel hvr (o:=zms CL 6 (l4 (Tr.setMany [zA.int .u32 (.ofNat y)] .leaf off) cs.size off cap' 1 y y)) (fun base m h=>?_) (l4_end _ _ _ _ _ _))
   refine lU hS trivial 6 ?_
   rw[<- zt5 hlt];refine sQ hS trivial (yT hS trivial 3 ?_)
   rw[<- zt7 g0];exact sQ hS trivial (yT hS trivial 17 h)
  | [a,b],hv,hl1,hl2,hget,hrel=>
   have:len=2:=by simpa using hl1.symm
   subst this;simp only[zkp,mA]at hv;obtain⟨y,hy,z,hz,hv⟩:=hv
   cases hv;obtain⟨rfl,hlt⟩:=uU hy
   obtain⟨rfl,hlt2⟩:=uU hz
   have g0:(Tr.setMany [zA.int .u32 (.ofNat y),zA.int .u32 (.ofNat z)] .leaf off).get off=some (.int .u32 (.ofNat y)):=by rw[hget,if_pos (by simp)];simp
   have g1:(Tr.setMany [zA.int .u32 (.ofNat y),zA.int .u32 (.ofNat z)] .leaf off).get (off+1)=some (.int .u32 (.ofNat z)):=by rw[hget,if_pos (by simp)];simp
   refine dC (u:=z*4294967296+y) hargs (by rw[show y+4294967296*z=z*4294967296+y by omega]) (zc4 hrel hvr (o:=zms CL 6 (l8 (Tr.setMany [zA.int .u32 (.ofNat y),zA.int .u32 (.ofNat z)] .leaf off) cs.size off cap' z z y (z*4294967296) y (z*4294967296+y))) (fun base m h=>?_) (l8_end _ _ _ _ _ _ _ _ _ _))
   refine lU hS trivial 6 ?_
   rw[<- zt9 hlt2 hlt];refine sQ hS trivial (yT hS trivial 3 ?_)
   rw[<- zpn g0];refine sQ hS trivial (yT hS trivial 12 ?_)
   rw[<- zt4 hlt2];refine sQ hS trivial (yT hS trivial 3 ?_)
   rw[<- zt6 g1];exact sQ hS trivial (yT hS trivial 17 h)
end Go.Am
namespace Go.Am
open Go Go.RowKit Go.Proofs
theorem zpc[aC](B N:Nat):zdd Tryz.prog yA B N mI:=by
 intro f g hg args H v hv μ w args' hH hI hl;have hg:ztf.get f=some g:=hg
 unfold ztf at hg;rw[Tr.get_set,Tr.get_set,Tr.get_set,Tr.get_set]at hg;split at hg
 ·rename_i e;subst e;cases hg;exact .inr (zth hI hv hl)
 ·split at hg
  ·rename_i e;subst e;cases hg;exact .inr (zyk hI hv hl)
  ·split at hg
   ·rename_i e;subst e;cases hg;exact .inr (ztg hH hv hl)
   ·split at hg
    ·rename_i e
     subst e
     cases hg;refine .inr ⟨zeu (fn:=Tryz.f14) Tryz.func14 (by kernel_rfl),?_⟩
     unfold z3u at hv;split at hv
     case h_2=>cases hv
     cases hv;rw[qB]at hl;have:args' = #[]:=by apply Array.toList_inj.1;simpa using hl
     subst this;exact(zlo hI).mono fun e w' ⟨h1,h2⟩=>⟨_,h1,by rw[sA],h2⟩
    ·rw[Tr.get_leaf]at hg;cases hg
theorem sim19[aC](hN:6<=aC.n):Sim Tryz.prog yA (256+aC.n) aC.n mI:=
 ⟨zre rfl,znv rfl,zpc _ _,yal _,by kernel_rfl,fun _ _ hb h=>h.below hN hb⟩
end Go.Am
