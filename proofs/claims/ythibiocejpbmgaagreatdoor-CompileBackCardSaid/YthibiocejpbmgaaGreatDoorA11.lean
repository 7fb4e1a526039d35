/- Seat 26: strconv.FormatUint at base 10. -/
import Derived.KernelRfl
import Derived.Lib.AppendIntMem
import Derived.ProofKit
import Derived.Test.YthibiocejpbmgaaGreatDoorA08
import Derived.Test.YthibiocejpbmgaaGreatDoorA09
import Derived.Test.YthibiocejpbmgaaGreatDoorA10
set_option linter.all false
noncomputable section
namespace Go.Proofs
open Go Go.Shelf Go.RowKit Go.Sort Go.Lib
set_option maxHeartbeats 1000000 in
set_option maxRecDepth 100000 in
def QC(u:Nat)(hi:u<100)(w:World) :
  Calls Tryz.prog 233 #[.int .u64 u,.int .i64 10] w fun e w'=>e=.returned (.string ⟨(Lib.itoa u).toArray⟩)/\∃k os,w'=Sort.grow (w.drewN k) os:=by
 have hi':(u:Int)<100:=by omega
 have hw:IntKind.i64.wrap (u:Int)=u:=by rw[IntKind.wrap_i64];omega
 go_enter Tryz.func233,Tryz.ntmps233
 go_wp2_with (go_at_fn 254)
 refine(Tryz.internal_strconv_small u hi _).mono ?_;rintro e w' ⟨rfl,rfl⟩
 go_wp2
 go_ret
 refine⟨?_,0,#[],by simp[World.drewN_zero,Sort.grow]⟩;rw[Lib.itoa_nonneg];rfl
set_option maxHeartbeats 4000000 in
set_option maxRecDepth 100000 in
def QD (u : Nat) (hu : 100 <= u) (hu64 : u < 18446744073709551616) (w : World) (htab : Lib.TabIs Tryz.prog w "internal/strconv.uint64pow10" .u64 Lib.pow10Tab) :
  Calls Tryz.prog 233 #[.int .u64 u,.int .i64 10] w fun e w'=>e=.returned (.string ⟨(Lib.itoa u).toArray⟩)/\∃k os,w'=Sort.grow (w.drewN k) os:=by
 have hu':(100:Int)<=(u:Int):=by omega
 have hu1:1<=u:=by omega
 have hnd20:Lib.nDigits u<=20:=by have:=Lib.numDigits_eq u hu1 hu64;split at this<;>omega
 have hal:Tryz.prog.arrayLen 293=24:=by kernel_rfl
 have hel:Tryz.prog.elem 293=5:=by kernel_rfl
 have hsl:∀W,(Instr.sliceAt 293 (.pointer (some ⟨w.heap.size,0,none⟩)) none (some (.int .i64 (Lib.nDigits u:Int))) none).run Tryz.prog W=.ok (.slice (some ⟨w.heap.size,0,none⟩) (Lib.nDigits u) 24) W:=fun W=>by
  rw[run_sliceAt_array_h W 293 ⟨w.heap.size,0,none⟩ (by rw[hal,hel];exact Tryz.underlying293) .i64 (Lib.nDigits u:Int) (by omega) (by rw[hal];omega)];rw[hal,hel,Tryz.sizeOf5];simp[slicedAt,Addr.add]
 have hH0:=Lib.holds_zero0 w 293 (Lib.nDigits u) (by omega);have hfmt:=Tryz.internal_strconv_formatBase10 w.heap.size 0 24 u (Array.replicate (Lib.nDigits u) 0) (w.alloc (.cells Lib.zeros24 293)) hH0 (by rw[Array.size_replicate];exact Lib.lt_pow_nDigits u) hu64 (by rw[Array.size_replicate];omega);rw[Array.size_replicate]at hfmt;have HH0:=Lib.hid hH0;clear hH0 hal hel
 go_enter Tryz.func233,Tryz.ntmps233
 go_wp2_with (go_at_fn 255)
 refine(Tryz.internal_strconv_numDigits u hu1 hu64 _ (Lib.tabIs_alloc htab _)).mono ?_;rintro e w' ⟨rfl,rfl⟩
 go_wp2_with (go_at_fn 256)
 refine hfmt.mono ?_;rintro e w' ⟨rfl,k,v',dk,rfl,hF⟩;have hcv:(convert 142 9 (.slice (some ⟨w.heap.size,0,none⟩) (Lib.nDigits u) 24)).run Tryz.prog ((putRow (fun(b:UInt8)=>Value.int .u8 (b.toNat:Int)) (w.alloc (.cells Lib.zeros24 293)) w.heap.size 0 dk).drewN k)=.ok (.string ⟨(Lib.decDigits u).toArray⟩) ((putRow (fun(b:UInt8)=>Value.int .u8 (b.toNat:Int)) (w.alloc (.cells Lib.zeros24 293)) w.heap.size 0 dk).drewN k):=by
  have h:=run_convert_bytes_back (P:=Tryz.prog) ((putRow (fun(b:UInt8)=>Value.int .u8 (b.toNat:Int)) (w.alloc (.cells Lib.zeros24 293)) w.heap.size 0 dk).drewN k) 142 9 5 ⟨w.heap.size,0,none⟩ 24 (Lib.decDigits u) Tryz.underlying142 Tryz.underlying5 Tryz.underlying9 (fun j hj=>by
   rw[Lib.row_is_numeral hF j hj,Lib.add_plain,World.cell?_drewN];exact cell?_putRow (fun(b:UInt8)=>Value.int .u8 (b.toNat:Int)) _ w.heap.size 0 _ dk HH0.out (by rw[hF.size,Array.size_replicate]) j (by rw[hF.size];rw[Lib.decDigits_length]at hj;exact hj))
  rw[Lib.decDigits_length]at h;exact h
 go_wp2
 go_ret
 obtain⟨os,eo⟩:=Lib.fin_at w (.cells Lib.zeros24 293) dk k 0;refine⟨?_,k,os,eo⟩;rw[Lib.itoa_nonneg];rfl
set_option maxHeartbeats 1000000 in
set_option maxRecDepth 100000 in
def uint26 (u : Nat) (hu64 : u < 18446744073709551616) (w : World) (htab : Lib.TabIs Tryz.prog w "internal/strconv.uint64pow10" .u64 Lib.pow10Tab) :
  Calls Tryz.prog 203 #[.int .u64 u,.int .i64 10] w fun e w'=>e=.returned (.string ⟨(Lib.itoa u).toArray⟩)/\∃k os,w'=Sort.grow (w.drewN k) os:=by
 have key:Calls Tryz.prog 233 #[.int .u64 u,.int .i64 10] w fun e w'=>e=.returned (.string ⟨(Lib.itoa u).toArray⟩)/\∃k os,w'=Sort.grow (w.drewN k) os:=by
  by_cases h:u<100
  ·exact QC u h w
  ·exact QD u (by omega) hu64 w htab
 go_enter Tryz.func203,Tryz.ntmps203
 go_wp2_with (go_at_fn 233)
 refine key.mono ?_;rintro e w' ⟨rfl,k,os,rfl⟩
 go_wp2
 go_ret
 exact⟨rfl,k,os,rfl⟩
end Go.Proofs
set_option maxRecDepth 100000
namespace Go.Am
open Go Go.RowKit Go.Proofs
variable {C:fA}{base f:Nat}
def QG:allT (fun t ty=>match tyOf Tryz.prog t with | some u=>eqTy u ty | none=>false) tys (fun n=>n)=true:=by kernel_rfl
def zeq (hC:C.tys=tys):jF Tryz.prog C:=by
 intro t ty h;rw[hC]at h;have:=zjv tys _ QG t ty h
 cases hu:tyOf Tryz.prog t with
 | none=>rw[hu]at this;cases this
 | some u=>rw[hu]at this;rw[zi3 this]
def VC : (Tryz.funcs.toList.all fun fn => !(fn.name == "runtime.NumGoroutine")) = true := by kernel_rfl
def Yp (hC:C.fns=fns):Bs Tryz.prog C:=by
 intro f fn h;rw[hC]at h;unfold fns at h;rw[Tr.get_ofList]at h;have h2:Tryz.prog.funcs[f]?=some fn:=by
  show Tryz.funcs[f]?=some fn;simpa using h
 refine⟨h2,?_⟩;have:=ycb.1 VC fn (ycv h);simpa using this
def u64s (l:List Int):List Value:=l.map fun n=>.int .u64 n
def AX{μ:Mu}:∀l:List Int,pB μ (bY .u64 l) (u64s l)
 | []=>.nil
 | b::l=>.cons (by rw[rA]) (AX l)
structure wJ (w:World):Prop where
 kinds:∃t,w.heap[0]?=some (.cells (xM lN).toArray t (0,0))
 modes:∃t,w.heap[1]?=some (.cells (xM gP).toArray t (0,0))
 lens:∃t,w.heap[4]?=some (.cells (Av dQ).toArray t (0,0))
 most:∃m,w.cell? ⟨2,0,none⟩=some (.int .i64 m)
 pow:∃t,w.heap[5]?=some (.cells (u64s pW).toArray t (0,0))
def wJ.size{w:World}(h:wJ w):6<=w.heap.size:=by
 obtain⟨t,h⟩:=h.pow;have:=(ybe.1 h).1;omega
def wJ.below{w w':World}{N:Nat}(hN:6<=N)(h:wJ w)(hb:Below N w w'):wJ w':=by
 refine⟨?_,?_,?_,?_,?_⟩
 ·obtain⟨t,h⟩:=h.kinds;exact⟨t,by rw[hb.block 0 (by omega)];exact h⟩
 ·obtain⟨t,h⟩:=h.modes;exact⟨t,by rw[hb.block 1 (by omega)];exact h⟩
 ·obtain⟨t,h⟩:=h.lens;exact⟨t,by rw[hb.block 4 (by omega)];exact h⟩
 ·obtain⟨m,h⟩:=h.most;exact⟨m,by rw[hb.cell (p:=⟨2,0,none⟩) (by show 2<N;omega)];exact h⟩
 ·obtain⟨t,h⟩:=h.pow;exact⟨t,by rw[hb.block 5 (by omega)];exact h⟩
def wJ.tab {w : World} (h : wJ w) : Lib.TabIs Tryz.prog w "internal/strconv.uint64pow10" .u64 Lib.pow10Tab := by
 obtain⟨t,h⟩:=h.pow;have hg : Tryz.prog.globalNamed "internal/strconv.uint64pow10" = some 5 := by kernel_rfl
 unfold Lib.TabIs World.var?;rw[hg];simp only[yai,h];rfl
def hrel26{w:World}(h:wJ w):rB 256 w.heap.size mu0 H26 w:=by
 have hget:∀a x,H26.t.get a=some x->(a=0/\x=.cells (Tr.ofList (Ad lN)) (wB (Ad lN)) none)\/(a=1/\x=.cells (Tr.ofList (Ad gP)) (wB (Ad gP)) none)\/(a=4/\x=.cells (Tr.ofList (bY .i64 dQ)) (wB (bY .i64 dQ)) none)\/(a=5/\x=.cells (Tr.ofList (bY .u64 pW)) (wB (bY .u64 pW)) none):=by
  intro a x hx;have hx:(glob 0 (Ad lN) (glob 1 (Ad gP) (glob 4 (bY .i64 dQ) (glob 5 (bY .u64 pW) .leaf)))).get a=some x:=hx;unfold glob at hx;rw[Tr.get_set,Tr.get_set,Tr.get_set,Tr.get_set]at hx;split at hx
  ·rename_i e;exact .inl ⟨e,(yci hx).symm⟩
  ·split at hx
   ·rename_i e;exact .inr (.inl ⟨e,(yci hx).symm⟩)
   ·split at hx
    ·rename_i e;exact .inr (.inr (.inl ⟨e,(yci hx).symm⟩))
    ·split at hx
     ·rename_i e;exact .inr (.inr (.inr ⟨e,(yci hx).symm⟩))
     ·rw[Tr.get_leaf]at hx;cases hx
 have hsz:=h.size;refine⟨ybk _,fun g hg=>by simp[mu0,hg],fun a x i _ hx hi=>?_,ybk _,ybk _,fun a ha=>?_,fun a x i hx hi=>?_,fun a i ha hi=>?_,fun a b x y i j hx _ _ _ ha _ _=>?_,fun a x t ha=>by cases ha⟩
 ·rcases hget a x hx with⟨rfl,rfl⟩ | ⟨rfl,rfl⟩ | ⟨rfl,rfl⟩ | ⟨rfl,rfl⟩<;>cases hi<;>exact⟨Nat.lt_of_lt_of_le (by decide) hsz,rfl,rfl⟩
 ·have ha:256<=a:=ha;refine⟨by simp[mu0];omega,?_⟩
  cases hx:H26.t.get a with
  | none=>rfl
  | some x=>rcases hget a x hx with⟨rfl,_⟩ | ⟨rfl,_⟩ | ⟨rfl,_⟩ | ⟨rfl,_⟩<;>omega
 ·rcases hget a x hx with⟨rfl,rfl⟩ | ⟨rfl,rfl⟩ | ⟨rfl,rfl⟩ | ⟨rfl,rfl⟩
  ·obtain⟨t,h⟩:=h.kinds;cases hi;exact⟨_,h,Si (Uy lN) t⟩
  ·obtain⟨t,h⟩:=h.modes;cases hi;exact⟨_,h,Si (Uy gP) t⟩
  ·obtain⟨t,h⟩:=h.lens;cases hi;exact⟨_,h,Si (JJ dQ) t⟩
  ·obtain⟨t,h⟩:=h.pow;cases hi;exact⟨_,h,Si (AX pW) t⟩
 ·simp[mu0]at hi;omega
 ·rcases hget a x hx with⟨rfl,_⟩ | ⟨rfl,_⟩ | ⟨rfl,_⟩ | ⟨rfl,_⟩<;>omega
def Cu{s:ByteArray}{l:List Nat}(h:qF s=l):s.data.toList.map UInt8.toNat=l:=h
def Be {fn:Func}(hf:Tryz.funcs[f]?=some fn)(hb:fn.body.isSome=true){args:Array Value}{w:World}:(callFunc f args).run Tryz.prog w=.ok (.enter f args) w:=
 Pe (C:=C26w) (Yp rfl) (show fns.get f=some fn by unfold fns;rw[Tr.get_ofList];simpa using hf) hb
section
variable {B N:Nat}{μ:Mu}{H:pA}{w:World}{args:List zA}{args':Array Value}{v:zA}
def Od{a b:zA}(h:pB μ [a,b] args'.toList):∃x y,args' = #[x,y]/\rA μ a x/\rA μ b y:=by
 rw[pB]at h;obtain⟨x,r,h1,h2,h3⟩:=h;rw[pB]at h3;obtain⟨y,r',h4,h5,h6⟩:=h3;rw[pB]at h6;subst h4 h6;exact⟨x,y,by apply yax.1;simpa using h1,h2,h5⟩
def TY(hv:Wp args H=some v)(hl:pB μ args args'.toList) :
  (callFunc 220 args').run Tryz.prog w=.ok (.enter 220 args') w/\Calls Tryz.prog 220 args' w fun e w'=>∃v',e=.returned v'/\rA μ v v'/\Below w.heap.size w w':=by
 refine⟨Be (fn:=Tryz.f220) Tryz.func220 (by kernel_rfl),?_⟩;unfold Wp at hv;split at hv
 case h_2=>cases hv
 rename_i s c;rw[oB,sC]at hv;obtain⟨hc,hv⟩:=hv;cases hv;obtain⟨x,y,rfl,hx,hy⟩:=Od hl;simp only[rA]at hx hy;obtain⟨s',rfl,hs⟩:=hx;subst hy;refine(Tryz.stringslite_IndexByte s' (Int.ofNat c) w).mono fun e w' ⟨he,hw⟩=>?_;subst hw;refine⟨_,he,?_,Below.refl _ _⟩;have hcc:(c.toUInt8).toNat=c:=by simp[Nat.toUInt8,UInt8.toNat_ofNat'];omega
 have:=JM c.toUInt8 s'.data.toList;rw[hcc,Cu hs]at this;rw[rA];show Value.int .i64 (Lib.indexByte s'.data.toList c.toUInt8)=_;rw[<- this];done
theorem FC(hI:wJ w)(hv:Hd args H=some v)(hl:pB μ args args'.toList) :
  (callFunc 141 args').run Tryz.prog w=.ok (.enter 141 args') w/\Calls Tryz.prog 141 args' w fun e w'=>∃v',e=.returned v'/\rA μ v v'/\Below w.heap.size w w':=by
 refine⟨Be (fn:=Tryz.f141) Tryz.func141 (by kernel_rfl),?_⟩;unfold Hd at hv;split at hv
 case h_2=>cases hv
 rename_i s c;rw[oB,sC,oD]at hv;obtain⟨hlen,hv⟩:=hv;cases hv;obtain⟨x,y,rfl,hx,hy⟩:=Od hl;rw[rA]at hx hy;obtain⟨s',rfl,hs⟩:=hx;obtain⟨c',rfl,hc⟩:=hy;obtain⟨m,hm⟩:=hI.most;have hsz:s'.size<4294967281:=by
  have:=congrArg List.length (Cu hs);simp at this;omega
 refine(Tryz.strings_Contains s' c' m w hsz hm).mono fun e w' ⟨he,hw⟩=>?_;subst hw;refine⟨_,he,?_,Below.refl _ _⟩;have:=MC c'.data.toList s'.data.toList;rw[Cu hs,Cu hc]at this;rw[rA,this]
def zcp(hI:wJ w)(hv:Hc args H=some v)(hl:pB μ args args'.toList) :
  (callFunc 133 args').run Tryz.prog w=.ok (.enter 133 args') w/\Calls Tryz.prog 133 args' w fun e w'=>∃v',e=.returned v'/\rA μ v v'/\Below w.heap.size w w':=by
 refine⟨Be (fn:=Tryz.f133) Tryz.func133 (by kernel_rfl),?_⟩;unfold Hc at hv;split at hv
 case h_2=>cases hv
 rename_i s c;rw[oB,sC,oD]at hv;obtain⟨hlen,hv⟩:=hv;obtain⟨x,y,rfl,hx,hy⟩:=Od hl;rw[rA]at hx hy;obtain⟨s',rfl,hs⟩:=hx;obtain⟨c',rfl,hc⟩:=hy;obtain⟨m,hm⟩:=hI.most;have hsz:s'.size<4294967281:=by
  have:=congrArg List.length (Cu hs);simp at this;omega
 refine(Tryz.strings_Cut s' c' m w hsz hm).mono fun e w' ⟨he,n,hw⟩=>?_;subst hw;have hb:Below w.heap.size w (w.drewN n):=⟨rfl,rfl,rfl,ybk _,fun _ _=>rfl⟩;refine⟨_,he,?_,hb⟩;have hcut:=zge c'.data.toList s'.data.toList;rw[Cu hs,Cu hc]at hcut
 cases hx:oZ c s with
 | none=>
  rw[hx]at hcut hv;cases hv;have hcut:Lib.index s'.data.toList c'.data.toList = -1:=hcut;have e:Lib.cut s'.data.toList c'.data.toList=(s'.data.toList,[],false):=by unfold Lib.cut;rw[hcut];rfl
  rw[e,rA];exact⟨_,rfl,.cons (by rw[rA];exact⟨_,rfl,by rw[<- hs]⟩) (.cons (by rw[rA];exact⟨_,rfl,by simp[qF]⟩) (.single (by rw[rA])))⟩
 | some p=>
  rw[hx]at hcut hv;cases hv;obtain⟨a,b,rfl,h1,h2,h3⟩:=hcut;have e:Lib.cut s'.data.toList c'.data.toList=(a,b,true):=by unfold Lib.cut;rw[yab h1,h2,h3]
  rw[e,rA];exact⟨_,rfl,.cons (by rw[rA];exact⟨_,rfl,by simp[qF]⟩) (.cons (by rw[rA];exact⟨_,rfl,by simp[qF]⟩) (.single (by rw[rA])))⟩
def NQ(k:Nat)(os:Array Obj):Below w.heap.size w (Sort.grow (w.drewN k) os):=by
 refine⟨rfl,rfl,rfl,?_,fun j hj=>?_⟩
 ·simp[Sort.grow,World.drewN]
 ·show(w.heap++os)[j]?=w.heap[j]?;rw[yaj hj]
theorem TV(hI:wJ w)(hv:Dn args H=some v)(hl:pB μ args args'.toList) :
  (callFunc 179 args').run Tryz.prog w=.ok (.enter 179 args') w/\Calls Tryz.prog 179 args' w fun e w'=>∃v',e=.returned v'/\rA μ v v'/\Below w.heap.size w w':=by
 refine⟨Be (fn:=Tryz.f179) Tryz.func179 (by kernel_rfl),?_⟩;unfold Dn at hv;split at hv
 case h_2=>cases hv
 rename_i n;rw[oB,ybb]at hv;obtain⟨⟨h1,h2⟩,hv⟩:=hv;cases hv;rw[pB]at hl;obtain⟨x,r,he,hx,hr⟩:=hl;rw[pB]at hr;rw[rA]at hx;subst hr hx;have:args' = #[.int .i64 n]:=by apply yax.1;simpa using he
 subst this;have g1 : -9223372036854775808<=n:=(Rj _ _).1 h1;have g2:n<9223372036854775808:=(Ht _ _).1 h2;refine(Tryz.strconv_Itoa n g1 (by omega) w hI.tab).mono fun e w' ⟨he,k,os,hw⟩=>?_;subst hw;exact⟨_,he,by rw[rA];exact⟨_,rfl,rfl⟩,NQ k os⟩
theorem TT(hI:wJ w)(hv:Pu args H=some v)(hl:pB μ args args'.toList) :
  (callFunc 203 args').run Tryz.prog w=.ok (.enter 203 args') w/\Calls Tryz.prog 203 args' w fun e w'=>∃v',e=.returned v'/\rA μ v v'/\Below w.heap.size w w':=by
 refine⟨Be (fn:=Tryz.f203) Tryz.func203 (by kernel_rfl),?_⟩;unfold Pu at hv;split at hv
 case h_2=>cases hv
 rename_i n b;rw[oB,ybb,ybb]at hv;obtain⟨⟨⟨h1,h2⟩,h3⟩,hv⟩:=hv;cases hv;obtain⟨x,y,rfl,hx,hy⟩:=Od hl;rw[rA]at hx hy;subst hx hy;have g1:0<=n:=(Rj _ _).1 h1;have g2:n<18446744073709551616:=(Ht _ _).1 h2;obtain rfl:b=10:=(fW _ _).1 h3;obtain⟨u,rfl⟩:∃u:Nat,n=u:=⟨n.toNat,by omega⟩;refine(uint26 u (by omega) w hI.tab).mono fun e w' ⟨he,k,os,hw⟩=>?_;subst hw;exact⟨_,he,by rw[rA];exact⟨_,rfl,rfl⟩,NQ k os⟩
end
section
variable {B N:Nat}{μ:Mu}{H H':pA}{w:World}{args:List zA}{args':Array Value}{v:zA}
def TZ (hbase:B<=base)(hH:rB B N μ H w)(hv:He base Qp args H=some (v,H'))(hl:pB μ args args'.toList) :
  (callFunc 144 args').run Tryz.prog w=.ok (.enter 144 args') w/\Calls Tryz.prog 144 args' w fun e w'=>∃v' μ',e=.returned v'/\μ.le μ'/\rB B N μ' H' w'/\Below N w w'/\rA μ' v v':=
 UI hbase (fun p hp b n w h1 h2 h3 h4=>by
  unfold Qp at hp;rcases ybs.1 hp with rfl | hp
  ·exact YM b n w h1 h2 (show 2<n from h3) h4
  ·obtain rfl:p=(144,2):=by simpa using hp
   exact YL b n w h1 h2 (show 1<n from h3) h4) (fun b w h=>YK b w h) (fun w a=>Be (fn:=Tryz.f144) Tryz.func144 (by kernel_rfl)) hH hv hl
def TU (hbase:B<=base)(hH:rB B N μ H w)(hv:Lb base 5 args H=some (v,H'))(hl:pB μ args args'.toList) :
  (callFunc 70 args').run Tryz.prog w=.ok (.enter 70 args') w/\Calls Tryz.prog 70 args' w fun e w'=>∃v' μ',e=.returned v'/\μ.le μ'/\rB B N μ' H' w'/\Below N w w'/\rA μ' v v':=
 UH Tryz.lays169 Tryz.Builder_Extra_169 (f:=70) rfl hbase (fun w a=>Be (fn:=Tryz.f70) Tryz.func70 (by kernel_rfl)) hH hv hl
end
def aX{α:Type}{t:Tr α}{i j:Nat}{x y:α}(h:(t.set i x).get j=some y):(j=i/\x=y)\/t.get j=some y:=by
 rw[Tr.get_set]at h;split at h
 ·rename_i e;exact .inl ⟨e,yci h⟩
 ·exact .inr h
def TP(N:Nat):Nb Tryz.prog C26w 256 N wJ:=by
 intro f g hg args H v H' hv μ w args' hH hI hl;have hg:Wj.get f=some g:=hg;unfold Wj at hg;rcases aX hg with⟨rfl,rfl⟩ | hg
 ·exact Dk hv hH fun hv=>FC hI hv hl
 rcases aX hg with⟨rfl,rfl⟩ | hg
 ·exact Dk hv hH fun hv=>TY hv hl
 ·rw[Tr.get_leaf]at hg;cases hg
def sim26w(N:Nat)(hN:6<=N):pK Tryz.prog C26w 256 N wJ:=
 ⟨zeq rfl,Yp rfl,TP N,ybk _,by kernel_rfl,fun _ _ hb h=>h.below hN hb⟩
def QK {n:Nat}{args:List zA}{args':Array Value}{w:World}(hw:wJ w)(hS:pK Tryz.prog C 256 w.heap.size wJ)(hroot:C.root=f)(hl:pB mu0 args args'.toList)
  (h:bD (Dc C n (Vg C f args H26))=1):Calls Tryz.prog f args' w fun e w'=>e=.returned (.bool true)/\Below w.heap.size w w':=by
 obtain⟨H',hr⟩:=ziv h;unfold Vg at hr;have stuck:∀(n k:Nat),Dc C n (.fail k)=.fail k:=by
  intro n;induction n with
  | zero=>intro k;rfl
  | succ n ih=>
   intro k;show Dc C n (Dc C n (.fail k))=_;rw[ih,ih]
 cases he:bM C f args false with
 | none=>
  rw[he]at hr;rw[stuck]at hr;cases hr
 | some g=>
  rw[he]at hr;refine(YP hS hw hroot (hrel26 hw) hl he hr).mono fun e w' ⟨v',μ',h1,_,h3,_,h5⟩=>?_;rw[rA]at h3;exact⟨by rw[h1,h3],h5⟩
def ZF{w:World}(hw:wJ w):Calls Tryz.prog 4 #[] w fun e w'=>e=.returned (.bool true)/\Below w.heap.size w w':=
 QK hw (sim26w _ hw.size) rfl .nil zbd
theorem UA{μ:Mu}{H:pA}{w:World}{args:List zA}{args':Array Value}{v:zA}(hI:wJ w)(hv:Pv args H=some v)(hl:pB μ args args'.toList) :
  (callFunc 4 args').run Tryz.prog w=.ok (.enter 4 args') w/\Calls Tryz.prog 4 args' w fun e w'=>∃v',e=.returned v'/\rA μ v v'/\Below w.heap.size w w':=by
 refine⟨Be (fn:=Tryz.f4) Tryz.func4 (by kernel_rfl),?_⟩;unfold Pv at hv;split at hv
 case h_2=>cases hv
 cases hv;rw[pB]at hl;have:args' = #[]:=by apply yax.1;simpa using hl
 subst this;exact(ZF hI).mono fun e w' ⟨h1,h2⟩=>⟨_,h1,by rw[rA],h2⟩
end Go.Am
namespace Go.Am
open Go Go.RowKit
@[simp] theorem mD {α:Type} {x:Option α}:vB true x=x:=rfl
inductive D where
 | int (k:IntKind) (n:Int)
 | bool (b:Bool)
 | str (s:List Nat)
 | sl (sz:Nat) (l:List D)
 | st (l:List D)
def At (t:Tr qA)(b off:Nat)(cs:List zA):Prop:=∃c n lo,t.get b=some (.cells c n lo)/\∀(j:Nat) a,cs[j]?=some a->c.get (off+j)=some a
def iH(t:Tr qA)(sz:Nat)(v:zA)(cl:List (List zA)):Prop:=
 (v=.nilslice/\cl=[])\/∃b off cap,v=.slice b off cl.length cap/\cl.length<=cap/\(∃c n lo,t.get b=some (.cells c n lo)/\(lo=none\/∃x,lo=some x/\x.es=sz))/\∀(i:Nat) cs,cl[i]?=some cs->cs.length=sz/\At t b (off+i*sz) cs
mutual
/-- cells read as data -/
def RD (t:Tr qA):D->List zA->Prop
 | .int k n,cs=>cs=[.int k n]
 | .bool b,cs=>cs=[.bool b]
 | .str s,cs=>cs=[.str s]
 | .sl sz l,cs=>∃a cl,cs=[a]/\iH t sz a cl/\qC t l cl
 | .st l,cs=>∃cl,cs=cl.flatten/\qC t l cl
def qC (t:Tr qA):List D->List (List zA)->Prop
 | [],cl=>cl=[]
 | d::l,cl=>∃c r,cl=c::r/\RD t d c/\qC t l r
end
def iA (t t':Tr qA):Prop:=∀b y,t.get b=some y->t'.get b=some y
theorem iA.refl(t:Tr qA):iA t t:=fun _ _ h=>h
def iA.trans{a b c:Tr qA}(h:iA a b)(k:iA b c):iA a c:=fun x y e=>k x y (h x y e)
section
variable {t t':Tr qA}{C:fA}
theorem At.mono(h:iA t t'){b off:Nat}{cs:List zA}(k:At t b off cs):At t' b off cs:=by
 obtain⟨c,n,lo,h1,h2⟩:=k;exact⟨c,n,lo,h _ _ h1,h2⟩
theorem iH.mono(h:iA t t'){sz:Nat}{v:zA}{cl:List (List zA)}(k:iH t sz v cl):iH t' sz v cl:=by
 rcases k with k | ⟨b,off,cap,h1,h3,⟨c,n,lo,h4,h5⟩,h2⟩
 ·exact .inl k
 ·exact .inr ⟨b,off,cap,h1,h3,⟨c,n,lo,h _ _ h4,h5⟩,fun i cs hi=>⟨(h2 i cs hi).1,(h2 i cs hi).2.mono h⟩⟩
mutual
theorem RD.mono(h:iA t t'):∀(d:D) (cs:List zA),RD t d cs->RD t' d cs
 | .int _ _,_,k=>k
 | .bool _,_,k=>k
 | .str _,_,k=>k
 | .sl _ l,_,⟨a,cl,h1,h2,h3⟩=>⟨a,cl,h1,h2.mono h,qC.mono h l cl h3⟩
 | .st l,_,⟨cl,h1,h2⟩=>⟨cl,h1,qC.mono h l cl h2⟩
theorem qC.mono(h:iA t t'):∀(l:List D) (cl:List (List zA)),qC t l cl->qC t' l cl
 | [],_,k=>k
 | d::l,_,⟨c,r,h1,h2,h3⟩=>⟨c,r,h1,RD.mono h d c h2,qC.mono h l r h3⟩
end
theorem qC.length:∀ {l:List D} {cl:List (List zA)},qC t l cl->cl.length=l.length:=by
 intro l;induction l with
 | nil=>grind [qC]
 | cons d l ih=>grind [qC]
theorem qC.get:∀ {l:List D} {cl:List (List zA)} {i:Nat} {d:D},qC t l cl->l[i]?=some d->∃cs,cl[i]?=some cs/\RD t d cs:=by
 intro l;induction l with
 | nil=>simp_all
 | cons e l ih=>
  grind [qC]
theorem qC.mk:∀ {l:List D} {cl:List (List zA)},cl.length=l.length->(∀(i:Nat) d cs,l[i]?=some d->cl[i]?=some cs->RD t d cs)->qC t l cl:=by
 intro l;induction l with
 | nil=>grind [qC]
 | cons e l ih=>
  intro cl h k
  cases cl with
  | nil=>simp at h
  | cons c r=>
   rw[qC];exact⟨c,r,rfl,k 0 e c (by simp) (by simp),ih (by grind) fun i d cs h1 h2=>k (i+1) d cs (by simp_all) (by simp_all)⟩
@[simp] theorem yQ {k:IntKind} {n:Int} {cs:List zA}:RD t (.int k n) cs ↔ cs=[.int k n]:=Iff.rfl
@[simp] theorem oX {b:Bool} {cs:List zA}:RD t (.bool b) cs ↔ cs=[.bool b]:=Iff.rfl
@[simp] theorem gV {s:List Nat} {cs:List zA}:RD t (.str s) cs ↔ cs=[.str s]:=Iff.rfl
def sA (t:Tr qA)(sz:Nat)(l:List D)(v:zA):Prop:=∃cl,iH t sz v cl/\qC t l cl
theorem sA.mono(h:iA t t'){sz:Nat}{l:List D}{v:zA}(k:sA t sz l v):sA t' sz l v:=by
 obtain⟨cl,h1,h2⟩:=k;exact⟨cl,h1.mono h,qC.mono h _ _ h2⟩
theorem cL{sz:Nat}{l:List D}{cs:List zA}:RD t (.sl sz l) cs ↔ ∃v,cs=[v]/\sA t sz l v:=by
 rw[RD];constructor
 ·rintro⟨a,cl,rfl,h1,h2⟩;exact⟨a,rfl,cl,h1,h2⟩
 ·rintro⟨a,rfl,cl,h1,h2⟩;grind
theorem yJ{l:List D}{cs:List zA}:RD t (.st l) cs ↔ ∃cl,cs=cl.flatten/\qC t l cl:=by rw[RD]
theorem bE{cl:List (List zA)}:qC t [] cl ↔ cl=[]:=by rw[qC]
theorem uF{d:D}{l:List D}{cl:List (List zA)}:qC t (d::l) cl ↔ ∃c r,cl=c::r/\RD t d c/\qC t l r:=by rw[qC]
theorem sA.one{sz:Nat}{l:List D}{v:zA}(h:sA t sz l v):zA.one v=true:=by
 obtain⟨cl,h1,_⟩:=h;rcases h1 with⟨rfl,_⟩ | ⟨b,off,cap,rfl,_⟩
 ·decide
 ·rfl
theorem sA.len{sz:Nat}{l:List D}{v:zA}(h:sA t sz l v):tB v=some (.int .i64 (l.length:Int)):=by
 obtain⟨cl,h1,h2⟩:=h;have:=h2.length;rcases h1 with⟨rfl,rfl⟩ | ⟨b,off,cap,rfl,_⟩
 ·have:l.length=0:=this.symm;rw[this];rfl
 ·rw[<- this];rfl
theorem sA.same{sz d:Nat}{l:List D}{v:zA}(h:sA t sz l v):same d v v=true:=by
 obtain⟨cl,h1,_⟩:=h;rcases h1 with⟨rfl,_⟩ | ⟨b,off,cap,rfl,_⟩
 all_goals grind [Am.same,Nat.beq_refl]
theorem cM{sz:Nat}{l:List D}{v:zA}(h:sA t sz l v):mH .nilslice v=true:=by
 obtain⟨cl,h1,_⟩:=h;rcases h1 with⟨rfl,_⟩ | ⟨b,off,cap,rfl,_⟩<;>rfl
theorem At.load{b off j n:Nat}{cs:List zA}(h:At t b off cs){ty:Nat}{y:lD}(hy:C.tys.get ty=some y)(ha:y.desc.isAgg=true)(hn:y.size=n)(hj:j+n<=cs.length):mA C ty ⟨0,t⟩ (.ptr b (off+j))=some (.agg ((cs.drop j).take n)):=by
 obtain⟨c,m,lo,h1,h2⟩:=h;unfold mA;simp only[zA.asPtr,uA];rw[hy,uA];unfold rD;rw[h1,uA];simp only[qA.asCells,uA];unfold qS;rw[ha,cond_true,hn];have key:∀(n j:Nat),j+n<=cs.length->c.many n (off+j)=some ((cs.drop j).take n):=by
  intro n;induction n with
  | zero=>intro j _;simp;rfl
  | succ n ih=>
   intro j hj;have hlt:j<cs.length:=by omega
   rw[Tr.many_succ,h2 j cs[j] (ybd hlt),uA,show off+j+1=off+(j+1) by omega,ih (j+1) (by omega),uA,ybl hlt,List.take_succ_cons]
 simp_all
theorem At.load1{b off j:Nat}{cs:List zA}{a:zA}(h:At t b off cs){ty:Nat}{y:lD}(hy:C.tys.get ty=some y)(ha:y.desc.isAgg=false)(hj:cs[j]?=some a):mA C ty ⟨0,t⟩ (.ptr b (off+j))=some a:=by
 obtain⟨c,m,lo,h1,h2⟩:=h
 simp_all [mA,zA.asPtr,rD,qA.asCells,qS]
structure eD (C:fA) (T el sz:Nat) (agg:Bool):Prop where
 ty:∃y,C.tys.get T=some y/\y.desc.asSlice=some el
 el:∃y,C.tys.get el=some y/\y.size=sz/\y.desc.isAgg=agg
def Ny(agg:Bool)(cs:List zA):zA:=if agg then .agg cs else match cs with | a::_=>a | []=>.nilptr
theorem eD.at{T el sz:Nat}{agg:Bool}(h:eD C T el sz agg)(h1:agg=false->sz=1){l:List D}{v:zA}(hr:sA t sz l v){i:Nat}{d:D}(hi:l[i]?=some d) :
  ∃b off cs,aA C T v (.int .i64 (i:Int))=some (.ptr b off)/\mA C el ⟨0,t⟩ (.ptr b off)=some (Ny agg cs)/\At t b off cs/\cs.length=sz/\RD t d cs:=by
 obtain⟨⟨y,hy1,hy2⟩,⟨z,hz1,hz2,hz3⟩⟩:=h;obtain⟨cl,he,hd⟩:=hr;obtain⟨cs,hc,hrd⟩:=hd.get hi;rcases he with⟨rfl,rfl⟩ | ⟨b,off,cap,rfl,_,_,he⟩
 ·simp at hc
 ·obtain⟨hl,ha⟩:=he i cs hc;have hlt:i<cl.length:=(ybc.1 hc).1;refine⟨b,off+i*sz,cs,?_,?_,ha,hl,hrd⟩
  ·unfold aA;rw[hy1,uA];have:(zA.int .i64 (i:Int)).asNat=some i:=rfl;rw[this,uA];simp only[zA.asSlice];rw[hy2,uA,hz1,uA,sC.2 hlt,hz2];rfl
  ·cases agg with
   | true=>
    have:=ha.load (j:=0) hz1 hz3 hz2 (by omega);simp only[yct,ycr]at this;rw[this,<- hl,List.take_length];rfl
   | false=>
    have hs:=h1 rfl
    cases cs with
    | nil=>simp_all
    | cons a r=>
     have:=ha.load1 (j:=0) (a:=a) hz1 hz3 (by simp);rw[yct]at this;rw[this];rfl
end
section
variable {t:Tr qA}{C:fA}
theorem eD.front{T el sz:Nat}{agg:Bool}(h:eD C T el sz agg){l:List D}{v:zA}(hr:sA t sz l v){k:Nat}(hk:k<=l.length) :
  ∃v',nF C T ⟨0,t⟩ v none (some (.int .i64 (k:Int)))=some v'/\sA t sz (l.take k) v':=by
 obtain⟨⟨y,hy1,hy2⟩,⟨z,hz1,hz2,hz3⟩⟩:=h;obtain⟨cl,he,hd⟩:=hr;have hlen:=hd.length;unfold nF;rw[hy1,uA];have hb:∀y,xU y (.int .i64 (k:Int))=vB (Nat.ble k y) (some k):=fun y=>rfl;rcases he with⟨rfl,rfl⟩ | ⟨b,off,cap,rfl,hcap,⟨c,n,lo,hg,hlo⟩,he⟩
 ·have:k=0:=by grind
  subst this;refine⟨.nilslice,?_,[],.inl ⟨rfl,rfl⟩,by simp[qC]⟩;unfold aK;simp only[zA.asStr,zA.asSlice,zA.asPtr];rw[hy2,uA,hz1,uA];rfl
 ·refine⟨.slice b off k cap,?_,cl.take k,.inr ⟨b,off,cap,?_,?_,⟨c,n,lo,hg,hlo⟩,fun i cs hi=>?_⟩,?_⟩
  ·unfold aK;simp only[zA.asStr,zA.asSlice];rw[hy2,uA];unfold qN;rw[hz1,uA];unfold qO wX;simp only[hb];rw[show Nat.ble k cap=true from pE.2 (by omega)];simp only[mD,uA];have he2:kJ ⟨0,t⟩ b z.size cap 0 false=false:=by
    unfold kJ rD;rw[hg,uA];simp only[qA.asCells];rcases hlo with rfl | ⟨x,rfl,hx⟩
    ·rfl
    ·simp
   rw[he2,yay,cond_false];have hf:jK ⟨0,t⟩ b z.size cap 0 false=true:=by
    unfold jK rD;rw[hg,uA];simp only[qA.asCells];rcases hlo with rfl | ⟨x,rfl,hx⟩
    all_goals simp_all
   rw[show Nat.ble k cap=true from pE.2 (by omega),hf];simp only[Bool.and_self,mD];congr 1;cases hq:Nat.beq cap 0<;>simp
  ·simp_all
  ·grind
  ·grind
  ·refine qC.mk (by simp_all) fun i d cs h1 h2=>?_;rw[ydf]at h1 h2;split at h1
   ·rename_i e;rw[yab e]at h2;obtain⟨cs',h3,h4⟩:=hd.get h1
    simp_all
   grind
end
mutual
def D.zs:D->List zA
 | .int k _=>[.int k 0]
 | .bool _=>[.bool false]
 | .str _=>[.str []]
 | .sl _ _=>[.nilslice]
 | .st l=>D.zss l
def D.zss:List D->List zA
 | []=>[]
 | d::l=>d.zs++D.zss l
end
def KP:∀(z z' l l':List zA),yR z l=true->yR z' l'=true->yR (z++z') (l++l')=true
 | [],_,[],_,_,h=>h
 | a::z,z',b::l,l',h,k=>by
  unfold yR at h;rw[ybb]at h;show(mH a b&&yR (z++z') (l++l'))=true;rw[h.1,KP z z' l l' h.2 k];rfl
 | [],_,_::_,_,h,_=>by cases h
 | _::_,_,[],_,h,_=>by cases h
mutual
theorem Yq{t:Tr qA}:∀(d:D) (cs:List zA),RD t d cs->yR d.zs cs=true
 | .int k n,cs,h=>by
  rw[RD]at h;subst h;show(mH (.int k 0) (.int k n)&&true)=true
  grind [mH,zA.asIntK,eL]
 | .bool _,cs,h=>by rw[RD]at h;subst h;rfl
 | .str _,cs,h=>by rw[RD]at h;subst h;rfl
 | .sl sz l,cs,h=>by
  rw[cL]at h;obtain⟨v,rfl,h⟩:=h;show(mH .nilslice v&&true)=true;rw[cM h];rfl
 | .st l,cs,h=>by
  rw[yJ]at h;obtain⟨cl,rfl,h⟩:=h;show yR (D.zss l) cl.flatten=true;exact KM l cl h
theorem KM{t:Tr qA}:∀(l:List D) (cl:List (List zA)),qC t l cl->yR (D.zss l) cl.flatten=true
 | [],cl,h=>by rw[qC]at h;subst h;rfl
 | d::l,cl,h=>by
  rw[qC]at h;obtain⟨c,r,rfl,h1,h2⟩:=h;show yR (d.zs++D.zss l) (c::r).flatten=true;rw[yas];exact KP _ _ _ _ (Yq d c h1) (KM l r h2)
end
theorem zB{k:IntKind}{n:Int}:Ax k (.int k n)=some n:=by unfold Ax;simp only[zA.asIntK,uA];rw[eL.2 rfl];rfl
def lE{b:Bool}:(zA.bool b).asBool=some b:=rfl
def rK{s:List Nat}:(zA.str s).asStr=some s:=rfl
theorem xS{d:Nat}{k:IntKind}{n:Int}:same d (.int k n) (.int k n)=true:=by
 cases d<;>simp[same,eL,fW]
theorem DW{d:Nat}{b:Bool}:same d (.bool b) (.bool b)=true:=by cases d<;>simp[same,wU]
theorem Kn{d:Nat}{s:List Nat}:same d (.str s) (.str s)=true:=by cases d<;>simp[same,wL]
theorem wrap_i64{n:Int}(h1 : -9223372036854775808<=n)(h2:n<9223372036854775808):dA .i64 n=n:=by
 grind [sN,IntKind.wrap,IntKind.bits,IntKind.signed]
def tI{t:Tr qA}{d:D}{cs zs:List zA}(h:RD t d cs)(hz:d.zs=zs):gG zs (.agg cs)=some (cellsOf cs):=by
 unfold gG;simp only[zA.asAgg,uA];rw[<- hz,Yq d cs h];rfl
theorem kN{zs l:List zA}(h:yR zs l=true):gG zs (.agg l)=some (cellsOf l):=by
 simp_all [gG,zA.asAgg]
end Go.Am
