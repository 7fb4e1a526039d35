/- Seat 14: strconv.FormatUint at base 10. -/
import Derived.KernelRfl
import Derived.Lib.AppendIntMem
import Derived.ProofKit
import Derived.Test.YtfijloeeppcipaaGreatDoorH11
import Derived.Test.YtfijloeeppcipaaGreatDoorH12
import Derived.Test.YtfijloeeppcipaaGreatDoorH13
import Derived.Test.YtfijloeeppcipaaGreatDoorH14
import Derived.Test.YtfijloeeppcipaaGreatDoorH15
import Derived.Test.YtfijloeeppcipaaGreatDoorH16
set_option linter.all false
noncomputable section
namespace Go.Proofs
open Go Go.Shelf Go.RowKit Go.Sort Go.Lib
set_option maxHeartbeats 1000000 in
set_option maxRecDepth 100000 in
def zjo(u:Nat)(hi:u<100)(w:World) :
  Calls Tryz.prog 214 #[.int .u64 u,.int .i64 10] w fun e w'=>e=.returned (.string ⟨(Lib.itoa u).toArray⟩)/\∃k os,w'=Sort.grow (w.drewN k) os:=by
 have hi':(u:Int)<100:=by omega
 have hw:IntKind.i64.wrap (u:Int)=u:=by rw[IntKind.wrap_i64];omega
 go_enter Tryz.func214,Tryz.ntmps214
 go_wp2_with (go_at_fn 227)
 refine(Tryz.internal_strconv_small u hi _).mono ?_
 rintro e w' ⟨rfl,rfl⟩
 go_wp2
 go_ret
 refine⟨?_,0,#[],by simp[World.drewN_zero,Sort.grow]⟩
 rw[Lib.itoa_nonneg];rfl
set_option maxHeartbeats 4000000 in
set_option maxRecDepth 100000 in
def zsy (u : Nat) (hu : 100 <= u) (hu64 : u < 18446744073709551616) (w : World) (htab : Lib.TabIs Tryz.prog w "internal/strconv.uint64pow10" .u64 Lib.pow10Tab) :
  Calls Tryz.prog 214 #[.int .u64 u,.int .i64 10] w fun e w'=>e=.returned (.string ⟨(Lib.itoa u).toArray⟩)/\∃k os,w'=Sort.grow (w.drewN k) os:=by
 have hu':(100:Int)<=(u:Int):=by omega
 have hu1:1<=u:=by omega
 have hnd20:Lib.nDigits u<=20:=by have:=Lib.numDigits_eq u hu1 hu64;split at this<;>omega
 have hal:Tryz.prog.arrayLen 270=24:=by kernel_rfl
 have hel:Tryz.prog.elem 270=5:=by kernel_rfl
 have hsl:∀W,(Instr.sliceAt 270 (.pointer (some ⟨w.heap.size,0,none⟩)) none (some (.int .i64 (Lib.nDigits u:Int))) none).run Tryz.prog W=.ok (.slice (some ⟨w.heap.size,0,none⟩) (Lib.nDigits u) 24) W:=fun W=>by
  rw[run_sliceAt_array_h W 270 ⟨w.heap.size,0,none⟩ (by rw[hal,hel];exact Tryz.underlying270) .i64 (Lib.nDigits u:Int) (by omega) (by rw[hal];omega)]
  rw[hal,hel,Tryz.sizeOf5];simp[slicedAt,Addr.add]
 have hH0:=Lib.holds_zero0 w 270 (Lib.nDigits u) (by omega)
 have hfmt:=Tryz.internal_strconv_formatBase10 w.heap.size 0 24 u (Array.replicate (Lib.nDigits u) 0) (w.alloc (.cells Lib.zeros24 270)) hH0 (by rw[Array.size_replicate];exact Lib.lt_pow_nDigits u) hu64 (by rw[Array.size_replicate];omega)
 rw[Array.size_replicate]at hfmt;have HH0:=Lib.hid hH0
 clear hH0 hal hel
 go_enter Tryz.func214,Tryz.ntmps214
 go_wp2_with (go_at_fn 228)
 refine(Tryz.internal_strconv_numDigits u hu1 hu64 _ (Lib.tabIs_alloc htab _)).mono ?_
 rintro e w' ⟨rfl,rfl⟩
 go_wp2_with (go_at_fn 229)
 refine hfmt.mono ?_
 rintro e w' ⟨rfl,k,v',dk,rfl,hF⟩
 have hcv:(convert 38 9 (.slice (some ⟨w.heap.size,0,none⟩) (Lib.nDigits u) 24)).run Tryz.prog ((putRow (fun(b:UInt8)=>Value.int .u8 (b.toNat:Int)) (w.alloc (.cells Lib.zeros24 270)) w.heap.size 0 dk).drewN k)=.ok (.string ⟨(Lib.decDigits u).toArray⟩) ((putRow (fun(b:UInt8)=>Value.int .u8 (b.toNat:Int)) (w.alloc (.cells Lib.zeros24 270)) w.heap.size 0 dk).drewN k):=by
  have h:=run_convert_bytes_back (P:=Tryz.prog) ((putRow (fun(b:UInt8)=>Value.int .u8 (b.toNat:Int)) (w.alloc (.cells Lib.zeros24 270)) w.heap.size 0 dk).drewN k) 38 9 5 ⟨w.heap.size,0,none⟩ 24 (Lib.decDigits u) Tryz.underlying38 Tryz.underlying5 Tryz.underlying9 (fun j hj=>by
   rw[Lib.row_is_numeral hF j hj,Lib.add_plain,World.cell?_drewN];exact cell?_putRow (fun(b:UInt8)=>Value.int .u8 (b.toNat:Int)) _ w.heap.size 0 _ dk HH0.out (by rw[hF.size,Array.size_replicate]) j (by rw[hF.size];rw[Lib.decDigits_length]at hj;exact hj))
  rw[Lib.decDigits_length]at h;exact h
 go_wp2
 go_ret
 obtain⟨os,eo⟩:=Lib.fin_at w (.cells Lib.zeros24 270) dk k 0
 refine⟨?_,k,os,eo⟩
 rw[Lib.itoa_nonneg];rfl
set_option maxHeartbeats 1000000 in
set_option maxRecDepth 100000 in
def uint14 (u : Nat) (hu64 : u < 18446744073709551616) (w : World) (htab : Lib.TabIs Tryz.prog w "internal/strconv.uint64pow10" .u64 Lib.pow10Tab) :
  Calls Tryz.prog 193 #[.int .u64 u,.int .i64 10] w fun e w'=>e=.returned (.string ⟨(Lib.itoa u).toArray⟩)/\∃k os,w'=Sort.grow (w.drewN k) os:=by
 have key:Calls Tryz.prog 214 #[.int .u64 u,.int .i64 10] w fun e w'=>e=.returned (.string ⟨(Lib.itoa u).toArray⟩)/\∃k os,w'=Sort.grow (w.drewN k) os:=by
  by_cases h:u<100
  ·exact zjo u h w
  ·exact zsy u (by omega) hu64 w htab
 go_enter Tryz.func193,Tryz.ntmps193
 go_wp2_with (go_at_fn 214)
 refine key.mono ?_
 rintro e w' ⟨rfl,k,os,rfl⟩
 go_wp2
 go_ret
 exact⟨rfl,k,os,rfl⟩
end Go.Proofs
set_option maxRecDepth 100000
namespace Go.Am
open Go Go.RowKit Go.Proofs
def zvx:allT (fun t ty=>match tyOf Tryz.prog t with | some u=>eqTy u ty | none=>false) tys (fun n=>n)=true:=by kernel_rfl
def zjq{C:oA}(hC:C.tys=tys):pE Tryz.prog C:=by
 intro t ty h;rw[hC]at h;have:=zzam tys _ zvx t ty h
 cases hu:tyOf Tryz.prog t with
 | none=>rw[hu]at this;cases this
 | some u=>rw[hu]at this;rw[z93 this]
def zn5 : (Tryz.funcs.toList.all fun fn => !(fn.name == "runtime.NumGoroutine")) = true := by kernel_rfl
def zgp{C:oA}(hC:C.fns=fns):zmm Tryz.prog C:=by
 intro f fn h;rw[hC]at h;unfold fns at h;rw[Tr.get_ofList]at h;have h2:Tryz.prog.funcs[f]?=some fn:=by
  show Tryz.funcs[f]?=some fn
  simpa using h
 refine⟨h2,?_⟩
 have:=ycb.1 zn5 fn (ycv h)
 simpa using this
def u64s (l:List Int):List Value:=l.map fun n=>.int .u64 n
def zpy{μ:Mu}:∀l:List Int,yB μ (z4g .u64 l) (u64s l)
 | []=>.nil
 | b::l=>.cons (by rw[vA]) (zpy l)
structure lF (w:World):Prop where
 modes:∃t,w.heap[0]?=some (.cells (z2s pL).toArray t (0,0))
 lens:∃t,w.heap[3]?=some (.cells (z4e zof).toArray t (0,0))
 most:∃m,w.cell? ⟨1,0,none⟩=some (.int .i64 m)
 pow:∃t,w.heap[4]?=some (.cells (u64s z2a).toArray t (0,0))
def lF.size{w:World}(h:lF w):5<=w.heap.size:=by
 obtain⟨t,h⟩:=h.pow
 have:=(ybe.1 h).1
 omega
def lF.below{w w':World}{N:Nat}(hN:5<=N)(h:lF w)(hb:Below N w w'):lF w':=by
 refine⟨?_,?_,?_,?_⟩
 ·obtain⟨t,h⟩:=h.modes;exact⟨t,by rw[hb.block 0 (by omega)];exact h⟩
 ·obtain⟨t,h⟩:=h.lens;exact⟨t,by rw[hb.block 3 (by omega)];exact h⟩
 ·obtain⟨m,h⟩:=h.most;exact⟨m,by rw[hb.cell (p:=⟨1,0,none⟩) (by show 1<N;omega)];exact h⟩
 ·obtain⟨t,h⟩:=h.pow;exact⟨t,by rw[hb.block 4 (by omega)];exact h⟩
def lF.tab {w : World} (h : lF w) : Lib.TabIs Tryz.prog w "internal/strconv.uint64pow10" .u64 Lib.pow10Tab := by
 obtain⟨t,h⟩:=h.pow
 have hg : Tryz.prog.globalNamed "internal/strconv.uint64pow10" = some 4 := by kernel_rfl
 unfold Lib.TabIs World.var?
 rw[hg];simp only[yai,h];rfl
def hrel14{w:World}(h:lF w):zB 256 w.heap.size mu0 H14 w:=by
 have hget:∀a x,H14.t.get a=some x->(a=0/\x=.cells (Tr.ofList (strA pL)) (aA (strA pL)) none)\/(a=3/\x=.cells (Tr.ofList (z4g .i64 zof)) (aA (z4g .i64 zof)) none)\/(a=4/\x=.cells (Tr.ofList (z4g .u64 z2a)) (aA (z4g .u64 z2a)) none):=by
  intro a x hx;have hx:(glob 0 (strA pL) (glob 3 (z4g .i64 zof) (glob 4 (z4g .u64 z2a) .leaf))).get a=some x:=hx
  unfold glob at hx;rw[Tr.get_set,Tr.get_set,Tr.get_set]at hx;split at hx
  ·rename_i e;exact .inl ⟨e,(yci hx).symm⟩
  ·split at hx
   ·rename_i e;exact .inr (.inl ⟨e,(yci hx).symm⟩)
   ·split at hx
    ·rename_i e;exact .inr (.inr ⟨e,(yci hx).symm⟩)
    ·rw[Tr.get_leaf]at hx;cases hx
 have hsz:=h.size
 refine⟨ybk _,fun g hg=>by simp[mu0,hg],fun a x i _ hx hi=>?_,ybk _,ybk _,fun a ha=>?_,fun a x i hx hi=>?_,fun a i ha hi=>?_,fun a b x y i j hx _ _ _ ha _ _=>?_,fun a x t ha=>by cases ha⟩
 ·rcases hget a x hx with⟨rfl,rfl⟩ | ⟨rfl,rfl⟩ | ⟨rfl,rfl⟩<;>cases hi<;>exact⟨Nat.lt_of_lt_of_le (by decide) hsz,rfl,rfl⟩
 ·have ha:256<=a:=ha
  refine⟨by simp[mu0];omega,?_⟩
  cases hx:H14.t.get a with
  | none=>rfl
  | some x=>rcases hget a x hx with⟨rfl,_⟩ | ⟨rfl,_⟩ | ⟨rfl,_⟩<;>omega
 ·rcases hget a x hx with⟨rfl,rfl⟩ | ⟨rfl,rfl⟩ | ⟨rfl,rfl⟩
  ·obtain⟨t,h⟩:=h.modes;cases hi;exact⟨_,h,zer (zp8 pL) t⟩
  ·obtain⟨t,h⟩:=h.lens;cases hi;exact⟨_,h,zer (zrr zof) t⟩
  ·obtain⟨t,h⟩:=h.pow;cases hi;exact⟨_,h,zer (zpy z2a) t⟩
 ·simp[mu0]at hi;omega
 ·rcases hget a x hx with⟨rfl,_⟩ | ⟨rfl,_⟩ | ⟨rfl,_⟩<;>omega
def zb4{s:ByteArray}{l:List Nat}(h:vE s=l):s.data.toList.map UInt8.toNat=l:=h
def xQ{f:Nat}{fn:Func}(hf:Tryz.funcs[f]?=some fn)(hb:fn.body.isSome=true){args:Array Value}{w:World}:(callFunc f args).run Tryz.prog w=.ok (.enter f args) w:=
 kX (C:=C14w) (zgp rfl) (show fns.get f=some fn by unfold fns;rw[Tr.get_ofList];simpa using hf) hb
section
variable {B N:Nat}{μ:Mu}{H:xA}{w:World}{args:List zA}{args':Array Value}{v:zA}
def zb2{a b:zA}(h:yB μ [a,b] args'.toList):∃x y,args' = #[x,y]/\vA μ a x/\vA μ b y:=by
 rw[yB]at h;obtain⟨x,r,h1,h2,h3⟩:=h
 rw[yB]at h3;obtain⟨y,r',h4,h5,h6⟩:=h3
 rw[yB]at h6;subst h4 h6
 exact⟨x,y,by apply yax.1;simpa using h1,h2,h5⟩
def zth(hv:za0 args H=some v)(hl:yB μ args args'.toList) :
  (callFunc 206 args').run Tryz.prog w=.ok (.enter 206 args') w/\Calls Tryz.prog 206 args' w fun e w'=>∃v',e=.returned v'/\vA μ v v'/\Below w.heap.size w w':=by
 refine⟨xQ (fn:=Tryz.f206) Tryz.func206 (by kernel_rfl),?_⟩
 unfold za0 at hv;split at hv
 case h_2=>cases hv
 rename_i s c;rw[xB,kB]at hv;obtain⟨hc,hv⟩:=hv
 cases hv;obtain⟨x,y,rfl,hx,hy⟩:=zb2 hl
 simp only[vA]at hx hy;obtain⟨s',rfl,hs⟩:=hx
 subst hy;refine(Tryz.stringslite_IndexByte s' (Int.ofNat c) w).mono fun e w' ⟨he,hw⟩=>?_
 subst hw;refine⟨_,he,?_,Below.refl _ _⟩
 have hcc:(c.toUInt8).toNat=c:=by simp[Nat.toUInt8,UInt8.toNat_ofNat'];omega
 have:=zrs c.toUInt8 s'.data.toList
 rw[hcc,zb4 hs]at this;rw[vA];show Value.int .i64 (Lib.indexByte s'.data.toList c.toUInt8)=_
 rw[<- this];done
def zae(hI:lF w)(hv:yV args H=some v)(hl:yB μ args args'.toList) :
  (callFunc 140 args').run Tryz.prog w=.ok (.enter 140 args') w/\Calls Tryz.prog 140 args' w fun e w'=>∃v',e=.returned v'/\vA μ v v'/\Below w.heap.size w w':=by
 refine⟨xQ (fn:=Tryz.f140) Tryz.func140 (by kernel_rfl),?_⟩
 unfold yV at hv;split at hv
 case h_2=>cases hv
 rename_i s c;rw[xB,kB,gC]at hv;obtain⟨hlen,hv⟩:=hv
 cases hv;obtain⟨x,y,rfl,hx,hy⟩:=zb2 hl
 rw[vA]at hx hy;obtain⟨s',rfl,hs⟩:=hx
 obtain⟨c',rfl,hc⟩:=hy
 obtain⟨m,hm⟩:=hI.most
 have hsz:s'.size<4294967281:=by
  have:=congrArg List.length (zb4 hs)
  simp at this;omega
 refine(Tryz.strings_Contains s' c' m w hsz hm).mono fun e w' ⟨he,hw⟩=>?_
 subst hw;refine⟨_,he,?_,Below.refl _ _⟩
 have:=zep c'.data.toList s'.data.toList
 rw[zb4 hs,zb4 hc]at this;rw[vA,this]
def zg1(k:Nat)(os:Array Obj):Below w.heap.size w (Sort.grow (w.drewN k) os):=by
 refine⟨rfl,rfl,rfl,?_,fun j hj=>?_⟩
 ·simp[Sort.grow,World.drewN]
 ·show(w.heap++os)[j]?=w.heap[j]?
  rw[yaj hj]
def zkf(hI:lF w)(hv:ztm args H=some v)(hl:yB μ args args'.toList) :
  (callFunc 175 args').run Tryz.prog w=.ok (.enter 175 args') w/\Calls Tryz.prog 175 args' w fun e w'=>∃v',e=.returned v'/\vA μ v v'/\Below w.heap.size w w':=by
 refine⟨xQ (fn:=Tryz.f175) Tryz.func175 (by kernel_rfl),?_⟩
 unfold ztm at hv;split at hv
 case h_2=>cases hv
 rename_i n;rw[xB,ybb]at hv;obtain⟨⟨h1,h2⟩,hv⟩:=hv
 cases hv;rw[yB]at hl;obtain⟨x,r,he,hx,hr⟩:=hl
 rw[yB]at hr;rw[vA]at hx;subst hr hx
 have:args' = #[.int .i64 n]:=by apply yax.1;simpa using he
 subst this;have g1 : -9223372036854775808<=n:=(zin _ _).1 h1
 have g2:n<9223372036854775808:=(za5 _ _).1 h2
 refine(Tryz.strconv_Itoa n g1 (by omega) w hI.tab).mono fun e w' ⟨he,k,os,hw⟩=>?_
 subst hw;exact⟨_,he,by rw[vA];exact⟨_,rfl,rfl⟩,zg1 k os⟩
def zke(hI:lF w)(hv:zx5 args H=some v)(hl:yB μ args args'.toList) :
  (callFunc 193 args').run Tryz.prog w=.ok (.enter 193 args') w/\Calls Tryz.prog 193 args' w fun e w'=>∃v',e=.returned v'/\vA μ v v'/\Below w.heap.size w w':=by
 refine⟨xQ (fn:=Tryz.f193) Tryz.func193 (by kernel_rfl),?_⟩
 unfold zx5 at hv;split at hv
 case h_2=>cases hv
 rename_i n b;rw[xB,ybb,ybb]at hv;obtain⟨⟨⟨h1,h2⟩,h3⟩,hv⟩:=hv
 cases hv;obtain⟨x,y,rfl,hx,hy⟩:=zb2 hl
 rw[vA]at hx hy;subst hx hy
 have g1:0<=n:=(zin _ _).1 h1
 have g2:n<18446744073709551616:=(za5 _ _).1 h2
 obtain rfl:b=10:=(bP _ _).1 h3
 obtain⟨u,rfl⟩:∃u:Nat,n=u:=⟨n.toNat,by omega⟩
 refine(uint14 u (by omega) w hI.tab).mono fun e w' ⟨he,k,os,hw⟩=>?_
 subst hw;exact⟨_,he,by rw[vA];exact⟨_,rfl,rfl⟩,zg1 k os⟩
end
section
variable {B N:Nat}{μ:Mu}{H H':xA}{w:World}{args:List zA}{args':Array Value}{v:zA}
def zf9{base:Nat}(hbase:B<=base)(hH:zB B N μ H w)(hv:zdj base vV args H=some (v,H'))(hl:yB μ args args'.toList) :
  (callFunc 144 args').run Tryz.prog w=.ok (.enter 144 args') w/\Calls Tryz.prog 144 args' w fun e w'=>∃v' μ',e=.returned v'/\μ.le μ'/\zB B N μ' H' w'/\Below N w w'/\vA μ' v v':=
 zx6 hbase (fun p hp b n w h1 h2 h3 h4=>by
  unfold vV at hp;rcases ybs.1 hp with rfl | hp
  ·exact zi0 b n w h1 h2 (show 2<n from h3) h4
  ·obtain rfl:p=(164,2):=by simpa using hp
   exact zbz b n w h1 h2 (show 1<n from h3) h4) (fun b w h=>zlz b w h) (fun w a=>xQ (fn:=Tryz.f144) Tryz.func144 (by kernel_rfl)) hH hv hl
def zdh{base:Nat}(hbase:B<=base)(hH:zB B N μ H w)(hv:zV base 5 args H=some (v,H'))(hl:yB μ args args'.toList) :
  (callFunc 88 args').run Tryz.prog w=.ok (.enter 88 args') w/\Calls Tryz.prog 88 args' w fun e w'=>∃v' μ',e=.returned v'/\μ.le μ'/\zB B N μ' H' w'/\Below N w w'/\vA μ' v v':=
 ztl Tryz.lays169 Tryz.Builder_Extra_169 (f:=88) rfl hbase (fun w a=>xQ (fn:=Tryz.f88) Tryz.func88 (by kernel_rfl)) hH hv hl
end
def eK{α:Type}{t:Tr α}{i j:Nat}{x y:α}(h:(t.set i x).get j=some y):(j=i/\x=y)\/t.get j=some y:=by
 rw[Tr.get_set]at h;split at h
 ·rename_i e;exact .inl ⟨e,yci h⟩
 ·exact .inr h
def dX(f0 N:Nat):cS Tryz.prog (C14v f0) 256 N lF:=by
 intro f g hg args H v H' hv μ w args' hH hI hl;have hg:aU.get f=some g:=hg
 unfold aU at hg;rcases eK hg with⟨rfl,rfl⟩ | hg
 ·exact jP hv hH fun hv=>zth hv hl
 rcases eK hg with⟨rfl,rfl⟩ | hg
 ·exact jP hv hH fun hv=>zae hI hv hl
 rcases eK hg with⟨rfl,rfl⟩ | hg
 ·exact jP hv hH fun hv=>zke hI hv hl
 rcases eK hg with⟨rfl,rfl⟩ | hg
 ·exact jP hv hH fun hv=>zkf hI hv hl
 rcases eK hg with⟨rfl,rfl⟩ | hg
 ·exact .inr (zdh (ybk _) hH hv hl)
 rcases eK hg with⟨rfl,rfl⟩ | hg
 ·exact .inr (zf9 (ybk _) hH hv hl)
 ·rw[Tr.get_leaf]at hg;cases hg
def sim14v(f0 N:Nat)(hN:5<=N):Sim Tryz.prog (C14v f0) 256 N lF:=
 ⟨zjq rfl,zgp rfl,dX f0 N,ybk _,by kernel_rfl,fun _ _ hb h=>h.below hN hb⟩
def zqe{C:oA}{f n:Nat}{args:List zA}{args':Array Value}{w:World}{v:zA}{H':xA}(hw:lF w)(hS:Sim Tryz.prog C 256 w.heap.size lF)(hroot:C.root=f)(hl:yB mu0 args args'.toList)
  (hr:zqg C n (kP C f args H14)=.done v H'):Calls Tryz.prog f args' w fun e w'=>∃v' μ',e=.returned v'/\vA μ' v v'/\zB 256 w.heap.size μ' H' w'/\Below w.heap.size w w':=by
 unfold kP at hr;have stuck:∀(n k:Nat),zqg C n (.fail k)=.fail k:=by
  intro n;induction n with
  | zero=>intro k;rfl
  | succ n ih=>
   intro k;show zqg C n (zqg C n (.fail k))=_
   rw[ih,ih]
 cases he:jJ C f args false with
 | none=>
  rw[he]at hr;rw[stuck]at hr
  cases hr
 | some g=>
  rw[he]at hr;exact(zl1 hS hw hroot (hrel14 hw) hl he hr).mono fun e w' ⟨v',μ',h1,_,h3,h4,h5⟩=>⟨v',μ',h1,h3,h4,h5⟩
def zm6{C:oA}{f n:Nat}{args:List zA}{args':Array Value}{w:World}(hw:lF w)(hS:Sim Tryz.prog C 256 w.heap.size lF)(hroot:C.root=f)(hl:yB mu0 args args'.toList)
  (h:aE (zqg C n (kP C f args H14))=1):Calls Tryz.prog f args' w fun e w'=>e=.returned (.bool true)/\Below w.heap.size w w':=by
 obtain⟨H',hr⟩:=z9y h
 refine(zqe hw hS hroot hl hr).mono fun e w' ⟨v',μ',h1,h3,_,h5⟩=>?_
 rw[vA]at h3;exact⟨by rw[h1,h3],h5⟩
def zlm{o:wE}{v:zA}(h:finV o=some v):∃H,o=.done v H:=by
 cases o with
 | done u H=>obtain rfl:=yci h;exact⟨H,rfl⟩
 | next s=>cases h
 | fail n=>cases h
section
variable {μ:Mu}{H H':xA}{w:World}{args:List zA}{args':Array Value}{v:zA}
def z88{y m:Nat}(h1:1900<=y)(h2:y<=2000)(h3:1<=m)(h4:m<=12):zyt y m=true:=by
 have h:=z3y
 rw[ycb]at h;have h:=h (y-1900) (List.mem_range.2 (by omega))
 rw[ycb]at h;have h:=h (m-1) (List.mem_range.2 (by omega))
 rw[show 1900+(y-1900)=y by omega,show 1+(m-1)=m by omega]at h
 exact h
def z3f(hI:lF w)(hv:z8r args H=some v)(hl:yB μ args args'.toList) :
  (callFunc 176 args').run Tryz.prog w=.ok (.enter 176 args') w/\Calls Tryz.prog 176 args' w fun e w'=>∃v',e=.returned v'/\vA μ v v'/\Below w.heap.size w w':=by
 refine⟨xQ (fn:=Tryz.f176) Tryz.func176 (by kernel_rfl),?_⟩
 unfold z8r at hv;split at hv
 case h_2=>cases hv
 rename_i y m;unfold lenO at hv;rw[xB,ybb,ybb,ybb,dD,dD,dD,dD]at hv;obtain⟨⟨h1,h2,h3,h4⟩,hv⟩:=hv
 cases hv;obtain⟨x,z,rfl,hx,hz⟩:=zb2 hl
 rw[vA]at hx hz;have hr:=z88 h1 h2 h3 h4
 unfold zyt at hr;split at hr
 case h_2=>cases hr
 rename_i n hn;have hn':=oB.1 hr
 obtain⟨H1,he⟩:=zlm hn
 refine(zqe hI (sim14v 176 w.heap.size hI.size) rfl (args' := #[x,z]) (.cons (by rw[vA];exact hx) (.single (by rw[vA];exact hz))) he).mono fun e w' ⟨v',μ',g1,g2,_,g4⟩=>?_
 rw[vA]at g2;exact⟨_,g1,by rw[g2,vA,<- hn'];rfl,g4⟩
def znt(f0 N:Nat):cS Tryz.prog (C14l f0) 256 N lF:=by
 intro f g hg args H v H' hv μ w args' hH hI hl;have hg:zh1.get f=some g:=hg
 unfold zh1 at hg;rcases eK hg with⟨rfl,rfl⟩ | hg
 ·exact jP hv hH fun hv=>z3f hI hv hl
 ·exact dX f0 N f g hg args H v H' hv μ w args' hH hI hl
def sim14l(f0 N:Nat)(hN:5<=N):Sim Tryz.prog (C14l f0) 256 N lF:=
 ⟨zjq rfl,zgp rfl,znt f0 N,ybk _,by kernel_rfl,fun _ _ hb h=>h.below hN hb⟩
def zlj:∀ {l:List (List Nat × Int)} {s:List Nat} {v:zA},z4v l s=some v->∃n,(s,n)∈l/\v=.tup [.int .i64 n,.int .i64 0]
 | [],_,_,h=>by cases h
 | p::r,s,v,h=>by
  unfold z4v at h;rw[iB]at h;split at h
  ·rename_i e
   have e:=(rM _ _).1 e
   exact⟨p.2,by rw[<- e];exact .head _,(yci h).symm⟩
  ·obtain⟨n,h1,h2⟩:=zlj h
   exact⟨n,.tail _ h1,h2⟩
def zxw(hI:lF w)(hv:z8s args H=some v)(hl:yB μ args args'.toList) :
  (callFunc 129 args').run Tryz.prog w=.ok (.enter 129 args') w/\Calls Tryz.prog 129 args' w fun e w'=>∃v',e=.returned v'/\vA μ v v'/\Below w.heap.size w w':=by
 refine⟨xQ (fn:=Tryz.f129) Tryz.func129 (by kernel_rfl),?_⟩
 unfold z8s at hv;split at hv
 case h_2=>cases hv
 rename_i s;obtain⟨n,hm,rfl⟩:=zlj hv
 obtain⟨x,r,he,hx,hr⟩:=hl
 have hr':r=[]:=by rw[yB]at hr;exact hr
 subst hr'
 have hx0:=hx
 rw[vA]at hx;have:=ycb.1 z0x _ hm
 unfold z0y at this;split at this
 case h_2=>cases this
 rename_i u hu;have e:=iU _ _ _ this
 subst e;obtain⟨H1,he1⟩:=zlm hu
 have ea:args' = #[x]:=by apply yax.1;simpa using he
 subst ea;refine(zqe hI (sim14l 129 w.heap.size hI.size) rfl (args' := #[x]) (.single (by rw[vA];exact hx)) he1).mono fun e w' ⟨v',μ',g1,g2,_,g4⟩=>?_
 exact⟨_,g1,by
  simp only[vA,yB]at g2 ⊢
  exact g2,g4⟩
def znu(f0 N:Nat):cS Tryz.prog (z12 f0) 256 N lF:=by
 intro f g hg args H v H' hv μ w args' hH hI hl;have hg:zh2.get f=some g:=hg
 unfold zh2 at hg;rcases eK hg with⟨rfl,rfl⟩ | hg
 ·exact jP hv hH fun hv=>zxw hI hv hl
 ·exact dX f0 N f g hg args H v H' hv μ w args' hH hI hl
def sim14d(f0 N:Nat)(hN:5<=N):Sim Tryz.prog (z12 f0) 256 N lF:=
 ⟨zjq rfl,zgp rfl,znu f0 N,ybk _,by kernel_rfl,fun _ _ hb h=>h.below hN hb⟩
def zlk:∀ {l:List (List Nat × fI)} {s:List Nat} {g:fI},z4w l s=some g->(s,g)∈l
 | [],_,_,h=>by cases h
 | p::r,s,v,h=>by
  unfold z4w at h;rw[iB]at h;split at h
  ·rename_i e
   have e:=(rM _ _).1 e
   obtain rfl:=yci h
   rw[<- e];exact .head _
  ·exact .tail _ (zlk h)
def zf8{f n N:Nat}{tab:List (List Nat × fI)}(hroot:(z12 f).root=f)(hH:zB 256 N μ H w)(hI:lF w)(hfn:∃fn,Tryz.funcs[f]?=some fn/\fn.body.isSome=true)
  (hruns:(tab.all fun p=>z0o p.2 (zqg (z12 f) n (kP (z12 f) f [.str p.1] H14)))=true)
  (hv:zq0 tab args H=some (v,H')) (hl:yB μ args args'.toList) :
  (callFunc f args').run Tryz.prog w=.ok (.enter f args') w/\Calls Tryz.prog f args' w fun e w'=>∃v' μ',e=.returned v'/\μ.le μ'/\zB 256 N μ' H' w'/\Below N w w'/\vA μ' v v':=by
 obtain⟨fn,hf1,hf2⟩:=hfn
 refine⟨xQ hf1 hf2,?_⟩
 unfold zq0 at hv;split at hv
 case h_2=>cases hv
 rename_i s;rw[sA]at hv;obtain⟨g,hg,hv⟩:=hv
 have hv:=yci hv
 have hm:=zlk hg
 have hrun:=ycb.1 hruns _ hm
 obtain⟨x,r,he,hx,hr⟩:=hl
 have hr':r=[]:=by rw[yB]at hr;exact hr
 subst hr'
 rw[vA]at hx;have ea:args' = #[x]:=by apply yax.1;simpa using he
 subst ea
 cases ho:zqg (z12 f) n (kP (z12 f) f [.str s] H14)with
 | next s0=>rw[ho]at hrun;cases hrun
 | fail k=>rw[ho]at hrun;cases hrun
 | done u H1=>
  rw[ho]at hrun;refine(zqe hI (sim14d f w.heap.size hI.size) hroot (args' := #[x]) (.single (by rw[vA];exact hx)) ho).mono fun e w' ⟨v',μ1,g1,g2,g3,g4⟩=>?_
  obtain⟨μ',k1,k2,k3⟩:=z4p hH g4 g3 g2 hrun
  have ev:v=(zea g H).1:=by rw[hv]
  have eh:H'=(zea g H).2:=by rw[hv]
  subst ev eh
  exact⟨v',μ',g1,k1,k2,g4.mono hH.size,k3⟩
end
def zns(N:Nat):cS Tryz.prog C14w 256 N lF:=by
 intro f g hg args H v H' hv μ w args' hH hI hl;have hg:zh0.get f=some g:=hg
 unfold zh0 at hg;rcases eK hg with⟨rfl,rfl⟩ | hg
 ·exact .inr (zf8 rfl hH hI ⟨_,Tryz.func27,by kernel_rfl⟩ zxz hv hl)
 rcases eK hg with⟨rfl,rfl⟩ | hg
 ·exact .inr (zf8 rfl hH hI ⟨_,Tryz.func26,by kernel_rfl⟩ zxk hv hl)
 ·exact dX 9 N f g hg args H v H' hv μ w args' hH hI hl
def sim14w(N:Nat)(hN:5<=N):Sim Tryz.prog C14w 256 N lF:=
 ⟨zjq rfl,zgp rfl,zns N,ybk _,by kernel_rfl,fun _ _ hb h=>h.below hN hb⟩
def zph{w:World}(hw:lF w):Calls Tryz.prog 9 #[] w fun e w'=>e=.returned (.bool true)/\Below w.heap.size w w':=
 zm6 hw (sim14w _ hw.size) rfl .nil z1l
def zti{μ:Mu}{H:xA}{w:World}{args:List zA}{args':Array Value}{v:zA}(hI:lF w)(hv:z3i args H=some v)(hl:yB μ args args'.toList) :
  (callFunc 9 args').run Tryz.prog w=.ok (.enter 9 args') w/\Calls Tryz.prog 9 args' w fun e w'=>∃v',e=.returned v'/\vA μ v v'/\Below w.heap.size w w':=by
 refine⟨xQ (fn:=Tryz.f9) Tryz.func9 (by kernel_rfl),?_⟩
 unfold z3i at hv;split at hv
 case h_2=>cases hv
 cases hv;rw[yB]at hl;have:args' = #[]:=by apply yax.1;simpa using hl
 subst this;exact(zph hI).mono fun e w' ⟨h1,h2⟩=>⟨_,h1,by rw[vA],h2⟩
end Go.Am
namespace Go.Am
open Go Go.RowKit
@[simp] theorem oD {α:Type} {x:Option α}:cA true x=x:=rfl
inductive D where
 | int (k:IntKind) (n:Int)
 | bool (b:Bool)
 | str (s:List Nat)
 | sl (sz:Nat) (l:List D)
 | st (l:List D)
def At (t:Tr rA)(b off:Nat)(cs:List zA):Prop:=∃c n lo,t.get b=some (.cells c n lo)/\∀(j:Nat) a,cs[j]?=some a->c.get (off+j)=some a
def elems(t:Tr rA)(sz:Nat)(v:zA)(cl:List (List zA)):Prop:=
 (v=.nilslice/\cl=[])\/∃b off cap,v=.slice b off cl.length cap/\cl.length<=cap/\(∃c n lo,t.get b=some (.cells c n lo)/\(lo=none\/∃x,lo=some x/\x.es=sz))/\∀(i:Nat) cs,cl[i]?=some cs->cs.length=sz/\At t b (off+i*sz) cs
mutual
/-- cells read as data -/
def RD (t:Tr rA):D->List zA->Prop
 | .int k n,cs=>cs=[.int k n]
 | .bool b,cs=>cs=[.bool b]
 | .str s,cs=>cs=[.str s]
 | .sl sz l,cs=>∃a cl,cs=[a]/\elems t sz a cl/\jC t l cl
 | .st l,cs=>∃cl,cs=cl.flatten/\jC t l cl
def jC (t:Tr rA):List D->List (List zA)->Prop
 | [],cl=>cl=[]
 | d::l,cl=>∃c r,cl=c::r/\RD t d c/\jC t l r
end
def dA (t t':Tr rA):Prop:=∀b y,t.get b=some y->t'.get b=some y
def dA.refl(t:Tr rA):dA t t:=fun _ _ h=>h
def dA.trans{a b c:Tr rA}(h:dA a b)(k:dA b c):dA a c:=fun x y e=>k x y (h x y e)
section
variable {t t':Tr rA}{C:oA}
def At.mono(h:dA t t'){b off:Nat}{cs:List zA}(k:At t b off cs):At t' b off cs:=by
 obtain⟨c,n,lo,h1,h2⟩:=k;exact⟨c,n,lo,h _ _ h1,h2⟩
def elems.mono(h:dA t t'){sz:Nat}{v:zA}{cl:List (List zA)}(k:elems t sz v cl):elems t' sz v cl:=by
 rcases k with k | ⟨b,off,cap,h1,h3,⟨c,n,lo,h4,h5⟩,h2⟩
 ·exact .inl k
 ·exact .inr ⟨b,off,cap,h1,h3,⟨c,n,lo,h _ _ h4,h5⟩,fun i cs hi=>⟨(h2 i cs hi).1,(h2 i cs hi).2.mono h⟩⟩
mutual
def RD.mono(h:dA t t'):∀(d:D) (cs:List zA),RD t d cs->RD t' d cs
 | .int _ _,_,k=>k
 | .bool _,_,k=>k
 | .str _,_,k=>k
 | .sl _ l,_,⟨a,cl,h1,h2,h3⟩=>⟨a,cl,h1,h2.mono h,jC.mono h l cl h3⟩
 | .st l,_,⟨cl,h1,h2⟩=>⟨cl,h1,jC.mono h l cl h2⟩
def jC.mono(h:dA t t'):∀(l:List D) (cl:List (List zA)),jC t l cl->jC t' l cl
 | [],_,k=>k
 | d::l,_,⟨c,r,h1,h2,h3⟩=>⟨c,r,h1,RD.mono h d c h2,jC.mono h l r h3⟩
end
def jC.length:∀ {l:List D} {cl:List (List zA)},jC t l cl->cl.length=l.length:=by
 intro l;induction l with
 | nil=>intro cl h;rw[jC]at h;simp[h]
 | cons d l ih=>intro cl h;rw[jC]at h;obtain⟨c,r,rfl,_,h3⟩:=h;simp[ih h3]
def jC.get:∀ {l:List D} {cl:List (List zA)} {i:Nat} {d:D},jC t l cl->l[i]?=some d->∃cs,cl[i]?=some cs/\RD t d cs:=by
 intro l;induction l with
 | nil=>intro cl i d _ h;simp at h
 | cons e l ih=>
  intro cl i d h hi;rw[jC]at h;obtain⟨c,r,rfl,h2,h3⟩:=h
  cases i with
  | zero=>simp at hi;subst hi;exact⟨c,by simp,h2⟩
  | succ i=>simp at hi;obtain⟨cs,h4,h5⟩:=ih h3 hi;exact⟨cs,by simpa using h4,h5⟩
def jC.mk:∀ {l:List D} {cl:List (List zA)},cl.length=l.length->(∀(i:Nat) d cs,l[i]?=some d->cl[i]?=some cs->RD t d cs)->jC t l cl:=by
 intro l;induction l with
 | nil=>intro cl h _;rw[jC];simpa using h
 | cons e l ih=>
  intro cl h k
  cases cl with
  | nil=>simp at h
  | cons c r=>
   rw[jC];exact⟨c,r,rfl,k 0 e c (by simp) (by simp),ih (by simpa using h) fun i d cs h1 h2=>k (i+1) d cs (by simpa using h1) (by simpa using h2)⟩
@[simp] theorem tP {k:IntKind} {n:Int} {cs:List zA}:RD t (.int k n) cs ↔ cs=[.int k n]:=Iff.rfl
@[simp] theorem dS {b:Bool} {cs:List zA}:RD t (.bool b) cs ↔ cs=[.bool b]:=Iff.rfl
@[simp] theorem zha {s:List Nat} {cs:List zA}:RD t (.str s) cs ↔ cs=[.str s]:=Iff.rfl
def jA (t:Tr rA)(sz:Nat)(l:List D)(v:zA):Prop:=∃cl,elems t sz v cl/\jC t l cl
def jA.mono(h:dA t t'){sz:Nat}{l:List D}{v:zA}(k:jA t sz l v):jA t' sz l v:=by
 obtain⟨cl,h1,h2⟩:=k;exact⟨cl,h1.mono h,jC.mono h _ _ h2⟩
def xK{sz:Nat}{l:List D}{cs:List zA}:RD t (.sl sz l) cs ↔ ∃v,cs=[v]/\jA t sz l v:=by
 rw[RD];constructor
 ·rintro⟨a,cl,rfl,h1,h2⟩;exact⟨a,rfl,cl,h1,h2⟩
 ·rintro⟨a,rfl,cl,h1,h2⟩;exact⟨a,cl,rfl,h1,h2⟩
def sI{l:List D}{cs:List zA}:RD t (.st l) cs ↔ ∃cl,cs=cl.flatten/\jC t l cl:=by rw[RD]
def mH{cl:List (List zA)}:jC t [] cl ↔ cl=[]:=by rw[jC]
def xF{d:D}{l:List D}{cl:List (List zA)}:jC t (d::l) cl ↔ ∃c r,cl=c::r/\RD t d c/\jC t l r:=by rw[jC]
def jA.one{sz:Nat}{l:List D}{v:zA}(h:jA t sz l v):zA.one v=true:=by
 obtain⟨cl,h1,_⟩:=h
 rcases h1 with⟨rfl,_⟩ | ⟨b,off,cap,rfl,_⟩
 ·decide
 ·rfl
def jA.len{sz:Nat}{l:List D}{v:zA}(h:jA t sz l v):zC v=some (.int .i64 (l.length:Int)):=by
 obtain⟨cl,h1,h2⟩:=h
 have:=h2.length
 rcases h1 with⟨rfl,rfl⟩ | ⟨b,off,cap,rfl,_⟩
 ·have:l.length=0:=this.symm
  rw[this];rfl
 ·rw[<- this];rfl
def jA.same{sz d:Nat}{l:List D}{v:zA}(h:jA t sz l v):same d v v=true:=by
 obtain⟨cl,h1,_⟩:=h
 rcases h1 with⟨rfl,_⟩ | ⟨b,off,cap,rfl,_⟩
 ·cases d <;> (unfold Am.same;rfl)
 ·have e:∀n,Nat.beq n n=true:=Nat.beq_refl
  cases d <;> (unfold Am.same;simp only[e,Bool.and_self])
def qV{sz:Nat}{l:List D}{v:zA}(h:jA t sz l v):zve .nilslice v=true:=by
 obtain⟨cl,h1,_⟩:=h
 rcases h1 with⟨rfl,_⟩ | ⟨b,off,cap,rfl,_⟩<;>rfl
def At.load{b off j n:Nat}{cs:List zA}(h:At t b off cs){ty:Nat}{y:uC}(hy:C.tys.get ty=some y)(ha:y.desc.isAgg=true)(hn:y.size=n)(hj:j+n<=cs.length):mA C ty ⟨0,t⟩ (.ptr b (off+j))=some (.agg ((cs.drop j).take n)):=by
 obtain⟨c,m,lo,h1,h2⟩:=h
 unfold mA;simp only[zA.asPtr,uA];rw[hy,uA];unfold xD;rw[h1,uA];simp only[rA.asCells,uA];unfold yN;rw[ha,cond_true,hn];have key:∀(n j:Nat),j+n<=cs.length->c.many n (off+j)=some ((cs.drop j).take n):=by
  intro n;induction n with
  | zero=>intro j _;simp;rfl
  | succ n ih=>
   intro j hj;have hlt:j<cs.length:=by omega
   rw[Tr.many_succ,h2 j cs[j] (ybd hlt),uA,show off+j+1=off+(j+1) by omega,ih (j+1) (by omega),uA,ybl hlt,List.take_succ_cons]
 rw[key n j hj];rfl
def At.load1{b off j:Nat}{cs:List zA}{a:zA}(h:At t b off cs){ty:Nat}{y:uC}(hy:C.tys.get ty=some y)(ha:y.desc.isAgg=false)(hj:cs[j]?=some a):mA C ty ⟨0,t⟩ (.ptr b (off+j))=some a:=by
 obtain⟨c,m,lo,h1,h2⟩:=h
 unfold mA;simp only[zA.asPtr,uA];rw[hy,uA];unfold xD;rw[h1,uA];simp only[rA.asCells,uA];unfold yN;rw[ha,cond_false];exact h2 j a hj
structure yF (C:oA) (T el sz:Nat) (agg:Bool):Prop where
 ty:∃y,C.tys.get T=some y/\y.desc.asSlice=some el
 el:∃y,C.tys.get el=some y/\y.size=sz/\y.desc.isAgg=agg
def tX(agg:Bool)(cs:List zA):zA:=if agg then .agg cs else match cs with | a::_=>a | []=>.nilptr
def yF.at{T el sz:Nat}{agg:Bool}(h:yF C T el sz agg)(h1:agg=false->sz=1){l:List D}{v:zA}(hr:jA t sz l v){i:Nat}{d:D}(hi:l[i]?=some d) :
  ∃b off cs,lB C T v (.int .i64 (i:Int))=some (.ptr b off)/\mA C el ⟨0,t⟩ (.ptr b off)=some (tX agg cs)/\At t b off cs/\cs.length=sz/\RD t d cs:=by
 obtain⟨⟨y,hy1,hy2⟩,⟨z,hz1,hz2,hz3⟩⟩:=h
 obtain⟨cl,he,hd⟩:=hr
 obtain⟨cs,hc,hrd⟩:=hd.get hi
 rcases he with⟨rfl,rfl⟩ | ⟨b,off,cap,rfl,_,_,he⟩
 ·simp at hc
 ·obtain⟨hl,ha⟩:=he i cs hc
  have hlt:i<cl.length:=(ybc.1 hc).1
  refine⟨b,off+i*sz,cs,?_,?_,ha,hl,hrd⟩
  ·unfold lB
   rw[hy1,uA];have:(zA.int .i64 (i:Int)).asNat=some i:=rfl
   rw[this,uA];simp only[zA.asSlice];rw[hy2,uA,hz1,uA,kB.2 hlt,hz2];rfl
  ·cases agg with
   | true=>
    have:=ha.load (j:=0) hz1 hz3 hz2 (by omega)
    simp only[yct,ycr]at this;rw[this,<- hl,List.take_length];rfl
   | false=>
    have hs:=h1 rfl
    cases cs with
    | nil=>simp at hl;omega
    | cons a r=>
     have:=ha.load1 (j:=0) (a:=a) hz1 hz3 (by simp)
     rw[yct]at this;rw[this];rfl
end
section
variable {t:Tr rA}{C:oA}
def yF.front{T el sz:Nat}{agg:Bool}(h:yF C T el sz agg){l:List D}{v:zA}(hr:jA t sz l v){k:Nat}(hk:k<=l.length) :
  ∃v',vG C T ⟨0,t⟩ v none (some (.int .i64 (k:Int)))=some v'/\jA t sz (l.take k) v':=by
 obtain⟨⟨y,hy1,hy2⟩,⟨z,hz1,hz2,hz3⟩⟩:=h
 obtain⟨cl,he,hd⟩:=hr
 have hlen:=hd.length
 unfold vG;rw[hy1,uA];have hb:∀y,xR y (.int .i64 (k:Int))=cA (Nat.ble k y) (some k):=fun y=>rfl
 rcases he with⟨rfl,rfl⟩ | ⟨b,off,cap,rfl,hcap,⟨c,n,lo,hg,hlo⟩,he⟩
 ·have:k=0:=by simp at hlen;omega
  subst this;refine⟨.nilslice,?_,[],.inl ⟨rfl,rfl⟩,by simp[jC]⟩
  unfold rK;simp only[zA.asStr,zA.asSlice,zA.asPtr];rw[hy2,uA,hz1,uA];rfl
 ·refine⟨.slice b off k cap,?_,cl.take k,.inr ⟨b,off,cap,?_,?_,⟨c,n,lo,hg,hlo⟩,fun i cs hi=>?_⟩,?_⟩
  ·unfold rK
   simp only[zA.asStr,zA.asSlice];rw[hy2,uA];unfold vL;rw[hz1,uA];unfold nM zes;simp only[hb];rw[show Nat.ble k cap=true from dD.2 (by omega)]
   simp only[oD,uA];have he2:aI ⟨0,t⟩ b z.size cap 0 false=false:=by
    unfold aI xD;rw[hg,uA];simp only[rA.asCells];rcases hlo with rfl | ⟨x,rfl,hx⟩
    ·rfl
    ·simp
   rw[he2,yay,cond_false];have hf:jH ⟨0,t⟩ b z.size cap 0 false=true:=by
    unfold jH xD;rw[hg,uA];simp only[rA.asCells];rcases hlo with rfl | ⟨x,rfl,hx⟩
    ·rfl
    ·simp[hz2,hx]
   rw[show Nat.ble k cap=true from dD.2 (by omega),hf]
   simp only[Bool.and_self,oD];congr 1
   cases hq:Nat.beq cap 0<;>simp
  ·rw[yda];congr 1;omega
  ·rw[yda];omega
  ·rw[ydf]at hi
   split at hi
   ·exact he i cs hi
   ·cases hi
  ·refine jC.mk (by rw[yda,yda];omega) fun i d cs h1 h2=>?_
   rw[ydf]at h1 h2;split at h1
   ·rename_i e
    rw[yab e]at h2;obtain⟨cs',h3,h4⟩:=hd.get h1
    rw[h3]at h2;cases h2;exact h4
   ·cases h1
end
mutual
def D.zs:D->List zA
 | .int k _=>[.int k 0]
 | .bool _=>[.bool false]
 | .str _=>[.str []]
 | .sl _ _=>[.nilslice]
 | .st l=>D.zss l
def D.zss:List D->List zA
 | []=>[]
 | d::l=>d.zs++D.zss l
end
def zlh:∀(z z' l l':List zA),mL z l=true->mL z' l'=true->mL (z++z') (l++l')=true
 | [],_,[],_,_,h=>h
 | a::z,z',b::l,l',h,k=>by
  unfold mL at h;rw[ybb]at h;show(zve a b&&mL (z++z') (l++l'))=true
  rw[h.1,zlh z z' l l' h.2 k];rfl
 | [],_,_::_,_,h,_=>by cases h
 | _::_,_,[],_,h,_=>by cases h
mutual
def zoq{t:Tr rA}:∀(d:D) (cs:List zA),RD t d cs->mL d.zs cs=true
 | .int k n,cs,h=>by
  rw[RD]at h;subst h;show(zve (.int k 0) (.int k n)&&true)=true
  simp only[zve,zA.asIntK,Bool.and_true];exact jI.2 rfl
 | .bool _,cs,h=>by rw[RD]at h;subst h;rfl
 | .str _,cs,h=>by rw[RD]at h;subst h;rfl
 | .sl sz l,cs,h=>by
  rw[xK]at h;obtain⟨v,rfl,h⟩:=h
  show(zve .nilslice v&&true)=true
  rw[qV h];rfl
 | .st l,cs,h=>by
  rw[sI]at h;obtain⟨cl,rfl,h⟩:=h
  show mL (D.zss l) cl.flatten=true
  exact zr2 l cl h
def zr2{t:Tr rA}:∀(l:List D) (cl:List (List zA)),jC t l cl->mL (D.zss l) cl.flatten=true
 | [],cl,h=>by rw[jC]at h;subst h;rfl
 | d::l,cl,h=>by
  rw[jC]at h;obtain⟨c,r,rfl,h1,h2⟩:=h
  show mL (d.zs++D.zss l) (c::r).flatten=true
  rw[yas];exact zlh _ _ _ _ (zoq d c h1) (zr2 l r h2)
end
def qB{k:IntKind}{n:Int}:z9o k (.int k n)=some n:=by unfold z9o;simp only[zA.asIntK,uA];rw[jI.2 rfl];rfl
def sU{b:Bool}:(zA.bool b).asBool=some b:=rfl
def zl8{s:List Nat}:(zA.str s).asStr=some s:=rfl
def wW{d:Nat}{k:IntKind}{n:Int}:same d (.int k n) (.int k n)=true:=by
 cases d<;>simp[same,jI,bP]
def zxe{d:Nat}{b:Bool}:same d (.bool b) (.bool b)=true:=by cases d<;>simp[same,uR]
def zhv{d:Nat}{s:List Nat}:same d (.str s) (.str s)=true:=by cases d<;>simp[same,rM]
def wrap_i64{n:Int}(h1 : -9223372036854775808<=n)(h2:n<9223372036854775808):wA .i64 n=n:=by
 rw[iK];simp only[IntKind.wrap,IntKind.bits,IntKind.signed];simp;omega
def dH{t:Tr rA}{d:D}{cs zs:List zA}(h:RD t d cs)(hz:d.zs=zs):kK zs (.agg cs)=some (cellsOf cs):=by
 unfold kK;simp only[zA.asAgg,uA];rw[<- hz,zoq d cs h];rfl
def sQ{zs l:List zA}(h:mL zs l=true):kK zs (.agg l)=some (cellsOf l):=by
 unfold kK;simp only[zA.asAgg,uA,h];rfl
end Go.Am
