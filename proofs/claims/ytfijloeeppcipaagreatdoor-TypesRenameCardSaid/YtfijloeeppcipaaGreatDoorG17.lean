/- Seat 14: strconv.FormatUint at base 10. -/
import Derived.KernelRfl
import Derived.Lib.AppendIntMem
import Derived.ProofKit
import Derived.Test.YtfijloeeppcipaaGreatDoorG11
import Derived.Test.YtfijloeeppcipaaGreatDoorG12
import Derived.Test.YtfijloeeppcipaaGreatDoorG13
import Derived.Test.YtfijloeeppcipaaGreatDoorG14
import Derived.Test.YtfijloeeppcipaaGreatDoorG15
import Derived.Test.YtfijloeeppcipaaGreatDoorG16
set_option linter.all false
noncomputable section
namespace Go.Proofs
open Go Go.Shelf Go.RowKit Go.Sort Go.Lib
set_option maxHeartbeats 1000000 in
set_option maxRecDepth 100000 in
def zke(u:Nat)(hi:u<100)(w:World) :
  Calls Tryz.prog 214 #[.int .u64 u,.int .i64 10] w fun e w'=>e=.returned (.string ⟨(Lib.itoa u).toArray⟩)/\∃k os,w'=Sort.grow (w.drewN k) os:=by
 have hi':(u:Int)<100:=by omega
 have hw:IntKind.i64.wrap (u:Int)=u:=by rw[IntKind.wrap_i64];omega
 go_enter Tryz.func214,Tryz.ntmps214
 go_wp2_with (go_at_fn 227)
 refine(Tryz.internal_strconv_small u hi _).mono ?_
 rintro e w' ⟨rfl,rfl⟩
 go_wp2
 go_ret
 refine⟨?_,0,#[],by simp[World.drewN_zero,Sort.grow]⟩
 rw[Lib.itoa_nonneg];rfl
set_option maxHeartbeats 4000000 in
set_option maxRecDepth 100000 in
def zte (u : Nat) (hu : 100 <= u) (hu64 : u < 18446744073709551616) (w : World) (htab : Lib.TabIs Tryz.prog w "internal/strconv.uint64pow10" .u64 Lib.pow10Tab) :
  Calls Tryz.prog 214 #[.int .u64 u,.int .i64 10] w fun e w'=>e=.returned (.string ⟨(Lib.itoa u).toArray⟩)/\∃k os,w'=Sort.grow (w.drewN k) os:=by
 have hu':(100:Int)<=(u:Int):=by omega
 have hu1:1<=u:=by omega
 have hnd20:Lib.nDigits u<=20:=by have:=Lib.numDigits_eq u hu1 hu64;split at this<;>omega
 have hal:Tryz.prog.arrayLen 270=24:=by kernel_rfl
 have hel:Tryz.prog.elem 270=5:=by kernel_rfl
 have hsl:∀W,(Instr.sliceAt 270 (.pointer (some ⟨w.heap.size,0,none⟩)) none (some (.int .i64 (Lib.nDigits u:Int))) none).run Tryz.prog W=.ok (.slice (some ⟨w.heap.size,0,none⟩) (Lib.nDigits u) 24) W:=fun W=>by
  rw[run_sliceAt_array_h W 270 ⟨w.heap.size,0,none⟩ (by rw[hal,hel];exact Tryz.underlying270) .i64 (Lib.nDigits u:Int) (by omega) (by rw[hal];omega)]
  rw[hal,hel,Tryz.sizeOf5];simp[slicedAt,Addr.add]
 have hH0:=Lib.holds_zero0 w 270 (Lib.nDigits u) (by omega)
 have hfmt:=Tryz.internal_strconv_formatBase10 w.heap.size 0 24 u (Array.replicate (Lib.nDigits u) 0) (w.alloc (.cells Lib.zeros24 270)) hH0 (by rw[Array.size_replicate];exact Lib.lt_pow_nDigits u) hu64 (by rw[Array.size_replicate];omega)
 rw[Array.size_replicate]at hfmt;have HH0:=Lib.hid hH0
 clear hH0 hal hel
 go_enter Tryz.func214,Tryz.ntmps214
 go_wp2_with (go_at_fn 228)
 refine(Tryz.internal_strconv_numDigits u hu1 hu64 _ (Lib.tabIs_alloc htab _)).mono ?_
 rintro e w' ⟨rfl,rfl⟩
 go_wp2_with (go_at_fn 229)
 refine hfmt.mono ?_
 rintro e w' ⟨rfl,k,v',dk,rfl,hF⟩
 have hcv:(convert 38 9 (.slice (some ⟨w.heap.size,0,none⟩) (Lib.nDigits u) 24)).run Tryz.prog ((putRow (fun(b:UInt8)=>Value.int .u8 (b.toNat:Int)) (w.alloc (.cells Lib.zeros24 270)) w.heap.size 0 dk).drewN k)=.ok (.string ⟨(Lib.decDigits u).toArray⟩) ((putRow (fun(b:UInt8)=>Value.int .u8 (b.toNat:Int)) (w.alloc (.cells Lib.zeros24 270)) w.heap.size 0 dk).drewN k):=by
  have h:=run_convert_bytes_back (P:=Tryz.prog) ((putRow (fun(b:UInt8)=>Value.int .u8 (b.toNat:Int)) (w.alloc (.cells Lib.zeros24 270)) w.heap.size 0 dk).drewN k) 38 9 5 ⟨w.heap.size,0,none⟩ 24 (Lib.decDigits u) Tryz.underlying38 Tryz.underlying5 Tryz.underlying9 (fun j hj=>by
   rw[Lib.row_is_numeral hF j hj,Lib.add_plain,World.cell?_drewN];exact cell?_putRow (fun(b:UInt8)=>Value.int .u8 (b.toNat:Int)) _ w.heap.size 0 _ dk HH0.out (by rw[hF.size,Array.size_replicate]) j (by rw[hF.size];rw[Lib.decDigits_length]at hj;exact hj))
  rw[Lib.decDigits_length]at h;exact h
 go_wp2
 go_ret
 obtain⟨os,eo⟩:=Lib.fin_at w (.cells Lib.zeros24 270) dk k 0
 refine⟨?_,k,os,eo⟩
 rw[Lib.itoa_nonneg];rfl
set_option maxHeartbeats 1000000 in
set_option maxRecDepth 100000 in
def uint14 (u : Nat) (hu64 : u < 18446744073709551616) (w : World) (htab : Lib.TabIs Tryz.prog w "internal/strconv.uint64pow10" .u64 Lib.pow10Tab) :
  Calls Tryz.prog 193 #[.int .u64 u,.int .i64 10] w fun e w'=>e=.returned (.string ⟨(Lib.itoa u).toArray⟩)/\∃k os,w'=Sort.grow (w.drewN k) os:=by
 have key:Calls Tryz.prog 214 #[.int .u64 u,.int .i64 10] w fun e w'=>e=.returned (.string ⟨(Lib.itoa u).toArray⟩)/\∃k os,w'=Sort.grow (w.drewN k) os:=by
  by_cases h:u<100
  ·exact zke u h w
  ·exact zte u (by omega) hu64 w htab
 go_enter Tryz.func193,Tryz.ntmps193
 go_wp2_with (go_at_fn 214)
 refine key.mono ?_
 rintro e w' ⟨rfl,k,os,rfl⟩
 go_wp2
 go_ret
 exact⟨rfl,k,os,rfl⟩
end Go.Proofs
set_option maxRecDepth 100000
namespace Go.Am
open Go Go.RowKit Go.Proofs
def zwf:zzbs (fun t ty=>match tyOf Tryz.prog t with | some u=>eqTy u ty | none=>false) tys (fun n=>n)=true:=by kernel_rfl
def zkg{C:oA}(hC:C.tys=tys):jE Tryz.prog C:=by
 intro t ty h;rw[hC]at h;have:=zzbr tys _ zwf t ty h
 cases hu:tyOf Tryz.prog t with
 | none=>rw[hu]at this;cases this
 | some u=>rw[hu]at this;rw[zza4 this]
def zoy : (Tryz.funcs.toList.all fun fn => !(fn.name == "runtime.NumGoroutine")) = true := by kernel_rfl
def zhc{C:oA}(hC:C.fns=fns):zne Tryz.prog C:=by
 intro f fn h;rw[hC]at h;unfold fns at h;rw[Tr.get_ofList]at h;have h2:Tryz.prog.funcs[f]?=some fn:=by
  show Tryz.funcs[f]?=some fn
  simpa using h
 refine⟨h2,?_⟩
 have:=ycb.1 zoy fn (ycv h)
 simpa using this
def u64s (l:List Int):List Value:=l.map fun n=>.int .u64 n
def zqm{μ:Mu}:∀l:List Int,zB μ (z48 .u64 l) (u64s l)
 | []=>.nil
 | b::l=>.cons (by rw[vA]) (zqm l)
structure wG (w:World):Prop where
 modes:∃t,w.heap[0]?=some (.cells (z3c nL).toArray t (0,0))
 lens:∃t,w.heap[3]?=some (.cells (ints z2s).toArray t (0,0))
 most:∃m,w.cell? ⟨1,0,none⟩=some (.int .i64 m)
 pow:∃t,w.heap[4]?=some (.cells (u64s z2r).toArray t (0,0))
def wG.size{w:World}(h:wG w):5<=w.heap.size:=by
 obtain⟨t,h⟩:=h.pow
 have:=(ybe.1 h).1
 omega
def wG.below{w w':World}{N:Nat}(hN:5<=N)(h:wG w)(hb:Below N w w'):wG w':=by
 refine⟨?_,?_,?_,?_⟩
 ·obtain⟨t,h⟩:=h.modes;exact⟨t,by rw[hb.block 0 (by omega)];exact h⟩
 ·obtain⟨t,h⟩:=h.lens;exact⟨t,by rw[hb.block 3 (by omega)];exact h⟩
 ·obtain⟨m,h⟩:=h.most;exact⟨m,by rw[hb.cell (p:=⟨1,0,none⟩) (by show 1<N;omega)];exact h⟩
 ·obtain⟨t,h⟩:=h.pow;exact⟨t,by rw[hb.block 4 (by omega)];exact h⟩
def wG.tab {w : World} (h : wG w) : Lib.TabIs Tryz.prog w "internal/strconv.uint64pow10" .u64 Lib.pow10Tab := by
 obtain⟨t,h⟩:=h.pow
 have hg : Tryz.prog.globalNamed "internal/strconv.uint64pow10" = some 4 := by kernel_rfl
 unfold Lib.TabIs World.var?
 rw[hg];simp only[yai,h];rfl
def hrel14{w:World}(h:wG w):aA 256 w.heap.size mu0 H14 w:=by
 have hget:∀a x,H14.t.get a=some x->(a=0/\x=.cells (Tr.ofList (strA nL)) (yB (strA nL)) none)\/(a=3/\x=.cells (Tr.ofList (z48 .i64 z2s)) (yB (z48 .i64 z2s)) none)\/(a=4/\x=.cells (Tr.ofList (z48 .u64 z2r)) (yB (z48 .u64 z2r)) none):=by
  intro a x hx;have hx:(glob 0 (strA nL) (glob 3 (z48 .i64 z2s) (glob 4 (z48 .u64 z2r) .leaf))).get a=some x:=hx
  unfold glob at hx;rw[Tr.get_set,Tr.get_set,Tr.get_set]at hx;split at hx
  ·rename_i e;exact .inl ⟨e,(yci hx).symm⟩
  ·split at hx
   ·rename_i e;exact .inr (.inl ⟨e,(yci hx).symm⟩)
   ·split at hx
    ·rename_i e;exact .inr (.inr ⟨e,(yci hx).symm⟩)
    ·rw[Tr.get_leaf]at hx;cases hx
 have hsz:=h.size
 refine⟨ybk _,fun g hg=>by simp[mu0,hg],fun a x i _ hx hi=>?_,ybk _,ybk _,fun a ha=>?_,fun a x i hx hi=>?_,fun a i ha hi=>?_,fun a b x y i j hx _ _ _ ha _ _=>?_,fun a x t ha=>by cases ha⟩
 ·rcases hget a x hx with⟨rfl,rfl⟩ | ⟨rfl,rfl⟩ | ⟨rfl,rfl⟩<;>cases hi<;>exact⟨Nat.lt_of_lt_of_le (by decide) hsz,rfl,rfl⟩
 ·have ha:256<=a:=ha
  refine⟨by simp[mu0];omega,?_⟩
  cases hx:H14.t.get a with
  | none=>rfl
  | some x=>rcases hget a x hx with⟨rfl,_⟩ | ⟨rfl,_⟩ | ⟨rfl,_⟩<;>omega
 ·rcases hget a x hx with⟨rfl,rfl⟩ | ⟨rfl,rfl⟩ | ⟨rfl,rfl⟩
  ·obtain⟨t,h⟩:=h.modes;cases hi;exact⟨_,h,ze1 (zqy nL) t⟩
  ·obtain⟨t,h⟩:=h.lens;cases hi;exact⟨_,h,ze1 (zr8 z2s) t⟩
  ·obtain⟨t,h⟩:=h.pow;cases hi;exact⟨_,h,ze1 (zqm z2r) t⟩
 ·simp[mu0]at hi;omega
 ·rcases hget a x hx with⟨rfl,_⟩ | ⟨rfl,_⟩ | ⟨rfl,_⟩<;>omega
def zci{s:ByteArray}{l:List Nat}(h:qE s=l):s.data.toList.map UInt8.toNat=l:=h
def pQ{f:Nat}{fn:Func}(hf:Tryz.funcs[f]?=some fn)(hb:fn.body.isSome=true){args:Array Value}{w:World}:(callFunc f args).run Tryz.prog w=.ok (.enter f args) w:=
 lX (C:=C14w) (zhc rfl) (show fns.get f=some fn by unfold fns;rw[Tr.get_ofList];simpa using hf) hb
section
variable {B N:Nat}{μ:Mu}{H:xA}{w:World}{args:List zA}{args':Array Value}{v:zA}
def zcg{a b:zA}(h:zB μ [a,b] args'.toList):∃x y,args' = #[x,y]/\vA μ a x/\vA μ b y:=by
 rw[zB]at h;obtain⟨x,r,h1,h2,h3⟩:=h
 rw[zB]at h3;obtain⟨y,r',h4,h5,h6⟩:=h3
 rw[zB]at h6;subst h4 h6
 exact⟨x,y,by apply yax.1;simpa using h1,h2,h5⟩
def ztw(hv:zba args H=some v)(hl:zB μ args args'.toList) :
  (callFunc 206 args').run Tryz.prog w=.ok (.enter 206 args') w/\Calls Tryz.prog 206 args' w fun e w'=>∃v',e=.returned v'/\vA μ v v'/\Below w.heap.size w w':=by
 refine⟨pQ (fn:=Tryz.f206) Tryz.func206 (by kernel_rfl),?_⟩
 unfold zba at hv;split at hv
 case h_2=>cases hv
 rename_i s c;rw[wB,vC]at hv;obtain⟨hc,hv⟩:=hv
 cases hv;obtain⟨x,y,rfl,hx,hy⟩:=zcg hl
 simp only[vA]at hx hy;obtain⟨s',rfl,hs⟩:=hx
 subst hy;refine(Tryz.stringslite_IndexByte s' (Int.ofNat c) w).mono fun e w' ⟨he,hw⟩=>?_
 subst hw;refine⟨_,he,?_,Below.refl _ _⟩
 have hcc:(c.toUInt8).toNat=c:=by simp[Nat.toUInt8,UInt8.toNat_ofNat'];omega
 have:=zr9 c.toUInt8 s'.data.toList
 rw[hcc,zci hs]at this;rw[vA];show Value.int .i64 (Lib.indexByte s'.data.toList c.toUInt8)=_
 rw[<- this];done
def zah(hI:wG w)(hv:tV args H=some v)(hl:zB μ args args'.toList) :
  (callFunc 140 args').run Tryz.prog w=.ok (.enter 140 args') w/\Calls Tryz.prog 140 args' w fun e w'=>∃v',e=.returned v'/\vA μ v v'/\Below w.heap.size w w':=by
 refine⟨pQ (fn:=Tryz.f140) Tryz.func140 (by kernel_rfl),?_⟩
 unfold tV at hv;split at hv
 case h_2=>cases hv
 rename_i s c;rw[wB,vC,bC]at hv;obtain⟨hlen,hv⟩:=hv
 cases hv;obtain⟨x,y,rfl,hx,hy⟩:=zcg hl
 rw[vA]at hx hy;obtain⟨s',rfl,hs⟩:=hx
 obtain⟨c',rfl,hc⟩:=hy
 obtain⟨m,hm⟩:=hI.most
 have hsz:s'.size<4294967281:=by
  have:=congrArg List.length (zci hs)
  simp at this;omega
 refine(Tryz.strings_Contains s' c' m w hsz hm).mono fun e w' ⟨he,hw⟩=>?_
 subst hw;refine⟨_,he,?_,Below.refl _ _⟩
 have:=zez c'.data.toList s'.data.toList
 rw[zci hs,zci hc]at this;rw[vA,this]
def zhq(k:Nat)(os:Array Obj):Below w.heap.size w (Sort.grow (w.drewN k) os):=by
 refine⟨rfl,rfl,rfl,?_,fun j hj=>?_⟩
 ·simp[Sort.grow,World.drewN]
 ·show(w.heap++os)[j]?=w.heap[j]?
  rw[yaj hj]
def zk5(hI:wG w)(hv:z4c args H=some v)(hl:zB μ args args'.toList) :
  (callFunc 175 args').run Tryz.prog w=.ok (.enter 175 args') w/\Calls Tryz.prog 175 args' w fun e w'=>∃v',e=.returned v'/\vA μ v v'/\Below w.heap.size w w':=by
 refine⟨pQ (fn:=Tryz.f175) Tryz.func175 (by kernel_rfl),?_⟩
 unfold z4c at hv;split at hv
 case h_2=>cases hv
 rename_i n;rw[wB,ybb]at hv;obtain⟨⟨h1,h2⟩,hv⟩:=hv
 cases hv;rw[zB]at hl;obtain⟨x,r,he,hx,hr⟩:=hl
 rw[zB]at hr;rw[vA]at hx;subst hr hx
 have:args' = #[.int .i64 n]:=by apply yax.1;simpa using he
 subst this;have g1 : -9223372036854775808<=n:=(zjg _ _).1 h1
 have g2:n<9223372036854775808:=(zbj _ _).1 h2
 refine(Tryz.strconv_Itoa n g1 (by omega) w hI.tab).mono fun e w' ⟨he,k,os,hw⟩=>?_
 subst hw;exact⟨_,he,by rw[vA];exact⟨_,rfl,rfl⟩,zhq k os⟩
def zk4(hI:wG w)(hv:zyh args H=some v)(hl:zB μ args args'.toList) :
  (callFunc 193 args').run Tryz.prog w=.ok (.enter 193 args') w/\Calls Tryz.prog 193 args' w fun e w'=>∃v',e=.returned v'/\vA μ v v'/\Below w.heap.size w w':=by
 refine⟨pQ (fn:=Tryz.f193) Tryz.func193 (by kernel_rfl),?_⟩
 unfold zyh at hv;split at hv
 case h_2=>cases hv
 rename_i n b;rw[wB,ybb,ybb]at hv;obtain⟨⟨⟨h1,h2⟩,h3⟩,hv⟩:=hv
 cases hv;obtain⟨x,y,rfl,hx,hy⟩:=zcg hl
 rw[vA]at hx hy;subst hx hy
 have g1:0<=n:=(zjg _ _).1 h1
 have g2:n<18446744073709551616:=(zbj _ _).1 h2
 obtain rfl:b=10:=(tQ _ _).1 h3
 obtain⟨u,rfl⟩:∃u:Nat,n=u:=⟨n.toNat,by omega⟩
 refine(uint14 u (by omega) w hI.tab).mono fun e w' ⟨he,k,os,hw⟩=>?_
 subst hw;exact⟨_,he,by rw[vA];exact⟨_,rfl,rfl⟩,zhq k os⟩
end
section
variable {B N:Nat}{μ:Mu}{H H':xA}{w:World}{args:List zA}{args':Array Value}{v:zA}
def zgs{base:Nat}(hbase:B<=base)(hH:aA B N μ H w)(hv:zlb base zi4 args H=some (v,H'))(hl:zB μ args args'.toList) :
  (callFunc 144 args').run Tryz.prog w=.ok (.enter 144 args') w/\Calls Tryz.prog 144 args' w fun e w'=>∃v' μ',e=.returned v'/\μ.le μ'/\aA B N μ' H' w'/\Below N w w'/\vA μ' v v':=
 zyi hbase (fun p hp b n w h1 h2 h3 h4=>by
  unfold zi4 at hp;rcases ybs.1 hp with rfl | hp
  ·exact zjv b n w h1 h2 (show 2<n from h3) h4
  ·obtain rfl:p=(164,2):=by simpa using hp
   exact zcd b n w h1 h2 (show 1<n from h3) h4) (fun b w h=>zms b w h) (fun w a=>pQ (fn:=Tryz.f144) Tryz.func144 (by kernel_rfl)) hH hv hl
def zds{base:Nat}(hbase:B<=base)(hH:aA B N μ H w)(hv:zdw base 5 args H=some (v,H'))(hl:zB μ args args'.toList) :
  (callFunc 88 args').run Tryz.prog w=.ok (.enter 88 args') w/\Calls Tryz.prog 88 args' w fun e w'=>∃v' μ',e=.returned v'/\μ.le μ'/\aA B N μ' H' w'/\Below N w w'/\vA μ' v v':=
 zt0 Tryz.lays169 Tryz.Builder_Extra_169 (f:=88) rfl hbase (fun w a=>pQ (fn:=Tryz.f88) Tryz.func88 (by kernel_rfl)) hH hv hl
end
def yL{α:Type}{t:Tr α}{i j:Nat}{x y:α}(h:(t.set i x).get j=some y):(j=i/\x=y)\/t.get j=some y:=by
 rw[Tr.get_set]at h;split at h
 ·rename_i e;exact .inl ⟨e,yci h⟩
 ·exact .inr h
def fX(f0 N:Nat):rT Tryz.prog (C14v f0) 256 N wG:=by
 intro f g hg args H v H' hv μ w args' hH hI hl;have hg:uV.get f=some g:=hg
 unfold uV at hg;rcases yL hg with⟨rfl,rfl⟩ | hg
 ·exact zQ hv hH fun hv=>ztw hv hl
 rcases yL hg with⟨rfl,rfl⟩ | hg
 ·exact zQ hv hH fun hv=>zah hI hv hl
 rcases yL hg with⟨rfl,rfl⟩ | hg
 ·exact zQ hv hH fun hv=>zk4 hI hv hl
 rcases yL hg with⟨rfl,rfl⟩ | hg
 ·exact zQ hv hH fun hv=>zk5 hI hv hl
 rcases yL hg with⟨rfl,rfl⟩ | hg
 ·exact .inr (zds (ybk _) hH hv hl)
 rcases yL hg with⟨rfl,rfl⟩ | hg
 ·exact .inr (zgs (ybk _) hH hv hl)
 ·rw[Tr.get_leaf]at hg;cases hg
def sim14v(f0 N:Nat)(hN:5<=N):Sim Tryz.prog (C14v f0) 256 N wG:=
 ⟨zkg rfl,zhc rfl,fX f0 N,ybk _,by kernel_rfl,fun _ _ hb h=>h.below hN hb⟩
def zq1{C:oA}{f n:Nat}{args:List zA}{args':Array Value}{w:World}{v:zA}{H':xA}(hw:wG w)(hS:Sim Tryz.prog C 256 w.heap.size wG)(hroot:C.root=f)(hl:zB mu0 args args'.toList)
  (hr:zq3 C n (aP C f args H14)=.done v H'):Calls Tryz.prog f args' w fun e w'=>∃v' μ',e=.returned v'/\vA μ' v v'/\aA 256 w.heap.size μ' H' w'/\Below w.heap.size w w':=by
 unfold aP at hr;have stuck:∀(n k:Nat),zq3 C n (.fail k)=.fail k:=by
  intro n;induction n with
  | zero=>intro k;rfl
  | succ n ih=>
   intro k;show zq3 C n (zq3 C n (.fail k))=_
   rw[ih,ih]
 cases he:cJ C f args false with
 | none=>
  rw[he]at hr;rw[stuck]at hr
  cases hr
 | some g=>
  rw[he]at hr;exact(zmu hS hw hroot (hrel14 hw) hl he hr).mono fun e w' ⟨v',μ',h1,_,h3,h4,h5⟩=>⟨v',μ',h1,h3,h4,h5⟩
def zny{C:oA}{f n:Nat}{args:List zA}{args':Array Value}{w:World}(hw:wG w)(hS:Sim Tryz.prog C 256 w.heap.size wG)(hroot:C.root=f)(hl:zB mu0 args args'.toList)
  (h:aC (zq3 C n (aP C f args H14))=1):Calls Tryz.prog f args' w fun e w'=>e=.returned (.bool true)/\Below w.heap.size w w':=by
 obtain⟨H',hr⟩:=zzax h
 refine(zq1 hw hS hroot hl hr).mono fun e w' ⟨v',μ',h1,h3,_,h5⟩=>?_
 rw[vA]at h3;exact⟨by rw[h1,h3],h5⟩
def zmg{o:rE}{v:zA}(h:finV o=some v):∃H,o=.done v H:=by
 cases o with
 | done u H=>obtain rfl:=yci h;exact⟨H,rfl⟩
 | next s=>cases h
 | fail n=>cases h
section
variable {μ:Mu}{H H':xA}{w:World}{args:List zA}{args':Array Value}{v:zA}
def z97{y m:Nat}(h1:1900<=y)(h2:y<=2000)(h3:1<=m)(h4:m<=12):zy9 y m=true:=by
 have h:=z4t
 rw[ycb]at h;have h:=h (y-1900) (List.mem_range.2 (by omega))
 rw[ycb]at h;have h:=h (m-1) (List.mem_range.2 (by omega))
 rw[show 1900+(y-1900)=y by omega,show 1+(m-1)=m by omega]at h
 exact h
def z35(hI:wG w)(hv:z9r args H=some v)(hl:zB μ args args'.toList) :
  (callFunc 176 args').run Tryz.prog w=.ok (.enter 176 args') w/\Calls Tryz.prog 176 args' w fun e w'=>∃v',e=.returned v'/\vA μ v v'/\Below w.heap.size w w':=by
 refine⟨pQ (fn:=Tryz.f176) Tryz.func176 (by kernel_rfl),?_⟩
 unfold z9r at hv;split at hv
 case h_2=>cases hv
 rename_i y m;unfold lenO at hv;rw[wB,ybb,ybb,ybb,kE,kE,kE,kE]at hv;obtain⟨⟨h1,h2,h3,h4⟩,hv⟩:=hv
 cases hv;obtain⟨x,z,rfl,hx,hz⟩:=zcg hl
 rw[vA]at hx hz;have hr:=z97 h1 h2 h3 h4
 unfold zy9 at hr;split at hr
 case h_2=>cases hr
 rename_i n hn;have hn':=fB.1 hr
 obtain⟨H1,he⟩:=zmg hn
 refine(zq1 hI (sim14v 176 w.heap.size hI.size) rfl (args' := #[x,z]) (.cons (by rw[vA];exact hx) (.single (by rw[vA];exact hz))) he).mono fun e w' ⟨v',μ',g1,g2,_,g4⟩=>?_
 rw[vA]at g2;exact⟨_,g1,by rw[g2,vA,<- hn'];rfl,g4⟩
def zol(f0 N:Nat):rT Tryz.prog (C14l f0) 256 N wG:=by
 intro f g hg args H v H' hv μ w args' hH hI hl;have hg:zio.get f=some g:=hg
 unfold zio at hg;rcases yL hg with⟨rfl,rfl⟩ | hg
 ·exact zQ hv hH fun hv=>z35 hI hv hl
 ·exact fX f0 N f g hg args H v H' hv μ w args' hH hI hl
def sim14l(f0 N:Nat)(hN:5<=N):Sim Tryz.prog (C14l f0) 256 N wG:=
 ⟨zkg rfl,zhc rfl,zol f0 N,ybk _,by kernel_rfl,fun _ _ hb h=>h.below hN hb⟩
def zmd:∀ {l:List (List Nat × Int)} {s:List Nat} {v:zA},z5n l s=some v->∃n,(s,n)∈l/\v=.tup [.int .i64 n,.int .i64 0]
 | [],_,_,h=>by cases h
 | p::r,s,v,h=>by
  unfold z5n at h;rw[zC]at h;split at h
  ·rename_i e
   have e:=(dJ _ _).1 e
   exact⟨p.2,by rw[<- e];exact .head _,(yci h).symm⟩
  ·obtain⟨n,h1,h2⟩:=zmd h
   exact⟨n,.tail _ h1,h2⟩
def zx9(hI:wG w)(hv:z9s args H=some v)(hl:zB μ args args'.toList) :
  (callFunc 129 args').run Tryz.prog w=.ok (.enter 129 args') w/\Calls Tryz.prog 129 args' w fun e w'=>∃v',e=.returned v'/\vA μ v v'/\Below w.heap.size w w':=by
 refine⟨pQ (fn:=Tryz.f129) Tryz.func129 (by kernel_rfl),?_⟩
 unfold z9s at hv;split at hv
 case h_2=>cases hv
 rename_i s;obtain⟨n,hm,rfl⟩:=zmd hv
 obtain⟨x,r,he,hx,hr⟩:=hl
 have hr':r=[]:=by rw[zB]at hr;exact hr
 subst hr'
 have hx0:=hx
 rw[vA]at hx;have:=ycb.1 z1c _ hm
 unfold z1d at this;split at this
 case h_2=>cases this
 rename_i u hu;have e:=za4 _ _ _ this
 subst e;obtain⟨H1,he1⟩:=zmg hu
 have ea:args' = #[x]:=by apply yax.1;simpa using he
 subst ea;refine(zq1 hI (sim14l 129 w.heap.size hI.size) rfl (args' := #[x]) (.single (by rw[vA];exact hx)) he1).mono fun e w' ⟨v',μ',g1,g2,_,g4⟩=>?_
 exact⟨_,g1,by
  simp only[vA,zB]at g2 ⊢
  exact g2,g4⟩
def zom(f0 N:Nat):rT Tryz.prog (z2j f0) 256 N wG:=by
 intro f g hg args H v H' hv μ w args' hH hI hl;have hg:ziq.get f=some g:=hg
 unfold ziq at hg;rcases yL hg with⟨rfl,rfl⟩ | hg
 ·exact zQ hv hH fun hv=>zx9 hI hv hl
 ·exact fX f0 N f g hg args H v H' hv μ w args' hH hI hl
def sim14d(f0 N:Nat)(hN:5<=N):Sim Tryz.prog (z2j f0) 256 N wG:=
 ⟨zkg rfl,zhc rfl,zom f0 N,ybk _,by kernel_rfl,fun _ _ hb h=>h.below hN hb⟩
def zme:∀ {l:List (List Nat × cI)} {s:List Nat} {g:cI},z5o l s=some g->(s,g)∈l
 | [],_,_,h=>by cases h
 | p::r,s,v,h=>by
  unfold z5o at h;rw[zC]at h;split at h
  ·rename_i e
   have e:=(dJ _ _).1 e
   obtain rfl:=yci h
   rw[<- e];exact .head _
  ·exact .tail _ (zme h)
def zgr{f n N:Nat}{tab:List (List Nat × cI)}(hroot:(z2j f).root=f)(hH:aA 256 N μ H w)(hI:wG w)(hfn:∃fn,Tryz.funcs[f]?=some fn/\fn.body.isSome=true)
  (hruns:(tab.all fun p=>z01 p.2 (zq3 (z2j f) n (aP (z2j f) f [.str p.1] H14)))=true)
  (hv:zrk tab args H=some (v,H')) (hl:zB μ args args'.toList) :
  (callFunc f args').run Tryz.prog w=.ok (.enter f args') w/\Calls Tryz.prog f args' w fun e w'=>∃v' μ',e=.returned v'/\μ.le μ'/\aA 256 N μ' H' w'/\Below N w w'/\vA μ' v v':=by
 obtain⟨fn,hf1,hf2⟩:=hfn
 refine⟨pQ hf1 hf2,?_⟩
 unfold zrk at hv;split at hv
 case h_2=>cases hv
 rename_i s;rw[uA]at hv;obtain⟨g,hg,hv⟩:=hv
 have hv:=yci hv
 have hm:=zme hg
 have hrun:=ycb.1 hruns _ hm
 obtain⟨x,r,he,hx,hr⟩:=hl
 have hr':r=[]:=by rw[zB]at hr;exact hr
 subst hr'
 rw[vA]at hx;have ea:args' = #[x]:=by apply yax.1;simpa using he
 subst ea
 cases ho:zq3 (z2j f) n (aP (z2j f) f [.str s] H14)with
 | next s0=>rw[ho]at hrun;cases hrun
 | fail k=>rw[ho]at hrun;cases hrun
 | done u H1=>
  rw[ho]at hrun;refine(zq1 hI (sim14d f w.heap.size hI.size) hroot (args' := #[x]) (.single (by rw[vA];exact hx)) ho).mono fun e w' ⟨v',μ1,g1,g2,g3,g4⟩=>?_
  obtain⟨μ',k1,k2,k3⟩:=z5h hH g4 g3 g2 hrun
  have ev:v=(zeo g H).1:=by rw[hv]
  have eh:H'=(zeo g H).2:=by rw[hv]
  subst ev eh
  exact⟨v',μ',g1,k1,k2,g4.mono hH.size,k3⟩
end
def zok(N:Nat):rT Tryz.prog C14w 256 N wG:=by
 intro f g hg args H v H' hv μ w args' hH hI hl;have hg:zin.get f=some g:=hg
 unfold zin at hg;rcases yL hg with⟨rfl,rfl⟩ | hg
 ·exact .inr (zgr rfl hH hI ⟨_,Tryz.func27,by kernel_rfl⟩ zyc hv hl)
 rcases yL hg with⟨rfl,rfl⟩ | hg
 ·exact .inr (zgr rfl hH hI ⟨_,Tryz.func26,by kernel_rfl⟩ zxz hv hl)
 ·exact fX 9 N f g hg args H v H' hv μ w args' hH hI hl
def sim14w(N:Nat)(hN:5<=N):Sim Tryz.prog C14w 256 N wG:=
 ⟨zkg rfl,zhc rfl,zok N,ybk _,by kernel_rfl,fun _ _ hb h=>h.below hN hb⟩
def zp6{w:World}(hw:wG w):Calls Tryz.prog 9 #[] w fun e w'=>e=.returned (.bool true)/\Below w.heap.size w w':=
 zny hw (sim14w _ hw.size) rfl .nil z12
def ztx{μ:Mu}{H:xA}{w:World}{args:List zA}{args':Array Value}{v:zA}(hI:wG w)(hv:z4b args H=some v)(hl:zB μ args args'.toList) :
  (callFunc 9 args').run Tryz.prog w=.ok (.enter 9 args') w/\Calls Tryz.prog 9 args' w fun e w'=>∃v',e=.returned v'/\vA μ v v'/\Below w.heap.size w w':=by
 refine⟨pQ (fn:=Tryz.f9) Tryz.func9 (by kernel_rfl),?_⟩
 unfold z4b at hv;split at hv
 case h_2=>cases hv
 cases hv;rw[zB]at hl;have:args' = #[]:=by apply yax.1;simpa using hl
 subst this;exact(zp6 hI).mono fun e w' ⟨h1,h2⟩=>⟨_,h1,by rw[vA],h2⟩
end Go.Am
namespace Go.Am
open Go Go.RowKit
@[simp] theorem lE {α:Type} {x:Option α}:cA true x=x:=rfl
inductive D where
 | int (k:IntKind) (n:Int)
 | bool (b:Bool)
 | str (s:List Nat)
 | sl (sz:Nat) (l:List D)
 | st (l:List D)
def At (t:Tr rA)(b off:Nat)(cs:List zA):Prop:=∃c n lo,t.get b=some (.cells c n lo)/\∀(j:Nat) a,cs[j]?=some a->c.get (off+j)=some a
def mJ(t:Tr rA)(sz:Nat)(v:zA)(cl:List (List zA)):Prop:=
 (v=.nilslice/\cl=[])\/∃b off cap,v=.slice b off cl.length cap/\cl.length<=cap/\(∃c n lo,t.get b=some (.cells c n lo)/\(lo=none\/∃x,lo=some x/\x.es=sz))/\∀(i:Nat) cs,cl[i]?=some cs->cs.length=sz/\At t b (off+i*sz) cs
mutual
/-- cells read as data -/
def RD (t:Tr rA):D->List zA->Prop
 | .int k n,cs=>cs=[.int k n]
 | .bool b,cs=>cs=[.bool b]
 | .str s,cs=>cs=[.str s]
 | .sl sz l,cs=>∃a cl,cs=[a]/\mJ t sz a cl/\sC t l cl
 | .st l,cs=>∃cl,cs=cl.flatten/\sC t l cl
def sC (t:Tr rA):List D->List (List zA)->Prop
 | [],cl=>cl=[]
 | d::l,cl=>∃c r,cl=c::r/\RD t d c/\sC t l r
end
def dA (t t':Tr rA):Prop:=∀b y,t.get b=some y->t'.get b=some y
def dA.refl(t:Tr rA):dA t t:=fun _ _ h=>h
def dA.trans{a b c:Tr rA}(h:dA a b)(k:dA b c):dA a c:=fun x y e=>k x y (h x y e)
section
variable {t t':Tr rA}{C:oA}
def At.mono(h:dA t t'){b off:Nat}{cs:List zA}(k:At t b off cs):At t' b off cs:=by
 obtain⟨c,n,lo,h1,h2⟩:=k;exact⟨c,n,lo,h _ _ h1,h2⟩
def mJ.mono(h:dA t t'){sz:Nat}{v:zA}{cl:List (List zA)}(k:mJ t sz v cl):mJ t' sz v cl:=by
 rcases k with k | ⟨b,off,cap,h1,h3,⟨c,n,lo,h4,h5⟩,h2⟩
 ·exact .inl k
 ·exact .inr ⟨b,off,cap,h1,h3,⟨c,n,lo,h _ _ h4,h5⟩,fun i cs hi=>⟨(h2 i cs hi).1,(h2 i cs hi).2.mono h⟩⟩
mutual
def RD.mono(h:dA t t'):∀(d:D) (cs:List zA),RD t d cs->RD t' d cs
 | .int _ _,_,k=>k
 | .bool _,_,k=>k
 | .str _,_,k=>k
 | .sl _ l,_,⟨a,cl,h1,h2,h3⟩=>⟨a,cl,h1,h2.mono h,sC.mono h l cl h3⟩
 | .st l,_,⟨cl,h1,h2⟩=>⟨cl,h1,sC.mono h l cl h2⟩
def sC.mono(h:dA t t'):∀(l:List D) (cl:List (List zA)),sC t l cl->sC t' l cl
 | [],_,k=>k
 | d::l,_,⟨c,r,h1,h2,h3⟩=>⟨c,r,h1,RD.mono h d c h2,sC.mono h l r h3⟩
end
def sC.length:∀ {l:List D} {cl:List (List zA)},sC t l cl->cl.length=l.length:=by
 intro l;induction l with
 | nil=>intro cl h;rw[sC]at h;simp[h]
 | cons d l ih=>intro cl h;rw[sC]at h;obtain⟨c,r,rfl,_,h3⟩:=h;simp[ih h3]
def sC.get:∀ {l:List D} {cl:List (List zA)} {i:Nat} {d:D},sC t l cl->l[i]?=some d->∃cs,cl[i]?=some cs/\RD t d cs:=by
 intro l;induction l with
 | nil=>intro cl i d _ h;simp at h
 | cons e l ih=>
  intro cl i d h hi;rw[sC]at h;obtain⟨c,r,rfl,h2,h3⟩:=h
  cases i with
  | zero=>simp at hi;subst hi;exact⟨c,by simp,h2⟩
  | succ i=>simp at hi;obtain⟨cs,h4,h5⟩:=ih h3 hi;exact⟨cs,by simpa using h4,h5⟩
def sC.mk:∀ {l:List D} {cl:List (List zA)},cl.length=l.length->(∀(i:Nat) d cs,l[i]?=some d->cl[i]?=some cs->RD t d cs)->sC t l cl:=by
 intro l;induction l with
 | nil=>intro cl h _;rw[sC];simpa using h
 | cons e l ih=>
  intro cl h k
  cases cl with
  | nil=>simp at h
  | cons c r=>
   rw[sC];exact⟨c,r,rfl,k 0 e c (by simp) (by simp),ih (by simpa using h) fun i d cs h1 h2=>k (i+1) d cs (by simpa using h1) (by simpa using h2)⟩
@[simp] theorem oM {k:IntKind} {n:Int} {cs:List zA}:RD t (.int k n) cs ↔ cs=[.int k n]:=Iff.rfl
@[simp] theorem gP {b:Bool} {cs:List zA}:RD t (.bool b) cs ↔ cs=[.bool b]:=Iff.rfl
@[simp] theorem iP {s:List Nat} {cs:List zA}:RD t (.str s) cs ↔ cs=[.str s]:=Iff.rfl
def lA (t:Tr rA)(sz:Nat)(l:List D)(v:zA):Prop:=∃cl,mJ t sz v cl/\sC t l cl
def lA.mono(h:dA t t'){sz:Nat}{l:List D}{v:zA}(k:lA t sz l v):lA t' sz l v:=by
 obtain⟨cl,h1,h2⟩:=k;exact⟨cl,h1.mono h,sC.mono h _ _ h2⟩
def kJ{sz:Nat}{l:List D}{cs:List zA}:RD t (.sl sz l) cs ↔ ∃v,cs=[v]/\lA t sz l v:=by
 rw[RD];constructor
 ·rintro⟨a,cl,rfl,h1,h2⟩;exact⟨a,rfl,cl,h1,h2⟩
 ·rintro⟨a,rfl,cl,h1,h2⟩;exact⟨a,cl,rfl,h1,h2⟩
def tI{l:List D}{cs:List zA}:RD t (.st l) cs ↔ ∃cl,cs=cl.flatten/\sC t l cl:=by rw[RD]
def kG{cl:List (List zA)}:sC t [] cl ↔ cl=[]:=by rw[sC]
def uF{d:D}{l:List D}{cl:List (List zA)}:sC t (d::l) cl ↔ ∃c r,cl=c::r/\RD t d c/\sC t l r:=by rw[sC]
def lA.one{sz:Nat}{l:List D}{v:zA}(h:lA t sz l v):zA.one v=true:=by
 obtain⟨cl,h1,_⟩:=h
 rcases h1 with⟨rfl,_⟩ | ⟨b,off,cap,rfl,_⟩
 ·decide
 ·rfl
def lA.len{sz:Nat}{l:List D}{v:zA}(h:lA t sz l v):oB v=some (.int .i64 (l.length:Int)):=by
 obtain⟨cl,h1,h2⟩:=h
 have:=h2.length
 rcases h1 with⟨rfl,rfl⟩ | ⟨b,off,cap,rfl,_⟩
 ·have:l.length=0:=this.symm
  rw[this];rfl
 ·rw[<- this];rfl
def lA.same{sz d:Nat}{l:List D}{v:zA}(h:lA t sz l v):same d v v=true:=by
 obtain⟨cl,h1,_⟩:=h
 rcases h1 with⟨rfl,_⟩ | ⟨b,off,cap,rfl,_⟩
 ·cases d <;> (unfold Am.same;rfl)
 ·have e:∀n,Nat.beq n n=true:=Nat.beq_refl
  cases d <;> (unfold Am.same;simp only[e,Bool.and_self])
def oR{sz:Nat}{l:List D}{v:zA}(h:lA t sz l v):zpb .nilslice v=true:=by
 obtain⟨cl,h1,_⟩:=h
 rcases h1 with⟨rfl,_⟩ | ⟨b,off,cap,rfl,_⟩<;>rfl
def At.load{b off j n:Nat}{cs:List zA}(h:At t b off cs){ty:Nat}{y:tC}(hy:C.tys.get ty=some y)(ha:y.desc.isAgg=true)(hn:y.size=n)(hj:j+n<=cs.length):mA C ty ⟨0,t⟩ (.ptr b (off+j))=some (.agg ((cs.drop j).take n)):=by
 obtain⟨c,m,lo,h1,h2⟩:=h
 unfold mA;simp only[zA.asPtr,sA];rw[hy,sA];unfold vE;rw[h1,sA];simp only[rA.asCells,sA];unfold wN;rw[ha,cond_true,hn];have key:∀(n j:Nat),j+n<=cs.length->c.many n (off+j)=some ((cs.drop j).take n):=by
  intro n;induction n with
  | zero=>intro j _;simp;rfl
  | succ n ih=>
   intro j hj;have hlt:j<cs.length:=by omega
   rw[Tr.many_succ,h2 j cs[j] (ybd hlt),sA,show off+j+1=off+(j+1) by omega,ih (j+1) (by omega),sA,ybl hlt,List.take_succ_cons]
 rw[key n j hj];rfl
def At.load1{b off j:Nat}{cs:List zA}{a:zA}(h:At t b off cs){ty:Nat}{y:tC}(hy:C.tys.get ty=some y)(ha:y.desc.isAgg=false)(hj:cs[j]?=some a):mA C ty ⟨0,t⟩ (.ptr b (off+j))=some a:=by
 obtain⟨c,m,lo,h1,h2⟩:=h
 unfold mA;simp only[zA.asPtr,sA];rw[hy,sA];unfold vE;rw[h1,sA];simp only[rA.asCells,sA];unfold wN;rw[ha,cond_false];exact h2 j a hj
structure oE (C:oA) (T el sz:Nat) (agg:Bool):Prop where
 ty:∃y,C.tys.get T=some y/\y.desc.asSlice=some el
 el:∃y,C.tys.get el=some y/\y.size=sz/\y.desc.isAgg=agg
def zf1(agg:Bool)(cs:List zA):zA:=if agg then .agg cs else match cs with | a::_=>a | []=>.nilptr
def oE.at{T el sz:Nat}{agg:Bool}(h:oE C T el sz agg)(h1:agg=false->sz=1){l:List D}{v:zA}(hr:lA t sz l v){i:Nat}{d:D}(hi:l[i]?=some d) :
  ∃b off cs,qB C T v (.int .i64 (i:Int))=some (.ptr b off)/\mA C el ⟨0,t⟩ (.ptr b off)=some (zf1 agg cs)/\At t b off cs/\cs.length=sz/\RD t d cs:=by
 obtain⟨⟨y,hy1,hy2⟩,⟨z,hz1,hz2,hz3⟩⟩:=h
 obtain⟨cl,he,hd⟩:=hr
 obtain⟨cs,hc,hrd⟩:=hd.get hi
 rcases he with⟨rfl,rfl⟩ | ⟨b,off,cap,rfl,_,_,he⟩
 ·simp at hc
 ·obtain⟨hl,ha⟩:=he i cs hc
  have hlt:i<cl.length:=(ybc.1 hc).1
  refine⟨b,off+i*sz,cs,?_,?_,ha,hl,hrd⟩
  ·unfold qB
   rw[hy1,sA];have:(zA.int .i64 (i:Int)).asNat=some i:=rfl
   rw[this,sA];simp only[zA.asSlice];rw[hy2,sA,hz1,sA,vC.2 hlt,hz2];rfl
  ·cases agg with
   | true=>
    have:=ha.load (j:=0) hz1 hz3 hz2 (by omega)
    simp only[yct,ycr]at this;rw[this,<- hl,List.take_length];rfl
   | false=>
    have hs:=h1 rfl
    cases cs with
    | nil=>simp at hl;omega
    | cons a r=>
     have:=ha.load1 (j:=0) (a:=a) hz1 hz3 (by simp)
     rw[yct]at this;rw[this];rfl
end
section
variable {t:Tr rA}{C:oA}
def oE.front{T el sz:Nat}{agg:Bool}(h:oE C T el sz agg){l:List D}{v:zA}(hr:lA t sz l v){k:Nat}(hk:k<=l.length) :
  ∃v',zH C T ⟨0,t⟩ v none (some (.int .i64 (k:Int)))=some v'/\lA t sz (l.take k) v':=by
 obtain⟨⟨y,hy1,hy2⟩,⟨z,hz1,hz2,hz3⟩⟩:=h
 obtain⟨cl,he,hd⟩:=hr
 have hlen:=hd.length
 unfold zH;rw[hy1,sA];have hb:∀y,kR y (.int .i64 (k:Int))=cA (Nat.ble k y) (some k):=fun y=>rfl
 rcases he with⟨rfl,rfl⟩ | ⟨b,off,cap,rfl,hcap,⟨c,n,lo,hg,hlo⟩,he⟩
 ·have:k=0:=by simp at hlen;omega
  subst this;refine⟨.nilslice,?_,[],.inl ⟨rfl,rfl⟩,by simp[sC]⟩
  unfold aK;simp only[zA.asStr,zA.asSlice,zA.asPtr];rw[hy2,sA,hz1,sA];rfl
 ·refine⟨.slice b off k cap,?_,cl.take k,.inr ⟨b,off,cap,?_,?_,⟨c,n,lo,hg,hlo⟩,fun i cs hi=>?_⟩,?_⟩
  ·unfold aK
   simp only[zA.asStr,zA.asSlice];rw[hy2,sA];unfold eL;rw[hz1,sA];unfold lN ze2;simp only[hb];rw[show Nat.ble k cap=true from kE.2 (by omega)]
   simp only[lE,sA];have he2:qJ ⟨0,t⟩ b z.size cap 0 false=false:=by
    unfold qJ vE;rw[hg,sA];simp only[rA.asCells];rcases hlo with rfl | ⟨x,rfl,hx⟩
    ·rfl
    ·simp
   rw[he2,yay,cond_false];have hf:vI ⟨0,t⟩ b z.size cap 0 false=true:=by
    unfold vI vE;rw[hg,sA];simp only[rA.asCells];rcases hlo with rfl | ⟨x,rfl,hx⟩
    ·rfl
    ·simp[hz2,hx]
   rw[show Nat.ble k cap=true from kE.2 (by omega),hf]
   simp only[Bool.and_self,lE];congr 1
   cases hq:Nat.beq cap 0<;>simp
  ·rw[yda];congr 1;omega
  ·rw[yda];omega
  ·rw[ydf]at hi
   split at hi
   ·exact he i cs hi
   ·cases hi
  ·refine sC.mk (by rw[yda,yda];omega) fun i d cs h1 h2=>?_
   rw[ydf]at h1 h2;split at h1
   ·rename_i e
    rw[yab e]at h2;obtain⟨cs',h3,h4⟩:=hd.get h1
    rw[h3]at h2;cases h2;exact h4
   ·cases h1
end
mutual
def D.zs:D->List zA
 | .int k _=>[.int k 0]
 | .bool _=>[.bool false]
 | .str _=>[.str []]
 | .sl _ _=>[.nilslice]
 | .st l=>D.zss l
def D.zss:List D->List zA
 | []=>[]
 | d::l=>d.zs++D.zss l
end
def zer:∀(z z' l l':List zA),fK z l=true->fK z' l'=true->fK (z++z') (l++l')=true
 | [],_,[],_,_,h=>h
 | a::z,z',b::l,l',h,k=>by
  unfold fK at h;rw[ybb]at h;show(zpb a b&&fK (z++z') (l++l'))=true
  rw[h.1,zer z z' l l' h.2 k];rfl
 | [],_,_::_,_,h,_=>by cases h
 | _::_,_,[],_,h,_=>by cases h
mutual
def zeq{t:Tr rA}:∀(d:D) (cs:List zA),RD t d cs->fK d.zs cs=true
 | .int k n,cs,h=>by
  rw[RD]at h;subst h;show(zpb (.int k 0) (.int k n)&&true)=true
  simp only[zpb,zA.asIntK,Bool.and_true];exact oJ.2 rfl
 | .bool _,cs,h=>by rw[RD]at h;subst h;rfl
 | .str _,cs,h=>by rw[RD]at h;subst h;rfl
 | .sl sz l,cs,h=>by
  rw[kJ]at h;obtain⟨v,rfl,h⟩:=h
  show(zpb .nilslice v&&true)=true
  rw[oR h];rfl
 | .st l,cs,h=>by
  rw[tI]at h;obtain⟨cl,rfl,h⟩:=h
  show fK (D.zss l) cl.flatten=true
  exact zsi l cl h
def zsi{t:Tr rA}:∀(l:List D) (cl:List (List zA)),sC t l cl->fK (D.zss l) cl.flatten=true
 | [],cl,h=>by rw[sC]at h;subst h;rfl
 | d::l,cl,h=>by
  rw[sC]at h;obtain⟨c,r,rfl,h1,h2⟩:=h
  show fK (d.zs++D.zss l) (c::r).flatten=true
  rw[yas];exact zer _ _ _ _ (zeq d c h1) (zsi l r h2)
end
def sB{k:IntKind}{n:Int}:zzan k (.int k n)=some n:=by unfold zzan;simp only[zA.asIntK,sA];rw[oJ.2 rfl];rfl
def pO{b:Bool}:(zA.bool b).asBool=some b:=rfl
def zm0{s:List Nat}:(zA.str s).asStr=some s:=rfl
def zck{d:Nat}{k:IntKind}{n:Int}:same d (.int k n) (.int k n)=true:=by
 cases d<;>simp[same,oJ,tQ]
def zxr{d:Nat}{b:Bool}:same d (.bool b) (.bool b)=true:=by cases d<;>simp[same,nP]
def zij{d:Nat}{s:List Nat}:same d (.str s) (.str s)=true:=by cases d<;>simp[same,dJ]
def wrap_i64{n:Int}(h1 : -9223372036854775808<=n)(h2:n<9223372036854775808):tA .i64 n=n:=by
 rw[cK];simp only[IntKind.wrap,IntKind.bits,IntKind.signed];simp;omega
def vF{t:Tr rA}{d:D}{cs zs:List zA}(h:RD t d cs)(hz:d.zs=zs):zK zs (.agg cs)=some (cellsOf cs):=by
 unfold zK;simp only[zA.asAgg,sA];rw[<- hz,zeq d cs h];rfl
def jN{zs l:List zA}(h:fK zs l=true):zK zs (.agg l)=some (cellsOf l):=by
 unfold zK;simp only[zA.asAgg,sA,h];rfl
end Go.Am
