/- Seat 13: strconv.FormatUint at base 10. -/
import Derived.KernelRfl
import Derived.Lib.AppendIntMem
import Derived.ProofKit
import Derived.Test.YtbgilkcahebbfaaGreatDoorF10
import Derived.Test.YtbgilkcahebbfaaGreatDoorF11
import Derived.Test.YtbgilkcahebbfaaGreatDoorF12
import Derived.Test.YtbgilkcahebbfaaGreatDoorF13
import Derived.Test.YtbgilkcahebbfaaGreatDoorF14
import Derived.Test.YtbgilkcahebbfaaGreatDoorF15
import Derived.Test.YtbgilkcahebbfaaGreatDoorF16
set_option linter.all false
noncomputable section
namespace Go.Proofs
open Go Go.Shelf Go.RowKit Go.Sort Go.Lib
set_option maxHeartbeats 1000000 in
set_option maxRecDepth 100000 in
def zit(u:Nat)(hi:u<100)(w:World) :
  Calls Tryz.prog 176 #[.int .u64 u,.int .i64 10] w fun e w'=>e=.returned (.string ⟨(Lib.itoa u).toArray⟩)/\∃k os,w'=Sort.grow (w.drewN k) os:=by
 have hi':(u:Int)<100:=by omega
 have hw:IntKind.i64.wrap (u:Int)=u:=by rw[IntKind.wrap_i64];omega
 go_enter Tryz.func176,Tryz.ntmps176
 go_wp2_with (go_at_fn 178)
 refine(Tryz.internal_strconv_small u hi _).mono ?_
 rintro e w' ⟨rfl,rfl⟩
 go_wp2
 go_ret
 refine⟨?_,0,#[],by simp[World.drewN_zero,Sort.grow]⟩
 rw[Lib.itoa_nonneg];rfl
set_option maxHeartbeats 4000000 in
set_option maxRecDepth 100000 in
def zq3 (u : Nat) (hu : 100 <= u) (hu64 : u < 18446744073709551616) (w : World) (htab : Lib.TabIs Tryz.prog w "internal/strconv.uint64pow10" .u64 Lib.pow10Tab) :
  Calls Tryz.prog 176 #[.int .u64 u,.int .i64 10] w fun e w'=>e=.returned (.string ⟨(Lib.itoa u).toArray⟩)/\∃k os,w'=Sort.grow (w.drewN k) os:=by
 have hu':(100:Int)<=(u:Int):=by omega
 have hu1:1<=u:=by omega
 have hnd20:Lib.nDigits u<=20:=by have:=Lib.numDigits_eq u hu1 hu64;split at this<;>omega
 have hal:Tryz.prog.arrayLen 221=24:=by kernel_rfl
 have hel:Tryz.prog.elem 221=5:=by kernel_rfl
 have hsl:∀W,(Instr.sliceAt 221 (.pointer (some ⟨w.heap.size,0,none⟩)) none (some (.int .i64 (Lib.nDigits u:Int))) none).run Tryz.prog W=.ok (.slice (some ⟨w.heap.size,0,none⟩) (Lib.nDigits u) 24) W:=fun W=>by
  rw[run_sliceAt_array_h W 221 ⟨w.heap.size,0,none⟩ (by rw[hal,hel];exact Tryz.underlying221) .i64 (Lib.nDigits u:Int) (by omega) (by rw[hal];omega)]
  rw[hal,hel,Tryz.sizeOf5];simp[slicedAt,Addr.add]
 have hH0:=Lib.holds_zero0 w 221 (Lib.nDigits u) (by omega)
 have hfmt:=Tryz.internal_strconv_formatBase10 w.heap.size 0 24 u (Array.replicate (Lib.nDigits u) 0) (w.alloc (.cells Lib.zeros24 221)) hH0 (by rw[Array.size_replicate];exact Lib.lt_pow_nDigits u) hu64 (by rw[Array.size_replicate];omega)
 rw[Array.size_replicate]at hfmt;have HH0:=Lib.hid hH0
 clear hH0 hal hel
 go_enter Tryz.func176,Tryz.ntmps176
 go_wp2_with (go_at_fn 179)
 refine(Tryz.internal_strconv_numDigits u hu1 hu64 _ (Lib.tabIs_alloc htab _)).mono ?_
 rintro e w' ⟨rfl,rfl⟩
 go_wp2_with (go_at_fn 180)
 refine hfmt.mono ?_
 rintro e w' ⟨rfl,k,v',dk,rfl,hF⟩
 have hcv:(convert 32 9 (.slice (some ⟨w.heap.size,0,none⟩) (Lib.nDigits u) 24)).run Tryz.prog ((putRow (fun(b:UInt8)=>Value.int .u8 (b.toNat:Int)) (w.alloc (.cells Lib.zeros24 221)) w.heap.size 0 dk).drewN k)=.ok (.string ⟨(Lib.decDigits u).toArray⟩) ((putRow (fun(b:UInt8)=>Value.int .u8 (b.toNat:Int)) (w.alloc (.cells Lib.zeros24 221)) w.heap.size 0 dk).drewN k):=by
  have h:=run_convert_bytes_back (P:=Tryz.prog) ((putRow (fun(b:UInt8)=>Value.int .u8 (b.toNat:Int)) (w.alloc (.cells Lib.zeros24 221)) w.heap.size 0 dk).drewN k) 32 9 5 ⟨w.heap.size,0,none⟩ 24 (Lib.decDigits u) Tryz.underlying32 Tryz.underlying5 Tryz.underlying9 (fun j hj=>by
   rw[Lib.row_is_numeral hF j hj,Lib.add_plain,World.cell?_drewN];exact cell?_putRow (fun(b:UInt8)=>Value.int .u8 (b.toNat:Int)) _ w.heap.size 0 _ dk HH0.out (by rw[hF.size,Array.size_replicate]) j (by rw[hF.size];rw[Lib.decDigits_length]at hj;exact hj))
  rw[Lib.decDigits_length]at h;exact h
 go_wp2
 go_ret
 obtain⟨os,eo⟩:=Lib.fin_at w (.cells Lib.zeros24 221) dk k 0
 refine⟨?_,k,os,eo⟩
 rw[Lib.itoa_nonneg];rfl
set_option maxHeartbeats 1000000 in
set_option maxRecDepth 100000 in
def uint13 (u : Nat) (hu64 : u < 18446744073709551616) (w : World) (htab : Lib.TabIs Tryz.prog w "internal/strconv.uint64pow10" .u64 Lib.pow10Tab) :
  Calls Tryz.prog 154 #[.int .u64 u,.int .i64 10] w fun e w'=>e=.returned (.string ⟨(Lib.itoa u).toArray⟩)/\∃k os,w'=Sort.grow (w.drewN k) os:=by
 have key:Calls Tryz.prog 176 #[.int .u64 u,.int .i64 10] w fun e w'=>e=.returned (.string ⟨(Lib.itoa u).toArray⟩)/\∃k os,w'=Sort.grow (w.drewN k) os:=by
  by_cases h:u<100
  ·exact zit u h w
  ·exact zq3 u (by omega) hu64 w htab
 go_enter Tryz.func154,Tryz.ntmps154
 go_wp2_with (go_at_fn 176)
 refine key.mono ?_
 rintro e w' ⟨rfl,k,os,rfl⟩
 go_wp2
 go_ret
 exact⟨rfl,k,os,rfl⟩
end Go.Proofs
set_option maxRecDepth 100000
namespace Go.Am
open Go Go.RowKit Go.Proofs
def zt1:z7f (fun t ty=>match tyOf Tryz.prog t with | some u=>eqTy u ty | none=>false) tys (fun n=>n)=true:=by kernel_rfl
def zt0{C:oA}(hC:C.tys=tys):rE Tryz.prog C:=by
 intro t ty h;rw[hC]at h;have:=z7e tys _ zt1 t ty h
 cases hu:tyOf Tryz.prog t with
 | none=>rw[hu]at this;cases this
 | some u=>rw[hu]at this;rw[z6u this]
def zmn : (Tryz.funcs.toList.all fun fn => !(fn.name == "runtime.NumGoroutine")) = true := by kernel_rfl
def zp0{C:oA}(hC:C.fns=fns):zk8 Tryz.prog C:=by
 intro f fn h;rw[hC]at h;unfold fns at h;rw[Tr.get_ofList]at h;have h2:Tryz.prog.funcs[f]?=some fn:=by
  show Tryz.funcs[f]?=some fn
  simpa using h
 refine⟨h2,?_⟩
 have:=ycb.1 zmn fn (ycv h)
 simpa using this
def u64s (l:List Int):List Value:=l.map fun n=>.int .u64 n
def zod{μ:Mu}:∀l:List Int,yB μ (z1q .u64 l) (u64s l)
 | []=>.nil
 | b::l=>.cons (by rw[wA]) (zod l)
structure iG (w:World):Prop where
 kinds:∃t,w.heap[0]?=some (.cells (zlu jM).toArray t (0,0))
 modes:∃t,w.heap[1]?=some (.cells (zlu cK).toArray t (0,0))
 lens:∃t,w.heap[2]?=some (.cells (z1n zmx).toArray t (0,0))
 most:∃m,w.cell? ⟨3,0,none⟩=some (.int .i64 m)
 pow:∃t,w.heap[5]?=some (.cells (u64s zzn).toArray t (0,0))
def iG.size{w:World}(h:iG w):6<=w.heap.size:=by
 obtain⟨t,h⟩:=h.pow
 have:=(ybe.1 h).1
 omega
def iG.below{w w':World}{N:Nat}(hN:6<=N)(h:iG w)(hb:Below N w w'):iG w':=by
 refine⟨?_,?_,?_,?_,?_⟩
 ·obtain⟨t,h⟩:=h.kinds;exact⟨t,by rw[hb.block 0 (by omega)];exact h⟩
 ·obtain⟨t,h⟩:=h.modes;exact⟨t,by rw[hb.block 1 (by omega)];exact h⟩
 ·obtain⟨t,h⟩:=h.lens;exact⟨t,by rw[hb.block 2 (by omega)];exact h⟩
 ·obtain⟨m,h⟩:=h.most;exact⟨m,by rw[hb.cell (p:=⟨3,0,none⟩) (by show 3<N;omega)];exact h⟩
 ·obtain⟨t,h⟩:=h.pow;exact⟨t,by rw[hb.block 5 (by omega)];exact h⟩
def iG.tab {w : World} (h : iG w) : Lib.TabIs Tryz.prog w "internal/strconv.uint64pow10" .u64 Lib.pow10Tab := by
 obtain⟨t,h⟩:=h.pow
 have hg : Tryz.prog.globalNamed "internal/strconv.uint64pow10" = some 5 := by kernel_rfl
 unfold Lib.TabIs World.var?
 rw[hg];simp only[yai,h];rfl
def hrel13{w:World}(h:iG w):cA 256 w.heap.size mu0 H13 w:=by
 have hget:∀a x,H13.t.get a=some x->(a=0/\x=.cells (Tr.ofList (z3s jM)) (aA (z3s jM)) none)\/(a=1/\x=.cells (Tr.ofList (z3s cK)) (aA (z3s cK)) none)\/(a=2/\x=.cells (Tr.ofList (z1q .i64 zmx)) (aA (z1q .i64 zmx)) none)\/(a=5/\x=.cells (Tr.ofList (z1q .u64 zzn)) (aA (z1q .u64 zzn)) none):=by
  intro a x hx;have hx:(glob 0 (z3s jM) (glob 1 (z3s cK) (glob 2 (z1q .i64 zmx) (glob 5 (z1q .u64 zzn) .leaf)))).get a=some x:=hx
  unfold glob at hx;rw[Tr.get_set,Tr.get_set,Tr.get_set,Tr.get_set]at hx;split at hx
  ·rename_i e;exact .inl ⟨e,(yci hx).symm⟩
  ·split at hx
   ·rename_i e;exact .inr (.inl ⟨e,(yci hx).symm⟩)
   ·split at hx
    ·rename_i e;exact .inr (.inr (.inl ⟨e,(yci hx).symm⟩))
    ·split at hx
     ·rename_i e;exact .inr (.inr (.inr ⟨e,(yci hx).symm⟩))
     ·rw[Tr.get_leaf]at hx;cases hx
 have hsz:=h.size
 refine⟨ybk _,fun g hg=>by simp[mu0,hg],fun a x i _ hx hi=>?_,ybk _,ybk _,fun a ha=>?_,fun a x i hx hi=>?_,fun a i ha hi=>?_,fun a b x y i j hx _ _ _ ha _ _=>?_,fun a x t ha=>by cases ha⟩
 ·rcases hget a x hx with⟨rfl,rfl⟩ | ⟨rfl,rfl⟩ | ⟨rfl,rfl⟩ | ⟨rfl,rfl⟩<;>cases hi<;>exact⟨Nat.lt_of_lt_of_le (by decide) hsz,rfl,rfl⟩
 ·have ha:256<=a:=ha
  refine⟨by simp[mu0];omega,?_⟩
  cases hx:H13.t.get a with
  | none=>rfl
  | some x=>rcases hget a x hx with⟨rfl,_⟩ | ⟨rfl,_⟩ | ⟨rfl,_⟩ | ⟨rfl,_⟩<;>omega
 ·rcases hget a x hx with⟨rfl,rfl⟩ | ⟨rfl,rfl⟩ | ⟨rfl,rfl⟩ | ⟨rfl,rfl⟩
  ·obtain⟨t,h⟩:=h.kinds;cases hi;exact⟨_,h,rY (zgx jM) t⟩
  ·obtain⟨t,h⟩:=h.modes;cases hi;exact⟨_,h,rY (zgx cK) t⟩
  ·obtain⟨t,h⟩:=h.lens;cases hi;exact⟨_,h,rY (zpt zmx) t⟩
  ·obtain⟨t,h⟩:=h.pow;cases hi;exact⟨_,h,rY (zod zzn) t⟩
 ·simp[mu0]at hi;omega
 ·rcases hget a x hx with⟨rfl,_⟩ | ⟨rfl,_⟩ | ⟨rfl,_⟩ | ⟨rfl,_⟩<;>omega
def zbl{s:ByteArray}{l:List Nat}(h:aD s=l):s.data.toList.map UInt8.toNat=l:=h
def fR{f:Nat}{fn:Func}(hf:Tryz.funcs[f]?=some fn)(hb:fn.body.isSome=true){args:Array Value}{w:World}:(callFunc f args).run Tryz.prog w=.ok (.enter f args) w:=
 uX (C:=C13w) (zp0 rfl) (show fns.get f=some fn by unfold fns;rw[Tr.get_ofList];simpa using hf) hb
section
variable {B N:Nat}{μ:Mu}{H:xA}{w:World}{args:List zA}{args':Array Value}{v:zA}
def zbj{a b:zA}(h:yB μ [a,b] args'.toList):∃x y,args' = #[x,y]/\wA μ a x/\wA μ b y:=by
 rw[yB]at h;obtain⟨x,r,h1,h2,h3⟩:=h
 rw[yB]at h3;obtain⟨y,r',h4,h5,h6⟩:=h3
 rw[yB]at h6;subst h4 h6
 exact⟨x,y,by apply yax.1;simpa using h1,h2,h5⟩
def zro(hv:zaq args H=some v)(hl:yB μ args args'.toList) :
  (callFunc 188 args').run Tryz.prog w=.ok (.enter 188 args') w/\Calls Tryz.prog 188 args' w fun e w'=>∃v',e=.returned v'/\wA μ v v'/\Below w.heap.size w w':=by
 refine⟨fR (fn:=Tryz.f188) Tryz.func188 (by kernel_rfl),?_⟩
 unfold zaq at hv;split at hv
 case h_2=>cases hv
 rename_i s c;rw[zB,dB]at hv;obtain⟨hc,hv⟩:=hv
 cases hv;obtain⟨x,y,rfl,hx,hy⟩:=zbj hl
 simp only[wA]at hx hy;obtain⟨s',rfl,hs⟩:=hx
 subst hy;refine(Tryz.stringslite_IndexByte s' (Int.ofNat c) w).mono fun e w' ⟨he,hw⟩=>?_
 subst hw;refine⟨_,he,?_,Below.refl _ _⟩
 have hcc:(c.toUInt8).toNat=c:=by simp[Nat.toUInt8,UInt8.toNat_ofNat'];omega
 have:=zpu c.toUInt8 s'.data.toList
 rw[hcc,zbl hs]at this;rw[wA];show Value.int .i64 (Lib.indexByte s'.data.toList c.toUInt8)=_
 rw[<- this];done
def zab(hI:iG w)(hv:tU args H=some v)(hl:yB μ args args'.toList) :
  (callFunc 113 args').run Tryz.prog w=.ok (.enter 113 args') w/\Calls Tryz.prog 113 args' w fun e w'=>∃v',e=.returned v'/\wA μ v v'/\Below w.heap.size w w':=by
 refine⟨fR (fn:=Tryz.f113) Tryz.func113 (by kernel_rfl),?_⟩
 unfold tU at hv;split at hv
 case h_2=>cases hv
 rename_i s c;rw[zB,dB,gC]at hv;obtain⟨hlen,hv⟩:=hv
 cases hv;obtain⟨x,y,rfl,hx,hy⟩:=zbj hl
 rw[wA]at hx hy;obtain⟨s',rfl,hs⟩:=hx
 obtain⟨c',rfl,hc⟩:=hy
 obtain⟨m,hm⟩:=hI.most
 have hsz:s'.size<4294967281:=by
  have:=congrArg List.length (zbl hs)
  simp at this;omega
 refine(Tryz.strings_Contains s' c' m w hsz hm).mono fun e w' ⟨he,hw⟩=>?_
 subst hw;refine⟨_,he,?_,Below.refl _ _⟩
 have:=zd3 c'.data.toList s'.data.toList
 rw[zbl hs,zbl hc]at this;rw[wA,this]
def zgf(k:Nat)(os:Array Obj):Below w.heap.size w (Sort.grow (w.drewN k) os):=by
 refine⟨rfl,rfl,rfl,?_,fun j hj=>?_⟩
 ·simp[Sort.grow,World.drewN]
 ·show(w.heap++os)[j]?=w.heap[j]?
  rw[yaj hj]
def zjg(hI:iG w)(hv:zru args H=some v)(hl:yB μ args args'.toList) :
  (callFunc 98 args').run Tryz.prog w=.ok (.enter 98 args') w/\Calls Tryz.prog 98 args' w fun e w'=>∃v',e=.returned v'/\wA μ v v'/\Below w.heap.size w w':=by
 refine⟨fR (fn:=Tryz.f98) Tryz.func98 (by kernel_rfl),?_⟩
 unfold zru at hv;split at hv
 case h_2=>cases hv
 rename_i n;rw[zB,ybb]at hv;obtain⟨⟨h1,h2⟩,hv⟩:=hv
 cases hv;rw[yB]at hl;obtain⟨x,r,he,hx,hr⟩:=hl
 rw[yB]at hr;rw[wA]at hx;subst hr hx
 have:args' = #[.int .i64 n]:=by apply yax.1;simpa using he
 subst this;have g1 : -9223372036854775808<=n:=(zhr _ _).1 h1
 have g2:n<9223372036854775808:=(mU _ _).1 h2
 refine(Tryz.strconv_Itoa n g1 (by omega) w hI.tab).mono fun e w' ⟨he,k,os,hw⟩=>?_
 subst hw;exact⟨_,he,by rw[wA];exact⟨_,rfl,rfl⟩,zgf k os⟩
def zjf(hI:iG w)(hv:zvv args H=some v)(hl:yB μ args args'.toList) :
  (callFunc 154 args').run Tryz.prog w=.ok (.enter 154 args') w/\Calls Tryz.prog 154 args' w fun e w'=>∃v',e=.returned v'/\wA μ v v'/\Below w.heap.size w w':=by
 refine⟨fR (fn:=Tryz.f154) Tryz.func154 (by kernel_rfl),?_⟩
 unfold zvv at hv;split at hv
 case h_2=>cases hv
 rename_i n b;rw[zB,ybb,ybb]at hv;obtain⟨⟨⟨h1,h2⟩,h3⟩,hv⟩:=hv
 cases hv;obtain⟨x,y,rfl,hx,hy⟩:=zbj hl
 rw[wA]at hx hy;subst hx hy
 have g1:0<=n:=(zhr _ _).1 h1
 have g2:n<18446744073709551616:=(mU _ _).1 h2
 obtain rfl:b=10:=(mP _ _).1 h3
 obtain⟨u,rfl⟩:∃u:Nat,n=u:=⟨n.toNat,by omega⟩
 refine(uint13 u (by omega) w hI.tab).mono fun e w' ⟨he,k,os,hw⟩=>?_
 subst hw;exact⟨_,he,by rw[wA];exact⟨_,rfl,rfl⟩,zgf k os⟩
end
section
variable {B N:Nat}{μ:Mu}{H H':xA}{w:World}{args:List zA}{args':Array Value}{v:zA}
def zfp{base:Nat}(hbase:B<=base)(hH:cA B N μ H w)(hv:zc3 base pU args H=some (v,H'))(hl:yB μ args args'.toList) :
  (callFunc 46 args').run Tryz.prog w=.ok (.enter 46 args') w/\Calls Tryz.prog 46 args' w fun e w'=>∃v' μ',e=.returned v'/\μ.le μ'/\cA B N μ' H' w'/\Below N w w'/\wA μ' v v':=
 zvw hbase (fun p hp b n w h1 h2 h3 h4=>by
  unfold pU at hp;rcases ybs.1 hp with rfl | hp
  ·exact zh5 b n w h1 h2 (show 2<n from h3) h4
  ·obtain rfl:p=(77,2):=by simpa using hp
   exact zd5 b n w h1 h2 (show 1<n from h3) h4) (fun b w h=>zko b w h) (fun w a=>fR (fn:=Tryz.f46) Tryz.func46 (by kernel_rfl)) hH hv hl
def zc1{base:Nat}(hbase:B<=base)(hH:cA B N μ H w)(hv:uU base 5 args H=some (v,H'))(hl:yB μ args args'.toList) :
  (callFunc 25 args').run Tryz.prog w=.ok (.enter 25 args') w/\Calls Tryz.prog 25 args' w fun e w'=>∃v' μ',e=.returned v'/\μ.le μ'/\cA B N μ' H' w'/\Below N w w'/\wA μ' v v':=
 zrt Tryz.lays169 Tryz.Builder_Extra_169 (f:=25) rfl hbase (fun w a=>fR (fn:=Tryz.f25) Tryz.func25 (by kernel_rfl)) hH hv hl
end
def qM{α:Type}{t:Tr α}{i j:Nat}{x y:α}(h:(t.set i x).get j=some y):(j=i/\x=y)\/t.get j=some y:=by
 rw[Tr.get_set]at h;split at h
 ·rename_i e;exact .inl ⟨e,yci h⟩
 ·exact .inr h
def zc0(f0 N:Nat):yV Tryz.prog (zqo f0) 256 N iG:=by
 intro f g hg args H v H' hv μ w args' hH hI hl;have hg:zbp.get f=some g:=hg
 unfold zbp at hg;rcases qM hg with⟨rfl,rfl⟩ | hg
 ·exact qQ hv hH fun hv=>zro hv hl
 rcases qM hg with⟨rfl,rfl⟩ | hg
 ·exact qQ hv hH fun hv=>zab hI hv hl
 rcases qM hg with⟨rfl,rfl⟩ | hg
 ·exact qQ hv hH fun hv=>zjf hI hv hl
 rcases qM hg with⟨rfl,rfl⟩ | hg
 ·exact qQ hv hH fun hv=>zjg hI hv hl
 rcases qM hg with⟨rfl,rfl⟩ | hg
 ·exact .inr (zc1 (ybk _) hH hv hl)
 rcases qM hg with⟨rfl,rfl⟩ | hg
 ·exact .inr (zfp (ybk _) hH hv hl)
 ·rw[Tr.get_leaf]at hg;cases hg
def sim13v(f0 N:Nat)(hN:6<=N):Sim Tryz.prog (zqo f0) 256 N iG:=
 ⟨zt0 rfl,zp0 rfl,zc0 f0 N,ybk _,by kernel_rfl,fun _ _ hb h=>h.below hN hb⟩
def zcf{C:oA}{f n:Nat}{args:List zA}{args':Array Value}{w:World}(hw:iG w)(hS:Sim Tryz.prog C 256 w.heap.size iG)(hroot:C.root=f)(hl:yB mu0 args args'.toList)
  (h:uE (zrj C n (vQ C f args H13))=1):Calls Tryz.prog f args' w fun e w'=>e=.returned (.bool true)/\Below w.heap.size w w':=by
 obtain⟨H',hr⟩:=z6q h
 unfold vQ at hr;have stuck:∀(n k:Nat),zrj C n (.fail k)=.fail k:=by
  intro n;induction n with
  | zero=>intro k;rfl
  | succ n ih=>
   intro k;show zrj C n (zrj C n (.fail k))=_
   rw[ih,ih]
 cases he:bI C f args false with
 | none=>
  rw[he]at hr;rw[stuck]at hr
  cases hr
 | some g=>
  rw[he]at hr;refine(zkq hS hw hroot (hrel13 hw) hl he hr).mono fun e w' ⟨v',μ',h1,_,h3,_,h5⟩=>?_
  rw[wA]at h3;exact⟨by rw[h1,h3],h5⟩
def zxg:∀ {l:List (List Nat × List Nat)} {a b:List Nat},inW l a b=true->(a,b)∈l
 | [],_,_,h=>by cases h
 | p::r,a,b,h=>by
  unfold inW at h;rw[iB]at h;split at h
  ·rename_i e
   rw[ybb]at e;have h1:=(mK _ _).1 e.1
   have h2:=(mK _ _).1 e.2
   rw[<- h1,<- h2];exact .head _
  ·exact .tail _ (zxg h)
def zqt:∀p∈ztm,uE (zrj (zqo 15) 16 (vQ (zqo 15) 15 [.str p.1,.str p.2] H13))=1:=by
 intro p hp;unfold ztm at hp;rcases ybs.1 hp with rfl | hp
 ·exact zlg
 rcases ybs.1 hp with rfl | hp
 ·exact zlf
 rcases ybs.1 hp with rfl | hp
 ·exact zle
 rcases ybs.1 hp with rfl | hp
 ·exact zld
 rcases ybs.1 hp with rfl | hp
 ·exact zlc
 ·cases hp
def zmd{μ:Mu}{H:xA}{w:World}{args:List zA}{args':Array Value}{v:zA}(hI:iG w)(hv:zmg args H=some v)(hl:yB μ args args'.toList) :
  (callFunc 15 args').run Tryz.prog w=.ok (.enter 15 args') w/\Calls Tryz.prog 15 args' w fun e w'=>∃v',e=.returned v'/\wA μ v v'/\Below w.heap.size w w':=by
 refine⟨fR (fn:=Tryz.f15) Tryz.func15 (by kernel_rfl),?_⟩
 unfold zmg at hv;split at hv
 case h_2=>cases hv
 rename_i a b;rw[zB]at hv;obtain⟨h1,hv⟩:=hv
 cases hv;obtain⟨x,y,rfl,hx,hy⟩:=zbj hl
 rw[wA]at hx hy;refine(zcf hI (sim13v 15 w.heap.size hI.size) rfl (args' := #[x,y]) (.cons (by rw[wA];exact hx) (.single (by rw[wA];exact hy))) (zqt _ (zxg h1))).mono fun e w' ⟨h1,h2⟩=>?_
 exact⟨_,h1,by rw[wA],h2⟩
def zmc(N:Nat):yV Tryz.prog C13w 256 N iG:=by
 intro f g hg args H v H' hv μ w args' hH hI hl;have hg:zhb.get f=some g:=hg
 unfold zhb at hg;rcases qM hg with⟨rfl,rfl⟩ | hg
 ·exact qQ hv hH fun hv=>zmd hI hv hl
 ·exact zc0 6 N f g hg args H v H' hv μ w args' hH hI hl
def sim13w(N:Nat)(hN:6<=N):Sim Tryz.prog C13w 256 N iG:=
 ⟨zt0 rfl,zp0 rfl,zmc N,ybk _,by kernel_rfl,fun _ _ hb h=>h.below hN hb⟩
def znv{w:World}(hw:iG w):Calls Tryz.prog 6 #[] w fun e w'=>e=.returned (.bool true)/\Below w.heap.size w w':=
 zcf hw (sim13w _ hw.size) rfl .nil zy2
def zrp{μ:Mu}{H:xA}{w:World}{args:List zA}{args':Array Value}{v:zA}(hI:iG w)(hv:z0t args H=some v)(hl:yB μ args args'.toList) :
  (callFunc 6 args').run Tryz.prog w=.ok (.enter 6 args') w/\Calls Tryz.prog 6 args' w fun e w'=>∃v',e=.returned v'/\wA μ v v'/\Below w.heap.size w w':=by
 refine⟨fR (fn:=Tryz.f6) Tryz.func6 (by kernel_rfl),?_⟩
 unfold z0t at hv;split at hv
 case h_2=>cases hv
 cases hv;rw[yB]at hl;have:args' = #[]:=by apply yax.1;simpa using hl
 subst this;exact(znv hI).mono fun e w' ⟨h1,h2⟩=>⟨_,h1,by rw[wA],h2⟩
end Go.Am
namespace Go.Am
open Go Go.RowKit
@[simp] theorem qD {α:Type} {x:Option α}:jA true x=x:=rfl
inductive D where
 | int (k:IntKind) (n:Int)
 | bool (b:Bool)
 | str (s:List Nat)
 | sl (sz:Nat) (l:List D)
 | st (l:List D)
def At (t:Tr qA)(b off:Nat)(cs:List zA):Prop:=∃c n lo,t.get b=some (.cells c n lo)/\∀(j:Nat) a,cs[j]?=some a->c.get (off+j)=some a
def elems(t:Tr qA)(sz:Nat)(v:zA)(cl:List (List zA)):Prop:=
 (v=.nilslice/\cl=[])\/∃b off cap,v=.slice b off cl.length cap/\cl.length<=cap/\(∃c n lo,t.get b=some (.cells c n lo)/\(lo=none\/∃x,lo=some x/\x.es=sz))/\∀(i:Nat) cs,cl[i]?=some cs->cs.length=sz/\At t b (off+i*sz) cs
mutual
/-- cells read as data -/
def RD (t:Tr qA):D->List zA->Prop
 | .int k n,cs=>cs=[.int k n]
 | .bool b,cs=>cs=[.bool b]
 | .str s,cs=>cs=[.str s]
 | .sl sz l,cs=>∃a cl,cs=[a]/\elems t sz a cl/\oC t l cl
 | .st l,cs=>∃cl,cs=cl.flatten/\oC t l cl
def oC (t:Tr qA):List D->List (List zA)->Prop
 | [],cl=>cl=[]
 | d::l,cl=>∃c r,cl=c::r/\RD t d c/\oC t l r
end
def dA (t t':Tr qA):Prop:=∀b y,t.get b=some y->t'.get b=some y
def dA.refl(t:Tr qA):dA t t:=fun _ _ h=>h
def dA.trans{a b c:Tr qA}(h:dA a b)(k:dA b c):dA a c:=fun x y e=>k x y (h x y e)
section
variable {t t':Tr qA}{C:oA}
def At.mono(h:dA t t'){b off:Nat}{cs:List zA}(k:At t b off cs):At t' b off cs:=by
 obtain⟨c,n,lo,h1,h2⟩:=k;exact⟨c,n,lo,h _ _ h1,h2⟩
def elems.mono(h:dA t t'){sz:Nat}{v:zA}{cl:List (List zA)}(k:elems t sz v cl):elems t' sz v cl:=by
 rcases k with k | ⟨b,off,cap,h1,h3,⟨c,n,lo,h4,h5⟩,h2⟩
 ·exact .inl k
 ·exact .inr ⟨b,off,cap,h1,h3,⟨c,n,lo,h _ _ h4,h5⟩,fun i cs hi=>⟨(h2 i cs hi).1,(h2 i cs hi).2.mono h⟩⟩
mutual
def RD.mono(h:dA t t'):∀(d:D) (cs:List zA),RD t d cs->RD t' d cs
 | .int _ _,_,k=>k
 | .bool _,_,k=>k
 | .str _,_,k=>k
 | .sl _ l,_,⟨a,cl,h1,h2,h3⟩=>⟨a,cl,h1,h2.mono h,oC.mono h l cl h3⟩
 | .st l,_,⟨cl,h1,h2⟩=>⟨cl,h1,oC.mono h l cl h2⟩
def oC.mono(h:dA t t'):∀(l:List D) (cl:List (List zA)),oC t l cl->oC t' l cl
 | [],_,k=>k
 | d::l,_,⟨c,r,h1,h2,h3⟩=>⟨c,r,h1,RD.mono h d c h2,oC.mono h l r h3⟩
end
def oC.length:∀ {l:List D} {cl:List (List zA)},oC t l cl->cl.length=l.length:=by
 intro l;induction l with
 | nil=>intro cl h;rw[oC]at h;simp[h]
 | cons d l ih=>intro cl h;rw[oC]at h;obtain⟨c,r,rfl,_,h3⟩:=h;simp[ih h3]
def oC.get:∀ {l:List D} {cl:List (List zA)} {i:Nat} {d:D},oC t l cl->l[i]?=some d->∃cs,cl[i]?=some cs/\RD t d cs:=by
 intro l;induction l with
 | nil=>intro cl i d _ h;simp at h
 | cons e l ih=>
  intro cl i d h hi;rw[oC]at h;obtain⟨c,r,rfl,h2,h3⟩:=h
  cases i with
  | zero=>simp at hi;subst hi;exact⟨c,by simp,h2⟩
  | succ i=>simp at hi;obtain⟨cs,h4,h5⟩:=ih h3 hi;exact⟨cs,by simpa using h4,h5⟩
def oC.mk:∀ {l:List D} {cl:List (List zA)},cl.length=l.length->(∀(i:Nat) d cs,l[i]?=some d->cl[i]?=some cs->RD t d cs)->oC t l cl:=by
 intro l;induction l with
 | nil=>intro cl h _;rw[oC];simpa using h
 | cons e l ih=>
  intro cl h k
  cases cl with
  | nil=>simp at h
  | cons c r=>
   rw[oC];exact⟨c,r,rfl,k 0 e c (by simp) (by simp),ih (by simpa using h) fun i d cs h1 h2=>k (i+1) d cs (by simpa using h1) (by simpa using h2)⟩
@[simp] theorem kN {k:IntKind} {n:Int} {cs:List zA}:RD t (.int k n) cs ↔ cs=[.int k n]:=Iff.rfl
@[simp] theorem aQ {b:Bool} {cs:List zA}:RD t (.bool b) cs ↔ cs=[.bool b]:=Iff.rfl
@[simp] theorem sS {s:List Nat} {cs:List zA}:RD t (.str s) cs ↔ cs=[.str s]:=Iff.rfl
def lA (t:Tr qA)(sz:Nat)(l:List D)(v:zA):Prop:=∃cl,elems t sz v cl/\oC t l cl
def lA.mono(h:dA t t'){sz:Nat}{l:List D}{v:zA}(k:lA t sz l v):lA t' sz l v:=by
 obtain⟨cl,h1,h2⟩:=k;exact⟨cl,h1.mono h,oC.mono h _ _ h2⟩
def wJ{sz:Nat}{l:List D}{cs:List zA}:RD t (.sl sz l) cs ↔ ∃v,cs=[v]/\lA t sz l v:=by
 rw[RD];constructor
 ·rintro⟨a,cl,rfl,h1,h2⟩;exact⟨a,rfl,cl,h1,h2⟩
 ·rintro⟨a,rfl,cl,h1,h2⟩;exact⟨a,cl,rfl,h1,h2⟩
def kH{l:List D}{cs:List zA}:RD t (.st l) cs ↔ ∃cl,cs=cl.flatten/\oC t l cl:=by rw[RD]
def dF{cl:List (List zA)}:oC t [] cl ↔ cl=[]:=by rw[oC]
def lE{d:D}{l:List D}{cl:List (List zA)}:oC t (d::l) cl ↔ ∃c r,cl=c::r/\RD t d c/\oC t l r:=by rw[oC]
def lA.one{sz:Nat}{l:List D}{v:zA}(h:lA t sz l v):zA.one v=true:=by
 obtain⟨cl,h1,_⟩:=h
 rcases h1 with⟨rfl,_⟩ | ⟨b,off,cap,rfl,_⟩
 ·decide
 ·rfl
def lA.len{sz:Nat}{l:List D}{v:zA}(h:lA t sz l v):yC v=some (.int .i64 (l.length:Int)):=by
 obtain⟨cl,h1,h2⟩:=h
 have:=h2.length
 rcases h1 with⟨rfl,rfl⟩ | ⟨b,off,cap,rfl,_⟩
 ·have:l.length=0:=this.symm
  rw[this];rfl
 ·rw[<- this];rfl
def lA.same{sz d:Nat}{l:List D}{v:zA}(h:lA t sz l v):same d v v=true:=by
 obtain⟨cl,h1,_⟩:=h
 rcases h1 with⟨rfl,_⟩ | ⟨b,off,cap,rfl,_⟩
 ·cases d <;> (unfold Am.same;rfl)
 ·have e:∀n,Nat.beq n n=true:=Nat.beq_refl
  cases d <;> (unfold Am.same;simp only[e,Bool.and_self])
def zdx{sz:Nat}{l:List D}{v:zA}(h:lA t sz l v):z15 .nilslice v=true:=by
 obtain⟨cl,h1,_⟩:=h
 rcases h1 with⟨rfl,_⟩ | ⟨b,off,cap,rfl,_⟩<;>rfl
def At.load{b off j n:Nat}{cs:List zA}(h:At t b off cs){ty:Nat}{y:uC}(hy:C.tys.get ty=some y)(ha:y.desc.isAgg=true)(hn:y.size=n)(hj:j+n<=cs.length):mA C ty ⟨0,t⟩ (.ptr b (off+j))=some (.agg ((cs.drop j).take n)):=by
 obtain⟨c,m,lo,h1,h2⟩:=h
 unfold mA;simp only[zA.asPtr,vA];rw[hy,vA];unfold fC;rw[h1,vA];simp only[qA.asCells,vA];unfold mM;rw[ha,cond_true,hn];have key:∀(n j:Nat),j+n<=cs.length->c.many n (off+j)=some ((cs.drop j).take n):=by
  intro n;induction n with
  | zero=>intro j _;simp;rfl
  | succ n ih=>
   intro j hj;have hlt:j<cs.length:=by omega
   rw[Tr.many_succ,h2 j cs[j] (ybd hlt),vA,show off+j+1=off+(j+1) by omega,ih (j+1) (by omega),vA,ybl hlt,List.take_succ_cons]
 rw[key n j hj];rfl
def At.load1{b off j:Nat}{cs:List zA}{a:zA}(h:At t b off cs){ty:Nat}{y:uC}(hy:C.tys.get ty=some y)(ha:y.desc.isAgg=false)(hj:cs[j]?=some a):mA C ty ⟨0,t⟩ (.ptr b (off+j))=some a:=by
 obtain⟨c,m,lo,h1,h2⟩:=h
 unfold mA;simp only[zA.asPtr,vA];rw[hy,vA];unfold fC;rw[h1,vA];simp only[qA.asCells,vA];unfold mM;rw[ha,cond_false];exact h2 j a hj
structure wG (C:oA) (T el sz:Nat) (agg:Bool):Prop where
 ty:∃y,C.tys.get T=some y/\y.desc.asSlice=some el
 el:∃y,C.tys.get el=some y/\y.size=sz/\y.desc.isAgg=agg
def dW(agg:Bool)(cs:List zA):zA:=if agg then .agg cs else match cs with | a::_=>a | []=>.nilptr
def wG.at{T el sz:Nat}{agg:Bool}(h:wG C T el sz agg)(h1:agg=false->sz=1){l:List D}{v:zA}(hr:lA t sz l v){i:Nat}{d:D}(hi:l[i]?=some d) :
  ∃b off cs,zC C T v (.int .i64 (i:Int))=some (.ptr b off)/\mA C el ⟨0,t⟩ (.ptr b off)=some (dW agg cs)/\At t b off cs/\cs.length=sz/\RD t d cs:=by
 obtain⟨⟨y,hy1,hy2⟩,⟨z,hz1,hz2,hz3⟩⟩:=h
 obtain⟨cl,he,hd⟩:=hr
 obtain⟨cs,hc,hrd⟩:=hd.get hi
 rcases he with⟨rfl,rfl⟩ | ⟨b,off,cap,rfl,_,_,he⟩
 ·simp at hc
 ·obtain⟨hl,ha⟩:=he i cs hc
  have hlt:i<cl.length:=(ybc.1 hc).1
  refine⟨b,off+i*sz,cs,?_,?_,ha,hl,hrd⟩
  ·unfold zC
   rw[hy1,vA];have:(zA.int .i64 (i:Int)).asNat=some i:=rfl
   rw[this,vA];simp only[zA.asSlice];rw[hy2,vA,hz1,vA,dB.2 hlt,hz2];rfl
  ·cases agg with
   | true=>
    have:=ha.load (j:=0) hz1 hz3 hz2 (by omega)
    simp only[yct,ycr]at this;rw[this,<- hl,List.take_length];rfl
   | false=>
    have hs:=h1 rfl
    cases cs with
    | nil=>simp at hl;omega
    | cons a r=>
     have:=ha.load1 (j:=0) (a:=a) hz1 hz3 (by simp)
     rw[yct]at this;rw[this];rfl
end
section
variable {t:Tr qA}{C:oA}
def wG.front{T el sz:Nat}{agg:Bool}(h:wG C T el sz agg){l:List D}{v:zA}(hr:lA t sz l v){k:Nat}(hk:k<=l.length) :
  ∃v',gF C T ⟨0,t⟩ v none (some (.int .i64 (k:Int)))=some v'/\lA t sz (l.take k) v':=by
 obtain⟨⟨y,hy1,hy2⟩,⟨z,hz1,hz2,hz3⟩⟩:=h
 obtain⟨cl,he,hd⟩:=hr
 have hlen:=hd.length
 unfold gF;rw[hy1,vA];have hb:∀y,iQ y (.int .i64 (k:Int))=jA (Nat.ble k y) (some k):=fun y=>rfl
 rcases he with⟨rfl,rfl⟩ | ⟨b,off,cap,rfl,hcap,⟨c,n,lo,hg,hlo⟩,he⟩
 ·have:k=0:=by simp at hlen;omega
  subst this;refine⟨.nilslice,?_,[],.inl ⟨rfl,rfl⟩,by simp[oC]⟩
  unfold iJ;simp only[zA.asStr,zA.asSlice,zA.asPtr];rw[hy2,vA,hz1,vA];rfl
 ·refine⟨.slice b off k cap,?_,cl.take k,.inr ⟨b,off,cap,?_,?_,⟨c,n,lo,hg,hlo⟩,fun i cs hi=>?_⟩,?_⟩
  ·unfold iJ
   simp only[zA.asStr,zA.asSlice];rw[hy2,vA];unfold fK;rw[hz1,vA];unfold dL zd6;simp only[hb];rw[show Nat.ble k cap=true from vE.2 (by omega)]
   simp only[qD,vA];have he2:rI ⟨0,t⟩ b z.size cap 0 false=false:=by
    unfold rI fC;rw[hg,vA];simp only[qA.asCells];rcases hlo with rfl | ⟨x,rfl,hx⟩
    ·rfl
    ·simp
   rw[he2,yay,cond_false];have hf:sH ⟨0,t⟩ b z.size cap 0 false=true:=by
    unfold sH fC;rw[hg,vA];simp only[qA.asCells];rcases hlo with rfl | ⟨x,rfl,hx⟩
    ·rfl
    ·simp[hz2,hx]
   rw[show Nat.ble k cap=true from vE.2 (by omega),hf]
   simp only[Bool.and_self,qD];congr 1
   cases hq:Nat.beq cap 0<;>simp
  ·rw[yda];congr 1;omega
  ·rw[yda];omega
  ·rw[ydf]at hi
   split at hi
   ·exact he i cs hi
   ·cases hi
  ·refine oC.mk (by rw[yda,yda];omega) fun i d cs h1 h2=>?_
   rw[ydf]at h1 h2;split at h1
   ·rename_i e
    rw[yab e]at h2;obtain⟨cs',h3,h4⟩:=hd.get h1
    rw[h3]at h2;cases h2;exact h4
   ·cases h1
end
mutual
def D.zs:D->List zA
 | .int k _=>[.int k 0]
 | .bool _=>[.bool false]
 | .str _=>[.str []]
 | .sl _ _=>[.nilslice]
 | .st l=>D.zss l
def D.zss:List D->List zA
 | []=>[]
 | d::l=>d.zs++D.zss l
end
def zkd:∀(z z' l l':List zA),aK z l=true->aK z' l'=true->aK (z++z') (l++l')=true
 | [],_,[],_,_,h=>h
 | a::z,z',b::l,l',h,k=>by
  unfold aK at h;rw[ybb]at h;show(z15 a b&&aK (z++z') (l++l'))=true
  rw[h.1,zkd z z' l l' h.2 k];rfl
 | [],_,_::_,_,h,_=>by cases h
 | _::_,_,[],_,h,_=>by cases h
mutual
def zhu{t:Tr qA}:∀(d:D) (cs:List zA),RD t d cs->aK d.zs cs=true
 | .int k n,cs,h=>by
  rw[RD]at h;subst h;show(z15 (.int k 0) (.int k n)&&true)=true
  simp only[z15,zA.asIntK,Bool.and_true];exact nI.2 rfl
 | .bool _,cs,h=>by rw[RD]at h;subst h;rfl
 | .str _,cs,h=>by rw[RD]at h;subst h;rfl
 | .sl sz l,cs,h=>by
  rw[wJ]at h;obtain⟨v,rfl,h⟩:=h
  show(z15 .nilslice v&&true)=true
  rw[zdx h];rfl
 | .st l,cs,h=>by
  rw[kH]at h;obtain⟨cl,rfl,h⟩:=h
  show aK (D.zss l) cl.flatten=true
  exact zp3 l cl h
def zp3{t:Tr qA}:∀(l:List D) (cl:List (List zA)),oC t l cl->aK (D.zss l) cl.flatten=true
 | [],cl,h=>by rw[oC]at h;subst h;rfl
 | d::l,cl,h=>by
  rw[oC]at h;obtain⟨c,r,rfl,h1,h2⟩:=h
  show aK (d.zs++D.zss l) (c::r).flatten=true
  rw[yas];exact zkd _ _ _ _ (zhu d c h1) (zp3 l r h2)
end
def qB{k:IntKind}{n:Int}:z6f k (.int k n)=some n:=by unfold z6f;simp only[zA.asIntK,vA];rw[nI.2 rfl];rfl
def jT{b:Bool}:(zA.bool b).asBool=some b:=rfl
def lV{d:Nat}{k:IntKind}{n:Int}:same d (.int k n) (.int k n)=true:=by
 cases d<;>simp[same,nI,mP]
def zu7{d:Nat}{b:Bool}:same d (.bool b) (.bool b)=true:=by cases d<;>simp[same,fQ]
def zos{d:Nat}{s:List Nat}:same d (.str s) (.str s)=true:=by cases d<;>simp[same,mK]
def wrap_i64{n:Int}(h1 : -9223372036854775808<=n)(h2:n<9223372036854775808):tA .i64 n=n:=by
 rw[zK];simp only[IntKind.wrap,IntKind.bits,IntKind.signed];simp;omega
def kK{t:Tr qA}{d:D}{cs zs:List zA}(h:RD t d cs)(hz:d.zs=zs):zs7 zs (.agg cs)=some (cellsOf cs):=by
 unfold zs7;simp only[zA.asAgg,vA];rw[<- hz,zhu d cs h];rfl
def aU{zs l:List zA}(h:aK zs l=true):zs7 zs (.agg l)=some (cellsOf l):=by
 unfold zs7;simp only[zA.asAgg,vA,h];rfl
end Go.Am
