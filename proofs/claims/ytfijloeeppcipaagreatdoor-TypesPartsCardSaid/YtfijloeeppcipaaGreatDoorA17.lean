/- Seat 14: strconv.FormatUint at base 10. -/
import Derived.KernelRfl
import Derived.Lib.AppendIntMem
import Derived.ProofKit
import Derived.Test.YtfijloeeppcipaaGreatDoorA11
import Derived.Test.YtfijloeeppcipaaGreatDoorA12
import Derived.Test.YtfijloeeppcipaaGreatDoorA13
import Derived.Test.YtfijloeeppcipaaGreatDoorA14
import Derived.Test.YtfijloeeppcipaaGreatDoorA15
import Derived.Test.YtfijloeeppcipaaGreatDoorA16
set_option linter.all false
noncomputable section
namespace Go.Proofs
open Go Go.Shelf Go.RowKit Go.Sort Go.Lib
set_option maxHeartbeats 1000000 in
set_option maxRecDepth 100000 in
theorem zji(u:Nat)(hi:u<100)(w:World) :
  Calls Tryz.prog 214 #[.int .u64 u,.int .i64 10] w fun e w'=>e=.returned (.string ⟨(Lib.itoa u).toArray⟩)/\∃k os,w'=Sort.grow (w.drewN k) os:=by
 have hi':(u:Int)<100:=by omega
 have hw:IntKind.i64.wrap (u:Int)=u:=by rw[IntKind.wrap_i64];omega
 go_enter Tryz.func214,Tryz.ntmps214
 go_wp2_with (go_at_fn 227)
 refine(Tryz.internal_strconv_small u hi _).mono ?_
 rintro e w' ⟨rfl,rfl⟩
 go_wp2
 go_ret
 refine⟨?_,0,#[],by simp[World.drewN_zero,Sort.grow]⟩
 rw[Lib.itoa_nonneg];rfl
set_option maxHeartbeats 4000000 in
set_option maxRecDepth 100000 in
theorem zr8 (u : Nat) (hu : 100 <= u) (hu64 : u < 18446744073709551616) (w : World) (htab : Lib.TabIs Tryz.prog w "internal/strconv.uint64pow10" .u64 Lib.pow10Tab) :
  Calls Tryz.prog 214 #[.int .u64 u,.int .i64 10] w fun e w'=>e=.returned (.string ⟨(Lib.itoa u).toArray⟩)/\∃k os,w'=Sort.grow (w.drewN k) os:=by
 have hu':(100:Int)<=(u:Int):=by omega
 have hu1:1<=u:=by omega
 have hnd20:Lib.nDigits u<=20:=by have:=Lib.numDigits_eq u hu1 hu64;split at this<;>omega
 have hal:Tryz.prog.arrayLen 270=24:=by kernel_rfl
 have hel:Tryz.prog.elem 270=5:=by kernel_rfl
 have hsl:∀W,(Instr.sliceAt 270 (.pointer (some ⟨w.heap.size,0,none⟩)) none (some (.int .i64 (Lib.nDigits u:Int))) none).run Tryz.prog W=.ok (.slice (some ⟨w.heap.size,0,none⟩) (Lib.nDigits u) 24) W:=fun W=>by
  rw[run_sliceAt_array_h W 270 ⟨w.heap.size,0,none⟩ (by rw[hal,hel];exact Tryz.underlying270) .i64 (Lib.nDigits u:Int) (by omega) (by rw[hal];omega)]
  rw[hal,hel,Tryz.sizeOf5];simp[slicedAt,Addr.add]
 have hH0:=Lib.holds_zero0 w 270 (Lib.nDigits u) (by omega)
 have hfmt:=Tryz.internal_strconv_formatBase10 w.heap.size 0 24 u (Array.replicate (Lib.nDigits u) 0) (w.alloc (.cells Lib.zeros24 270)) hH0 (by rw[Array.size_replicate];exact Lib.lt_pow_nDigits u) hu64 (by rw[Array.size_replicate];omega)
 rw[Array.size_replicate]at hfmt;have HH0:=Lib.hid hH0
 clear hH0 hal hel
 go_enter Tryz.func214,Tryz.ntmps214
 go_wp2_with (go_at_fn 228)
 refine(Tryz.internal_strconv_numDigits u hu1 hu64 _ (Lib.tabIs_alloc htab _)).mono ?_
 rintro e w' ⟨rfl,rfl⟩
 go_wp2_with (go_at_fn 229)
 refine hfmt.mono ?_
 rintro e w' ⟨rfl,k,v',dk,rfl,hF⟩
 have hcv:(convert 38 9 (.slice (some ⟨w.heap.size,0,none⟩) (Lib.nDigits u) 24)).run Tryz.prog ((putRow (fun(b:UInt8)=>Value.int .u8 (b.toNat:Int)) (w.alloc (.cells Lib.zeros24 270)) w.heap.size 0 dk).drewN k)=.ok (.string ⟨(Lib.decDigits u).toArray⟩) ((putRow (fun(b:UInt8)=>Value.int .u8 (b.toNat:Int)) (w.alloc (.cells Lib.zeros24 270)) w.heap.size 0 dk).drewN k):=by
  have h:=run_convert_bytes_back (P:=Tryz.prog) ((putRow (fun(b:UInt8)=>Value.int .u8 (b.toNat:Int)) (w.alloc (.cells Lib.zeros24 270)) w.heap.size 0 dk).drewN k) 38 9 5 ⟨w.heap.size,0,none⟩ 24 (Lib.decDigits u) Tryz.underlying38 Tryz.underlying5 Tryz.underlying9 (fun j hj=>by
   rw[Lib.row_is_numeral hF j hj,Lib.add_plain,World.cell?_drewN];exact cell?_putRow (fun(b:UInt8)=>Value.int .u8 (b.toNat:Int)) _ w.heap.size 0 _ dk HH0.out (by rw[hF.size,Array.size_replicate]) j (by rw[hF.size];rw[Lib.decDigits_length]at hj;exact hj))
  rw[Lib.decDigits_length]at h;exact h
 go_wp2
 go_ret
 obtain⟨os,eo⟩:=Lib.fin_at w (.cells Lib.zeros24 270) dk k 0
 refine⟨?_,k,os,eo⟩
 rw[Lib.itoa_nonneg];rfl
set_option maxHeartbeats 1000000 in
set_option maxRecDepth 100000 in
theorem uint14 (u : Nat) (hu64 : u < 18446744073709551616) (w : World) (htab : Lib.TabIs Tryz.prog w "internal/strconv.uint64pow10" .u64 Lib.pow10Tab) :
  Calls Tryz.prog 193 #[.int .u64 u,.int .i64 10] w fun e w'=>e=.returned (.string ⟨(Lib.itoa u).toArray⟩)/\∃k os,w'=Sort.grow (w.drewN k) os:=by
 have key:Calls Tryz.prog 214 #[.int .u64 u,.int .i64 10] w fun e w'=>e=.returned (.string ⟨(Lib.itoa u).toArray⟩)/\∃k os,w'=Sort.grow (w.drewN k) os:=by
  by_cases h:u<100
  ·exact zji u h w
  ·exact zr8 u (by omega) hu64 w htab
 go_enter Tryz.func193,Tryz.ntmps193
 go_wp2_with (go_at_fn 214)
 refine key.mono ?_
 rintro e w' ⟨rfl,k,os,rfl⟩
 go_wp2
 go_ret
 exact⟨rfl,k,os,rfl⟩
end Go.Proofs
set_option maxRecDepth 100000
namespace Go.Am
open Go Go.RowKit Go.Proofs
theorem zu2:z9j (fun t ty=>match tyOf Tryz.prog t with | some u=>eqTy u ty | none=>false) tys (fun n=>n)=true:=by kernel_rfl
theorem zjk{C:qA}(hC:C.tys=tys):pE Tryz.prog C:=by
 intro t ty h;rw[hC]at h;have:=z9i tys _ zu2 t ty h
 cases hu:tyOf Tryz.prog t with
 | none=>rw[hu]at this;cases this
 | some u=>rw[hu]at this;rw[z8y this]
theorem znp : (Tryz.funcs.toList.all fun fn => !(fn.name == "runtime.NumGoroutine")) = true := by kernel_rfl
theorem zgl{C:qA}(hC:C.fns=fns):zmc Tryz.prog C:=by
 intro f fn h;rw[hC]at h;unfold fns at h;rw[Tr.get_ofList]at h;have h2:Tryz.prog.funcs[f]?=some fn:=by
  show Tryz.funcs[f]?=some fn
  simpa using h
 refine⟨h2,?_⟩
 have:=ybc.1 znp fn (ybw h)
 simpa using this
def u64s (l:List Int):List Value:=l.map fun n=>.int .u64 n
theorem zpd{μ:Mu}:∀l:List Int,zB μ (z3c .u64 l) (u64s l)
 | []=>.nil
 | b::l=>.cons (by rw[wA]) (zpd l)
structure eF (w:World):Prop where
 modes:∃t,w.heap[0]?=some (.cells (z1o pL).toArray t (0,0))
 lens:∃t,w.heap[3]?=some (.cells (z29 zny).toArray t (0,0))
 most:∃m,w.cell? ⟨1,0,none⟩=some (.int .i64 m)
 pow:∃t,w.heap[4]?=some (.cells (u64s z05).toArray t (0,0))
theorem eF.size{w:World}(h:eF w):5<=w.heap.size:=by
 obtain⟨t,h⟩:=h.pow
 have:=(yaf.1 h).1
 omega
theorem eF.below{w w':World}{N:Nat}(hN:5<=N)(h:eF w)(hb:Below N w w'):eF w':=by
 refine⟨?_,?_,?_,?_⟩
 ·obtain⟨t,h⟩:=h.modes;exact⟨t,by rw[hb.block 0 (by omega)];exact h⟩
 ·obtain⟨t,h⟩:=h.lens;exact⟨t,by rw[hb.block 3 (by omega)];exact h⟩
 ·obtain⟨m,h⟩:=h.most;exact⟨m,by rw[hb.cell (p:=⟨1,0,none⟩) (by show 1<N;omega)];exact h⟩
 ·obtain⟨t,h⟩:=h.pow;exact⟨t,by rw[hb.block 4 (by omega)];exact h⟩
theorem eF.tab {w : World} (h : eF w) : Lib.TabIs Tryz.prog w "internal/strconv.uint64pow10" .u64 Lib.pow10Tab := by
 obtain⟨t,h⟩:=h.pow
 have hg : Tryz.prog.globalNamed "internal/strconv.uint64pow10" = some 4 := by kernel_rfl
 unfold Lib.TabIs World.var?
 rw[hg];simp only[Option.bind_some,h];rfl
theorem hrel14{w:World}(h:eF w):aA 256 w.heap.size mu0 H14 w:=by
 have hget:∀a x,H14.t.get a=some x->(a=0/\x=.cells (Tr.ofList (strA pL)) (wB (strA pL)) none)\/(a=3/\x=.cells (Tr.ofList (z3c .i64 zny)) (wB (z3c .i64 zny)) none)\/(a=4/\x=.cells (Tr.ofList (z3c .u64 z05)) (wB (z3c .u64 z05)) none):=by
  intro a x hx;have hx:(glob 0 (strA pL) (glob 3 (z3c .i64 zny) (glob 4 (z3c .u64 z05) .leaf))).get a=some x:=hx
  unfold glob at hx;rw[Tr.get_set,Tr.get_set,Tr.get_set]at hx;split at hx
  ·rename_i e;exact .inl ⟨e,(ybj hx).symm⟩
  ·split at hx
   ·rename_i e;exact .inr (.inl ⟨e,(ybj hx).symm⟩)
   ·split at hx
    ·rename_i e;exact .inr (.inr ⟨e,(ybj hx).symm⟩)
    ·rw[Tr.get_leaf]at hx;cases hx
 have hsz:=h.size
 refine⟨yal _,fun g hg=>by simp[mu0,hg],fun a x i _ hx hi=>?_,yal _,yal _,fun a ha=>?_,fun a x i hx hi=>?_,fun a i ha hi=>?_,fun a b x y i j hx _ _ _ ha _ _=>?_,fun a x t ha=>by cases ha⟩
 ·rcases hget a x hx with⟨rfl,rfl⟩ | ⟨rfl,rfl⟩ | ⟨rfl,rfl⟩<;>cases hi<;>exact⟨Nat.lt_of_lt_of_le (by decide) hsz,rfl,rfl⟩
 ·have ha:256<=a:=ha
  refine⟨by simp[mu0];omega,?_⟩
  cases hx:H14.t.get a with
  | none=>rfl
  | some x=>rcases hget a x hx with⟨rfl,_⟩ | ⟨rfl,_⟩ | ⟨rfl,_⟩<;>omega
 ·rcases hget a x hx with⟨rfl,rfl⟩ | ⟨rfl,rfl⟩ | ⟨rfl,rfl⟩
  ·obtain⟨t,h⟩:=h.modes;cases hi;exact⟨_,h,zeh (zpn pL) t⟩
  ·obtain⟨t,h⟩:=h.lens;cases hi;exact⟨_,h,zeh (zq0 zny) t⟩
  ·obtain⟨t,h⟩:=h.pow;cases hi;exact⟨_,h,zeh (zpd z05) t⟩
 ·simp[mu0]at hi;omega
 ·rcases hget a x hx with⟨rfl,_⟩ | ⟨rfl,_⟩ | ⟨rfl,_⟩<;>omega
theorem zbs{s:ByteArray}{l:List Nat}(h:uE s=l):s.data.toList.map UInt8.toNat=l:=h
theorem bP{f:Nat}{fn:Func}(hf:Tryz.funcs[f]?=some fn)(hb:fn.body.isSome=true){args:Array Value}{w:World}:(callFunc f args).run Tryz.prog w=.ok (.enter f args) w:=
 uX (C:=C14w) (zgl rfl) (show fns.get f=some fn by unfold fns;rw[Tr.get_ofList];simpa using hf) hb
section
variable {B N:Nat}{μ:Mu}{H:xA}{w:World}{args:List zA}{args':Array Value}{v:zA}
theorem zbq{a b:zA}(h:zB μ [a,b] args'.toList):∃x y,args' = #[x,y]/\wA μ a x/\wA μ b y:=by
 rw[zB]at h;obtain⟨x,r,h1,h2,h3⟩:=h
 rw[zB]at h3;obtain⟨y,r',h4,h5,h6⟩:=h3
 rw[zB]at h6;subst h4 h6
 exact⟨x,y,by apply Array.toList_inj.1;simpa using h1,h2,h5⟩
theorem zst(hv:zau args H=some v)(hl:zB μ args args'.toList) :
  (callFunc 206 args').run Tryz.prog w=.ok (.enter 206 args') w/\Calls Tryz.prog 206 args' w fun e w'=>∃v',e=.returned v'/\wA μ v v'/\Below w.heap.size w w':=by
 refine⟨bP (fn:=Tryz.f206) Tryz.func206 (by kernel_rfl),?_⟩
 unfold zau at hv;split at hv
 case h_2=>cases hv
 rename_i s c;rw[yB,xC]at hv;obtain⟨hc,hv⟩:=hv
 cases hv;obtain⟨x,y,rfl,hx,hy⟩:=zbq hl
 simp only[wA]at hx hy;obtain⟨s',rfl,hs⟩:=hx
 subst hy;refine(Tryz.stringslite_IndexByte s' (Int.ofNat c) w).mono fun e w' ⟨he,hw⟩=>?_
 subst hw;refine⟨_,he,?_,Below.refl _ _⟩
 have hcc:(c.toUInt8).toNat=c:=by simp[Nat.toUInt8,UInt8.toNat_ofNat'];omega
 have:=zq1 c.toUInt8 s'.data.toList
 rw[hcc,zbs hs]at this;rw[wA];show Value.int .i64 (Lib.indexByte s'.data.toList c.toUInt8)=_
 rw[<- this];done
theorem zae(hI:eF w)(hv:oU args H=some v)(hl:zB μ args args'.toList) :
  (callFunc 140 args').run Tryz.prog w=.ok (.enter 140 args') w/\Calls Tryz.prog 140 args' w fun e w'=>∃v',e=.returned v'/\wA μ v v'/\Below w.heap.size w w':=by
 refine⟨bP (fn:=Tryz.f140) Tryz.func140 (by kernel_rfl),?_⟩
 unfold oU at hv;split at hv
 case h_2=>cases hv
 rename_i s c;rw[yB,xC,bC]at hv;obtain⟨hlen,hv⟩:=hv
 cases hv;obtain⟨x,y,rfl,hx,hy⟩:=zbq hl
 rw[wA]at hx hy;obtain⟨s',rfl,hs⟩:=hx
 obtain⟨c',rfl,hc⟩:=hy
 obtain⟨m,hm⟩:=hI.most
 have hsz:s'.size<4294967281:=by
  have:=congrArg List.length (zbs hs)
  simp at this;omega
 refine(Tryz.strings_Contains s' c' m w hsz hm).mono fun e w' ⟨he,hw⟩=>?_
 subst hw;refine⟨_,he,?_,Below.refl _ _⟩
 have:=zef c'.data.toList s'.data.toList
 rw[zbs hs,zbs hc]at this;rw[wA,this]
theorem zgx(k:Nat)(os:Array Obj):Below w.heap.size w (Sort.grow (w.drewN k) os):=by
 refine⟨rfl,rfl,rfl,?_,fun j hj=>?_⟩
 ·simp[Sort.grow,World.drewN]
 ·show(w.heap++os)[j]?=w.heap[j]?
  rw[Array.getElem?_append_left hj]
theorem zj6(hI:eF w)(hv:zsy args H=some v)(hl:zB μ args args'.toList) :
  (callFunc 175 args').run Tryz.prog w=.ok (.enter 175 args') w/\Calls Tryz.prog 175 args' w fun e w'=>∃v',e=.returned v'/\wA μ v v'/\Below w.heap.size w w':=by
 refine⟨bP (fn:=Tryz.f175) Tryz.func175 (by kernel_rfl),?_⟩
 unfold zsy at hv;split at hv
 case h_2=>cases hv
 rename_i n;rw[yB,yac]at hv;obtain⟨⟨h1,h2⟩,hv⟩:=hv
 cases hv;rw[zB]at hl;obtain⟨x,r,he,hx,hr⟩:=hl
 rw[zB]at hr;rw[wA]at hx;subst hr hx
 have:args' = #[.int .i64 n]:=by apply Array.toList_inj.1;simpa using he
 subst this;have g1 : -9223372036854775808<=n:=(zii _ _).1 h1
 have g2:n<9223372036854775808:=(iU _ _).1 h2
 refine(Tryz.strconv_Itoa n g1 (by omega) w hI.tab).mono fun e w' ⟨he,k,os,hw⟩=>?_
 subst hw;exact⟨_,he,by rw[wA];exact⟨_,rfl,rfl⟩,zgx k os⟩
theorem zj5(hI:eF w)(hv:zw6 args H=some v)(hl:zB μ args args'.toList) :
  (callFunc 193 args').run Tryz.prog w=.ok (.enter 193 args') w/\Calls Tryz.prog 193 args' w fun e w'=>∃v',e=.returned v'/\wA μ v v'/\Below w.heap.size w w':=by
 refine⟨bP (fn:=Tryz.f193) Tryz.func193 (by kernel_rfl),?_⟩
 unfold zw6 at hv;split at hv
 case h_2=>cases hv
 rename_i n b;rw[yB,yac,yac]at hv;obtain⟨⟨⟨h1,h2⟩,h3⟩,hv⟩:=hv
 cases hv;obtain⟨x,y,rfl,hx,hy⟩:=zbq hl
 rw[wA]at hx hy;subst hx hy
 have g1:0<=n:=(zii _ _).1 h1
 have g2:n<18446744073709551616:=(iU _ _).1 h2
 obtain rfl:b=10:=(fP _ _).1 h3
 obtain⟨u,rfl⟩:∃u:Nat,n=u:=⟨n.toNat,by omega⟩
 refine(uint14 u (by omega) w hI.tab).mono fun e w' ⟨he,k,os,hw⟩=>?_
 subst hw;exact⟨_,he,by rw[wA];exact⟨_,rfl,rfl⟩,zgx k os⟩
end
section
variable {B N:Nat}{μ:Mu}{H H':xA}{w:World}{args:List zA}{args':Array Value}{v:zA}
theorem zf5{base:Nat}(hbase:B<=base)(hH:aA B N μ H w)(hv:zda base lU args H=some (v,H'))(hl:zB μ args args'.toList) :
  (callFunc 144 args').run Tryz.prog w=.ok (.enter 144 args') w/\Calls Tryz.prog 144 args' w fun e w'=>∃v' μ',e=.returned v'/\μ.le μ'/\aA B N μ' H' w'/\Below N w w'/\wA μ' v v':=
 zw7 hbase (fun p hp b n w h1 h2 h3 h4=>by
  unfold lU at hp;rcases yat.1 hp with rfl | hp
  ·exact ziv b n w h1 h2 (show 2<n from h3) h4
  ·obtain rfl:p=(164,2):=by simpa using hp
   exact zbo b n w h1 h2 (show 1<n from h3) h4) (fun b w h=>zlt b w h) (fun w a=>bP (fn:=Tryz.f144) Tryz.func144 (by kernel_rfl)) hH hv hl
theorem zc7{base:Nat}(hbase:B<=base)(hH:aA B N μ H w)(hv:pU base 5 args H=some (v,H'))(hl:zB μ args args'.toList) :
  (callFunc 88 args').run Tryz.prog w=.ok (.enter 88 args') w/\Calls Tryz.prog 88 args' w fun e w'=>∃v' μ',e=.returned v'/\μ.le μ'/\aA B N μ' H' w'/\Below N w w'/\wA μ' v v':=
 zsx Tryz.lays169 Tryz.Builder_Extra_169 (f:=88) rfl hbase (fun w a=>bP (fn:=Tryz.f88) Tryz.func88 (by kernel_rfl)) hH hv hl
end
theorem mK{α:Type}{t:Tr α}{i j:Nat}{x y:α}(h:(t.set i x).get j=some y):(j=i/\x=y)\/t.get j=some y:=by
 rw[Tr.get_set]at h;split at h
 ·rename_i e;exact .inl ⟨e,ybj h⟩
 ·exact .inr h
theorem pX(f0 N:Nat):kS Tryz.prog (C14v f0) 256 N eF:=by
 intro f g hg args H v H' hv μ w args' hH hI hl;have hg:rU.get f=some g:=hg
 unfold rU at hg;rcases mK hg with⟨rfl,rfl⟩ | hg
 ·exact nP hv hH fun hv=>zst hv hl
 rcases mK hg with⟨rfl,rfl⟩ | hg
 ·exact nP hv hH fun hv=>zae hI hv hl
 rcases mK hg with⟨rfl,rfl⟩ | hg
 ·exact nP hv hH fun hv=>zj5 hI hv hl
 rcases mK hg with⟨rfl,rfl⟩ | hg
 ·exact nP hv hH fun hv=>zj6 hI hv hl
 rcases mK hg with⟨rfl,rfl⟩ | hg
 ·exact .inr (zc7 (yal _) hH hv hl)
 rcases mK hg with⟨rfl,rfl⟩ | hg
 ·exact .inr (zf5 (yal _) hH hv hl)
 ·rw[Tr.get_leaf]at hg;cases hg
theorem sim14v(f0 N:Nat)(hN:5<=N):Sim Tryz.prog (C14v f0) 256 N eF:=
 ⟨zjk rfl,zgl rfl,pX f0 N,yal _,by kernel_rfl,fun _ _ hb h=>h.below hN hb⟩
theorem zpt{C:qA}{f n:Nat}{args:List zA}{args':Array Value}{w:World}{v:zA}{H':xA}(hw:eF w)(hS:Sim Tryz.prog C 256 w.heap.size eF)(hroot:C.root=f)(hl:zB mu0 args args'.toList)
  (hr:zpv C n (oP C f args H14)=.done v H'):Calls Tryz.prog f args' w fun e w'=>∃v' μ',e=.returned v'/\wA μ' v v'/\aA 256 w.heap.size μ' H' w'/\Below w.heap.size w w':=by
 unfold oP at hr;have stuck:∀(n k:Nat),zpv C n (.fail k)=.fail k:=by
  intro n;induction n with
  | zero=>intro k;rfl
  | succ n ih=>
   intro k;show zpv C n (zpv C n (.fail k))=_
   rw[ih,ih]
 cases he:rJ C f args false with
 | none=>
  rw[he]at hr;rw[stuck]at hr
  cases hr
 | some g=>
  rw[he]at hr;exact(zlv hS hw hroot (hrel14 hw) hl he hr).mono fun e w' ⟨v',μ',h1,_,h3,h4,h5⟩=>⟨v',μ',h1,h3,h4,h5⟩
theorem zms{C:qA}{f n:Nat}{args:List zA}{args':Array Value}{w:World}(hw:eF w)(hS:Sim Tryz.prog C 256 w.heap.size eF)(hroot:C.root=f)(hl:zB mu0 args args'.toList)
  (h:vE (zpv C n (oP C f args H14))=1):Calls Tryz.prog f args' w fun e w'=>e=.returned (.bool true)/\Below w.heap.size w w':=by
 obtain⟨H',hr⟩:=z8u h
 refine(zpt hw hS hroot hl hr).mono fun e w' ⟨v',μ',h1,h3,_,h5⟩=>?_
 rw[wA]at h3;exact⟨by rw[h1,h3],h5⟩
theorem zlh{o:wE}{v:zA}(h:finV o=some v):∃H,o=.done v H:=by
 cases o with
 | done u H=>obtain rfl:=ybj h;exact⟨H,rfl⟩
 | next s=>cases h
 | fail n=>cases h
section
variable {μ:Mu}{H H':xA}{w:World}{args:List zA}{args':Array Value}{v:zA}
theorem z71{y m:Nat}(h1:1900<=y)(h2:y<=2000)(h3:1<=m)(h4:m<=12):zxv y m=true:=by
 have h:=z2u
 rw[ybc]at h;have h:=h (y-1900) (List.mem_range.2 (by omega))
 rw[ybc]at h;have h:=h (m-1) (List.mem_range.2 (by omega))
 rw[show 1900+(y-1900)=y by omega,show 1+(m-1)=m by omega]at h
 exact h
theorem z19(hI:eF w)(hv:z7l args H=some v)(hl:zB μ args args'.toList) :
  (callFunc 176 args').run Tryz.prog w=.ok (.enter 176 args') w/\Calls Tryz.prog 176 args' w fun e w'=>∃v',e=.returned v'/\wA μ v v'/\Below w.heap.size w w':=by
 refine⟨bP (fn:=Tryz.f176) Tryz.func176 (by kernel_rfl),?_⟩
 unfold z7l at hv;split at hv
 case h_2=>cases hv
 rename_i y m;unfold lenO at hv;rw[yB,yac,yac,yac,tE,tE,tE,tE]at hv;obtain⟨⟨h1,h2,h3,h4⟩,hv⟩:=hv
 cases hv;obtain⟨x,z,rfl,hx,hz⟩:=zbq hl
 rw[wA]at hx hz;have hr:=z71 h1 h2 h3 h4
 unfold zxv at hr;split at hr
 case h_2=>cases hr
 rename_i n hn;have hn':=fB.1 hr
 obtain⟨H1,he⟩:=zlh hn
 refine(zpt hI (sim14v 176 w.heap.size hI.size) rfl (args' := #[x,z]) (.cons (by rw[wA];exact hx) (.single (by rw[wA];exact hz))) he).mono fun e w' ⟨v',μ',g1,g2,_,g4⟩=>?_
 rw[wA]at g2;exact⟨_,g1,by rw[g2,wA,<- hn'];rfl,g4⟩
theorem znd(f0 N:Nat):kS Tryz.prog (C14l f0) 256 N eF:=by
 intro f g hg args H v H' hv μ w args' hH hI hl;have hg:zhu.get f=some g:=hg
 unfold zhu at hg;rcases mK hg with⟨rfl,rfl⟩ | hg
 ·exact nP hv hH fun hv=>z19 hI hv hl
 ·exact pX f0 N f g hg args H v H' hv μ w args' hH hI hl
theorem sim14l(f0 N:Nat)(hN:5<=N):Sim Tryz.prog (C14l f0) 256 N eF:=
 ⟨zjk rfl,zgl rfl,znd f0 N,yal _,by kernel_rfl,fun _ _ hb h=>h.below hN hb⟩
theorem zle:∀ {l:List (List Nat × Int)} {s:List Nat} {v:zA},z3r l s=some v->∃n,(s,n)∈l/\v=.tup [.int .i64 n,.int .i64 0]
 | [],_,_,h=>by cases h
 | p::r,s,v,h=>by
  unfold z3r at h;rw[aB]at h;split at h
  ·rename_i e
   have e:=(dK _ _).1 e
   exact⟨p.2,by rw[<- e];exact .head _,(ybj h).symm⟩
  ·obtain⟨n,h1,h2⟩:=zle h
   exact⟨n,.tail _ h1,h2⟩
theorem zwx(hI:eF w)(hv:z7m args H=some v)(hl:zB μ args args'.toList) :
  (callFunc 129 args').run Tryz.prog w=.ok (.enter 129 args') w/\Calls Tryz.prog 129 args' w fun e w'=>∃v',e=.returned v'/\wA μ v v'/\Below w.heap.size w w':=by
 refine⟨bP (fn:=Tryz.f129) Tryz.func129 (by kernel_rfl),?_⟩
 unfold z7m at hv;split at hv
 case h_2=>cases hv
 rename_i s;obtain⟨n,hm,rfl⟩:=zle hv
 obtain⟨x,r,he,hx,hr⟩:=hl
 have hr':r=[]:=by rw[zB]at hr;exact hr
 subst hr'
 have hx0:=hx
 rw[wA]at hx;have:=ybc.1 zzx _ hm
 unfold zzy at this;split at this
 case h_2=>cases this
 rename_i u hu;have e:=xU _ _ _ this
 subst e;obtain⟨H1,he1⟩:=zlh hu
 have ea:args' = #[x]:=by apply Array.toList_inj.1;simpa using he
 subst ea;refine(zpt hI (sim14l 129 w.heap.size hI.size) rfl (args' := #[x]) (.single (by rw[wA];exact hx)) he1).mono fun e w' ⟨v',μ',g1,g2,_,g4⟩=>?_
 exact⟨_,g1,by
  simp only[wA,zB]at g2 ⊢
  exact g2,g4⟩
theorem zne(f0 N:Nat):kS Tryz.prog (z0w f0) 256 N eF:=by
 intro f g hg args H v H' hv μ w args' hH hI hl;have hg:zhv.get f=some g:=hg
 unfold zhv at hg;rcases mK hg with⟨rfl,rfl⟩ | hg
 ·exact nP hv hH fun hv=>zwx hI hv hl
 ·exact pX f0 N f g hg args H v H' hv μ w args' hH hI hl
theorem sim14d(f0 N:Nat)(hN:5<=N):Sim Tryz.prog (z0w f0) 256 N eF:=
 ⟨zjk rfl,zgl rfl,zne f0 N,yal _,by kernel_rfl,fun _ _ hb h=>h.below hN hb⟩
theorem zlf:∀ {l:List (List Nat × oI)} {s:List Nat} {g:oI},z3s l s=some g->(s,g)∈l
 | [],_,_,h=>by cases h
 | p::r,s,v,h=>by
  unfold z3s at h;rw[aB]at h;split at h
  ·rename_i e
   have e:=(dK _ _).1 e
   obtain rfl:=ybj h
   rw[<- e];exact .head _
  ·exact .tail _ (zlf h)
theorem zf4{f n N:Nat}{tab:List (List Nat × oI)}(hroot:(z0w f).root=f)(hH:aA 256 N μ H w)(hI:eF w)(hfn:∃fn,Tryz.funcs[f]?=some fn/\fn.body.isSome=true)
  (hruns:(tab.all fun p=>zzo p.2 (zpv (z0w f) n (oP (z0w f) f [.str p.1] H14)))=true)
  (hv:zqa tab args H=some (v,H')) (hl:zB μ args args'.toList) :
  (callFunc f args').run Tryz.prog w=.ok (.enter f args') w/\Calls Tryz.prog f args' w fun e w'=>∃v' μ',e=.returned v'/\μ.le μ'/\aA 256 N μ' H' w'/\Below N w w'/\wA μ' v v':=by
 obtain⟨fn,hf1,hf2⟩:=hfn
 refine⟨bP hf1 hf2,?_⟩
 unfold zqa at hv;split at hv
 case h_2=>cases hv
 rename_i s;rw[tA]at hv;obtain⟨g,hg,hv⟩:=hv
 have hv:=ybj hv
 have hm:=zlf hg
 have hrun:=ybc.1 hruns _ hm
 obtain⟨x,r,he,hx,hr⟩:=hl
 have hr':r=[]:=by rw[zB]at hr;exact hr
 subst hr'
 rw[wA]at hx;have ea:args' = #[x]:=by apply Array.toList_inj.1;simpa using he
 subst ea
 cases ho:zpv (z0w f) n (oP (z0w f) f [.str s] H14)with
 | next s0=>rw[ho]at hrun;cases hrun
 | fail k=>rw[ho]at hrun;cases hrun
 | done u H1=>
  rw[ho]at hrun;refine(zpt hI (sim14d f w.heap.size hI.size) hroot (args' := #[x]) (.single (by rw[wA];exact hx)) ho).mono fun e w' ⟨v',μ1,g1,g2,g3,g4⟩=>?_
  obtain⟨μ',k1,k2,k3⟩:=z3m hH g4 g3 g2 hrun
  have ev:v=(zd1 g H).1:=by rw[hv]
  have eh:H'=(zd1 g H).2:=by rw[hv]
  subst ev eh
  exact⟨v',μ',g1,k1,k2,g4.mono hH.size,k3⟩
end
theorem znc(N:Nat):kS Tryz.prog C14w 256 N eF:=by
 intro f g hg args H v H' hv μ w args' hH hI hl;have hg:zht.get f=some g:=hg
 unfold zht at hg;rcases mK hg with⟨rfl,rfl⟩ | hg
 ·exact .inr (zf4 rfl hH hI ⟨_,Tryz.func27,by kernel_rfl⟩ zw0 hv hl)
 rcases mK hg with⟨rfl,rfl⟩ | hg
 ·exact .inr (zf4 rfl hH hI ⟨_,Tryz.func26,by kernel_rfl⟩ zwm hv hl)
 ·exact pX 9 N f g hg args H v H' hv μ w args' hH hI hl
theorem sim14w(N:Nat)(hN:5<=N):Sim Tryz.prog C14w 256 N eF:=
 ⟨zjk rfl,zgl rfl,znc N,yal _,by kernel_rfl,fun _ _ hb h=>h.below hN hb⟩
theorem zox{w:World}(hw:eF w):Calls Tryz.prog 9 #[] w fun e w'=>e=.returned (.bool true)/\Below w.heap.size w w':=
 zms hw (sim14w _ hw.size) rfl .nil z0g
theorem zsu{μ:Mu}{H:xA}{w:World}{args:List zA}{args':Array Value}{v:zA}(hI:eF w)(hv:z2d args H=some v)(hl:zB μ args args'.toList) :
  (callFunc 9 args').run Tryz.prog w=.ok (.enter 9 args') w/\Calls Tryz.prog 9 args' w fun e w'=>∃v',e=.returned v'/\wA μ v v'/\Below w.heap.size w w':=by
 refine⟨bP (fn:=Tryz.f9) Tryz.func9 (by kernel_rfl),?_⟩
 unfold z2d at hv;split at hv
 case h_2=>cases hv
 cases hv;rw[zB]at hl;have:args' = #[]:=by apply Array.toList_inj.1;simpa using hl
 subst this;exact(zox hI).mono fun e w' ⟨h1,h2⟩=>⟨_,h1,by rw[wA],h2⟩
end Go.Am
namespace Go.Am
open Go Go.RowKit
@[simp] theorem gD {α:Type} {x:Option α}:cA true x=x:=rfl
inductive D where
 | int (k:IntKind) (n:Int)
 | bool (b:Bool)
 | str (s:List Nat)
 | sl (sz:Nat) (l:List D)
 | st (l:List D)
def At (t:Tr rA)(b off:Nat)(cs:List zA):Prop:=∃c n lo,t.get b=some (.cells c n lo)/\∀(j:Nat) a,cs[j]?=some a->c.get (off+j)=some a
def vK(t:Tr rA)(sz:Nat)(v:zA)(cl:List (List zA)):Prop:=
 (v=.nilslice/\cl=[])\/∃b off cap,v=.slice b off cl.length cap/\cl.length<=cap/\(∃c n lo,t.get b=some (.cells c n lo)/\(lo=none\/∃x,lo=some x/\x.es=sz))/\∀(i:Nat) cs,cl[i]?=some cs->cs.length=sz/\At t b (off+i*sz) cs
mutual
/-- cells read as data -/
def RD (t:Tr rA):D->List zA->Prop
 | .int k n,cs=>cs=[.int k n]
 | .bool b,cs=>cs=[.bool b]
 | .str s,cs=>cs=[.str s]
 | .sl sz l,cs=>∃a cl,cs=[a]/\vK t sz a cl/\eC t l cl
 | .st l,cs=>∃cl,cs=cl.flatten/\eC t l cl
def eC (t:Tr rA):List D->List (List zA)->Prop
 | [],cl=>cl=[]
 | d::l,cl=>∃c r,cl=c::r/\RD t d c/\eC t l r
end
def vB (t t':Tr rA):Prop:=∀b y,t.get b=some y->t'.get b=some y
theorem vB.refl(t:Tr rA):vB t t:=fun _ _ h=>h
theorem vB.trans{a b c:Tr rA}(h:vB a b)(k:vB b c):vB a c:=fun x y e=>k x y (h x y e)
section
variable {t t':Tr rA}{C:qA}
theorem At.mono(h:vB t t'){b off:Nat}{cs:List zA}(k:At t b off cs):At t' b off cs:=by
 obtain⟨c,n,lo,h1,h2⟩:=k;exact⟨c,n,lo,h _ _ h1,h2⟩
theorem vK.mono(h:vB t t'){sz:Nat}{v:zA}{cl:List (List zA)}(k:vK t sz v cl):vK t' sz v cl:=by
 rcases k with k | ⟨b,off,cap,h1,h3,⟨c,n,lo,h4,h5⟩,h2⟩
 ·exact .inl k
 ·exact .inr ⟨b,off,cap,h1,h3,⟨c,n,lo,h _ _ h4,h5⟩,fun i cs hi=>⟨(h2 i cs hi).1,(h2 i cs hi).2.mono h⟩⟩
mutual
theorem RD.mono(h:vB t t'):∀(d:D) (cs:List zA),RD t d cs->RD t' d cs
 | .int _ _,_,k=>k
 | .bool _,_,k=>k
 | .str _,_,k=>k
 | .sl _ l,_,⟨a,cl,h1,h2,h3⟩=>⟨a,cl,h1,h2.mono h,eC.mono h l cl h3⟩
 | .st l,_,⟨cl,h1,h2⟩=>⟨cl,h1,eC.mono h l cl h2⟩
theorem eC.mono(h:vB t t'):∀(l:List D) (cl:List (List zA)),eC t l cl->eC t' l cl
 | [],_,k=>k
 | d::l,_,⟨c,r,h1,h2,h3⟩=>⟨c,r,h1,RD.mono h d c h2,eC.mono h l r h3⟩
end
theorem eC.length:∀ {l:List D} {cl:List (List zA)},eC t l cl->cl.length=l.length:=by
 intro l;induction l with
 | nil=>intro cl h;rw[eC]at h;simp[h]
 | cons d l ih=>intro cl h;rw[eC]at h;obtain⟨c,r,rfl,_,h3⟩:=h;simp[ih h3]
theorem eC.get:∀ {l:List D} {cl:List (List zA)} {i:Nat} {d:D},eC t l cl->l[i]?=some d->∃cs,cl[i]?=some cs/\RD t d cs:=by
 intro l;induction l with
 | nil=>intro cl i d _ h;simp at h
 | cons e l ih=>
  intro cl i d h hi;rw[eC]at h;obtain⟨c,r,rfl,h2,h3⟩:=h
  cases i with
  | zero=>simp at hi;subst hi;exact⟨c,by simp,h2⟩
  | succ i=>simp at hi;obtain⟨cs,h4,h5⟩:=ih h3 hi;exact⟨cs,by simpa using h4,h5⟩
theorem eC.mk:∀ {l:List D} {cl:List (List zA)},cl.length=l.length->(∀(i:Nat) d cs,l[i]?=some d->cl[i]?=some cs->RD t d cs)->eC t l cl:=by
 intro l;induction l with
 | nil=>intro cl h _;rw[eC];simpa using h
 | cons e l ih=>
  intro cl h k
  cases cl with
  | nil=>simp at h
  | cons c r=>
   rw[eC];exact⟨c,r,rfl,k 0 e c (by simp) (by simp),ih (by simpa using h) fun i d cs h1 h2=>k (i+1) d cs (by simpa using h1) (by simpa using h2)⟩
@[simp] theorem zL {k:IntKind} {n:Int} {cs:List zA}:RD t (.int k n) cs ↔ cs=[.int k n]:=Iff.rfl
@[simp] theorem tQ {b:Bool} {cs:List zA}:RD t (.bool b) cs ↔ cs=[.bool b]:=Iff.rfl
@[simp] theorem aN {s:List Nat} {cs:List zA}:RD t (.str s) cs ↔ cs=[.str s]:=Iff.rfl
def dA (t:Tr rA)(sz:Nat)(l:List D)(v:zA):Prop:=∃cl,vK t sz v cl/\eC t l cl
theorem dA.mono(h:vB t t'){sz:Nat}{l:List D}{v:zA}(k:dA t sz l v):dA t' sz l v:=by
 obtain⟨cl,h1,h2⟩:=k;exact⟨cl,h1.mono h,eC.mono h _ _ h2⟩
theorem nJ{sz:Nat}{l:List D}{cs:List zA}:RD t (.sl sz l) cs ↔ ∃v,cs=[v]/\dA t sz l v:=by
 rw[RD];constructor
 ·rintro⟨a,cl,rfl,h1,h2⟩;exact⟨a,rfl,cl,h1,h2⟩
 ·rintro⟨a,rfl,cl,h1,h2⟩;exact⟨a,cl,rfl,h1,h2⟩
theorem wI{l:List D}{cs:List zA}:RD t (.st l) cs ↔ ∃cl,cs=cl.flatten/\eC t l cl:=by rw[RD]
theorem gG{cl:List (List zA)}:eC t [] cl ↔ cl=[]:=by rw[eC]
theorem rE{d:D}{l:List D}{cl:List (List zA)}:eC t (d::l) cl ↔ ∃c r,cl=c::r/\RD t d c/\eC t l r:=by rw[eC]
theorem dA.one{sz:Nat}{l:List D}{v:zA}(h:dA t sz l v):zA.one v=true:=by
 obtain⟨cl,h1,_⟩:=h
 rcases h1 with⟨rfl,_⟩ | ⟨b,off,cap,rfl,_⟩
 ·decide
 ·rfl
theorem dA.len{sz:Nat}{l:List D}{v:zA}(h:dA t sz l v):yC v=some (.int .i64 (l.length:Int)):=by
 obtain⟨cl,h1,h2⟩:=h
 have:=h2.length
 rcases h1 with⟨rfl,rfl⟩ | ⟨b,off,cap,rfl,_⟩
 ·have:l.length=0:=this.symm
  rw[this];rfl
 ·rw[<- this];rfl
theorem dA.same{sz d:Nat}{l:List D}{v:zA}(h:dA t sz l v):same d v v=true:=by
 obtain⟨cl,h1,_⟩:=h
 rcases h1 with⟨rfl,_⟩ | ⟨b,off,cap,rfl,_⟩
 ·cases d <;> (unfold Am.same;rfl)
 ·have e:∀n,Nat.beq n n=true:=Nat.beq_refl
  cases d <;> (unfold Am.same;simp only[e,Bool.and_self])
theorem xY{sz:Nat}{l:List D}{v:zA}(h:dA t sz l v):z06 .nilslice v=true:=by
 obtain⟨cl,h1,_⟩:=h
 rcases h1 with⟨rfl,_⟩ | ⟨b,off,cap,rfl,_⟩<;>rfl
theorem At.load{b off j n:Nat}{cs:List zA}(h:At t b off cs){ty:Nat}{y:qC}(hy:C.tys.get ty=some y)(ha:y.desc.isAgg=true)(hn:y.size=n)(hj:j+n<=cs.length):oA C ty ⟨0,t⟩ (.ptr b (off+j))=some (.agg ((cs.drop j).take n)):=by
 obtain⟨c,m,lo,h1,h2⟩:=h
 unfold oA;simp only[zA.asPtr,uA];rw[hy,uA];unfold tD;rw[h1,uA];simp only[rA.asCells,uA];unfold zN;rw[ha,cond_true,hn];have key:∀(n j:Nat),j+n<=cs.length->c.many n (off+j)=some ((cs.drop j).take n):=by
  intro n;induction n with
  | zero=>intro j _;simp;rfl
  | succ n ih=>
   intro j hj;have hlt:j<cs.length:=by omega
   rw[Tr.many_succ,h2 j cs[j] (yae hlt),uA,show off+j+1=off+(j+1) by omega,ih (j+1) (by omega),uA,yam hlt,List.take_succ_cons]
 rw[key n j hj];rfl
theorem At.load1{b off j:Nat}{cs:List zA}{a:zA}(h:At t b off cs){ty:Nat}{y:qC}(hy:C.tys.get ty=some y)(ha:y.desc.isAgg=false)(hj:cs[j]?=some a):oA C ty ⟨0,t⟩ (.ptr b (off+j))=some a:=by
 obtain⟨c,m,lo,h1,h2⟩:=h
 unfold oA;simp only[zA.asPtr,uA];rw[hy,uA];unfold tD;rw[h1,uA];simp only[rA.asCells,uA];unfold zN;rw[ha,cond_false];exact h2 j a hj
structure gF (C:qA) (T el sz:Nat) (agg:Bool):Prop where
 ty:∃y,C.tys.get T=some y/\y.desc.asSlice=some el
 el:∃y,C.tys.get el=some y/\y.size=sz/\y.desc.isAgg=agg
def cW(agg:Bool)(cs:List zA):zA:=if agg then .agg cs else match cs with | a::_=>a | []=>.nilptr
theorem gF.at{T el sz:Nat}{agg:Bool}(h:gF C T el sz agg)(h1:agg=false->sz=1){l:List D}{v:zA}(hr:dA t sz l v){i:Nat}{d:D}(hi:l[i]?=some d) :
  ∃b off cs,jB C T v (.int .i64 (i:Int))=some (.ptr b off)/\oA C el ⟨0,t⟩ (.ptr b off)=some (cW agg cs)/\At t b off cs/\cs.length=sz/\RD t d cs:=by
 obtain⟨⟨y,hy1,hy2⟩,⟨z,hz1,hz2,hz3⟩⟩:=h
 obtain⟨cl,he,hd⟩:=hr
 obtain⟨cs,hc,hrd⟩:=hd.get hi
 rcases he with⟨rfl,rfl⟩ | ⟨b,off,cap,rfl,_,_,he⟩
 ·simp at hc
 ·obtain⟨hl,ha⟩:=he i cs hc
  have hlt:i<cl.length:=(yad.1 hc).1
  refine⟨b,off+i*sz,cs,?_,?_,ha,hl,hrd⟩
  ·unfold jB
   rw[hy1,uA];have:(zA.int .i64 (i:Int)).asNat=some i:=rfl
   rw[this,uA];simp only[zA.asSlice];rw[hy2,uA,hz1,uA,xC.2 hlt,hz2];rfl
  ·cases agg with
   | true=>
    have:=ha.load (j:=0) hz1 hz3 hz2 (by omega)
    simp only[ybu,ybs]at this;rw[this,<- hl,List.take_length];rfl
   | false=>
    have hs:=h1 rfl
    cases cs with
    | nil=>simp at hl;omega
    | cons a r=>
     have:=ha.load1 (j:=0) (a:=a) hz1 hz3 (by simp)
     rw[ybu]at this;rw[this];rfl
end
section
variable {t:Tr rA}{C:qA}
theorem gF.front{T el sz:Nat}{agg:Bool}(h:gF C T el sz agg){l:List D}{v:zA}(hr:dA t sz l v){k:Nat}(hk:k<=l.length) :
  ∃v',zG C T ⟨0,t⟩ v none (some (.int .i64 (k:Int)))=some v'/\dA t sz (l.take k) v':=by
 obtain⟨⟨y,hy1,hy2⟩,⟨z,hz1,hz2,hz3⟩⟩:=h
 obtain⟨cl,he,hd⟩:=hr
 have hlen:=hd.length
 unfold zG;rw[hy1,uA];have hb:∀y,bQ y (.int .i64 (k:Int))=cA (Nat.ble k y) (some k):=fun y=>rfl
 rcases he with⟨rfl,rfl⟩ | ⟨b,off,cap,rfl,hcap,⟨c,n,lo,hg,hlo⟩,he⟩
 ·have:k=0:=by simp at hlen;omega
  subst this;refine⟨.nilslice,?_,[],.inl ⟨rfl,rfl⟩,by simp[eC]⟩
  unfold bJ;simp only[zA.asStr,zA.asSlice,zA.asPtr];rw[hy2,uA,hz1,uA];rfl
 ·refine⟨.slice b off k cap,?_,cl.take k,.inr ⟨b,off,cap,?_,?_,⟨c,n,lo,hg,hlo⟩,fun i cs hi=>?_⟩,?_⟩
  ·unfold bJ
   simp only[zA.asStr,zA.asSlice];rw[hy2,uA];unfold vL;rw[hz1,uA];unfold rM zei;simp only[hb];rw[show Nat.ble k cap=true from tE.2 (by omega)]
   simp only[gD,uA];have he2:jI ⟨0,t⟩ b z.size cap 0 false=false:=by
    unfold jI tD;rw[hg,uA];simp only[rA.asCells];rcases hlo with rfl | ⟨x,rfl,hx⟩
    ·rfl
    ·simp
   rw[he2,Bool.and_false,cond_false];have hf:mH ⟨0,t⟩ b z.size cap 0 false=true:=by
    unfold mH tD;rw[hg,uA];simp only[rA.asCells];rcases hlo with rfl | ⟨x,rfl,hx⟩
    ·rfl
    ·simp[hz2,hx]
   rw[show Nat.ble k cap=true from tE.2 (by omega),hf]
   simp only[Bool.and_self,gD];congr 1
   cases hq:Nat.beq cap 0<;>simp
  ·rw[ycb];congr 1;omega
  ·rw[ycb];omega
  ·rw[ycg]at hi
   split at hi
   ·exact he i cs hi
   ·cases hi
  ·refine eC.mk (by rw[ycb,ycb];omega) fun i d cs h1 h2=>?_
   rw[ycg]at h1 h2;split at h1
   ·rename_i e
    rw[if_pos e]at h2;obtain⟨cs',h3,h4⟩:=hd.get h1
    rw[h3]at h2;cases h2;exact h4
   ·cases h1
end
mutual
def D.zs:D->List zA
 | .int k _=>[.int k 0]
 | .bool _=>[.bool false]
 | .str _=>[.str []]
 | .sl _ _=>[.nilslice]
 | .st l=>D.zss l
def D.zss:List D->List zA
 | []=>[]
 | d::l=>d.zs++D.zss l
end
theorem zd7:∀(z z' l l':List zA),xK z l=true->xK z' l'=true->xK (z++z') (l++l')=true
 | [],_,[],_,_,h=>h
 | a::z,z',b::l,l',h,k=>by
  unfold xK at h;rw[yac]at h;show(z06 a b&&xK (z++z') (l++l'))=true
  rw[h.1,zd7 z z' l l' h.2 k];rfl
 | [],_,_::_,_,h,_=>by cases h
 | _::_,_,[],_,h,_=>by cases h
mutual
theorem zd6{t:Tr rA}:∀(d:D) (cs:List zA),RD t d cs->xK d.zs cs=true
 | .int k n,cs,h=>by
  rw[RD]at h;subst h;show(z06 (.int k 0) (.int k n)&&true)=true
  simp only[z06,zA.asIntK,Bool.and_true];exact sI.2 rfl
 | .bool _,cs,h=>by rw[RD]at h;subst h;rfl
 | .str _,cs,h=>by rw[RD]at h;subst h;rfl
 | .sl sz l,cs,h=>by
  rw[nJ]at h;obtain⟨v,rfl,h⟩:=h
  show(z06 .nilslice v&&true)=true
  rw[xY h];rfl
 | .st l,cs,h=>by
  rw[wI]at h;obtain⟨cl,rfl,h⟩:=h
  show xK (D.zss l) cl.flatten=true
  exact zrb l cl h
theorem zrb{t:Tr rA}:∀(l:List D) (cl:List (List zA)),eC t l cl->xK (D.zss l) cl.flatten=true
 | [],cl,h=>by rw[eC]at h;subst h;rfl
 | d::l,cl,h=>by
  rw[eC]at h;obtain⟨c,r,rfl,h1,h2⟩:=h
  show xK (d.zs++D.zss l) (c::r).flatten=true
  rw[List.flatten_cons];exact zd7 _ _ _ _ (zd6 d c h1) (zrb l r h2)
end
theorem oB{k:IntKind}{n:Int}:z8k k (.int k n)=some n:=by unfold z8k;simp only[zA.asIntK,uA];rw[sI.2 rfl];rfl
theorem cT{b:Bool}:(zA.bool b).asBool=some b:=rfl
theorem zbv{d:Nat}{k:IntKind}{n:Int}:same d (.int k n) (.int k n)=true:=by
 cases d<;>simp[same,sI,fP]
theorem zwg{d:Nat}{b:Bool}:same d (.bool b) (.bool b)=true:=by cases d<;>simp[same,zR]
theorem zps{d:Nat}{s:List Nat}:same d (.str s) (.str s)=true:=by cases d<;>simp[same,dK]
theorem wrap_i64{n:Int}(h1 : -9223372036854775808<=n)(h2:n<9223372036854775808):vA .i64 n=n:=by
 rw[rK];simp only[IntKind.wrap,IntKind.bits,IntKind.signed];simp;omega
theorem uK{t:Tr rA}{d:D}{cs zs:List zA}(h:RD t d cs)(hz:d.zs=zs):zrs zs (.agg cs)=some (cellsOf cs):=by
 unfold zrs;simp only[zA.asAgg,uA];rw[<- hz,zd6 d cs h];rfl
theorem qN{zs l:List zA}(h:xK zs l=true):zrs zs (.agg l)=some (cellsOf l):=by
 unfold zrs;simp only[zA.asAgg,uA,h];rfl
end Go.Am
