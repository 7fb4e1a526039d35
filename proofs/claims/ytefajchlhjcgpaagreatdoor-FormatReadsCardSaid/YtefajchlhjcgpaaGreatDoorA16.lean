/- Seat 33: strconv.FormatUint at base 10. -/
import Derived.KernelRfl
import Derived.Lib.AppendIntMem
import Derived.ProofKit
import Derived.Test.YtefajchlhjcgpaaGreatDoorA09
import Derived.Test.YtefajchlhjcgpaaGreatDoorA10
import Derived.Test.YtefajchlhjcgpaaGreatDoorA11
import Derived.Test.YtefajchlhjcgpaaGreatDoorA12
import Derived.Test.YtefajchlhjcgpaaGreatDoorA13
import Derived.Test.YtefajchlhjcgpaaGreatDoorA14
import Derived.Test.YtefajchlhjcgpaaGreatDoorA15
set_option linter.all false
noncomputable section
namespace Go.Proofs
open Go Go.Shelf Go.RowKit Go.Sort Go.Lib
set_option maxHeartbeats 1000000 in
set_option maxRecDepth 100000 in
theorem SG(u:Nat)(hi:u<100)(w:World) :
  Calls Tryz.prog 270 #[.int .u64 u,.int .i64 10] w fun e w'=>e=.returned (.string ⟨(Lib.itoa u).toArray⟩)/\∃k os,w'=Sort.grow (w.drewN k) os:=by
 have hi':(u:Int)<100:=by omega
 have hw:IntKind.i64.wrap (u:Int)=u:=by rw[IntKind.wrap_i64];omega
 go_enter Tryz.func270,Tryz.ntmps270
 go_wp2_with (go_at_fn 272)
 refine(Tryz.internal_strconv_small u hi _).mono ?_
 rintro e w' ⟨rfl,rfl⟩
 go_wp2
 go_ret
 refine⟨?_,0,#[],by simp_all [World.drewN_zero]⟩
 rw[Lib.itoa_nonneg];rfl
set_option maxHeartbeats 4000000 in
set_option maxRecDepth 100000 in
theorem SH (u : Nat) (hu : 100 <= u) (hu64 : u < 18446744073709551616) (w : World) (htab : Lib.TabIs Tryz.prog w "internal/strconv.uint64pow10" .u64 Lib.pow10Tab) :
  Calls Tryz.prog 270 #[.int .u64 u,.int .i64 10] w fun e w'=>e=.returned (.string ⟨(Lib.itoa u).toArray⟩)/\∃k os,w'=Sort.grow (w.drewN k) os:=by
 have hu':(100:Int)<=(u:Int):=by omega
 have hu1:1<=u:=by omega
 have hnd20:Lib.nDigits u<=20:=by have:=Lib.numDigits_eq u hu1 hu64;split at this<;>omega
 have hal:Tryz.prog.arrayLen 305=24:=by kernel_rfl
 have hel:Tryz.prog.elem 305=5:=by kernel_rfl
 have hsl:∀W,(Instr.sliceAt 305 (.pointer (some ⟨w.heap.size,0,none⟩)) none (some (.int .i64 (Lib.nDigits u:Int))) none).run Tryz.prog W=.ok (.slice (some ⟨w.heap.size,0,none⟩) (Lib.nDigits u) 24) W:=fun W=>by
  rw[run_sliceAt_array_h W 305 ⟨w.heap.size,0,none⟩ (by simp_all) .i64 (Lib.nDigits u:Int) (by omega) (by omega)]
  simp_all [slicedAt,Addr.add]
 have hH0:=Lib.holds_zero0 w 305 (Lib.nDigits u) (by omega)
 have hfmt:=Tryz.internal_strconv_formatBase10 w.heap.size 0 24 u (Array.replicate (Lib.nDigits u) 0) (w.alloc (.cells Lib.zeros24 305)) hH0 (by grind [Lib.lt_pow_nDigits]) hu64 (by grind)
 rw[Array.size_replicate]at hfmt;have HH0:=Lib.hid hH0
 clear hH0 hal hel
 go_enter Tryz.func270,Tryz.ntmps270
 go_wp2_with (go_at_fn 273)
 refine(Tryz.internal_strconv_numDigits u hu1 hu64 _ (Lib.tabIs_alloc htab _)).mono ?_
 rintro e w' ⟨rfl,rfl⟩
 go_wp2_with (go_at_fn 274)
 refine hfmt.mono ?_
 rintro e w' ⟨rfl,k,v',dk,rfl,hF⟩
 have hcv:(convert 96 9 (.slice (some ⟨w.heap.size,0,none⟩) (Lib.nDigits u) 24)).run Tryz.prog ((putRow (fun(b:UInt8)=>Value.int .u8 (b.toNat:Int)) (w.alloc (.cells Lib.zeros24 305)) w.heap.size 0 dk).drewN k)=.ok (.string ⟨(Lib.decDigits u).toArray⟩) ((putRow (fun(b:UInt8)=>Value.int .u8 (b.toNat:Int)) (w.alloc (.cells Lib.zeros24 305)) w.heap.size 0 dk).drewN k):=by
  have h:=run_convert_bytes_back (P:=Tryz.prog) ((putRow (fun(b:UInt8)=>Value.int .u8 (b.toNat:Int)) (w.alloc (.cells Lib.zeros24 305)) w.heap.size 0 dk).drewN k) 96 9 5 ⟨w.heap.size,0,none⟩ 24 (Lib.decDigits u) Tryz.underlying96 Tryz.underlying5 Tryz.underlying9 (fun j hj=>by
   rw[Lib.row_is_numeral hF j hj,Lib.add_plain,World.cell?_drewN];exact cell?_putRow (fun(b:UInt8)=>Value.int .u8 (b.toNat:Int)) _ w.heap.size 0 _ dk HH0.out (by rw[hF.size,Array.size_replicate]) j (by rw[hF.size];grind [Lib.decDigits_length]))
  grind [Lib.decDigits_length]
 go_wp2
 go_ret
 obtain⟨os,eo⟩:=Lib.fin_at w (.cells Lib.zeros24 305) dk k 0
 refine⟨?_,k,os,eo⟩
 rw[Lib.itoa_nonneg];rfl
set_option maxHeartbeats 1000000 in
set_option maxRecDepth 100000 in
def uint33 (u : Nat) (hu64 : u < 18446744073709551616) (w : World) (htab : Lib.TabIs Tryz.prog w "internal/strconv.uint64pow10" .u64 Lib.pow10Tab) :
  Calls Tryz.prog 238 #[.int .u64 u,.int .i64 10] w fun e w'=>e=.returned (.string ⟨(Lib.itoa u).toArray⟩)/\∃k os,w'=Sort.grow (w.drewN k) os:=by
 have key:Calls Tryz.prog 270 #[.int .u64 u,.int .i64 10] w fun e w'=>e=.returned (.string ⟨(Lib.itoa u).toArray⟩)/\∃k os,w'=Sort.grow (w.drewN k) os:=by
  grind [SG,SH]
 go_enter Tryz.func238,Tryz.ntmps238
 go_wp2_with (go_at_fn 270)
 refine key.mono ?_
 rintro e w' ⟨rfl,k,os,rfl⟩
 go_wp2
 go_ret
 exact⟨rfl,k,os,rfl⟩
end Go.Proofs
set_option maxRecDepth 100000
namespace Go.Am
open Go Go.RowKit Go.Proofs
variable {C:iA}{base f:Nat}
theorem zam:allT (fun t ty=>match tyOf Tryz.prog t with | some u=>eqTy u ty | none=>false) tys (fun n=>n)=true:=by kernel_rfl
theorem Wm (hC:C.tys=tys):mF Tryz.prog C:=by
 intro t ty h;grind [zqx,zam,zp7]
theorem VV : (Tryz.funcs.toList.all fun fn => !(fn.name == "runtime.NumGoroutine")) = true := by kernel_rfl
theorem Uh (hC:C.fns=fns):Fu Tryz.prog C:=by
 intro f fn h;rw[hC]at h;unfold fns at h;rw[Tr.get_ofList]at h;have h2:Tryz.prog.funcs[f]?=some fn:=by
  show Tryz.funcs[f]?=some fn
  grind
 grind [VV]
def u64s (l:List Int):List Value:=l.map fun n=>.int .u64 n
theorem EZ{μ:Mu}:∀l:List Int,pB μ (Bs .u64 l) (u64s l)
 | []=>.nil
 | b::l=>.cons (by rw[vA]) (EZ l)
structure tI (w:World):Prop where
 kinds:∃t,w.heap[0]?=some (.cells (tP sR).toArray t (0,0))
 modes:∃t,w.heap[1]?=some (.cells (tP zR).toArray t (0,0))
 lens:∃t,w.heap[3]?=some (.cells (Et uT).toArray t (0,0))
 most:∃m,w.cell? ⟨2,0,none⟩=some (.int .i64 m)
 pow:∃t,w.heap[5]?=some (.cells (u64s Bc).toArray t (0,0))
theorem tI.size{w:World}(h:tI w):6<=w.heap.size:=by
 obtain⟨t,h⟩:=h.pow
 grind
theorem tI.below{w w':World}{N:Nat}(hN:6<=N)(h:tI w)(hb:Below N w w'):tI w':=by
 refine⟨?_,?_,?_,?_,?_⟩
 ·obtain⟨t,h⟩:=h.kinds;exact⟨t,by rw[hb.block 0 (by omega)];exact h⟩
 ·obtain⟨t,h⟩:=h.modes;exact⟨t,by rw[hb.block 1 (by omega)];exact h⟩
 ·obtain⟨t,h⟩:=h.lens;exact⟨t,by rw[hb.block 3 (by omega)];exact h⟩
 ·obtain⟨m,h⟩:=h.most;exact⟨m,by rw[hb.cell (p:=⟨2,0,none⟩) (by grind)];exact h⟩
 ·obtain⟨t,h⟩:=h.pow;exact⟨t,by rw[hb.block 5 (by omega)];exact h⟩
def tI.tab {w : World} (h : tI w) : Lib.TabIs Tryz.prog w "internal/strconv.uint64pow10" .u64 Lib.pow10Tab := by
 obtain⟨t,h⟩:=h.pow
 have hg : Tryz.prog.globalNamed "internal/strconv.uint64pow10" = some 5 := by kernel_rfl
 unfold Lib.TabIs World.var?
 rw[hg];simp only[yai,h];rfl
theorem hrel33{w:World}(h:tI w):rB 256 w.heap.size mu0 H33 w:=by
 have hget:∀a x,H33.t.get a=some x->(a=0/\x=.cells (Tr.ofList (Du sR)) (yB (Du sR)) none)\/(a=1/\x=.cells (Tr.ofList (Du zR)) (yB (Du zR)) none)\/(a=3/\x=.cells (Tr.ofList (Bs .i64 uT)) (yB (Bs .i64 uT)) none)\/(a=5/\x=.cells (Tr.ofList (Bs .u64 Bc)) (yB (Bs .u64 Bc)) none):=by
  intro a x hx;have hx:(glob 0 (Du sR) (glob 1 (Du zR) (glob 3 (Bs .i64 uT) (glob 5 (Bs .u64 Bc) .leaf)))).get a=some x:=hx
  grind [glob,Tr.get_set,Tr.get_leaf]
 have hsz:=h.size
 refine⟨ybk _,fun g hg=>by simp[mu0,hg],fun a x i _ hx hi=>?_,ybk _,ybk _,fun a ha=>?_,fun a x i hx hi=>?_,fun a i ha hi=>?_,fun a b x y i j hx _ _ _ ha _ _=>?_,fun a x t ha=>by cases ha⟩
 ·rcases hget a x hx with⟨rfl,rfl⟩ | ⟨rfl,rfl⟩ | ⟨rfl,rfl⟩ | ⟨rfl,rfl⟩<;>cases hi<;>exact⟨Nat.lt_of_lt_of_le (by decide) hsz,rfl,rfl⟩
 ·have ha:256<=a:=ha
  refine⟨by grind [mu0],?_⟩
  cases hx:H33.t.get a with
  | none=>rfl
  | some x=>rcases hget a x hx with⟨rfl,_⟩ | ⟨rfl,_⟩ | ⟨rfl,_⟩ | ⟨rfl,_⟩<;>omega
 ·rcases hget a x hx with⟨rfl,rfl⟩ | ⟨rfl,rfl⟩ | ⟨rfl,rfl⟩ | ⟨rfl,rfl⟩
  ·obtain⟨t,h⟩:=h.kinds;cases hi;exact⟨_,h,Vh (Yo sR) t⟩
  ·obtain⟨t,h⟩:=h.modes;cases hi;exact⟨_,h,Vh (Yo zR) t⟩
  ·obtain⟨t,h⟩:=h.lens;cases hi;exact⟨_,h,Vh (MF uT) t⟩
  ·obtain⟨t,h⟩:=h.pow;cases hi;grind [Vh,EZ]
 all_goals grind [mu0]
def Ar{s:ByteArray}{l:List Nat}(h:pF s=l):s.data.toList.map UInt8.toNat=l:=h
theorem rY {fn:Func}(hf:Tryz.funcs[f]?=some fn)(hb:fn.body.isSome=true){args:Array Value}{w:World}:(callFunc f args).run Tryz.prog w=.ok (.enter f args) w:=
 Sg (C:=C33w) (Uh rfl) (show fns.get f=some fn by grind [fns,Tr.get_ofList]) hb
section
variable {B N:Nat}{μ:Mu}{H:xA}{w:World}{args:List zA}{args':Array Value}{v:zA}
theorem Ji{a b:zA}(h:pB μ [a,b] args'.toList):∃x y,args' = #[x,y]/\vA μ a x/\vA μ b y:=by
 grind [pB]
theorem IP (h0:(callFunc f args').run Tryz.prog w=.ok (.enter f args') w)(h1:∀(s:ByteArray) (c:Int),Calls Tryz.prog f #[.string s,.int .u8 c] w fun e w'=>e=.returned (.int .i64 (Lib.indexByte s.data.toList c.toNat.toUInt8))/\w'=w)(hv:Oa args H=some v)(hl:pB μ args args'.toList) :
  (callFunc f args').run Tryz.prog w=.ok (.enter f args') w/\Calls Tryz.prog f args' w fun e w'=>∃v',e=.returned v'/\vA μ v v'/\Below w.heap.size w w':=by
 refine⟨h0,?_⟩
 unfold Oa at hv;split at hv
 case h_2=>cases hv
 rename_i s c;rw[sB,qC]at hv;obtain⟨hc,hv⟩:=hv
 cases hv;obtain⟨x,y,rfl,hx,hy⟩:=Ji hl
 simp only[vA]at hx hy;obtain⟨s',rfl,hs⟩:=hx
 subst hy;refine(h1 s' (Int.ofNat c)).mono fun e w' ⟨he,hw⟩=>?_
 subst hw;refine⟨_,he,?_,Below.refl _ _⟩
 have hcc:(c.toUInt8).toNat=c:=by simp_all
 have:=MH c.toUInt8 s'.data.toList
 rw[hcc,Ar hs]at this;grind [vA]
theorem IQ(hI:tI w)(hv:Kc args H=some v)(hl:pB μ args args'.toList) :
  (callFunc 143 args').run Tryz.prog w=.ok (.enter 143 args') w/\Calls Tryz.prog 143 args' w fun e w'=>∃v',e=.returned v'/\vA μ v v'/\Below w.heap.size w w':=by
 refine⟨rY (fn:=Tryz.f143) Tryz.func143 (by kernel_rfl),?_⟩
 unfold Kc at hv;split at hv
 case h_2=>cases hv
 rename_i s c;rw[sB,qC,kD]at hv;obtain⟨hlen,hv⟩:=hv
 cases hv;obtain⟨x,y,rfl,hx,hy⟩:=Ji hl
 rw[vA]at hx hy;obtain⟨s',rfl,hs⟩:=hx
 obtain⟨c',rfl,hc⟩:=hy
 obtain⟨m,hm⟩:=hI.most
 have hsz:s'.size<4294967281:=by
  have:=congrArg List.length (Ar hs)
  simp_all
 refine(Tryz.strings_Contains s' c' m w hsz hm).mono fun e w' ⟨he,hw⟩=>?_
 subst hw;refine⟨_,he,?_,Below.refl _ _⟩
 have:=OY c'.data.toList s'.data.toList
 rw[Ar hs,Ar hc]at this;rw[vA,this]
theorem QE(k:Nat)(os:Array Obj):Below w.heap.size w (Sort.grow (w.drewN k) os):=by
 refine⟨rfl,rfl,rfl,?_,fun j hj=>?_⟩
 all_goals grind [Sort.grow,World.drewN]
theorem IN(hI:tI w)(hv:Kb args H=some v)(hl:pB μ args args'.toList) :
  (callFunc 137 args').run Tryz.prog w=.ok (.enter 137 args') w/\Calls Tryz.prog 137 args' w fun e w'=>∃v',e=.returned v'/\vA μ v v'/\Below w.heap.size w w':=by
 refine⟨rY (fn:=Tryz.f137) Tryz.func137 (by kernel_rfl),?_⟩
 unfold Kb at hv;split at hv
 case h_2=>cases hv
 rename_i n;rw[sB,ybb]at hv;obtain⟨⟨h1,h2⟩,hv⟩:=hv
 cases hv;rw[pB]at hl;obtain⟨x,r,he,hx,hr⟩:=hl
 rw[pB]at hr;rw[vA]at hx;subst hr hx
 have:args' = #[.int .i64 n]:=by grind
 subst this;have g1 : -9223372036854775808<=n:=(Ua _ _).1 h1
 have g2:n<9223372036854775808:=(Hp _ _).1 h2
 refine(Tryz.strconv_Itoa n g1 (by omega) w hI.tab).mono fun e w' ⟨he,k,os,hw⟩=>?_
 subst hw;exact⟨_,he,by rw[vA];exact⟨_,rfl,rfl⟩,QE k os⟩
theorem IL(hI:tI w)(hv:Nz args H=some v)(hl:pB μ args args'.toList) :
  (callFunc 238 args').run Tryz.prog w=.ok (.enter 238 args') w/\Calls Tryz.prog 238 args' w fun e w'=>∃v',e=.returned v'/\vA μ v v'/\Below w.heap.size w w':=by
 refine⟨rY (fn:=Tryz.f238) Tryz.func238 (by kernel_rfl),?_⟩
 unfold Nz at hv;split at hv
 case h_2=>cases hv
 rename_i n b;rw[sB,ybb,ybb]at hv;obtain⟨⟨⟨h1,h2⟩,h3⟩,hv⟩:=hv
 cases hv;obtain⟨x,y,rfl,hx,hy⟩:=Ji hl
 rw[vA]at hx hy;subst hx hy
 have g1:0<=n:=(Ua _ _).1 h1
 have g2:n<18446744073709551616:=(Hp _ _).1 h2
 obtain rfl:b=10:=(sY _ _).1 h3
 obtain⟨u,rfl⟩:∃u:Nat,n=u:=⟨n.toNat,by omega⟩
 refine(uint33 u (by omega) w hI.tab).mono fun e w' ⟨he,k,os,hw⟩=>?_
 subst hw;exact⟨_,he,by rw[vA];exact⟨_,rfl,rfl⟩,QE k os⟩
end
theorem OW(c:UInt8):∀s:List UInt8,oY c.toNat (s.map UInt8.toNat)=Lib.countByte s c
 | []=>rfl
 | b::l=>by
  have ih:=OW c l
  grind [Lib.countByte,oY,UInt8.toNat_inj,gC]
section
variable {B N:Nat}{μ:Mu}{H:xA}{w:World}{args:List zA}{args':Array Value}{v:zA}
theorem UY(hv:Sv args H=some v)(hl:pB μ args args'.toList) :
  (callFunc 126 args').run Tryz.prog w=.ok (.enter 126 args') w/\Calls Tryz.prog 126 args' w fun e w'=>∃v',e=.returned v'/\vA μ v v'/\Below w.heap.size w w':=by
 refine⟨rY (fn:=Tryz.f126) Tryz.func126 (by kernel_rfl),?_⟩
 unfold Sv at hv;split at hv
 case h_2=>cases hv
 rename_i s c
 cases hv;obtain⟨x,y,rfl,hx,hy⟩:=Ji hl
 rw[vA]at hx hy;obtain⟨s',rfl,hs⟩:=hx
 obtain⟨c',rfl,hc⟩:=hy
 obtain⟨b,hb,hbc⟩:∃b:UInt8,c'=⟨#[b]⟩/\b.toNat=c:=by
  have h1:=Ar hc
  obtain⟨⟨l⟩⟩:=c'
  simp_all
 subst hb;refine(Tryz.strings_Count_one s' b w).mono fun e w' ⟨he,hw⟩=>?_
 subst hw;refine⟨_,he,?_,Below.refl _ _⟩
 have:=OW b s'.data.toList
 simp_all [Ar,vA]
theorem zhk(hI:tI w)(hv:pCut args H=some v)(hl:pB μ args args'.toList) :
  (callFunc 139 args').run Tryz.prog w=.ok (.enter 139 args') w/\Calls Tryz.prog 139 args' w fun e w'=>∃v',e=.returned v'/\vA μ v v'/\Below w.heap.size w w':=by
 refine⟨rY (fn:=Tryz.f139) Tryz.func139 (by kernel_rfl),?_⟩
 unfold pCut at hv;split at hv
 case h_2=>cases hv
 rename_i s c;rw[sB,qC,kD]at hv;obtain⟨hlen,hv⟩:=hv
 obtain⟨x,y,rfl,hx,hy⟩:=Ji hl
 rw[vA]at hx hy;obtain⟨s',rfl,hs⟩:=hx
 obtain⟨c',rfl,hc⟩:=hy
 obtain⟨m,hm⟩:=hI.most
 have hsz:s'.size<4294967281:=by
  have:=congrArg List.length (Ar hs)
  simp_all
 refine(Tryz.strings_Cut s' c' m w hsz hm).mono fun e w' ⟨he,n,hw⟩=>?_
 subst hw;have hb:Below w.heap.size w (w.drewN n):=⟨rfl,rfl,rfl,ybk _,fun _ _=>rfl⟩
 refine⟨_,he,?_,hb⟩
 have hcut:=zms c'.data.toList s'.data.toList
 rw[Ar hs,Ar hc]at hcut
 cases hx:Cm c s with
 | none=>
  rw[hx]at hcut hv
  cases hv;have hcut:Lib.index s'.data.toList c'.data.toList = -1:=hcut
  have e:Lib.cut s'.data.toList c'.data.toList=(s'.data.toList,[],false):=by grind [Lib.cut]
  rw[e,vA];exact⟨_,rfl,.cons (by grind [vA]) (.cons (by grind [vA,pF]) (.single (by rw[vA])))⟩
 | some p=>
  rw[hx]at hcut hv
  cases hv;obtain⟨a,b,rfl,h1,h2,h3⟩:=hcut
  have e:Lib.cut s'.data.toList c'.data.toList=(a,b,true):=by unfold Lib.cut;rw[yab h1,h2,h3]
  rw[e,vA];exact⟨_,rfl,.cons (by grind [vA,pF]) (.cons (by grind [vA,pF]) (.single (by rw[vA])))⟩
end
section
variable {B N:Nat}{μ:Mu}{H H':xA}{w:World}{args:List zA}{args':Array Value}{v:zA}
theorem IR (hbase:B<=base)(hH:rB B N μ H w)(hv:Ha base Oo args H=some (v,H'))(hl:pB μ args args'.toList) :
  (callFunc 87 args').run Tryz.prog w=.ok (.enter 87 args') w/\Calls Tryz.prog 87 args' w fun e w'=>∃v' μ',e=.returned v'/\μ.le μ'/\rB B N μ' H' w'/\Below N w w'/\vA μ' v v':=
 zb9 hbase (fun p hp b n w h1 h2 h3 h4=>by
  grind [Oo,YO,YN]) (fun b w h=>YM b w h) (fun w a=>rY (fn:=Tryz.f87) Tryz.func87 (by kernel_rfl)) hH hv hl
def IM (hbase:B<=base)(hH:rB B N μ H w)(hv:Gz base 5 args H=some (v,H'))(hl:pB μ args args'.toList) :
  (callFunc 44 args').run Tryz.prog w=.ok (.enter 44 args') w/\Calls Tryz.prog 44 args' w fun e w'=>∃v' μ',e=.returned v'/\μ.le μ'/\rB B N μ' H' w'/\Below N w w'/\vA μ' v v':=
 VE Tryz.lays169 Tryz.Builder_Extra_169 (f:=44) rfl hbase (fun w a=>rY (fn:=Tryz.f44) Tryz.func44 (by kernel_rfl)) hH hv hl
end
theorem yQ{α:Type}{t:Tr α}{i j:Nat}{x y:α}(h:(t.set i x).get j=some y):(j=i/\x=y)\/t.get j=some y:=by
 grind [Tr.get_set]
theorem IK(f0 N:Nat):Lw Tryz.prog (xU f0) 256 N tI:=by
 intro f g hg args H v H' hv μ w args' hH hI hl;have hg:Sp.get f=some g:=hg
 unfold Sp at hg;rcases yQ hg with⟨rfl,rfl⟩ | hg
 ·exact gV hv hH fun hv=>IP (rY (fn:=Tryz.f262) Tryz.func262 (by kernel_rfl)) (fun s c=>Tryz.stringslite_IndexByte s c _) hv hl
 rcases yQ hg with⟨rfl,rfl⟩ | hg
 ·grind [gV,IQ]
 rcases yQ hg with⟨rfl,rfl⟩ | hg
 ·grind [gV,IL]
 rcases yQ hg with⟨rfl,rfl⟩ | hg
 ·grind [gV,IN]
 rcases yQ hg with⟨rfl,rfl⟩ | hg
 ·exact .inr (IM (ybk _) hH hv hl)
 rcases yQ hg with⟨rfl,rfl⟩ | hg
 ·exact .inr (IR (ybk _) hH hv hl)
 grind [Tr.get_leaf]
def sim33v(f0 N:Nat)(hN:6<=N):uK Tryz.prog (xU f0) 256 N tI:=
 ⟨Wm rfl,Uh rfl,IK f0 N,ybk _,by kernel_rfl,fun _ _ hb h=>h.below hN hb⟩
theorem FD {n:Nat}{args:List zA}{args':Array Value}{w:World}(hw:tI w)(hS:uK Tryz.prog C 256 w.heap.size tI)(hroot:C.root=f)(hl:pB mu0 args args'.toList)
  (h:jH (nU C n (As C f args H33))=1):Calls Tryz.prog f args' w fun e w'=>e=.returned (.bool true)/\Below w.heap.size w w':=by
 obtain⟨H',hr⟩:=zpz h
 unfold As at hr;have stuck:∀(n k:Nat),nU C n (.fail k)=.fail k:=by
  intro n;induction n with
  | zero=>intro k;rfl
  | succ n ih=>
   intro k;show nU C n (nU C n (.fail k))=_
   rw[ih,ih]
 cases he:yK C f args false with
 | none=>
  simp_all
 | some g=>
  rw[he]at hr;refine(YV hS hw hroot (hrel33 hw) hl he hr).mono fun e w' ⟨v',μ',h1,_,h3,_,h5⟩=>?_
  grind [vA]
theorem zdv:∀ {l:List (List Nat × List Nat)} {a b:List Nat},inW l a b=true->(a,b)∈l
 | [],_,_,h=>by cases h
 | p::r,a,b,h=>by
  unfold inW at h;rw[rD]at h;split at h
  ·grind [sN]
  ·exact .tail _ (zdv h)
theorem RL:∀p∈We,jH (nU (xU 24) 16 (As (xU 24) 24 [.str p.1,.str p.2] H33))=1:=by
 grind [We,RK,RJ,RI,RH,RG]
theorem UX{μ:Mu}{H:xA}{w:World}{args:List zA}{args':Array Value}{v:zA}(hI:tI w)(hv:Zz args H=some v)(hl:pB μ args args'.toList) :
  (callFunc 24 args').run Tryz.prog w=.ok (.enter 24 args') w/\Calls Tryz.prog 24 args' w fun e w'=>∃v',e=.returned v'/\vA μ v v'/\Below w.heap.size w w':=by
 refine⟨rY (fn:=Tryz.f24) Tryz.func24 (by kernel_rfl),?_⟩
 unfold Zz at hv;split at hv
 case h_2=>cases hv
 rename_i a b;rw[sB]at hv;obtain⟨h1,hv⟩:=hv
 cases hv;obtain⟨x,y,rfl,hx,hy⟩:=Ji hl
 rw[vA]at hx hy;refine(FD hI (sim33v 24 w.heap.size hI.size) rfl (args' := #[x,y]) (.cons (by grind [vA]) (.single (by grind [vA]))) (RL _ (zdv h1))).mono fun e w' ⟨h1,h2⟩=>?_
 grind [vA]
theorem UV(N:Nat):Lw Tryz.prog C33w 256 N tI:=by
 intro f g hg args H v H' hv μ w args' hH hI hl;have hg:Zt.get f=some g:=hg
 unfold Zt at hg;rcases yQ hg with⟨rfl,rfl⟩ | hg
 ·grind [gV,UX]
 ·exact IK 7 N f g hg args H v H' hv μ w args' hH hI hl
def sim33w(N:Nat)(hN:6<=N):uK Tryz.prog C33w 256 N tI:=
 ⟨Wm rfl,Uh rfl,UV N,ybk _,by kernel_rfl,fun _ _ hb h=>h.below hN hb⟩
theorem ZI{w:World}(hw:tI w):Calls Tryz.prog 7 #[] w fun e w'=>e=.returned (.bool true)/\Below w.heap.size w w':=
 FD hw (sim33w _ hw.size) rfl .nil zfn
theorem UZ{μ:Mu}{H:xA}{w:World}{args:List zA}{args':Array Value}{v:zA}(hI:tI w)(hv:zho args H=some v)(hl:pB μ args args'.toList) :
  (callFunc 7 args').run Tryz.prog w=.ok (.enter 7 args') w/\Calls Tryz.prog 7 args' w fun e w'=>∃v',e=.returned v'/\vA μ v v'/\Below w.heap.size w w':=by
 refine⟨rY (fn:=Tryz.f7) Tryz.func7 (by kernel_rfl),?_⟩
 unfold zho at hv;split at hv
 case h_2=>cases hv
 cases hv;rw[pB]at hl;have:args' = #[]:=by simp_all
 grind [ZI,vA]
end Go.Am
namespace Go.Am
open Go Go.RowKit
@[simp] theorem cD {α:Type} {x:Option α}:tB true x=x:=rfl
inductive D where
 | int (k:IntKind) (n:Int)
 | bool (b:Bool)
 | str (s:List Nat)
 | sl (sz:Nat) (l:List D)
 | st (l:List D)
def At (t:Tr tA)(b off:Nat)(cs:List zA):Prop:=∃c n lo,t.get b=some (.cells c n lo)/\∀(j:Nat) a,cs[j]?=some a->c.get (off+j)=some a
def jO(t:Tr tA)(sz:Nat)(v:zA)(cl:List (List zA)):Prop:=
 (v=.nilslice/\cl=[])\/∃b off cap,v=.slice b off cl.length cap/\cl.length<=cap/\(∃c n lo,t.get b=some (.cells c n lo)/\(lo=none\/∃x,lo=some x/\x.es=sz))/\∀(i:Nat) cs,cl[i]?=some cs->cs.length=sz/\At t b (off+i*sz) cs
mutual
/-- cells read as data -/
def RD (t:Tr tA):D->List zA->Prop
 | .int k n,cs=>cs=[.int k n]
 | .bool b,cs=>cs=[.bool b]
 | .str s,cs=>cs=[.str s]
 | .sl sz l,cs=>∃a cl,cs=[a]/\jO t sz a cl/\uD t l cl
 | .st l,cs=>∃cl,cs=cl.flatten/\uD t l cl
def uD (t:Tr tA):List D->List (List zA)->Prop
 | [],cl=>cl=[]
 | d::l,cl=>∃c r,cl=c::r/\RD t d c/\uD t l r
end
def zB (t t':Tr tA):Prop:=∀b y,t.get b=some y->t'.get b=some y
theorem zB.refl(t:Tr tA):zB t t:=fun _ _ h=>h
def zB.trans{a b c:Tr tA}(h:zB a b)(k:zB b c):zB a c:=fun x y e=>k x y (h x y e)
section
variable {t t':Tr tA}{C:iA}
theorem At.mono(h:zB t t'){b off:Nat}{cs:List zA}(k:At t b off cs):At t' b off cs:=by
 obtain⟨c,n,lo,h1,h2⟩:=k;exact⟨c,n,lo,h _ _ h1,h2⟩
theorem jO.mono(h:zB t t'){sz:Nat}{v:zA}{cl:List (List zA)}(k:jO t sz v cl):jO t' sz v cl:=by
 rcases k with k | ⟨b,off,cap,h1,h3,⟨c,n,lo,h4,h5⟩,h2⟩
 ·exact .inl k
 ·exact .inr ⟨b,off,cap,h1,h3,⟨c,n,lo,h _ _ h4,h5⟩,fun i cs hi=>⟨(h2 i cs hi).1,(h2 i cs hi).2.mono h⟩⟩
mutual
theorem RD.mono(h:zB t t'):∀(d:D) (cs:List zA),RD t d cs->RD t' d cs
 | .int _ _,_,k=>k
 | .bool _,_,k=>k
 | .str _,_,k=>k
 | .sl _ l,_,⟨a,cl,h1,h2,h3⟩=>⟨a,cl,h1,h2.mono h,uD.mono h l cl h3⟩
 | .st l,_,⟨cl,h1,h2⟩=>⟨cl,h1,uD.mono h l cl h2⟩
theorem uD.mono(h:zB t t'):∀(l:List D) (cl:List (List zA)),uD t l cl->uD t' l cl
 | [],_,k=>k
 | d::l,_,⟨c,r,h1,h2,h3⟩=>⟨c,r,h1,RD.mono h d c h2,uD.mono h l r h3⟩
end
theorem uD.length:∀ {l:List D} {cl:List (List zA)},uD t l cl->cl.length=l.length:=by
 intro l;induction l with
 | nil=>grind [uD]
 | cons d l ih=>grind [uD]
theorem uD.get:∀ {l:List D} {cl:List (List zA)} {i:Nat} {d:D},uD t l cl->l[i]?=some d->∃cs,cl[i]?=some cs/\RD t d cs:=by
 intro l;induction l with
 | nil=>simp_all
 | cons e l ih=>
  grind [uD]
theorem uD.mk:∀ {l:List D} {cl:List (List zA)},cl.length=l.length->(∀(i:Nat) d cs,l[i]?=some d->cl[i]?=some cs->RD t d cs)->uD t l cl:=by
 intro l;induction l with
 | nil=>grind [uD]
 | cons e l ih=>
  intro cl h k
  cases cl with
  | nil=>simp at h
  | cons c r=>
   rw[uD];exact⟨c,r,rfl,k 0 e c (by simp) (by simp),ih (by grind) fun i d cs h1 h2=>k (i+1) d cs (by simp_all) (by simp_all)⟩
@[simp] theorem Ah {k:IntKind} {n:Int} {cs:List zA}:RD t (.int k n) cs ↔ cs=[.int k n]:=Iff.rfl
@[simp] theorem Vy {b:Bool} {cs:List zA}:RD t (.bool b) cs ↔ cs=[.bool b]:=Iff.rfl
@[simp] theorem Ag {s:List Nat} {cs:List zA}:RD t (.str s) cs ↔ cs=[.str s]:=Iff.rfl
def aA (t:Tr tA)(sz:Nat)(l:List D)(v:zA):Prop:=∃cl,jO t sz v cl/\uD t l cl
theorem aA.mono(h:zB t t'){sz:Nat}{l:List D}{v:zA}(k:aA t sz l v):aA t' sz l v:=by
 obtain⟨cl,h1,h2⟩:=k;exact⟨cl,h1.mono h,uD.mono h _ _ h2⟩
theorem fW{sz:Nat}{l:List D}{cs:List zA}:RD t (.sl sz l) cs ↔ ∃v,cs=[v]/\aA t sz l v:=by
 rw[RD];constructor
 ·rintro⟨a,cl,rfl,h1,h2⟩;exact⟨a,rfl,cl,h1,h2⟩
 ·rintro⟨a,rfl,cl,h1,h2⟩;grind
theorem eO{l:List D}{cs:List zA}:RD t (.st l) cs ↔ ∃cl,cs=cl.flatten/\uD t l cl:=by rw[RD]
theorem cH{cl:List (List zA)}:uD t [] cl ↔ cl=[]:=by rw[uD]
theorem vH{d:D}{l:List D}{cl:List (List zA)}:uD t (d::l) cl ↔ ∃c r,cl=c::r/\RD t d c/\uD t l r:=by rw[uD]
theorem aA.one{sz:Nat}{l:List D}{v:zA}(h:aA t sz l v):zA.one v=true:=by
 obtain⟨cl,h1,_⟩:=h
 rcases h1 with⟨rfl,_⟩ | ⟨b,off,cap,rfl,_⟩
 ·decide
 ·rfl
theorem aA.len{sz:Nat}{l:List D}{v:zA}(h:aA t sz l v):pC v=some (.int .i64 (l.length:Int)):=by
 obtain⟨cl,h1,h2⟩:=h
 have:=h2.length
 rcases h1 with⟨rfl,rfl⟩ | ⟨b,off,cap,rfl,_⟩
 ·have:l.length=0:=this.symm
  rw[this];rfl
 ·rw[<- this];rfl
theorem aA.same{sz d:Nat}{l:List D}{v:zA}(h:aA t sz l v):same d v v=true:=by
 obtain⟨cl,h1,_⟩:=h
 rcases h1 with⟨rfl,_⟩ | ⟨b,off,cap,rfl,_⟩
 all_goals grind [Am.same,Nat.beq_refl]
theorem CO{sz:Nat}{l:List D}{v:zA}(h:aA t sz l v):Ce .nilslice v=true:=by
 obtain⟨cl,h1,_⟩:=h
 rcases h1 with⟨rfl,_⟩ | ⟨b,off,cap,rfl,_⟩<;>rfl
theorem At.load{b off j n:Nat}{cs:List zA}(h:At t b off cs){ty:Nat}{y:lD}(hy:C.tys.get ty=some y)(ha:y.desc.isAgg=true)(hn:y.size=n)(hj:j+n<=cs.length):cA C ty ⟨0,t⟩ (.ptr b (off+j))=some (.agg ((cs.drop j).take n)):=by
 obtain⟨c,m,lo,h1,h2⟩:=h
 unfold cA;simp only[zA.asPtr,pA];rw[hy,pA];unfold qD;rw[h1,pA];simp only[tA.asCells,pA];unfold wT;rw[ha,cond_true,hn];have key:∀(n j:Nat),j+n<=cs.length->c.many n (off+j)=some ((cs.drop j).take n):=by
  intro n;induction n with
  | zero=>intro j _;simp;rfl
  | succ n ih=>
   intro j hj;have hlt:j<cs.length:=by omega
   rw[Tr.many_succ,h2 j cs[j] (ybd hlt),pA,show off+j+1=off+(j+1) by omega,ih (j+1) (by omega),pA,ybl hlt,List.take_succ_cons]
 simp_all
theorem At.load1{b off j:Nat}{cs:List zA}{a:zA}(h:At t b off cs){ty:Nat}{y:lD}(hy:C.tys.get ty=some y)(ha:y.desc.isAgg=false)(hj:cs[j]?=some a):cA C ty ⟨0,t⟩ (.ptr b (off+j))=some a:=by
 obtain⟨c,m,lo,h1,h2⟩:=h
 simp_all [cA,zA.asPtr,qD,tA.asCells,wT]
structure gI (C:iA) (T el sz:Nat) (agg:Bool):Prop where
 ty:∃y,C.tys.get T=some y/\y.desc.asSlice=some el
 el:∃y,C.tys.get el=some y/\y.size=sz/\y.desc.isAgg=agg
def Rm(agg:Bool)(cs:List zA):zA:=if agg then .agg cs else match cs with | a::_=>a | []=>.nilptr
theorem gI.at{T el sz:Nat}{agg:Bool}(h:gI C T el sz agg)(h1:agg=false->sz=1){l:List D}{v:zA}(hr:aA t sz l v){i:Nat}{d:D}(hi:l[i]?=some d) :
  ∃b off cs,uC C T v (.int .i64 (i:Int))=some (.ptr b off)/\cA C el ⟨0,t⟩ (.ptr b off)=some (Rm agg cs)/\At t b off cs/\cs.length=sz/\RD t d cs:=by
 obtain⟨⟨y,hy1,hy2⟩,⟨z,hz1,hz2,hz3⟩⟩:=h
 obtain⟨cl,he,hd⟩:=hr
 obtain⟨cs,hc,hrd⟩:=hd.get hi
 rcases he with⟨rfl,rfl⟩ | ⟨b,off,cap,rfl,_,_,he⟩
 ·simp at hc
 ·obtain⟨hl,ha⟩:=he i cs hc
  have hlt:i<cl.length:=(ybc.1 hc).1
  refine⟨b,off+i*sz,cs,?_,?_,ha,hl,hrd⟩
  ·unfold uC
   rw[hy1,pA];have:(zA.int .i64 (i:Int)).asNat=some i:=rfl
   rw[this,pA];simp only[zA.asSlice];rw[hy2,pA,hz1,pA,qC.2 hlt,hz2];rfl
  ·cases agg with
   | true=>
    have:=ha.load (j:=0) hz1 hz3 hz2 (by omega)
    simp only[yct,ycr]at this;rw[this,<- hl,List.take_length];rfl
   | false=>
    have hs:=h1 rfl
    cases cs with
    | nil=>simp_all
    | cons a r=>
     have:=ha.load1 (j:=0) (a:=a) hz1 hz3 (by simp)
     rw[yct]at this;rw[this];rfl
end
section
variable {t:Tr tA}{C:iA}
theorem gI.front{T el sz:Nat}{agg:Bool}(h:gI C T el sz agg){l:List D}{v:zA}(hr:aA t sz l v){k:Nat}(hk:k<=l.length) :
  ∃v',vF C T ⟨0,t⟩ v none (some (.int .i64 (k:Int)))=some v'/\aA t sz (l.take k) v':=by
 obtain⟨⟨y,hy1,hy2⟩,⟨z,hz1,hz2,hz3⟩⟩:=h
 obtain⟨cl,he,hd⟩:=hr
 have hlen:=hd.length
 unfold vF;rw[hy1,pA];have hb:∀y,nY y (.int .i64 (k:Int))=tB (Nat.ble k y) (some k):=fun y=>rfl
 rcases he with⟨rfl,rfl⟩ | ⟨b,off,cap,rfl,hcap,⟨c,n,lo,hg,hlo⟩,he⟩
 ·have:k=0:=by grind
  subst this;refine⟨.nilslice,?_,[],.inl ⟨rfl,rfl⟩,by simp[uD]⟩
  unfold kN;simp only[zA.asStr,zA.asSlice,zA.asPtr];rw[hy2,pA,hz1,pA];rfl
 ·refine⟨.slice b off k cap,?_,cl.take k,.inr ⟨b,off,cap,?_,?_,⟨c,n,lo,hg,hlo⟩,fun i cs hi=>?_⟩,?_⟩
  ·unfold kN
   simp only[zA.asStr,zA.asSlice];rw[hy2,pA];unfold zQ;rw[hz1,pA];unfold nQ Cr;simp only[hb];rw[show Nat.ble k cap=true from aE.2 (by omega)]
   simp only[cD,pA];have he2:lN ⟨0,t⟩ b z.size cap 0 false=false:=by
    unfold lN qD;rw[hg,pA];simp only[tA.asCells];rcases hlo with rfl | ⟨x,rfl,hx⟩
    ·rfl
    ·simp
   rw[he2,yay,cond_false];have hf:rO ⟨0,t⟩ b z.size cap 0 false=true:=by
    unfold rO qD;rw[hg,pA];simp only[tA.asCells];rcases hlo with rfl | ⟨x,rfl,hx⟩
    all_goals simp_all
   rw[show Nat.ble k cap=true from aE.2 (by omega),hf]
   simp only[Bool.and_self,cD];congr 1
   cases hq:Nat.beq cap 0<;>simp
  ·simp_all
  ·grind
  ·grind
  ·refine uD.mk (by simp_all) fun i d cs h1 h2=>?_
   rw[ydf]at h1 h2;split at h1
   ·rename_i e
    rw[yab e]at h2;obtain⟨cs',h3,h4⟩:=hd.get h1
    simp_all
   grind
end
mutual
def D.zs:D->List zA
 | .int k _=>[.int k 0]
 | .bool _=>[.bool false]
 | .str _=>[.str []]
 | .sl _ _=>[.nilslice]
 | .st l=>D.zss l
def D.zss:List D->List zA
 | []=>[]
 | d::l=>d.zs++D.zss l
end
def NM:∀(z z' l l':List zA),jT z l=true->jT z' l'=true->jT (z++z') (l++l')=true
 | [],_,[],_,_,h=>h
 | a::z,z',b::l,l',h,k=>by
  unfold jT at h;rw[ybb]at h;show(Ce a b&&jT (z++z') (l++l'))=true
  rw[h.1,NM z z' l l' h.2 k];rfl
 | [],_,_::_,_,h,_=>by cases h
 | _::_,_,[],_,h,_=>by cases h
mutual
theorem CN{t:Tr tA}:∀(d:D) (cs:List zA),RD t d cs->jT d.zs cs=true
 | .int k n,cs,h=>by
  rw[RD]at h;subst h;show(Ce (.int k 0) (.int k n)&&true)=true
  grind [Ce,zA.asIntK,iM]
 | .bool _,cs,h=>by rw[RD]at h;subst h;rfl
 | .str _,cs,h=>by rw[RD]at h;subst h;rfl
 | .sl sz l,cs,h=>by
  rw[fW]at h;obtain⟨v,rfl,h⟩:=h
  show(Ce .nilslice v&&true)=true
  rw[CO h];rfl
 | .st l,cs,h=>by
  rw[eO]at h;obtain⟨cl,rfl,h⟩:=h
  show jT (D.zss l) cl.flatten=true
  exact NK l cl h
theorem NK{t:Tr tA}:∀(l:List D) (cl:List (List zA)),uD t l cl->jT (D.zss l) cl.flatten=true
 | [],cl,h=>by rw[uD]at h;subst h;rfl
 | d::l,cl,h=>by
  rw[uD]at h;obtain⟨c,r,rfl,h1,h2⟩:=h
  show jT (d.zs++D.zss l) (c::r).flatten=true
  rw[yas];exact NM _ _ _ _ (CN d c h1) (NK l r h2)
end
theorem aB{k:IntKind}{n:Int}:intK k (.int k n)=some n:=by unfold intK;simp only[zA.asIntK,pA];rw[iM.2 rfl];rfl
def Fk{b:Bool}:(zA.bool b).asBool=some b:=rfl
theorem Jp{d:Nat}{k:IntKind}{n:Int}:same d (.int k n) (.int k n)=true:=by
 cases d<;>simp[same,iM,sY]
theorem HH{d:Nat}{b:Bool}:same d (.bool b) (.bool b)=true:=by cases d<;>simp[same,aZ]
theorem HF{d:Nat}{s:List Nat}:same d (.str s) (.str s)=true:=by cases d<;>simp[same,sN]
theorem wrap_i64{n:Int}(h1 : -9223372036854775808<=n)(h2:n<9223372036854775808):fA .i64 n=n:=by
 grind [gP,IntKind.wrap,IntKind.bits,IntKind.signed]
def iW{t:Tr tA}{d:D}{cs zs:List zA}(h:RD t d cs)(hz:d.zs=zs):eK zs (.agg cs)=some (cellsOf cs):=by
 unfold eK;simp only[zA.asAgg,pA];rw[<- hz,CN d cs h];rfl
theorem zO{zs l:List zA}(h:jT zs l=true):eK zs (.agg l)=some (cellsOf l):=by
 simp_all [eK,zA.asAgg]
end Go.Am
