/- Seat 33: strconv.FormatUint at base 10. -/
import Derived.KernelRfl
import Derived.Lib.AppendIntMem
import Derived.ProofKit
import Derived.Test.YtefajchlhjcgpaaGreatDoorB09
import Derived.Test.YtefajchlhjcgpaaGreatDoorB10
import Derived.Test.YtefajchlhjcgpaaGreatDoorB11
import Derived.Test.YtefajchlhjcgpaaGreatDoorB12
import Derived.Test.YtefajchlhjcgpaaGreatDoorB13
import Derived.Test.YtefajchlhjcgpaaGreatDoorB14
import Derived.Test.YtefajchlhjcgpaaGreatDoorB15
set_option linter.all false
noncomputable section
namespace Go.Proofs
open Go Go.Shelf Go.RowKit Go.Sort Go.Lib
set_option maxHeartbeats 1000000 in
set_option maxRecDepth 100000 in
theorem SJ(u:Nat)(hi:u<100)(w:World) :
  Calls Tryz.prog 270 #[.int .u64 u,.int .i64 10] w fun e w'=>e=.returned (.string ⟨(Lib.itoa u).toArray⟩)/\∃k os,w'=Sort.grow (w.drewN k) os:=by
 have hi':(u:Int)<100:=by omega
 have hw:IntKind.i64.wrap (u:Int)=u:=by rw[IntKind.wrap_i64];omega
 go_enter Tryz.func270,Tryz.ntmps270
 go_wp2_with (go_at_fn 272)
 refine(Tryz.internal_strconv_small u hi _).mono ?_
 rintro e w' ⟨rfl,rfl⟩
 go_wp2
 go_ret
 refine⟨?_,0,#[],by simp_all [World.drewN_zero]⟩
 rw[Lib.itoa_nonneg];rfl
set_option maxHeartbeats 4000000 in
set_option maxRecDepth 100000 in
theorem SL (u : Nat) (hu : 100 <= u) (hu64 : u < 18446744073709551616) (w : World) (htab : Lib.TabIs Tryz.prog w "internal/strconv.uint64pow10" .u64 Lib.pow10Tab) :
  Calls Tryz.prog 270 #[.int .u64 u,.int .i64 10] w fun e w'=>e=.returned (.string ⟨(Lib.itoa u).toArray⟩)/\∃k os,w'=Sort.grow (w.drewN k) os:=by
 have hu':(100:Int)<=(u:Int):=by omega
 have hu1:1<=u:=by omega
 have hnd20:Lib.nDigits u<=20:=by have:=Lib.numDigits_eq u hu1 hu64;split at this<;>omega
 have hal:Tryz.prog.arrayLen 305=24:=by kernel_rfl
 have hel:Tryz.prog.elem 305=5:=by kernel_rfl
 have hsl:∀W,(Instr.sliceAt 305 (.pointer (some ⟨w.heap.size,0,none⟩)) none (some (.int .i64 (Lib.nDigits u:Int))) none).run Tryz.prog W=.ok (.slice (some ⟨w.heap.size,0,none⟩) (Lib.nDigits u) 24) W:=fun W=>by
  rw[run_sliceAt_array_h W 305 ⟨w.heap.size,0,none⟩ (by simp_all) .i64 (Lib.nDigits u:Int) (by omega) (by omega)]
  simp_all [slicedAt,Addr.add]
 have hH0:=Lib.holds_zero0 w 305 (Lib.nDigits u) (by omega)
 have hfmt:=Tryz.internal_strconv_formatBase10 w.heap.size 0 24 u (Array.replicate (Lib.nDigits u) 0) (w.alloc (.cells Lib.zeros24 305)) hH0 (by grind [Lib.lt_pow_nDigits]) hu64 (by grind)
 rw[Array.size_replicate]at hfmt;have HH0:=Lib.hid hH0
 clear hH0 hal hel
 go_enter Tryz.func270,Tryz.ntmps270
 go_wp2_with (go_at_fn 273)
 refine(Tryz.internal_strconv_numDigits u hu1 hu64 _ (Lib.tabIs_alloc htab _)).mono ?_
 rintro e w' ⟨rfl,rfl⟩
 go_wp2_with (go_at_fn 274)
 refine hfmt.mono ?_
 rintro e w' ⟨rfl,k,v',dk,rfl,hF⟩
 have hcv:(convert 96 9 (.slice (some ⟨w.heap.size,0,none⟩) (Lib.nDigits u) 24)).run Tryz.prog ((putRow (fun(b:UInt8)=>Value.int .u8 (b.toNat:Int)) (w.alloc (.cells Lib.zeros24 305)) w.heap.size 0 dk).drewN k)=.ok (.string ⟨(Lib.decDigits u).toArray⟩) ((putRow (fun(b:UInt8)=>Value.int .u8 (b.toNat:Int)) (w.alloc (.cells Lib.zeros24 305)) w.heap.size 0 dk).drewN k):=by
  have h:=run_convert_bytes_back (P:=Tryz.prog) ((putRow (fun(b:UInt8)=>Value.int .u8 (b.toNat:Int)) (w.alloc (.cells Lib.zeros24 305)) w.heap.size 0 dk).drewN k) 96 9 5 ⟨w.heap.size,0,none⟩ 24 (Lib.decDigits u) Tryz.underlying96 Tryz.underlying5 Tryz.underlying9 (fun j hj=>by
   rw[Lib.row_is_numeral hF j hj,Lib.add_plain,World.cell?_drewN];exact cell?_putRow (fun(b:UInt8)=>Value.int .u8 (b.toNat:Int)) _ w.heap.size 0 _ dk HH0.out (by rw[hF.size,Array.size_replicate]) j (by rw[hF.size];grind [Lib.decDigits_length]))
  grind [Lib.decDigits_length]
 go_wp2
 go_ret
 obtain⟨os,eo⟩:=Lib.fin_at w (.cells Lib.zeros24 305) dk k 0
 refine⟨?_,k,os,eo⟩
 rw[Lib.itoa_nonneg];rfl
set_option maxHeartbeats 1000000 in
set_option maxRecDepth 100000 in
def uint33 (u : Nat) (hu64 : u < 18446744073709551616) (w : World) (htab : Lib.TabIs Tryz.prog w "internal/strconv.uint64pow10" .u64 Lib.pow10Tab) :
  Calls Tryz.prog 238 #[.int .u64 u,.int .i64 10] w fun e w'=>e=.returned (.string ⟨(Lib.itoa u).toArray⟩)/\∃k os,w'=Sort.grow (w.drewN k) os:=by
 have key:Calls Tryz.prog 270 #[.int .u64 u,.int .i64 10] w fun e w'=>e=.returned (.string ⟨(Lib.itoa u).toArray⟩)/\∃k os,w'=Sort.grow (w.drewN k) os:=by
  grind [SJ,SL]
 go_enter Tryz.func238,Tryz.ntmps238
 go_wp2_with (go_at_fn 270)
 refine key.mono ?_
 rintro e w' ⟨rfl,k,os,rfl⟩
 go_wp2
 go_ret
 exact⟨rfl,k,os,rfl⟩
end Go.Proofs
set_option maxRecDepth 100000
namespace Go.Am
open Go Go.RowKit Go.Proofs
variable {C:lA}{base f:Nat}
theorem zak:allT (fun t ty=>match tyOf Tryz.prog t with | some u=>eqTy u ty | none=>false) tys (fun n=>n)=true:=by kernel_rfl
theorem Ux (hC:C.tys=tys):rF Tryz.prog C:=by
 intro t ty h;grind [zn8,zak,zne]
theorem WB : (Tryz.funcs.toList.all fun fn => !(fn.name == "runtime.NumGoroutine")) = true := by kernel_rfl
theorem Sr (hC:C.fns=fns):Dx Tryz.prog C:=by
 intro f fn h;rw[hC]at h;unfold fns at h;rw[Tr.get_ofList]at h;have h2:Tryz.prog.funcs[f]?=some fn:=by
  show Tryz.funcs[f]?=some fn
  grind
 grind [WB]
def u64s (l:List Int):List Value:=l.map fun n=>.int .u64 n
theorem DC{μ:Mu}:∀l:List Int,oB μ (Ah .u64 l) (u64s l)
 | []=>.nil
 | b::l=>.cons (by rw[uA]) (DC l)
structure zI (w:World):Prop where
 kinds:∃t,w.heap[0]?=some (.cells (qO lQ).toArray t (0,0))
 modes:∃t,w.heap[1]?=some (.cells (qO tQ).toArray t (0,0))
 lens:∃t,w.heap[3]?=some (.cells (Cy xS).toArray t (0,0))
 most:∃m,w.cell? ⟨2,0,none⟩=some (.int .i64 m)
 pow:∃t,w.heap[5]?=some (.cells (u64s hZ).toArray t (0,0))
theorem zI.size{w:World}(h:zI w):6<=w.heap.size:=by
 obtain⟨t,h⟩:=h.pow
 grind
theorem zI.below{w w':World}{N:Nat}(hN:6<=N)(h:zI w)(hb:Below N w w'):zI w':=by
 refine⟨?_,?_,?_,?_,?_⟩
 ·obtain⟨t,h⟩:=h.kinds;exact⟨t,by rw[hb.block 0 (by omega)];exact h⟩
 ·obtain⟨t,h⟩:=h.modes;exact⟨t,by rw[hb.block 1 (by omega)];exact h⟩
 ·obtain⟨t,h⟩:=h.lens;exact⟨t,by rw[hb.block 3 (by omega)];exact h⟩
 ·obtain⟨m,h⟩:=h.most;exact⟨m,by rw[hb.cell (p:=⟨2,0,none⟩) (by grind)];exact h⟩
 ·obtain⟨t,h⟩:=h.pow;exact⟨t,by rw[hb.block 5 (by omega)];exact h⟩
def zI.tab {w : World} (h : zI w) : Lib.TabIs Tryz.prog w "internal/strconv.uint64pow10" .u64 Lib.pow10Tab := by
 obtain⟨t,h⟩:=h.pow
 have hg : Tryz.prog.globalNamed "internal/strconv.uint64pow10" = some 5 := by kernel_rfl
 unfold Lib.TabIs World.var?
 rw[hg];simp only[yai,h];rfl
theorem hrel33{w:World}(h:zI w):tB 256 w.heap.size mu0 H33 w:=by
 have hget:∀a x,H33.t.get a=some x->(a=0/\x=.cells (Tr.ofList (Ce lQ)) (aA (Ce lQ)) none)\/(a=1/\x=.cells (Tr.ofList (Ce tQ)) (aA (Ce tQ)) none)\/(a=3/\x=.cells (Tr.ofList (Ah .i64 xS)) (aA (Ah .i64 xS)) none)\/(a=5/\x=.cells (Tr.ofList (Ah .u64 hZ)) (aA (Ah .u64 hZ)) none):=by
  intro a x hx;have hx:(glob 0 (Ce lQ) (glob 1 (Ce tQ) (glob 3 (Ah .i64 xS) (glob 5 (Ah .u64 hZ) .leaf)))).get a=some x:=hx
  grind [glob,Tr.get_set,Tr.get_leaf]
 have hsz:=h.size
 refine⟨ybk _,fun g hg=>by simp[mu0,hg],fun a x i _ hx hi=>?_,ybk _,ybk _,fun a ha=>?_,fun a x i hx hi=>?_,fun a i ha hi=>?_,fun a b x y i j hx _ _ _ ha _ _=>?_,fun a x t ha=>by cases ha⟩
 ·rcases hget a x hx with⟨rfl,rfl⟩ | ⟨rfl,rfl⟩ | ⟨rfl,rfl⟩ | ⟨rfl,rfl⟩<;>cases hi<;>exact⟨Nat.lt_of_lt_of_le (by decide) hsz,rfl,rfl⟩
 ·have ha:256<=a:=ha
  refine⟨by grind [mu0],?_⟩
  cases hx:H33.t.get a with
  | none=>rfl
  | some x=>rcases hget a x hx with⟨rfl,_⟩ | ⟨rfl,_⟩ | ⟨rfl,_⟩ | ⟨rfl,_⟩<;>omega
 ·rcases hget a x hx with⟨rfl,rfl⟩ | ⟨rfl,rfl⟩ | ⟨rfl,rfl⟩ | ⟨rfl,rfl⟩
  ·obtain⟨t,h⟩:=h.kinds;cases hi;exact⟨_,h,Tp (Wz lQ) t⟩
  ·obtain⟨t,h⟩:=h.modes;cases hi;exact⟨_,h,Tp (Wz tQ) t⟩
  ·obtain⟨t,h⟩:=h.lens;cases hi;exact⟨_,h,Tp (MF xS) t⟩
  ·obtain⟨t,h⟩:=h.pow;cases hi;grind [Tp,DC]
 all_goals grind [mu0]
def rZ{s:ByteArray}{l:List Nat}(h:tF s=l):s.data.toList.map UInt8.toNat=l:=h
theorem jW {fn:Func}(hf:Tryz.funcs[f]?=some fn)(hb:fn.body.isSome=true){args:Array Value}{w:World}:(callFunc f args).run Tryz.prog w=.ok (.enter f args) w:=
 Qm (C:=C33w) (Sr rfl) (show fns.get f=some fn by grind [fns,Tr.get_ofList]) hb
section
variable {B N:Nat}{μ:Mu}{H:xA}{w:World}{args:List zA}{args':Array Value}{v:zA}
theorem Hh{a b:zA}(h:oB μ [a,b] args'.toList):∃x y,args' = #[x,y]/\uA μ a x/\uA μ b y:=by
 grind [oB]
theorem HP (h0:(callFunc f args').run Tryz.prog w=.ok (.enter f args') w)(h1:∀(s:ByteArray) (c:Int),Calls Tryz.prog f #[.string s,.int .u8 c] w fun e w'=>e=.returned (.int .i64 (Lib.indexByte s.data.toList c.toNat.toUInt8))/\w'=w)(hv:Mb args H=some v)(hl:oB μ args args'.toList) :
  (callFunc f args').run Tryz.prog w=.ok (.enter f args') w/\Calls Tryz.prog f args' w fun e w'=>∃v',e=.returned v'/\uA μ v v'/\Below w.heap.size w w':=by
 refine⟨h0,?_⟩
 unfold Mb at hv;split at hv
 case h_2=>cases hv
 rename_i s c;rw[vB,nC]at hv;obtain⟨hc,hv⟩:=hv
 cases hv;obtain⟨x,y,rfl,hx,hy⟩:=Hh hl
 simp only[uA]at hx hy;obtain⟨s',rfl,hs⟩:=hx
 subst hy;refine(h1 s' (Int.ofNat c)).mono fun e w' ⟨he,hw⟩=>?_
 subst hw;refine⟨_,he,?_,Below.refl _ _⟩
 have hcc:(c.toUInt8).toNat=c:=by simp_all
 have:=MH c.toUInt8 s'.data.toList
 rw[hcc,rZ hs]at this;grind [uA]
theorem HQ(hI:zI w)(hv:Ie args H=some v)(hl:oB μ args args'.toList) :
  (callFunc 143 args').run Tryz.prog w=.ok (.enter 143 args') w/\Calls Tryz.prog 143 args' w fun e w'=>∃v',e=.returned v'/\uA μ v v'/\Below w.heap.size w w':=by
 refine⟨jW (fn:=Tryz.f143) Tryz.func143 (by kernel_rfl),?_⟩
 unfold Ie at hv;split at hv
 case h_2=>cases hv
 rename_i s c;rw[vB,nC,lD]at hv;obtain⟨hlen,hv⟩:=hv
 cases hv;obtain⟨x,y,rfl,hx,hy⟩:=Hh hl
 rw[uA]at hx hy;obtain⟨s',rfl,hs⟩:=hx
 obtain⟨c',rfl,hc⟩:=hy
 obtain⟨m,hm⟩:=hI.most
 have hsz:s'.size<4294967281:=by
  have:=congrArg List.length (rZ hs)
  simp_all
 refine(Tryz.strings_Contains s' c' m w hsz hm).mono fun e w' ⟨he,hw⟩=>?_
 subst hw;refine⟨_,he,?_,Below.refl _ _⟩
 have:=PC c'.data.toList s'.data.toList
 rw[rZ hs,rZ hc]at this;rw[uA,this]
theorem QG(k:Nat)(os:Array Obj):Below w.heap.size w (Sort.grow (w.drewN k) os):=by
 refine⟨rfl,rfl,rfl,?_,fun j hj=>?_⟩
 all_goals grind [Sort.grow,World.drewN]
theorem HO(hI:zI w)(hv:Ic args H=some v)(hl:oB μ args args'.toList) :
  (callFunc 137 args').run Tryz.prog w=.ok (.enter 137 args') w/\Calls Tryz.prog 137 args' w fun e w'=>∃v',e=.returned v'/\uA μ v v'/\Below w.heap.size w w':=by
 refine⟨jW (fn:=Tryz.f137) Tryz.func137 (by kernel_rfl),?_⟩
 unfold Ic at hv;split at hv
 case h_2=>cases hv
 rename_i n;rw[vB,ybb]at hv;obtain⟨⟨h1,h2⟩,hv⟩:=hv
 cases hv;rw[oB]at hl;obtain⟨x,r,he,hx,hr⟩:=hl
 rw[oB]at hr;rw[uA]at hx;subst hr hx
 have:args' = #[.int .i64 n]:=by grind
 subst this;have g1 : -9223372036854775808<=n:=(Sl _ _).1 h1
 have g2:n<9223372036854775808:=(Fw _ _).1 h2
 refine(Tryz.strconv_Itoa n g1 (by omega) w hI.tab).mono fun e w' ⟨he,k,os,hw⟩=>?_
 subst hw;exact⟨_,he,by rw[uA];exact⟨_,rfl,rfl⟩,QG k os⟩
theorem HL(hI:zI w)(hv:Ma args H=some v)(hl:oB μ args args'.toList) :
  (callFunc 238 args').run Tryz.prog w=.ok (.enter 238 args') w/\Calls Tryz.prog 238 args' w fun e w'=>∃v',e=.returned v'/\uA μ v v'/\Below w.heap.size w w':=by
 refine⟨jW (fn:=Tryz.f238) Tryz.func238 (by kernel_rfl),?_⟩
 unfold Ma at hv;split at hv
 case h_2=>cases hv
 rename_i n b;rw[vB,ybb,ybb]at hv;obtain⟨⟨⟨h1,h2⟩,h3⟩,hv⟩:=hv
 cases hv;obtain⟨x,y,rfl,hx,hy⟩:=Hh hl
 rw[uA]at hx hy;subst hx hy
 have g1:0<=n:=(Sl _ _).1 h1
 have g2:n<18446744073709551616:=(Fw _ _).1 h2
 obtain rfl:b=10:=(lW _ _).1 h3
 obtain⟨u,rfl⟩:∃u:Nat,n=u:=⟨n.toNat,by omega⟩
 refine(uint33 u (by omega) w hI.tab).mono fun e w' ⟨he,k,os,hw⟩=>?_
 subst hw;exact⟨_,he,by rw[uA];exact⟨_,rfl,rfl⟩,QG k os⟩
end
theorem OY(c:UInt8):∀s:List UInt8,eW c.toNat (s.map UInt8.toNat)=Lib.countByte s c
 | []=>rfl
 | b::l=>by
  have ih:=OY c l
  grind [Lib.countByte,eW,UInt8.toNat_inj,fC]
section
variable {B N:Nat}{μ:Mu}{H:xA}{w:World}{args:List zA}{args':Array Value}{v:zA}
theorem VD(hv:Ra args H=some v)(hl:oB μ args args'.toList) :
  (callFunc 126 args').run Tryz.prog w=.ok (.enter 126 args') w/\Calls Tryz.prog 126 args' w fun e w'=>∃v',e=.returned v'/\uA μ v v'/\Below w.heap.size w w':=by
 refine⟨jW (fn:=Tryz.f126) Tryz.func126 (by kernel_rfl),?_⟩
 unfold Ra at hv;split at hv
 case h_2=>cases hv
 rename_i s c
 cases hv;obtain⟨x,y,rfl,hx,hy⟩:=Hh hl
 rw[uA]at hx hy;obtain⟨s',rfl,hs⟩:=hx
 obtain⟨c',rfl,hc⟩:=hy
 obtain⟨b,hb,hbc⟩:∃b:UInt8,c'=⟨#[b]⟩/\b.toNat=c:=by
  have h1:=rZ hc
  obtain⟨⟨l⟩⟩:=c'
  simp_all
 subst hb;refine(Tryz.strings_Count_one s' b w).mono fun e w' ⟨he,hw⟩=>?_
 subst hw;refine⟨_,he,?_,Below.refl _ _⟩
 have:=OY b s'.data.toList
 simp_all [rZ,uA]
theorem zeu(hI:zI w)(hv:pCut args H=some v)(hl:oB μ args args'.toList) :
  (callFunc 139 args').run Tryz.prog w=.ok (.enter 139 args') w/\Calls Tryz.prog 139 args' w fun e w'=>∃v',e=.returned v'/\uA μ v v'/\Below w.heap.size w w':=by
 refine⟨jW (fn:=Tryz.f139) Tryz.func139 (by kernel_rfl),?_⟩
 unfold pCut at hv;split at hv
 case h_2=>cases hv
 rename_i s c;rw[vB,nC,lD]at hv;obtain⟨hlen,hv⟩:=hv
 obtain⟨x,y,rfl,hx,hy⟩:=Hh hl
 rw[uA]at hx hy;obtain⟨s',rfl,hs⟩:=hx
 obtain⟨c',rfl,hc⟩:=hy
 obtain⟨m,hm⟩:=hI.most
 have hsz:s'.size<4294967281:=by
  have:=congrArg List.length (rZ hs)
  simp_all
 refine(Tryz.strings_Cut s' c' m w hsz hm).mono fun e w' ⟨he,n,hw⟩=>?_
 subst hw;have hb:Below w.heap.size w (w.drewN n):=⟨rfl,rfl,rfl,ybk _,fun _ _=>rfl⟩
 refine⟨_,he,?_,hb⟩
 have hcut:=zjt c'.data.toList s'.data.toList
 rw[rZ hs,rZ hc]at hcut
 cases hx:Bb c s with
 | none=>
  rw[hx]at hcut hv
  cases hv;have hcut:Lib.index s'.data.toList c'.data.toList = -1:=hcut
  have e:Lib.cut s'.data.toList c'.data.toList=(s'.data.toList,[],false):=by grind [Lib.cut]
  rw[e,uA];exact⟨_,rfl,.cons (by grind [uA]) (.cons (by grind [uA,tF]) (.single (by rw[uA])))⟩
 | some p=>
  rw[hx]at hcut hv
  cases hv;obtain⟨a,b,rfl,h1,h2,h3⟩:=hcut
  have e:Lib.cut s'.data.toList c'.data.toList=(a,b,true):=by unfold Lib.cut;rw[yab h1,h2,h3]
  rw[e,uA];exact⟨_,rfl,.cons (by grind [uA,tF]) (.cons (by grind [uA,tF]) (.single (by rw[uA])))⟩
end
section
variable {B N:Nat}{μ:Mu}{H H':xA}{w:World}{args:List zA}{args':Array Value}{v:zA}
theorem HR (hbase:B<=base)(hH:tB B N μ H w)(hv:Fh base Mm args H=some (v,H'))(hl:oB μ args args'.toList) :
  (callFunc 87 args').run Tryz.prog w=.ok (.enter 87 args') w/\Calls Tryz.prog 87 args' w fun e w'=>∃v' μ',e=.returned v'/\μ.le μ'/\tB B N μ' H' w'/\Below N w w'/\uA μ' v v':=
 zbb hbase (fun p hp b n w h1 h2 h3 h4=>by
  grind [Mm,YQ,YP]) (fun b w h=>YO b w h) (fun w a=>jW (fn:=Tryz.f87) Tryz.func87 (by kernel_rfl)) hH hv hl
def HN (hbase:B<=base)(hH:tB B N μ H w)(hv:Fg base 5 args H=some (v,H'))(hl:oB μ args args'.toList) :
  (callFunc 44 args').run Tryz.prog w=.ok (.enter 44 args') w/\Calls Tryz.prog 44 args' w fun e w'=>∃v' μ',e=.returned v'/\μ.le μ'/\tB B N μ' H' w'/\Below N w w'/\uA μ' v v':=
 VJ Tryz.lays169 Tryz.Builder_Extra_169 (f:=44) rfl hbase (fun w a=>jW (fn:=Tryz.f44) Tryz.func44 (by kernel_rfl)) hH hv hl
end
theorem vP{α:Type}{t:Tr α}{i j:Nat}{x y:α}(h:(t.set i x).get j=some y):(j=i/\x=y)\/t.get j=some y:=by
 grind [Tr.get_set]
theorem HK(f0 N:Nat):Jx Tryz.prog (gS f0) 256 N zI:=by
 intro f g hg args H v H' hv μ w args' hH hI hl;have hg:Qu.get f=some g:=hg
 unfold Qu at hg;rcases vP hg with⟨rfl,rfl⟩ | hg
 ·exact yU hv hH fun hv=>HP (jW (fn:=Tryz.f262) Tryz.func262 (by kernel_rfl)) (fun s c=>Tryz.stringslite_IndexByte s c _) hv hl
 rcases vP hg with⟨rfl,rfl⟩ | hg
 ·grind [yU,HQ]
 rcases vP hg with⟨rfl,rfl⟩ | hg
 ·grind [yU,HL]
 rcases vP hg with⟨rfl,rfl⟩ | hg
 ·grind [yU,HO]
 rcases vP hg with⟨rfl,rfl⟩ | hg
 ·exact .inr (HN (ybk _) hH hv hl)
 rcases vP hg with⟨rfl,rfl⟩ | hg
 ·exact .inr (HR (ybk _) hH hv hl)
 grind [Tr.get_leaf]
def sim33v(f0 N:Nat)(hN:6<=N):cJ Tryz.prog (gS f0) 256 N zI:=
 ⟨Ux rfl,Sr rfl,HK f0 N,ybk _,by kernel_rfl,fun _ _ hb h=>h.below hN hb⟩
theorem DG {n:Nat}{args:List zA}{args':Array Value}{w:World}(hw:zI w)(hS:cJ Tryz.prog C 256 w.heap.size zI)(hroot:C.root=f)(hl:oB mu0 args args'.toList)
  (h:oH (xT C n (qZ C f args H33))=1):Calls Tryz.prog f args' w fun e w'=>e=.returned (.bool true)/\Below w.heap.size w w':=by
 obtain⟨H',hr⟩:=zm6 h
 unfold qZ at hr;have stuck:∀(n k:Nat),xT C n (.fail k)=.fail k:=by
  intro n;induction n with
  | zero=>intro k;rfl
  | succ n ih=>
   intro k;show xT C n (xT C n (.fail k))=_
   rw[ih,ih]
 cases he:eJ C f args false with
 | none=>
  simp_all
 | some g=>
  rw[he]at hr;refine(YV hS hw hroot (hrel33 hw) hl he hr).mono fun e w' ⟨v',μ',h1,_,h3,_,h5⟩=>?_
  grind [uA]
theorem MI:∀ {l:List (List Nat × List Nat)} {a b:List Nat},inW l a b=true->(a,b)∈l
 | [],_,_,h=>by cases h
 | p::r,a,b,h=>by
  unfold inW at h;rw[rD]at h;split at h
  ·grind [gK]
  ·exact .tail _ (MI h)
theorem RM:∀p∈Uq,oH (xT (gS 24) 16 (qZ (gS 24) 24 [.str p.1,.str p.2] H33))=1:=by
 grind [Uq,RL,RK,RJ,RI,RH]
theorem VC{μ:Mu}{H:xA}{w:World}{args:List zA}{args':Array Value}{v:zA}(hI:zI w)(hv:Yi args H=some v)(hl:oB μ args args'.toList) :
  (callFunc 24 args').run Tryz.prog w=.ok (.enter 24 args') w/\Calls Tryz.prog 24 args' w fun e w'=>∃v',e=.returned v'/\uA μ v v'/\Below w.heap.size w w':=by
 refine⟨jW (fn:=Tryz.f24) Tryz.func24 (by kernel_rfl),?_⟩
 unfold Yi at hv;split at hv
 case h_2=>cases hv
 rename_i a b;rw[vB]at hv;obtain⟨h1,hv⟩:=hv
 cases hv;obtain⟨x,y,rfl,hx,hy⟩:=Hh hl
 rw[uA]at hx hy;refine(DG hI (sim33v 24 w.heap.size hI.size) rfl (args' := #[x,y]) (.cons (by grind [uA]) (.single (by grind [uA]))) (RM _ (MI h1))).mono fun e w' ⟨h1,h2⟩=>?_
 grind [uA]
theorem VA(N:Nat):Jx Tryz.prog C33w 256 N zI:=by
 intro f g hg args H v H' hv μ w args' hH hI hl;have hg:Yc.get f=some g:=hg
 unfold Yc at hg;rcases vP hg with⟨rfl,rfl⟩ | hg
 ·grind [yU,VC]
 ·exact HK 7 N f g hg args H v H' hv μ w args' hH hI hl
def sim33w(N:Nat)(hN:6<=N):cJ Tryz.prog C33w 256 N zI:=
 ⟨Ux rfl,Sr rfl,VA N,ybk _,by kernel_rfl,fun _ _ hb h=>h.below hN hb⟩
theorem ZI{w:World}(hw:zI w):Calls Tryz.prog 7 #[] w fun e w'=>e=.returned (.bool true)/\Below w.heap.size w w':=
 DG hw (sim33w _ hw.size) rfl .nil zdc
theorem VE{μ:Mu}{H:xA}{w:World}{args:List zA}{args':Array Value}{v:zA}(hI:zI w)(hv:Qy args H=some v)(hl:oB μ args args'.toList) :
  (callFunc 7 args').run Tryz.prog w=.ok (.enter 7 args') w/\Calls Tryz.prog 7 args' w fun e w'=>∃v',e=.returned v'/\uA μ v v'/\Below w.heap.size w w':=by
 refine⟨jW (fn:=Tryz.f7) Tryz.func7 (by kernel_rfl),?_⟩
 unfold Qy at hv;split at hv
 case h_2=>cases hv
 cases hv;rw[oB]at hl;have:args' = #[]:=by simp_all
 grind [ZI,uA]
end Go.Am
namespace Go.Am
open Go Go.RowKit
@[simp] theorem cD {α:Type} {x:Option α}:wB true x=x:=rfl
inductive D where
 | int (k:IntKind) (n:Int)
 | bool (b:Bool)
 | str (s:List Nat)
 | sl (sz:Nat) (l:List D)
 | st (l:List D)
def At (t:Tr tA)(b off:Nat)(cs:List zA):Prop:=∃c n lo,t.get b=some (.cells c n lo)/\∀(j:Nat) a,cs[j]?=some a->c.get (off+j)=some a
def cN(t:Tr tA)(sz:Nat)(v:zA)(cl:List (List zA)):Prop:=
 (v=.nilslice/\cl=[])\/∃b off cap,v=.slice b off cl.length cap/\cl.length<=cap/\(∃c n lo,t.get b=some (.cells c n lo)/\(lo=none\/∃x,lo=some x/\x.es=sz))/\∀(i:Nat) cs,cl[i]?=some cs->cs.length=sz/\At t b (off+i*sz) cs
mutual
/-- cells read as data -/
def RD (t:Tr tA):D->List zA->Prop
 | .int k n,cs=>cs=[.int k n]
 | .bool b,cs=>cs=[.bool b]
 | .str s,cs=>cs=[.str s]
 | .sl sz l,cs=>∃a cl,cs=[a]/\cN t sz a cl/\uD t l cl
 | .st l,cs=>∃cl,cs=cl.flatten/\uD t l cl
def uD (t:Tr tA):List D->List (List zA)->Prop
 | [],cl=>cl=[]
 | d::l,cl=>∃c r,cl=c::r/\RD t d c/\uD t l r
end
def bA (t t':Tr tA):Prop:=∀b y,t.get b=some y->t'.get b=some y
theorem bA.refl(t:Tr tA):bA t t:=fun _ _ h=>h
def bA.trans{a b c:Tr tA}(h:bA a b)(k:bA b c):bA a c:=fun x y e=>k x y (h x y e)
section
variable {t t':Tr tA}{C:lA}
theorem At.mono(h:bA t t'){b off:Nat}{cs:List zA}(k:At t b off cs):At t' b off cs:=by
 obtain⟨c,n,lo,h1,h2⟩:=k;exact⟨c,n,lo,h _ _ h1,h2⟩
theorem cN.mono(h:bA t t'){sz:Nat}{v:zA}{cl:List (List zA)}(k:cN t sz v cl):cN t' sz v cl:=by
 rcases k with k | ⟨b,off,cap,h1,h3,⟨c,n,lo,h4,h5⟩,h2⟩
 ·exact .inl k
 ·exact .inr ⟨b,off,cap,h1,h3,⟨c,n,lo,h _ _ h4,h5⟩,fun i cs hi=>⟨(h2 i cs hi).1,(h2 i cs hi).2.mono h⟩⟩
mutual
theorem RD.mono(h:bA t t'):∀(d:D) (cs:List zA),RD t d cs->RD t' d cs
 | .int _ _,_,k=>k
 | .bool _,_,k=>k
 | .str _,_,k=>k
 | .sl _ l,_,⟨a,cl,h1,h2,h3⟩=>⟨a,cl,h1,h2.mono h,uD.mono h l cl h3⟩
 | .st l,_,⟨cl,h1,h2⟩=>⟨cl,h1,uD.mono h l cl h2⟩
theorem uD.mono(h:bA t t'):∀(l:List D) (cl:List (List zA)),uD t l cl->uD t' l cl
 | [],_,k=>k
 | d::l,_,⟨c,r,h1,h2,h3⟩=>⟨c,r,h1,RD.mono h d c h2,uD.mono h l r h3⟩
end
theorem uD.length:∀ {l:List D} {cl:List (List zA)},uD t l cl->cl.length=l.length:=by
 intro l;induction l with
 | nil=>grind [uD]
 | cons d l ih=>grind [uD]
theorem uD.get:∀ {l:List D} {cl:List (List zA)} {i:Nat} {d:D},uD t l cl->l[i]?=some d->∃cs,cl[i]?=some cs/\RD t d cs:=by
 intro l;induction l with
 | nil=>simp_all
 | cons e l ih=>
  grind [uD]
theorem uD.mk:∀ {l:List D} {cl:List (List zA)},cl.length=l.length->(∀(i:Nat) d cs,l[i]?=some d->cl[i]?=some cs->RD t d cs)->uD t l cl:=by
 intro l;induction l with
 | nil=>grind [uD]
 | cons e l ih=>
  intro cl h k
  cases cl with
  | nil=>simp at h
  | cons c r=>
   rw[uD];exact⟨c,r,rfl,k 0 e c (by simp) (by simp),ih (by grind) fun i d cs h1 h2=>k (i+1) d cs (by simp_all) (by simp_all)⟩
@[simp] theorem aY {k:IntKind} {n:Int} {cs:List zA}:RD t (.int k n) cs ↔ cs=[.int k n]:=Iff.rfl
@[simp] theorem Uk {b:Bool} {cs:List zA}:RD t (.bool b) cs ↔ cs=[.bool b]:=Iff.rfl
@[simp] theorem bY {s:List Nat} {cs:List zA}:RD t (.str s) cs ↔ cs=[.str s]:=Iff.rfl
def cA (t:Tr tA)(sz:Nat)(l:List D)(v:zA):Prop:=∃cl,cN t sz v cl/\uD t l cl
theorem cA.mono(h:bA t t'){sz:Nat}{l:List D}{v:zA}(k:cA t sz l v):cA t' sz l v:=by
 obtain⟨cl,h1,h2⟩:=k;exact⟨cl,h1.mono h,uD.mono h _ _ h2⟩
theorem vV{sz:Nat}{l:List D}{cs:List zA}:RD t (.sl sz l) cs ↔ ∃v,cs=[v]/\cA t sz l v:=by
 rw[RD];constructor
 ·rintro⟨a,cl,rfl,h1,h2⟩;exact⟨a,rfl,cl,h1,h2⟩
 ·rintro⟨a,rfl,cl,h1,h2⟩;grind
theorem zO{l:List D}{cs:List zA}:RD t (.st l) cs ↔ ∃cl,cs=cl.flatten/\uD t l cl:=by rw[RD]
theorem cH{cl:List (List zA)}:uD t [] cl ↔ cl=[]:=by rw[uD]
theorem cG{d:D}{l:List D}{cl:List (List zA)}:uD t (d::l) cl ↔ ∃c r,cl=c::r/\RD t d c/\uD t l r:=by rw[uD]
theorem cA.one{sz:Nat}{l:List D}{v:zA}(h:cA t sz l v):zA.one v=true:=by
 obtain⟨cl,h1,_⟩:=h
 rcases h1 with⟨rfl,_⟩ | ⟨b,off,cap,rfl,_⟩
 ·decide
 ·rfl
theorem cA.len{sz:Nat}{l:List D}{v:zA}(h:cA t sz l v):qC v=some (.int .i64 (l.length:Int)):=by
 obtain⟨cl,h1,h2⟩:=h
 have:=h2.length
 rcases h1 with⟨rfl,rfl⟩ | ⟨b,off,cap,rfl,_⟩
 ·have:l.length=0:=this.symm
  rw[this];rfl
 ·rw[<- this];rfl
theorem cA.same{sz d:Nat}{l:List D}{v:zA}(h:cA t sz l v):same d v v=true:=by
 obtain⟨cl,h1,_⟩:=h
 rcases h1 with⟨rfl,_⟩ | ⟨b,off,cap,rfl,_⟩
 all_goals grind [Am.same,Nat.beq_refl]
theorem AR{sz:Nat}{l:List D}{v:zA}(h:cA t sz l v):Au .nilslice v=true:=by
 obtain⟨cl,h1,_⟩:=h
 rcases h1 with⟨rfl,_⟩ | ⟨b,off,cap,rfl,_⟩<;>rfl
theorem At.load{b off j n:Nat}{cs:List zA}(h:At t b off cs){ty:Nat}{y:mD}(hy:C.tys.get ty=some y)(ha:y.desc.isAgg=true)(hn:y.size=n)(hj:j+n<=cs.length):iA C ty ⟨0,t⟩ (.ptr b (off+j))=some (.agg ((cs.drop j).take n)):=by
 obtain⟨c,m,lo,h1,h2⟩:=h
 unfold iA;simp only[zA.asPtr,qA];rw[hy,qA];unfold qD;rw[h1,qA];simp only[tA.asCells,qA];unfold aR;rw[ha,cond_true,hn];have key:∀(n j:Nat),j+n<=cs.length->c.many n (off+j)=some ((cs.drop j).take n):=by
  intro n;induction n with
  | zero=>intro j _;simp;rfl
  | succ n ih=>
   intro j hj;have hlt:j<cs.length:=by omega
   rw[Tr.many_succ,h2 j cs[j] (ybd hlt),qA,show off+j+1=off+(j+1) by omega,ih (j+1) (by omega),qA,ybl hlt,List.take_succ_cons]
 simp_all
theorem At.load1{b off j:Nat}{cs:List zA}{a:zA}(h:At t b off cs){ty:Nat}{y:mD}(hy:C.tys.get ty=some y)(ha:y.desc.isAgg=false)(hj:cs[j]?=some a):iA C ty ⟨0,t⟩ (.ptr b (off+j))=some a:=by
 obtain⟨c,m,lo,h1,h2⟩:=h
 simp_all [iA,zA.asPtr,qD,tA.asCells,aR]
structure dH (C:lA) (T el sz:Nat) (agg:Bool):Prop where
 ty:∃y,C.tys.get T=some y/\y.desc.asSlice=some el
 el:∃y,C.tys.get el=some y/\y.size=sz/\y.desc.isAgg=agg
def Pj(agg:Bool)(cs:List zA):zA:=if agg then .agg cs else match cs with | a::_=>a | []=>.nilptr
theorem dH.at{T el sz:Nat}{agg:Bool}(h:dH C T el sz agg)(h1:agg=false->sz=1){l:List D}{v:zA}(hr:cA t sz l v){i:Nat}{d:D}(hi:l[i]?=some d) :
  ∃b off cs,tC C T v (.int .i64 (i:Int))=some (.ptr b off)/\iA C el ⟨0,t⟩ (.ptr b off)=some (Pj agg cs)/\At t b off cs/\cs.length=sz/\RD t d cs:=by
 obtain⟨⟨y,hy1,hy2⟩,⟨z,hz1,hz2,hz3⟩⟩:=h
 obtain⟨cl,he,hd⟩:=hr
 obtain⟨cs,hc,hrd⟩:=hd.get hi
 rcases he with⟨rfl,rfl⟩ | ⟨b,off,cap,rfl,_,_,he⟩
 ·simp at hc
 ·obtain⟨hl,ha⟩:=he i cs hc
  have hlt:i<cl.length:=(ybc.1 hc).1
  refine⟨b,off+i*sz,cs,?_,?_,ha,hl,hrd⟩
  ·unfold tC
   rw[hy1,qA];have:(zA.int .i64 (i:Int)).asNat=some i:=rfl
   rw[this,qA];simp only[zA.asSlice];rw[hy2,qA,hz1,qA,nC.2 hlt,hz2];rfl
  ·cases agg with
   | true=>
    have:=ha.load (j:=0) hz1 hz3 hz2 (by omega)
    simp only[yct,ycr]at this;rw[this,<- hl,List.take_length];rfl
   | false=>
    have hs:=h1 rfl
    cases cs with
    | nil=>simp_all
    | cons a r=>
     have:=ha.load1 (j:=0) (a:=a) hz1 hz3 (by simp)
     rw[yct]at this;rw[this];rfl
end
section
variable {t:Tr tA}{C:lA}
theorem dH.front{T el sz:Nat}{agg:Bool}(h:dH C T el sz agg){l:List D}{v:zA}(hr:cA t sz l v){k:Nat}(hk:k<=l.length) :
  ∃v',iD C T ⟨0,t⟩ v none (some (.int .i64 (k:Int)))=some v'/\cA t sz (l.take k) v':=by
 obtain⟨⟨y,hy1,hy2⟩,⟨z,hz1,hz2,hz3⟩⟩:=h
 obtain⟨cl,he,hd⟩:=hr
 have hlen:=hd.length
 unfold iD;rw[hy1,qA];have hb:∀y,cW y (.int .i64 (k:Int))=wB (Nat.ble k y) (some k):=fun y=>rfl
 rcases he with⟨rfl,rfl⟩ | ⟨b,off,cap,rfl,hcap,⟨c,n,lo,hg,hlo⟩,he⟩
 ·have:k=0:=by grind
  subst this;refine⟨.nilslice,?_,[],.inl ⟨rfl,rfl⟩,by simp[uD]⟩
  unfold dM;simp only[zA.asStr,zA.asSlice,zA.asPtr];rw[hy2,qA,hz1,qA];rfl
 ·refine⟨.slice b off k cap,?_,cl.take k,.inr ⟨b,off,cap,?_,?_,⟨c,n,lo,hg,hlo⟩,fun i cs hi=>?_⟩,?_⟩
  ·unfold dM
   simp only[zA.asStr,zA.asSlice];rw[hy2,qA];unfold wP;rw[hz1,qA];unfold jP Bh;simp only[hb];rw[show Nat.ble k cap=true from fE.2 (by omega)]
   simp only[cD,qA];have he2:eM ⟨0,t⟩ b z.size cap 0 false=false:=by
    unfold eM qD;rw[hg,qA];simp only[tA.asCells];rcases hlo with rfl | ⟨x,rfl,hx⟩
    ·rfl
    ·simp
   rw[he2,yay,cond_false];have hf:lN ⟨0,t⟩ b z.size cap 0 false=true:=by
    unfold lN qD;rw[hg,qA];simp only[tA.asCells];rcases hlo with rfl | ⟨x,rfl,hx⟩
    all_goals simp_all
   rw[show Nat.ble k cap=true from fE.2 (by omega),hf]
   simp only[Bool.and_self,cD];congr 1
   cases hq:Nat.beq cap 0<;>simp
  ·simp_all
  ·grind
  ·grind
  ·refine uD.mk (by simp_all) fun i d cs h1 h2=>?_
   rw[ydf]at h1 h2;split at h1
   ·rename_i e
    rw[yab e]at h2;obtain⟨cs',h3,h4⟩:=hd.get h1
    simp_all
   grind
end
mutual
def D.zs:D->List zA
 | .int k _=>[.int k 0]
 | .bool _=>[.bool false]
 | .str _=>[.str []]
 | .sl _ _=>[.nilslice]
 | .st l=>D.zss l
def D.zss:List D->List zA
 | []=>[]
 | d::l=>d.zs++D.zss l
end
def NP:∀(z z' l l':List zA),rS z l=true->rS z' l'=true->rS (z++z') (l++l')=true
 | [],_,[],_,_,h=>h
 | a::z,z',b::l,l',h,k=>by
  unfold rS at h;rw[ybb]at h;show(Au a b&&rS (z++z') (l++l'))=true
  rw[h.1,NP z z' l l' h.2 k];rfl
 | [],_,_::_,_,h,_=>by cases h
 | _::_,_,[],_,h,_=>by cases h
mutual
theorem AQ{t:Tr tA}:∀(d:D) (cs:List zA),RD t d cs->rS d.zs cs=true
 | .int k n,cs,h=>by
  rw[RD]at h;subst h;show(Au (.int k 0) (.int k n)&&true)=true
  grind [Au,zA.asIntK,uM]
 | .bool _,cs,h=>by rw[RD]at h;subst h;rfl
 | .str _,cs,h=>by rw[RD]at h;subst h;rfl
 | .sl sz l,cs,h=>by
  rw[vV]at h;obtain⟨v,rfl,h⟩:=h
  show(Au .nilslice v&&true)=true
  rw[AR h];rfl
 | .st l,cs,h=>by
  rw[zO]at h;obtain⟨cl,rfl,h⟩:=h
  show rS (D.zss l) cl.flatten=true
  exact NM l cl h
theorem NM{t:Tr tA}:∀(l:List D) (cl:List (List zA)),uD t l cl->rS (D.zss l) cl.flatten=true
 | [],cl,h=>by rw[uD]at h;subst h;rfl
 | d::l,cl,h=>by
  rw[uD]at h;obtain⟨c,r,rfl,h1,h2⟩:=h
  show rS (d.zs++D.zss l) (c::r).flatten=true
  rw[yas];exact NP _ _ _ _ (AQ d c h1) (NM l r h2)
end
theorem zC{k:IntKind}{n:Int}:intK k (.int k n)=some n:=by unfold intK;simp only[zA.asIntK,qA];rw[uM.2 rfl];rfl
def Dm{b:Bool}:(zA.bool b).asBool=some b:=rfl
theorem Ho{d:Nat}{k:IntKind}{n:Int}:same d (.int k n) (.int k n)=true:=by
 cases d<;>simp[same,uM,lW]
theorem GF{d:Nat}{b:Bool}:same d (.bool b) (.bool b)=true:=by cases d<;>simp[same,xV]
theorem GC{d:Nat}{s:List Nat}:same d (.str s) (.str s)=true:=by cases d<;>simp[same,gK]
theorem wrap_i64{n:Int}(h1 : -9223372036854775808<=n)(h2:n<9223372036854775808):fA .i64 n=n:=by
 grind [aO,IntKind.wrap,IntKind.bits,IntKind.signed]
def iS{t:Tr tA}{d:D}{cs zs:List zA}(h:RD t d cs)(hz:d.zs=zs):wK zs (.agg cs)=some (cellsOf cs):=by
 unfold wK;simp only[zA.asAgg,qA];rw[<- hz,AQ d cs h];rfl
theorem cO{zs l:List zA}(h:rS zs l=true):wK zs (.agg l)=some (cellsOf l):=by
 simp_all [wK,zA.asAgg]
end Go.Am
