/- Seat 23: strconv.FormatUint at base 10. -/
import Derived.KernelRfl
import Derived.Lib.AppendIntMem
import Derived.ProofKit
import Derived.Test.YtmmedgeabnpnhaaGreatDoorB09
import Derived.Test.YtmmedgeabnpnhaaGreatDoorB10
import Derived.Test.YtmmedgeabnpnhaaGreatDoorB11
import Derived.Test.YtmmedgeabnpnhaaGreatDoorB12
import Derived.Test.YtmmedgeabnpnhaaGreatDoorB13
import Derived.Test.YtmmedgeabnpnhaaGreatDoorB14
import Derived.Test.YtmmedgeabnpnhaaGreatDoorB15
set_option linter.all false
noncomputable section
namespace Go.Proofs
open Go Go.Shelf Go.RowKit Go.Sort Go.Lib
set_option maxHeartbeats 1000000 in
set_option maxRecDepth 100000 in
def QE(u:Nat)(hi:u<100)(w:World) :
  Calls Tryz.prog 262 #[.int .u64 u,.int .i64 10] w fun e w'=>e=.returned (.string ⟨(Lib.itoa u).toArray⟩)/\∃k os,w'=Sort.grow (w.drewN k) os:=by
 have hi':(u:Int)<100:=by omega
 have hw:IntKind.i64.wrap (u:Int)=u:=by rw[IntKind.wrap_i64];omega
 go_enter Tryz.func262,Tryz.ntmps262
 go_wp2_with (go_at_fn 264)
 refine(Tryz.internal_strconv_small u hi _).mono ?_;rintro e w' ⟨rfl,rfl⟩
 go_wp2
 go_ret
 refine⟨?_,0,#[],by simp[World.drewN_zero,Sort.grow]⟩;rw[Lib.itoa_nonneg];rfl
set_option maxHeartbeats 4000000 in
set_option maxRecDepth 100000 in
def QF (u : Nat) (hu : 100 <= u) (hu64 : u < 18446744073709551616) (w : World) (htab : Lib.TabIs Tryz.prog w "internal/strconv.uint64pow10" .u64 Lib.pow10Tab) :
  Calls Tryz.prog 262 #[.int .u64 u,.int .i64 10] w fun e w'=>e=.returned (.string ⟨(Lib.itoa u).toArray⟩)/\∃k os,w'=Sort.grow (w.drewN k) os:=by
 have hu':(100:Int)<=(u:Int):=by omega
 have hu1:1<=u:=by omega
 have hnd20:Lib.nDigits u<=20:=by have:=Lib.numDigits_eq u hu1 hu64;split at this<;>omega
 have hal:Tryz.prog.arrayLen 258=24:=by kernel_rfl
 have hel:Tryz.prog.elem 258=5:=by kernel_rfl
 have hsl:∀W,(Instr.sliceAt 258 (.pointer (some ⟨w.heap.size,0,none⟩)) none (some (.int .i64 (Lib.nDigits u:Int))) none).run Tryz.prog W=.ok (.slice (some ⟨w.heap.size,0,none⟩) (Lib.nDigits u) 24) W:=fun W=>by
  rw[run_sliceAt_array_h W 258 ⟨w.heap.size,0,none⟩ (by rw[hal,hel];exact Tryz.underlying258) .i64 (Lib.nDigits u:Int) (by omega) (by rw[hal];omega)];rw[hal,hel,Tryz.sizeOf5];simp[slicedAt,Addr.add]
 have hH0:=Lib.holds_zero0 w 258 (Lib.nDigits u) (by omega);have hfmt:=Tryz.internal_strconv_formatBase10 w.heap.size 0 24 u (Array.replicate (Lib.nDigits u) 0) (w.alloc (.cells Lib.zeros24 258)) hH0 (by rw[Array.size_replicate];exact Lib.lt_pow_nDigits u) hu64 (by rw[Array.size_replicate];omega);rw[Array.size_replicate]at hfmt;have HH0:=Lib.hid hH0;clear hH0 hal hel
 go_enter Tryz.func262,Tryz.ntmps262
 go_wp2_with (go_at_fn 265)
 refine(Tryz.internal_strconv_numDigits u hu1 hu64 _ (Lib.tabIs_alloc htab _)).mono ?_;rintro e w' ⟨rfl,rfl⟩
 go_wp2_with (go_at_fn 266)
 refine hfmt.mono ?_;rintro e w' ⟨rfl,k,v',dk,rfl,hF⟩;have hcv:(convert 90 9 (.slice (some ⟨w.heap.size,0,none⟩) (Lib.nDigits u) 24)).run Tryz.prog ((putRow (fun(b:UInt8)=>Value.int .u8 (b.toNat:Int)) (w.alloc (.cells Lib.zeros24 258)) w.heap.size 0 dk).drewN k)=.ok (.string ⟨(Lib.decDigits u).toArray⟩) ((putRow (fun(b:UInt8)=>Value.int .u8 (b.toNat:Int)) (w.alloc (.cells Lib.zeros24 258)) w.heap.size 0 dk).drewN k):=by
  have h:=run_convert_bytes_back (P:=Tryz.prog) ((putRow (fun(b:UInt8)=>Value.int .u8 (b.toNat:Int)) (w.alloc (.cells Lib.zeros24 258)) w.heap.size 0 dk).drewN k) 90 9 5 ⟨w.heap.size,0,none⟩ 24 (Lib.decDigits u) Tryz.underlying90 Tryz.underlying5 Tryz.underlying9 (fun j hj=>by
   rw[Lib.row_is_numeral hF j hj,Lib.add_plain,World.cell?_drewN];exact cell?_putRow (fun(b:UInt8)=>Value.int .u8 (b.toNat:Int)) _ w.heap.size 0 _ dk HH0.out (by rw[hF.size,Array.size_replicate]) j (by rw[hF.size];rw[Lib.decDigits_length]at hj;exact hj))
  rw[Lib.decDigits_length]at h;exact h
 go_wp2
 go_ret
 obtain⟨os,eo⟩:=Lib.fin_at w (.cells Lib.zeros24 258) dk k 0;refine⟨?_,k,os,eo⟩;rw[Lib.itoa_nonneg];rfl
set_option maxHeartbeats 1000000 in
set_option maxRecDepth 100000 in
def uint23 (u : Nat) (hu64 : u < 18446744073709551616) (w : World) (htab : Lib.TabIs Tryz.prog w "internal/strconv.uint64pow10" .u64 Lib.pow10Tab) :
  Calls Tryz.prog 243 #[.int .u64 u,.int .i64 10] w fun e w'=>e=.returned (.string ⟨(Lib.itoa u).toArray⟩)/\∃k os,w'=Sort.grow (w.drewN k) os:=by
 have key:Calls Tryz.prog 262 #[.int .u64 u,.int .i64 10] w fun e w'=>e=.returned (.string ⟨(Lib.itoa u).toArray⟩)/\∃k os,w'=Sort.grow (w.drewN k) os:=by
  by_cases h:u<100
  ·exact QE u h w
  ·exact QF u (by omega) hu64 w htab
 go_enter Tryz.func243,Tryz.ntmps243
 go_wp2_with (go_at_fn 262)
 refine key.mono ?_;rintro e w' ⟨rfl,k,os,rfl⟩
 go_wp2
 go_ret
 exact⟨rfl,k,os,rfl⟩
end Go.Proofs
set_option maxRecDepth 100000
namespace Go.Am
open Go Go.RowKit Go.Proofs
def QI:Dz (fun t ty=>match tyOf Tryz.prog t with | some u=>eqTy u ty | none=>false) tys (fun n=>n)=true:=by kernel_rfl
def Sx{C:fA}(hC:C.tys=tys):qF Tryz.prog C:=by
 intro t ty h;rw[hC]at h;have:=zj5 tys _ QI t ty h
 cases hu:tyOf Tryz.prog t with
 | none=>rw[hu]at this;cases this
 | some u=>rw[hu]at this;rw[zjl this]
def VI : (Tryz.funcs.toList.all fun fn => !(fn.name == "runtime.NumGoroutine")) = true := by kernel_rfl
def Qw{C:fA}(hC:C.fns=fns):Bp Tryz.prog C:=by
 intro f fn h;rw[hC]at h;unfold fns at h;rw[Tr.get_ofList]at h;have h2:Tryz.prog.funcs[f]?=some fn:=by
  show Tryz.funcs[f]?=some fn;simpa using h
 refine⟨h2,?_⟩;have:=ycb.1 VI fn (ycv h);simpa using this
def u64s (l:List Int):List Value:=l.map fun n=>.int .u64 n
def BV{μ:Mu}:∀l:List Int,iB μ (nY .u64 l) (u64s l)
 | []=>.nil
 | b::l=>.cons (by rw[uA]) (BV l)
structure vI (w:World):Prop where
 kinds:∃t,w.heap[0]?=some (.cells (jM eO).toArray t (0,0))
 modes:∃t,w.heap[1]?=some (.cells (jM jO).toArray t (0,0))
 lens:∃t,w.heap[2]?=some (.cells (Al yQ).toArray t (0,0))
 most:∃m,w.cell? ⟨5,0,none⟩=some (.int .i64 m)
 pow:∃t,w.heap[4]?=some (.cells (u64s jV).toArray t (0,0))
def vI.size{w:World}(h:vI w):6<=w.heap.size:=by
 obtain⟨m,h⟩:=h.most;refine Nat.lt_of_not_le fun hn=>?_;have e:w.heap[5]?=none:=Array.getElem?_eq_none (by omega);unfold World.cell? at h;simp[e]at h
def vI.below{w w':World}{N:Nat}(hN:6<=N)(h:vI w)(hb:Below N w w'):vI w':=by
 refine⟨?_,?_,?_,?_,?_⟩
 ·obtain⟨t,h⟩:=h.kinds;exact⟨t,by rw[hb.block 0 (by omega)];exact h⟩
 ·obtain⟨t,h⟩:=h.modes;exact⟨t,by rw[hb.block 1 (by omega)];exact h⟩
 ·obtain⟨t,h⟩:=h.lens;exact⟨t,by rw[hb.block 2 (by omega)];exact h⟩
 ·obtain⟨m,h⟩:=h.most;exact⟨m,by rw[hb.cell (p:=⟨5,0,none⟩) (by show 5<N;omega)];exact h⟩
 ·obtain⟨t,h⟩:=h.pow;exact⟨t,by rw[hb.block 4 (by omega)];exact h⟩
def vI.tab {w : World} (h : vI w) : Lib.TabIs Tryz.prog w "internal/strconv.uint64pow10" .u64 Lib.pow10Tab := by
 obtain⟨t,h⟩:=h.pow;have hg : Tryz.prog.globalNamed "internal/strconv.uint64pow10" = some 4 := by kernel_rfl
 unfold Lib.TabIs World.var?;rw[hg];simp only[yai,h];rfl
def hrel23{w:World}(h:vI w):jB 256 w.heap.size mu0 H23 w:=by
 have hget:∀a x,H23.t.get a=some x->(a=0/\x=.cells (Tr.ofList (dZ eO)) (kB (dZ eO)) none)\/(a=1/\x=.cells (Tr.ofList (dZ jO)) (kB (dZ jO)) none)\/(a=2/\x=.cells (Tr.ofList (nY .i64 yQ)) (kB (nY .i64 yQ)) none)\/(a=4/\x=.cells (Tr.ofList (nY .u64 jV)) (kB (nY .u64 jV)) none):=by
  intro a x hx;have hx:(glob 0 (dZ eO) (glob 1 (dZ jO) (glob 2 (nY .i64 yQ) (glob 4 (nY .u64 jV) .leaf)))).get a=some x:=hx;unfold glob at hx;rw[Tr.get_set,Tr.get_set,Tr.get_set,Tr.get_set]at hx;split at hx
  ·rename_i e;exact .inl ⟨e,(yci hx).symm⟩
  ·split at hx
   ·rename_i e;exact .inr (.inl ⟨e,(yci hx).symm⟩)
   ·split at hx
    ·rename_i e;exact .inr (.inr (.inl ⟨e,(yci hx).symm⟩))
    ·split at hx
     ·rename_i e;exact .inr (.inr (.inr ⟨e,(yci hx).symm⟩))
     ·rw[Tr.get_leaf]at hx;cases hx
 have hsz:=h.size;refine⟨ybk _,fun g hg=>by simp[mu0,hg],fun a x i _ hx hi=>?_,ybk _,ybk _,fun a ha=>?_,fun a x i hx hi=>?_,fun a i ha hi=>?_,fun a b x y i j hx _ _ _ ha _ _=>?_,fun a x t ha=>by cases ha⟩
 ·rcases hget a x hx with⟨rfl,rfl⟩ | ⟨rfl,rfl⟩ | ⟨rfl,rfl⟩ | ⟨rfl,rfl⟩<;>cases hi<;>exact⟨Nat.lt_of_lt_of_le (by decide) hsz,rfl,rfl⟩
 ·have ha:256<=a:=ha;refine⟨by simp[mu0];omega,?_⟩
  cases hx:H23.t.get a with
  | none=>rfl
  | some x=>rcases hget a x hx with⟨rfl,_⟩ | ⟨rfl,_⟩ | ⟨rfl,_⟩ | ⟨rfl,_⟩<;>omega
 ·rcases hget a x hx with⟨rfl,rfl⟩ | ⟨rfl,rfl⟩ | ⟨rfl,rfl⟩ | ⟨rfl,rfl⟩
  ·obtain⟨t,h⟩:=h.kinds;cases hi;exact⟨_,h,Rp (Ve eO) t⟩
  ·obtain⟨t,h⟩:=h.modes;cases hi;exact⟨_,h,Rp (Ve jO) t⟩
  ·obtain⟨t,h⟩:=h.lens;cases hi;exact⟨_,h,Rp (KF yQ) t⟩
  ·obtain⟨t,h⟩:=h.pow;cases hi;exact⟨_,h,Rp (BV jV) t⟩
 ·simp[mu0]at hi;omega
 ·rcases hget a x hx with⟨rfl,_⟩ | ⟨rfl,_⟩ | ⟨rfl,_⟩ | ⟨rfl,_⟩<;>omega
def Nm{s:ByteArray}{l:List Nat}(h:kF s=l):s.data.toList.map UInt8.toNat=l:=h
def Ba{f:Nat}{fn:Func}(hf:Tryz.funcs[f]?=some fn)(hb:fn.body.isSome=true){args:Array Value}{w:World}:(callFunc f args).run Tryz.prog w=.ok (.enter f args) w:=
 Ny (C:=C23w) (Qw rfl) (show fns.get f=some fn by unfold fns;rw[Tr.get_ofList];simpa using hf) hb
section
variable {B N:Nat}{μ:Mu}{H:wA}{w:World}{args:List zA}{args':Array Value}{v:zA}
def My{a b:zA}(h:iB μ [a,b] args'.toList):∃x y,args' = #[x,y]/\uA μ a x/\uA μ b y:=by
 rw[iB]at h;obtain⟨x,r,h1,h2,h3⟩:=h;rw[iB]at h3;obtain⟨y,r',h4,h5,h6⟩:=h3;rw[iB]at h6;subst h4 h6;exact⟨x,y,by apply yax.1;simpa using h1,h2,h5⟩
def UF(hv:Xi args H=some v)(hl:iB μ args args'.toList) :
  (callFunc 278 args').run Tryz.prog w=.ok (.enter 278 args') w/\Calls Tryz.prog 278 args' w fun e w'=>∃v',e=.returned v'/\uA μ v v'/\Below w.heap.size w w':=by
 refine⟨Ba (fn:=Tryz.f278) Tryz.func278 (by kernel_rfl),?_⟩;unfold Xi at hv;split at hv
 case h_2=>cases hv
 rename_i s c;rw[fB,lC]at hv;obtain⟨hc,hv⟩:=hv;cases hv;obtain⟨x,y,rfl,hx,hy⟩:=My hl;simp only[uA]at hx hy;obtain⟨s',rfl,hs⟩:=hx;subst hy;refine(Tryz.stringslite_IndexByte s' (Int.ofNat c) w).mono fun e w' ⟨he,hw⟩=>?_;subst hw;refine⟨_,he,?_,Below.refl _ _⟩;have hcc:(c.toUInt8).toNat=c:=by simp[Nat.toUInt8,UInt8.toNat_ofNat'];omega
 have:=KI c.toUInt8 s'.data.toList;rw[hcc,Nm hs]at this;rw[uA];show Value.int .i64 (Lib.indexByte s'.data.toList c.toUInt8)=_;rw[<- this];done
theorem FZ(hI:vI w)(hv:Gb args H=some v)(hl:iB μ args args'.toList) :
  (callFunc 220 args').run Tryz.prog w=.ok (.enter 220 args') w/\Calls Tryz.prog 220 args' w fun e w'=>∃v',e=.returned v'/\uA μ v v'/\Below w.heap.size w w':=by
 refine⟨Ba (fn:=Tryz.f220) Tryz.func220 (by kernel_rfl),?_⟩;unfold Gb at hv;split at hv
 case h_2=>cases hv
 rename_i s c;rw[fB,lC,jD]at hv;obtain⟨hlen,hv⟩:=hv;cases hv;obtain⟨x,y,rfl,hx,hy⟩:=My hl;rw[uA]at hx hy;obtain⟨s',rfl,hs⟩:=hx;obtain⟨c',rfl,hc⟩:=hy;obtain⟨m,hm⟩:=hI.most;have hsz:s'.size<4294967281:=by
  have:=congrArg List.length (Nm hs);simp at this;omega
 refine(Tryz.strings_Contains s' c' m w hsz hm).mono fun e w' ⟨he,hw⟩=>?_;subst hw;refine⟨_,he,?_,Below.refl _ _⟩;have:=MQ c'.data.toList s'.data.toList;rw[Nm hs,Nm hc]at this;rw[uA,this]
def NT(k:Nat)(os:Array Obj):Below w.heap.size w (Sort.grow (w.drewN k) os):=by
 refine⟨rfl,rfl,rfl,?_,fun j hj=>?_⟩
 ·simp[Sort.grow,World.drewN]
 ·show(w.heap++os)[j]?=w.heap[j]?;rw[yaj hj]
theorem FY(hI:vI w)(hv:Ga args H=some v)(hl:iB μ args args'.toList) :
  (callFunc 164 args').run Tryz.prog w=.ok (.enter 164 args') w/\Calls Tryz.prog 164 args' w fun e w'=>∃v',e=.returned v'/\uA μ v v'/\Below w.heap.size w w':=by
 refine⟨Ba (fn:=Tryz.f164) Tryz.func164 (by kernel_rfl),?_⟩;unfold Ga at hv;split at hv
 case h_2=>cases hv
 rename_i n;rw[fB,ybb]at hv;obtain⟨⟨h1,h2⟩,hv⟩:=hv;cases hv;rw[iB]at hl;obtain⟨x,r,he,hx,hr⟩:=hl;rw[iB]at hr;rw[uA]at hx;subst hr hx;have:args' = #[.int .i64 n]:=by apply yax.1;simpa using he
 subst this;have g1 : -9223372036854775808<=n:=(Qo _ _).1 h1;have g2:n<9223372036854775808:=(An _ _).1 h2;refine(Tryz.strconv_Itoa n g1 (by omega) w hI.tab).mono fun e w' ⟨he,k,os,hw⟩=>?_;subst hw;exact⟨_,he,by rw[uA];exact⟨_,rfl,rfl⟩,NT k os⟩
theorem FW(hI:vI w)(hv:Ka args H=some v)(hl:iB μ args args'.toList) :
  (callFunc 243 args').run Tryz.prog w=.ok (.enter 243 args') w/\Calls Tryz.prog 243 args' w fun e w'=>∃v',e=.returned v'/\uA μ v v'/\Below w.heap.size w w':=by
 refine⟨Ba (fn:=Tryz.f243) Tryz.func243 (by kernel_rfl),?_⟩;unfold Ka at hv;split at hv
 case h_2=>cases hv
 rename_i n b;rw[fB,ybb,ybb]at hv;obtain⟨⟨⟨h1,h2⟩,h3⟩,hv⟩:=hv;cases hv;obtain⟨x,y,rfl,hx,hy⟩:=My hl;rw[uA]at hx hy;subst hx hy;have g1:0<=n:=(Qo _ _).1 h1;have g2:n<18446744073709551616:=(An _ _).1 h2;obtain rfl:b=10:=(jU _ _).1 h3;obtain⟨u,rfl⟩:∃u:Nat,n=u:=⟨n.toNat,by omega⟩;refine(uint23 u (by omega) w hI.tab).mono fun e w' ⟨he,k,os,hw⟩=>?_;subst hw;exact⟨_,he,by rw[uA];exact⟨_,rfl,rfl⟩,NT k os⟩
end
section
variable {B N:Nat}{μ:Mu}{H H':wA}{w:World}{args:List zA}{args':Array Value}{v:zA}
def GA{base:Nat}(hbase:B<=base)(hH:jB B N μ H w)(hv:Cr base Kn args H=some (v,H'))(hl:iB μ args args'.toList) :
  (callFunc 104 args').run Tryz.prog w=.ok (.enter 104 args') w/\Calls Tryz.prog 104 args' w fun e w'=>∃v' μ',e=.returned v'/\μ.le μ'/\jB B N μ' H' w'/\Below N w w'/\uA μ' v v':=
 UO hbase (fun p hp b n w h1 h2 h3 h4=>by
  unfold Kn at hp;rcases ybs.1 hp with rfl | hp
  ·exact YS b n w h1 h2 (show 2<n from h3) h4
  ·obtain rfl:p=(92,2):=by simpa using hp
   exact YR b n w h1 h2 (show 1<n from h3) h4) (fun b w h=>YQ b w h) (fun w a=>Ba (fn:=Tryz.f104) Tryz.func104 (by kernel_rfl)) hH hv hl
def FX{base:Nat}(hbase:B<=base)(hH:jB B N μ H w)(hv:Fz base 5 args H=some (v,H'))(hl:iB μ args args'.toList) :
  (callFunc 47 args').run Tryz.prog w=.ok (.enter 47 args') w/\Calls Tryz.prog 47 args' w fun e w'=>∃v' μ',e=.returned v'/\μ.le μ'/\jB B N μ' H' w'/\Below N w w'/\uA μ' v v':=
 UN Tryz.lays169 Tryz.Builder_Extra_169 (f:=47) rfl hbase (fun w a=>Ba (fn:=Tryz.f47) Tryz.func47 (by kernel_rfl)) hH hv hl
end
def bQ{α:Type}{t:Tr α}{i j:Nat}{x y:α}(h:(t.set i x).get j=some y):(j=i/\x=y)\/t.get j=some y:=by
 rw[Tr.get_set]at h;split at h
 ·rename_i e;exact .inl ⟨e,yci h⟩
 ·exact .inr h
def FV(f0 N:Nat):Hv Tryz.prog (lQ f0) 256 N vI:=by
 intro f g hg args H v H' hv μ w args' hH hI hl;have hg:Oq.get f=some g:=hg;unfold Oq at hg;rcases bQ hg with⟨rfl,rfl⟩ | hg
 ·exact fX hv hH fun hv=>UF hv hl
 rcases bQ hg with⟨rfl,rfl⟩ | hg
 ·exact fX hv hH fun hv=>FZ hI hv hl
 rcases bQ hg with⟨rfl,rfl⟩ | hg
 ·exact fX hv hH fun hv=>FW hI hv hl
 rcases bQ hg with⟨rfl,rfl⟩ | hg
 ·exact fX hv hH fun hv=>FY hI hv hl
 rcases bQ hg with⟨rfl,rfl⟩ | hg
 ·exact .inr (FX (ybk _) hH hv hl)
 rcases bQ hg with⟨rfl,rfl⟩ | hg
 ·exact .inr (GA (ybk _) hH hv hl)
 ·rw[Tr.get_leaf]at hg;cases hg
def sim23v(f0 N:Nat)(hN:6<=N):rJ Tryz.prog (lQ f0) 256 N vI:=
 ⟨Sx rfl,Qw rfl,FV f0 N,ybk _,by kernel_rfl,fun _ _ hb h=>h.below hN hb⟩
def CC{C:fA}{f n:Nat}{args:List zA}{args':Array Value}{w:World}(hw:vI w)(hS:rJ Tryz.prog C 256 w.heap.size vI)(hroot:C.root=f)(hl:iB mu0 args args'.toList)
  (h:cC (aQ C n (tX C f args H23))=1):Calls Tryz.prog f args' w fun e w'=>e=.returned (.bool true)/\Below w.heap.size w w':=by
 obtain⟨H',hr⟩:=zjf h;unfold tX at hr;have stuck:∀(n k:Nat),aQ C n (.fail k)=.fail k:=by
  intro n;induction n with
  | zero=>intro k;rfl
  | succ n ih=>
   intro k;show aQ C n (aQ C n (.fail k))=_;rw[ih,ih]
 cases he:kL C f args false with
 | none=>
  rw[he]at hr;rw[stuck]at hr;cases hr
 | some g=>
  rw[he]at hr;refine(YV hS hw hroot (hrel23 hw) hl he hr).mono fun e w' ⟨v',μ',h1,_,h3,_,h5⟩=>?_;rw[uA]at h3;exact⟨by rw[h1,h3],h5⟩
def KJ:∀ {l:List (List Nat × List Nat)} {a b:List Nat},inW l a b=true->(a,b)∈l
 | [],_,_,h=>by cases h
 | p::r,a,b,h=>by
  unfold inW at h;rw[sD]at h;split at h
  ·rename_i e;rw[ybb]at e;have h1:=(rH _ _).1 e.1;have h2:=(rH _ _).1 e.2;rw[<- h1,<- h2];exact .head _
  ·exact .tail _ (KJ h)
def OY:∀p∈Sn,cC (aQ (lQ 22) 16 (tX (lQ 22) 22 [.str p.1,.str p.2] H23))=1:=by
 intro p hp;unfold Sn at hp;rcases ybs.1 hp with rfl | hp
 ·exact OX
 rcases ybs.1 hp with rfl | hp
 ·exact OW
 rcases ybs.1 hp with rfl | hp
 ·exact OV
 rcases ybs.1 hp with rfl | hp
 ·exact OU
 rcases ybs.1 hp with rfl | hp
 ·exact OT
 ·cases hp
def UE{μ:Mu}{H:wA}{w:World}{args:List zA}{args':Array Value}{v:zA}(hI:vI w)(hv:Xh args H=some v)(hl:iB μ args args'.toList) :
  (callFunc 22 args').run Tryz.prog w=.ok (.enter 22 args') w/\Calls Tryz.prog 22 args' w fun e w'=>∃v',e=.returned v'/\uA μ v v'/\Below w.heap.size w w':=by
 refine⟨Ba (fn:=Tryz.f22) Tryz.func22 (by kernel_rfl),?_⟩;unfold Xh at hv;split at hv
 case h_2=>cases hv
 rename_i a b;rw[fB]at hv;obtain⟨h1,hv⟩:=hv;cases hv;obtain⟨x,y,rfl,hx,hy⟩:=My hl;rw[uA]at hx hy;refine(CC hI (sim23v 22 w.heap.size hI.size) rfl (args' := #[x,y]) (.cons (by rw[uA];exact hx) (.single (by rw[uA];exact hy))) (OY _ (KJ h1))).mono fun e w' ⟨h1,h2⟩=>?_;exact⟨_,h1,by rw[uA],h2⟩
def UC(N:Nat):Hv Tryz.prog C23w 256 N vI:=by
 intro f g hg args H v H' hv μ w args' hH hI hl;have hg:Xb.get f=some g:=hg;unfold Xb at hg;rcases bQ hg with⟨rfl,rfl⟩ | hg
 ·exact fX hv hH fun hv=>UE hI hv hl
 ·exact FV 7 N f g hg args H v H' hv μ w args' hH hI hl
def sim23w(N:Nat)(hN:6<=N):rJ Tryz.prog C23w 256 N vI:=
 ⟨Sx rfl,Qw rfl,UC N,ybk _,by kernel_rfl,fun _ _ hb h=>h.below hN hb⟩
def ZG{w:World}(hw:vI w):Calls Tryz.prog 7 #[] w fun e w'=>e=.returned (.bool true)/\Below w.heap.size w w':=
 CC hw (sim23w _ hw.size) rfl .nil za2
theorem UG{μ:Mu}{H:wA}{w:World}{args:List zA}{args':Array Value}{v:zA}(hI:vI w)(hv:Oy args H=some v)(hl:iB μ args args'.toList) :
  (callFunc 7 args').run Tryz.prog w=.ok (.enter 7 args') w/\Calls Tryz.prog 7 args' w fun e w'=>∃v',e=.returned v'/\uA μ v v'/\Below w.heap.size w w':=by
 refine⟨Ba (fn:=Tryz.f7) Tryz.func7 (by kernel_rfl),?_⟩;unfold Oy at hv;split at hv
 case h_2=>cases hv
 cases hv;rw[iB]at hl;have:args' = #[]:=by apply yax.1;simpa using hl
 subst this;exact(ZG hI).mono fun e w' ⟨h1,h2⟩=>⟨_,h1,by rw[uA],h2⟩
end Go.Am
namespace Go.Am
open Go Go.RowKit
@[simp] theorem sE {α:Type} {x:Option α}:mB true x=x:=rfl
inductive D where
 | int (k:IntKind) (n:Int)
 | bool (b:Bool)
 | str (s:List Nat)
 | sl (sz:Nat) (l:List D)
 | st (l:List D)
def At (t:Tr sA)(b off:Nat)(cs:List zA):Prop:=∃c n lo,t.get b=some (.cells c n lo)/\∀(j:Nat) a,cs[j]?=some a->c.get (off+j)=some a
def tJ(t:Tr sA)(sz:Nat)(v:zA)(cl:List (List zA)):Prop:=
 (v=.nilslice/\cl=[])\/∃b off cap,v=.slice b off cl.length cap/\cl.length<=cap/\(∃c n lo,t.get b=some (.cells c n lo)/\(lo=none\/∃x,lo=some x/\x.es=sz))/\∀(i:Nat) cs,cl[i]?=some cs->cs.length=sz/\At t b (off+i*sz) cs
mutual
/-- cells read as data -/
def RD (t:Tr sA):D->List zA->Prop
 | .int k n,cs=>cs=[.int k n]
 | .bool b,cs=>cs=[.bool b]
 | .str s,cs=>cs=[.str s]
 | .sl sz l,cs=>∃a cl,cs=[a]/\tJ t sz a cl/\iC t l cl
 | .st l,cs=>∃cl,cs=cl.flatten/\iC t l cl
def iC (t:Tr sA):List D->List (List zA)->Prop
 | [],cl=>cl=[]
 | d::l,cl=>∃c r,cl=c::r/\RD t d c/\iC t l r
end
def yB (t t':Tr sA):Prop:=∀b y,t.get b=some y->t'.get b=some y
theorem yB.refl(t:Tr sA):yB t t:=fun _ _ h=>h
def yB.trans{a b c:Tr sA}(h:yB a b)(k:yB b c):yB a c:=fun x y e=>k x y (h x y e)
section
variable {t t':Tr sA}{C:fA}
theorem At.mono(h:yB t t'){b off:Nat}{cs:List zA}(k:At t b off cs):At t' b off cs:=by
 obtain⟨c,n,lo,h1,h2⟩:=k;exact⟨c,n,lo,h _ _ h1,h2⟩
theorem tJ.mono(h:yB t t'){sz:Nat}{v:zA}{cl:List (List zA)}(k:tJ t sz v cl):tJ t' sz v cl:=by
 rcases k with k | ⟨b,off,cap,h1,h3,⟨c,n,lo,h4,h5⟩,h2⟩
 ·exact .inl k
 ·exact .inr ⟨b,off,cap,h1,h3,⟨c,n,lo,h _ _ h4,h5⟩,fun i cs hi=>⟨(h2 i cs hi).1,(h2 i cs hi).2.mono h⟩⟩
mutual
theorem RD.mono(h:yB t t'):∀(d:D) (cs:List zA),RD t d cs->RD t' d cs
 | .int _ _,_,k=>k
 | .bool _,_,k=>k
 | .str _,_,k=>k
 | .sl _ l,_,⟨a,cl,h1,h2,h3⟩=>⟨a,cl,h1,h2.mono h,iC.mono h l cl h3⟩
 | .st l,_,⟨cl,h1,h2⟩=>⟨cl,h1,iC.mono h l cl h2⟩
theorem iC.mono(h:yB t t'):∀(l:List D) (cl:List (List zA)),iC t l cl->iC t' l cl
 | [],_,k=>k
 | d::l,_,⟨c,r,h1,h2,h3⟩=>⟨c,r,h1,RD.mono h d c h2,iC.mono h l r h3⟩
end
theorem iC.length:∀ {l:List D} {cl:List (List zA)},iC t l cl->cl.length=l.length:=by
 intro l;induction l with
 | nil=>grind [iC]
 | cons d l ih=>grind [iC]
theorem iC.get:∀ {l:List D} {cl:List (List zA)} {i:Nat} {d:D},iC t l cl->l[i]?=some d->∃cs,cl[i]?=some cs/\RD t d cs:=by
 intro l;induction l with
 | nil=>simp_all
 | cons e l ih=>
  grind [iC]
theorem iC.mk:∀ {l:List D} {cl:List (List zA)},cl.length=l.length->(∀(i:Nat) d cs,l[i]?=some d->cl[i]?=some cs->RD t d cs)->iC t l cl:=by
 intro l;induction l with
 | nil=>grind [iC]
 | cons e l ih=>
  intro cl h k
  cases cl with
  | nil=>simp at h
  | cons c r=>
   rw[iC];exact⟨c,r,rfl,k 0 e c (by simp) (by simp),ih (by grind) fun i d cs h1 h2=>k (i+1) d cs (by simp_all) (by simp_all)⟩
@[simp] theorem vP {k:IntKind} {n:Int} {cs:List zA}:RD t (.int k n) cs ↔ cs=[.int k n]:=Iff.rfl
@[simp] theorem oQ {b:Bool} {cs:List zA}:RD t (.bool b) cs ↔ cs=[.bool b]:=Iff.rfl
@[simp] theorem mR {s:List Nat} {cs:List zA}:RD t (.str s) cs ↔ cs=[.str s]:=Iff.rfl
def mA (t:Tr sA)(sz:Nat)(l:List D)(v:zA):Prop:=∃cl,tJ t sz v cl/\iC t l cl
theorem mA.mono(h:yB t t'){sz:Nat}{l:List D}{v:zA}(k:mA t sz l v):mA t' sz l v:=by
 obtain⟨cl,h1,h2⟩:=k;exact⟨cl,h1.mono h,iC.mono h _ _ h2⟩
theorem qM{sz:Nat}{l:List D}{cs:List zA}:RD t (.sl sz l) cs ↔ ∃v,cs=[v]/\mA t sz l v:=by
 rw[RD];constructor
 ·rintro⟨a,cl,rfl,h1,h2⟩;exact⟨a,rfl,cl,h1,h2⟩
 ·rintro⟨a,rfl,cl,h1,h2⟩;grind
theorem qJ{l:List D}{cs:List zA}:RD t (.st l) cs ↔ ∃cl,cs=cl.flatten/\iC t l cl:=by rw[RD]
theorem wI{cl:List (List zA)}:iC t [] cl ↔ cl=[]:=by rw[iC]
theorem jH{d:D}{l:List D}{cl:List (List zA)}:iC t (d::l) cl ↔ ∃c r,cl=c::r/\RD t d c/\iC t l r:=by rw[iC]
theorem mA.one{sz:Nat}{l:List D}{v:zA}(h:mA t sz l v):zA.one v=true:=by
 obtain⟨cl,h1,_⟩:=h;rcases h1 with⟨rfl,_⟩ | ⟨b,off,cap,rfl,_⟩
 ·decide
 ·rfl
theorem mA.len{sz:Nat}{l:List D}{v:zA}(h:mA t sz l v):aA v=some (.int .i64 (l.length:Int)):=by
 obtain⟨cl,h1,h2⟩:=h;have:=h2.length;rcases h1 with⟨rfl,rfl⟩ | ⟨b,off,cap,rfl,_⟩
 ·have:l.length=0:=this.symm;rw[this];rfl
 ·rw[<- this];rfl
theorem mA.same{sz d:Nat}{l:List D}{v:zA}(h:mA t sz l v):same d v v=true:=by
 obtain⟨cl,h1,_⟩:=h;rcases h1 with⟨rfl,_⟩ | ⟨b,off,cap,rfl,_⟩
 all_goals grind [Am.same,Nat.beq_refl]
theorem Ra{sz:Nat}{l:List D}{v:zA}(h:mA t sz l v):fU .nilslice v=true:=by
 obtain⟨cl,h1,_⟩:=h;rcases h1 with⟨rfl,_⟩ | ⟨b,off,cap,rfl,_⟩<;>rfl
theorem At.load{b off j n:Nat}{cs:List zA}(h:At t b off cs){ty:Nat}{y:eC}(hy:C.tys.get ty=some y)(ha:y.desc.isAgg=true)(hn:y.size=n)(hj:j+n<=cs.length):dA C ty ⟨0,t⟩ (.ptr b (off+j))=some (.agg ((cs.drop j).take n)):=by
 obtain⟨c,m,lo,h1,h2⟩:=h;unfold dA;simp only[zA.asPtr,pA];rw[hy,pA];unfold oD;rw[h1,pA];simp only[sA.asCells,pA];unfold xR;rw[ha,cond_true,hn];have key:∀(n j:Nat),j+n<=cs.length->c.many n (off+j)=some ((cs.drop j).take n):=by
  intro n;induction n with
  | zero=>intro j _;simp;rfl
  | succ n ih=>
   intro j hj;have hlt:j<cs.length:=by omega
   rw[Tr.many_succ,h2 j cs[j] (ybd hlt),pA,show off+j+1=off+(j+1) by omega,ih (j+1) (by omega),pA,ybl hlt,List.take_succ_cons]
 simp_all
theorem At.load1{b off j:Nat}{cs:List zA}{a:zA}(h:At t b off cs){ty:Nat}{y:eC}(hy:C.tys.get ty=some y)(ha:y.desc.isAgg=false)(hj:cs[j]?=some a):dA C ty ⟨0,t⟩ (.ptr b (off+j))=some a:=by
 obtain⟨c,m,lo,h1,h2⟩:=h
 simp_all [dA,zA.asPtr,oD,sA.asCells,xR]
structure rD (C:fA) (T el sz:Nat) (agg:Bool):Prop where
 ty:∃y,C.tys.get T=some y/\y.desc.asSlice=some el
 el:∃y,C.tys.get el=some y/\y.size=sz/\y.desc.isAgg=agg
def En(agg:Bool)(cs:List zA):zA:=if agg then .agg cs else match cs with | a::_=>a | []=>.nilptr
theorem rD.at{T el sz:Nat}{agg:Bool}(h:rD C T el sz agg)(h1:agg=false->sz=1){l:List D}{v:zA}(hr:mA t sz l v){i:Nat}{d:D}(hi:l[i]?=some d) :
  ∃b off cs,rB C T v (.int .i64 (i:Int))=some (.ptr b off)/\dA C el ⟨0,t⟩ (.ptr b off)=some (En agg cs)/\At t b off cs/\cs.length=sz/\RD t d cs:=by
 obtain⟨⟨y,hy1,hy2⟩,⟨z,hz1,hz2,hz3⟩⟩:=h;obtain⟨cl,he,hd⟩:=hr;obtain⟨cs,hc,hrd⟩:=hd.get hi;rcases he with⟨rfl,rfl⟩ | ⟨b,off,cap,rfl,_,_,he⟩
 ·simp at hc
 ·obtain⟨hl,ha⟩:=he i cs hc;have hlt:i<cl.length:=(ybc.1 hc).1;refine⟨b,off+i*sz,cs,?_,?_,ha,hl,hrd⟩
  ·unfold rB;rw[hy1,pA];have:(zA.int .i64 (i:Int)).asNat=some i:=rfl;rw[this,pA];simp only[zA.asSlice];rw[hy2,pA,hz1,pA,lC.2 hlt,hz2];rfl
  ·cases agg with
   | true=>
    have:=ha.load (j:=0) hz1 hz3 hz2 (by omega);simp only[yct,ycr]at this;rw[this,<- hl,List.take_length];rfl
   | false=>
    have hs:=h1 rfl
    cases cs with
    | nil=>simp_all
    | cons a r=>
     have:=ha.load1 (j:=0) (a:=a) hz1 hz3 (by simp);rw[yct]at this;rw[this];rfl
end
section
variable {t:Tr sA}{C:fA}
theorem rD.front{T el sz:Nat}{agg:Bool}(h:rD C T el sz agg){l:List D}{v:zA}(hr:mA t sz l v){k:Nat}(hk:k<=l.length) :
  ∃v',zE C T ⟨0,t⟩ v none (some (.int .i64 (k:Int)))=some v'/\mA t sz (l.take k) v':=by
 obtain⟨⟨y,hy1,hy2⟩,⟨z,hz1,hz2,hz3⟩⟩:=h;obtain⟨cl,he,hd⟩:=hr;have hlen:=hd.length;unfold zE;rw[hy1,pA];have hb:∀y,mW y (.int .i64 (k:Int))=mB (Nat.ble k y) (some k):=fun y=>rfl;rcases he with⟨rfl,rfl⟩ | ⟨b,off,cap,rfl,hcap,⟨c,n,lo,hg,hlo⟩,he⟩
 ·have:k=0:=by grind
  subst this;refine⟨.nilslice,?_,[],.inl ⟨rfl,rfl⟩,by simp[iC]⟩;unfold bL;simp only[zA.asStr,zA.asSlice,zA.asPtr];rw[hy2,pA,hz1,pA];rfl
 ·refine⟨.slice b off k cap,?_,cl.take k,.inr ⟨b,off,cap,?_,?_,⟨c,n,lo,hg,hlo⟩,fun i cs hi=>?_⟩,?_⟩
  ·unfold bL;simp only[zA.asStr,zA.asSlice];rw[hy2,pA];unfold sN;rw[hz1,pA];unfold xP Be;simp only[hb];rw[show Nat.ble k cap=true from rF.2 (by omega)];simp only[sE,pA];have he2:pL ⟨0,t⟩ b z.size cap 0 false=false:=by
    unfold pL oD;rw[hg,pA];simp only[sA.asCells];rcases hlo with rfl | ⟨x,rfl,hx⟩
    ·rfl
    ·simp
   rw[he2,yay,cond_false];have hf:cL ⟨0,t⟩ b z.size cap 0 false=true:=by
    unfold cL oD;rw[hg,pA];simp only[sA.asCells];rcases hlo with rfl | ⟨x,rfl,hx⟩
    all_goals simp_all
   rw[show Nat.ble k cap=true from rF.2 (by omega),hf];simp only[Bool.and_self,sE];congr 1;cases hq:Nat.beq cap 0<;>simp
  ·simp_all
  ·grind
  ·grind
  ·refine iC.mk (by simp_all) fun i d cs h1 h2=>?_;rw[ydf]at h1 h2;split at h1
   ·rename_i e;rw[yab e]at h2;obtain⟨cs',h3,h4⟩:=hd.get h1
    simp_all
   grind
end
mutual
def D.zs:D->List zA
 | .int k _=>[.int k 0]
 | .bool _=>[.bool false]
 | .str _=>[.str []]
 | .sl _ _=>[.nilslice]
 | .st l=>D.zss l
def D.zss:List D->List zA
 | []=>[]
 | d::l=>d.zs++D.zss l
end
def LJ:∀(z z' l l':List zA),cO z l=true->cO z' l'=true->cO (z++z') (l++l')=true
 | [],_,[],_,_,h=>h
 | a::z,z',b::l,l',h,k=>by
  unfold cO at h;rw[ybb]at h;show(fU a b&&cO (z++z') (l++l'))=true;rw[h.1,LJ z z' l l' h.2 k];rfl
 | [],_,_::_,_,h,_=>by cases h
 | _::_,_,[],_,h,_=>by cases h
mutual
theorem Qz{t:Tr sA}:∀(d:D) (cs:List zA),RD t d cs->cO d.zs cs=true
 | .int k n,cs,h=>by
  rw[RD]at h;subst h;show(fU (.int k 0) (.int k n)&&true)=true
  grind [fU,zA.asIntK,dK]
 | .bool _,cs,h=>by rw[RD]at h;subst h;rfl
 | .str _,cs,h=>by rw[RD]at h;subst h;rfl
 | .sl sz l,cs,h=>by
  rw[qM]at h;obtain⟨v,rfl,h⟩:=h;show(fU .nilslice v&&true)=true;rw[Ra h];rfl
 | .st l,cs,h=>by
  rw[qJ]at h;obtain⟨cl,rfl,h⟩:=h;show cO (D.zss l) cl.flatten=true;exact LH l cl h
theorem LH{t:Tr sA}:∀(l:List D) (cl:List (List zA)),iC t l cl->cO (D.zss l) cl.flatten=true
 | [],cl,h=>by rw[iC]at h;subst h;rfl
 | d::l,cl,h=>by
  rw[iC]at h;obtain⟨c,r,rfl,h1,h2⟩:=h;show cO (d.zs++D.zss l) (c::r).flatten=true;rw[yas];exact LJ _ _ _ _ (Qz d c h1) (LH l r h2)
end
theorem aB{k:IntKind}{n:Int}:Dc k (.int k n)=some n:=by unfold Dc;simp only[zA.asIntK,pA];rw[dK.2 rfl];rfl
def Dx{b:Bool}:(zA.bool b).asBool=some b:=rfl
def NU{s:List Nat}:(zA.str s).asStr=some s:=rfl
theorem lT{d:Nat}{k:IntKind}{n:Int}:same d (.int k n) (.int k n)=true:=by
 cases d<;>simp[same,dK,jU]
theorem Vx{d:Nat}{b:Bool}:same d (.bool b) (.bool b)=true:=by cases d<;>simp[same,dS]
theorem nO{d:Nat}{s:List Nat}:same d (.str s) (.str s)=true:=by cases d<;>simp[same,rH]
theorem wrap_i64{n:Int}(h1 : -9223372036854775808<=n)(h2:n<9223372036854775808):iA .i64 n=n:=by
 grind [wN,IntKind.wrap,IntKind.bits,IntKind.signed]
def aF{t:Tr sA}{d:D}{cs zs:List zA}(h:RD t d cs)(hz:d.zs=zs):cN zs (.agg cs)=some (cellsOf cs):=by
 unfold cN;simp only[zA.asAgg,pA];rw[<- hz,Qz d cs h];rfl
theorem Hq{zs l:List zA}(h:cO zs l=true):cN zs (.agg l)=some (cellsOf l):=by
 simp_all [cN,zA.asAgg]
end Go.Am
