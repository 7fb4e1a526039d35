/- Seat 23: strconv.FormatUint at base 10. -/
import Derived.KernelRfl
import Derived.Lib.AppendIntMem
import Derived.ProofKit
import Derived.Test.YtmmedgeabnpnhaaGreatDoorA09
import Derived.Test.YtmmedgeabnpnhaaGreatDoorA10
import Derived.Test.YtmmedgeabnpnhaaGreatDoorA11
import Derived.Test.YtmmedgeabnpnhaaGreatDoorA12
import Derived.Test.YtmmedgeabnpnhaaGreatDoorA13
import Derived.Test.YtmmedgeabnpnhaaGreatDoorA14
import Derived.Test.YtmmedgeabnpnhaaGreatDoorA15
set_option linter.all false
noncomputable section
namespace Go.Proofs
open Go Go.Shelf Go.RowKit Go.Sort Go.Lib
set_option maxHeartbeats 1000000 in
set_option maxRecDepth 100000 in
def MS(u:Nat)(hi:u<100)(w:World) :
  Calls Tryz.prog 262 #[.int .u64 u,.int .i64 10] w fun e w'=>e=.returned (.string ⟨(Lib.itoa u).toArray⟩)/\∃k os,w'=Sort.grow (w.drewN k) os:=by
 have hi':(u:Int)<100:=by omega
 have hw:IntKind.i64.wrap (u:Int)=u:=by rw[IntKind.wrap_i64];omega
 go_enter Tryz.func262,Tryz.ntmps262
 go_wp2_with (go_at_fn 264)
 refine(Tryz.internal_strconv_small u hi _).mono ?_;rintro e w' ⟨rfl,rfl⟩
 go_wp2
 go_ret
 refine⟨?_,0,#[],by simp[World.drewN_zero,Sort.grow]⟩;rw[Lib.itoa_nonneg];rfl
set_option maxHeartbeats 4000000 in
set_option maxRecDepth 100000 in
def MT (u : Nat) (hu : 100 <= u) (hu64 : u < 18446744073709551616) (w : World) (htab : Lib.TabIs Tryz.prog w "internal/strconv.uint64pow10" .u64 Lib.pow10Tab) :
  Calls Tryz.prog 262 #[.int .u64 u,.int .i64 10] w fun e w'=>e=.returned (.string ⟨(Lib.itoa u).toArray⟩)/\∃k os,w'=Sort.grow (w.drewN k) os:=by
 have hu':(100:Int)<=(u:Int):=by omega
 have hu1:1<=u:=by omega
 have hnd20:Lib.nDigits u<=20:=by have:=Lib.numDigits_eq u hu1 hu64;split at this<;>omega
 have hal:Tryz.prog.arrayLen 258=24:=by kernel_rfl
 have hel:Tryz.prog.elem 258=5:=by kernel_rfl
 have hsl:∀W,(Instr.sliceAt 258 (.pointer (some ⟨w.heap.size,0,none⟩)) none (some (.int .i64 (Lib.nDigits u:Int))) none).run Tryz.prog W=.ok (.slice (some ⟨w.heap.size,0,none⟩) (Lib.nDigits u) 24) W:=fun W=>by
  rw[run_sliceAt_array_h W 258 ⟨w.heap.size,0,none⟩ (by rw[hal,hel];exact Tryz.underlying258) .i64 (Lib.nDigits u:Int) (by omega) (by rw[hal];omega)];rw[hal,hel,Tryz.sizeOf5];simp[slicedAt,Addr.add]
 have hH0:=Lib.holds_zero0 w 258 (Lib.nDigits u) (by omega);have hfmt:=Tryz.internal_strconv_formatBase10 w.heap.size 0 24 u (Array.replicate (Lib.nDigits u) 0) (w.alloc (.cells Lib.zeros24 258)) hH0 (by rw[Array.size_replicate];exact Lib.lt_pow_nDigits u) hu64 (by rw[Array.size_replicate];omega);rw[Array.size_replicate]at hfmt;have HH0:=Lib.hid hH0;clear hH0 hal hel
 go_enter Tryz.func262,Tryz.ntmps262
 go_wp2_with (go_at_fn 265)
 refine(Tryz.internal_strconv_numDigits u hu1 hu64 _ (Lib.tabIs_alloc htab _)).mono ?_;rintro e w' ⟨rfl,rfl⟩
 go_wp2_with (go_at_fn 266)
 refine hfmt.mono ?_;rintro e w' ⟨rfl,k,v',dk,rfl,hF⟩;have hcv:(convert 90 9 (.slice (some ⟨w.heap.size,0,none⟩) (Lib.nDigits u) 24)).run Tryz.prog ((putRow (fun(b:UInt8)=>Value.int .u8 (b.toNat:Int)) (w.alloc (.cells Lib.zeros24 258)) w.heap.size 0 dk).drewN k)=.ok (.string ⟨(Lib.decDigits u).toArray⟩) ((putRow (fun(b:UInt8)=>Value.int .u8 (b.toNat:Int)) (w.alloc (.cells Lib.zeros24 258)) w.heap.size 0 dk).drewN k):=by
  have h:=run_convert_bytes_back (P:=Tryz.prog) ((putRow (fun(b:UInt8)=>Value.int .u8 (b.toNat:Int)) (w.alloc (.cells Lib.zeros24 258)) w.heap.size 0 dk).drewN k) 90 9 5 ⟨w.heap.size,0,none⟩ 24 (Lib.decDigits u) Tryz.underlying90 Tryz.underlying5 Tryz.underlying9 (fun j hj=>by
   rw[Lib.row_is_numeral hF j hj,Lib.add_plain,World.cell?_drewN];exact cell?_putRow (fun(b:UInt8)=>Value.int .u8 (b.toNat:Int)) _ w.heap.size 0 _ dk HH0.out (by rw[hF.size,Array.size_replicate]) j (by rw[hF.size];rw[Lib.decDigits_length]at hj;exact hj))
  rw[Lib.decDigits_length]at h;exact h
 go_wp2
 go_ret
 obtain⟨os,eo⟩:=Lib.fin_at w (.cells Lib.zeros24 258) dk k 0;refine⟨?_,k,os,eo⟩;rw[Lib.itoa_nonneg];rfl
set_option maxHeartbeats 1000000 in
set_option maxRecDepth 100000 in
def uint23 (u : Nat) (hu64 : u < 18446744073709551616) (w : World) (htab : Lib.TabIs Tryz.prog w "internal/strconv.uint64pow10" .u64 Lib.pow10Tab) :
  Calls Tryz.prog 243 #[.int .u64 u,.int .i64 10] w fun e w'=>e=.returned (.string ⟨(Lib.itoa u).toArray⟩)/\∃k os,w'=Sort.grow (w.drewN k) os:=by
 have key:Calls Tryz.prog 262 #[.int .u64 u,.int .i64 10] w fun e w'=>e=.returned (.string ⟨(Lib.itoa u).toArray⟩)/\∃k os,w'=Sort.grow (w.drewN k) os:=by
  by_cases h:u<100
  ·exact MS u h w
  ·exact MT u (by omega) hu64 w htab
 go_enter Tryz.func243,Tryz.ntmps243
 go_wp2_with (go_at_fn 262)
 refine key.mono ?_;rintro e w' ⟨rfl,k,os,rfl⟩
 go_wp2
 go_ret
 exact⟨rfl,k,os,rfl⟩
end Go.Proofs
set_option maxRecDepth 100000
namespace Go.Am
open Go Go.RowKit Go.Proofs
def MX:allT (fun t ty=>match Fi Tryz.prog t with | some u=>eqTy u ty | none=>false) tys (fun n=>n)=true:=by kernel_rfl
def Pb{C:oA}(hC:C.tys=tys):qE Tryz.prog C:=by
 intro t ty h;rw[hC]at h;have:=ze1 tys _ MX t ty h
 cases hu:Fi Tryz.prog t with
 | none=>rw[hu]at this;cases this
 | some u=>rw[hu]at this;rw[zej this]
def TN : (Tryz.funcs.toList.all fun fn => !(fn.name == "runtime.NumGoroutine")) = true := by kernel_rfl
def Mv{C:oA}(hC:C.fns=fns):nY Tryz.prog C:=by
 intro f fn h;rw[hC]at h;unfold fns at h;rw[Tr.get_ofList]at h;have h2:Tryz.prog.funcs[f]?=some fn:=by
  show Tryz.funcs[f]?=some fn;simpa using h
 refine⟨h2,?_⟩;have:=ycb.1 TN fn (ycv h);simpa using this
def u64s (l:List Int):List Value:=l.map fun n=>.int .u64 n
def Xk{μ:Mu}:∀l:List Int,pB μ (lV .u64 l) (u64s l)
 | []=>.nil
 | b::l=>.cons (by rw[vA]) (Xk l)
structure vH (w:World):Prop where
 kinds:∃t,w.heap[0]?=some (.cells (qL gM).toArray t (0,0))
 modes:∃t,w.heap[1]?=some (.cells (qL kM).toArray t (0,0))
 lens:∃t,w.heap[2]?=some (.cells (pX zO).toArray t (0,0))
 most:∃m,w.cell? ⟨5,0,none⟩=some (.int .i64 m)
 pow:∃t,w.heap[4]?=some (.cells (u64s zT).toArray t (0,0))
def vH.size{w:World}(h:vH w):6<=w.heap.size:=by
 obtain⟨m,h⟩:=h.most;refine Nat.lt_of_not_le fun hn=>?_;have e:w.heap[5]?=none:=Array.getElem?_eq_none (by omega);unfold World.cell? at h;simp[e]at h
def vH.below{w w':World}{N:Nat}(hN:6<=N)(h:vH w)(hb:Below N w w'):vH w':=by
 refine⟨?_,?_,?_,?_,?_⟩
 ·obtain⟨t,h⟩:=h.kinds;exact⟨t,by rw[hb.block 0 (by omega)];exact h⟩
 ·obtain⟨t,h⟩:=h.modes;exact⟨t,by rw[hb.block 1 (by omega)];exact h⟩
 ·obtain⟨t,h⟩:=h.lens;exact⟨t,by rw[hb.block 2 (by omega)];exact h⟩
 ·obtain⟨m,h⟩:=h.most;exact⟨m,by rw[hb.cell (p:=⟨5,0,none⟩) (by show 5<N;omega)];exact h⟩
 ·obtain⟨t,h⟩:=h.pow;exact⟨t,by rw[hb.block 4 (by omega)];exact h⟩
def vH.tab {w : World} (h : vH w) : Lib.TabIs Tryz.prog w "internal/strconv.uint64pow10" .u64 Lib.pow10Tab := by
 obtain⟨t,h⟩:=h.pow;have hg : Tryz.prog.globalNamed "internal/strconv.uint64pow10" = some 4 := by kernel_rfl
 unfold Lib.TabIs World.var?;rw[hg];simp only[yai,h];rfl
def hrel23{w:World}(h:vH w):sB 256 w.heap.size mu0 H23 w:=by
 have hget:∀a x,H23.t.get a=some x->(a=0/\x=.cells (Tr.ofList (dW gM)) (rB (dW gM)) none)\/(a=1/\x=.cells (Tr.ofList (dW kM)) (rB (dW kM)) none)\/(a=2/\x=.cells (Tr.ofList (lV .i64 zO)) (rB (lV .i64 zO)) none)\/(a=4/\x=.cells (Tr.ofList (lV .u64 zT)) (rB (lV .u64 zT)) none):=by
  intro a x hx;have hx:(glob 0 (dW gM) (glob 1 (dW kM) (glob 2 (lV .i64 zO) (glob 4 (lV .u64 zT) .leaf)))).get a=some x:=hx;unfold glob at hx;rw[Tr.get_set,Tr.get_set,Tr.get_set,Tr.get_set]at hx;split at hx
  ·rename_i e;exact .inl ⟨e,(yci hx).symm⟩
  ·split at hx
   ·rename_i e;exact .inr (.inl ⟨e,(yci hx).symm⟩)
   ·split at hx
    ·rename_i e;exact .inr (.inr (.inl ⟨e,(yci hx).symm⟩))
    ·split at hx
     ·rename_i e;exact .inr (.inr (.inr ⟨e,(yci hx).symm⟩))
     ·rw[Tr.get_leaf]at hx;cases hx
 have hsz:=h.size;refine⟨ybk _,fun g hg=>by simp[mu0,hg],fun a x i _ hx hi=>?_,ybk _,ybk _,fun a ha=>?_,fun a x i hx hi=>?_,fun a i ha hi=>?_,fun a b x y i j hx _ _ _ ha _ _=>?_,fun a x t ha=>by cases ha⟩
 ·rcases hget a x hx with⟨rfl,rfl⟩ | ⟨rfl,rfl⟩ | ⟨rfl,rfl⟩ | ⟨rfl,rfl⟩<;>cases hi<;>exact⟨Nat.lt_of_lt_of_le (by decide) hsz,rfl,rfl⟩
 ·have ha:256<=a:=ha;refine⟨by simp[mu0];omega,?_⟩
  cases hx:H23.t.get a with
  | none=>rfl
  | some x=>rcases hget a x hx with⟨rfl,_⟩ | ⟨rfl,_⟩ | ⟨rfl,_⟩ | ⟨rfl,_⟩<;>omega
 ·rcases hget a x hx with⟨rfl,rfl⟩ | ⟨rfl,rfl⟩ | ⟨rfl,rfl⟩ | ⟨rfl,rfl⟩
  ·obtain⟨t,h⟩:=h.kinds;cases hi;exact⟨_,h,Nj (Qz gM) t⟩
  ·obtain⟨t,h⟩:=h.modes;cases hi;exact⟨_,h,Nj (Qz kM) t⟩
  ·obtain⟨t,h⟩:=h.lens;cases hi;exact⟨_,h,Nj (GP zO) t⟩
  ·obtain⟨t,h⟩:=h.pow;cases hi;exact⟨_,h,Nj (Xk zT) t⟩
 ·simp[mu0]at hi;omega
 ·rcases hget a x hx with⟨rfl,_⟩ | ⟨rfl,_⟩ | ⟨rfl,_⟩ | ⟨rfl,_⟩<;>omega
def Jv{s:ByteArray}{l:List Nat}(h:fE s=l):s.data.toList.map UInt8.toNat=l:=h
def dX{f:Nat}{fn:Func}(hf:Tryz.funcs[f]?=some fn)(hb:fn.body.isSome=true){args:Array Value}{w:World}:(callFunc f args).run Tryz.prog w=.ok (.enter f args) w:=
 Kf (C:=C23w) (Mv rfl) (show fns.get f=some fn by unfold fns;rw[Tr.get_ofList];simpa using hf) hb
section
variable {B N:Nat}{μ:Mu}{H:xA}{w:World}{args:List zA}{args':Array Value}{v:zA}
def Ji{a b:zA}(h:pB μ [a,b] args'.toList):∃x y,args' = #[x,y]/\vA μ a x/\vA μ b y:=by
 rw[pB]at h;obtain⟨x,r,h1,h2,h3⟩:=h;rw[pB]at h3;obtain⟨y,r',h4,h5,h6⟩:=h3;rw[pB]at h6;subst h4 h6;exact⟨x,y,by apply yax.1;simpa using h1,h2,h5⟩
def SD(hv:Su args H=some v)(hl:pB μ args args'.toList) :
  (callFunc 278 args').run Tryz.prog w=.ok (.enter 278 args') w/\Calls Tryz.prog 278 args' w fun e w'=>∃v',e=.returned v'/\vA μ v v'/\Below w.heap.size w w':=by
 refine⟨dX (fn:=Tryz.f278) Tryz.func278 (by kernel_rfl),?_⟩;unfold Su at hv;split at hv
 case h_2=>cases hv
 rename_i s c;rw[oB,vC]at hv;obtain⟨hc,hv⟩:=hv;cases hv;obtain⟨x,y,rfl,hx,hy⟩:=Ji hl;simp only[vA]at hx hy;obtain⟨s',rfl,hs⟩:=hx;subst hy;refine(Tryz.stringslite_IndexByte s' (Int.ofNat c) w).mono fun e w' ⟨he,hw⟩=>?_;subst hw;refine⟨_,he,?_,Below.refl _ _⟩;have hcc:(c.toUInt8).toNat=c:=by simp[Nat.toUInt8,UInt8.toNat_ofNat'];omega
 have:=GS c.toUInt8 s'.data.toList;rw[hcc,Jv hs]at this;rw[vA];show Value.int .i64 (Lib.indexByte s'.data.toList c.toUInt8)=_;rw[<- this];done
theorem CK(hI:vH w)(hv:Ck args H=some v)(hl:pB μ args args'.toList) :
  (callFunc 220 args').run Tryz.prog w=.ok (.enter 220 args') w/\Calls Tryz.prog 220 args' w fun e w'=>∃v',e=.returned v'/\vA μ v v'/\Below w.heap.size w w':=by
 refine⟨dX (fn:=Tryz.f220) Tryz.func220 (by kernel_rfl),?_⟩;unfold Ck at hv;split at hv
 case h_2=>cases hv
 rename_i s c;rw[oB,vC,vD]at hv;obtain⟨hlen,hv⟩:=hv;cases hv;obtain⟨x,y,rfl,hx,hy⟩:=Ji hl;rw[vA]at hx hy;obtain⟨s',rfl,hs⟩:=hx;obtain⟨c',rfl,hc⟩:=hy;obtain⟨m,hm⟩:=hI.most;have hsz:s'.size<4294967281:=by
  have:=congrArg List.length (Jv hs);simp at this;omega
 refine(Tryz.strings_Contains s' c' m w hsz hm).mono fun e w' ⟨he,hw⟩=>?_;subst hw;refine⟨_,he,?_,Below.refl _ _⟩;have:=JA c'.data.toList s'.data.toList;rw[Jv hs,Jv hc]at this;rw[vA,this]
def KB(k:Nat)(os:Array Obj):Below w.heap.size w (Sort.grow (w.drewN k) os):=by
 refine⟨rfl,rfl,rfl,?_,fun j hj=>?_⟩
 ·simp[Sort.grow,World.drewN]
 ·show(w.heap++os)[j]?=w.heap[j]?;rw[yaj hj]
theorem CJ(hI:vH w)(hv:Cj args H=some v)(hl:pB μ args args'.toList) :
  (callFunc 164 args').run Tryz.prog w=.ok (.enter 164 args') w/\Calls Tryz.prog 164 args' w fun e w'=>∃v',e=.returned v'/\vA μ v v'/\Below w.heap.size w w':=by
 refine⟨dX (fn:=Tryz.f164) Tryz.func164 (by kernel_rfl),?_⟩;unfold Cj at hv;split at hv
 case h_2=>cases hv
 rename_i n;rw[oB,ybb]at hv;obtain⟨⟨h1,h2⟩,hv⟩:=hv;cases hv;rw[pB]at hl;obtain⟨x,r,he,hx,hr⟩:=hl;rw[pB]at hr;rw[vA]at hx;subst hr hx;have:args' = #[.int .i64 n]:=by apply yax.1;simpa using he
 subst this;have g1 : -9223372036854775808<=n:=(Mn _ _).1 h1;have g2:n<9223372036854775808:=(oX _ _).1 h2;refine(Tryz.strconv_Itoa n g1 (by omega) w hI.tab).mono fun e w' ⟨he,k,os,hw⟩=>?_;subst hw;exact⟨_,he,by rw[vA];exact⟨_,rfl,rfl⟩,KB k os⟩
theorem CG(hI:vH w)(hv:Gm args H=some v)(hl:pB μ args args'.toList) :
  (callFunc 243 args').run Tryz.prog w=.ok (.enter 243 args') w/\Calls Tryz.prog 243 args' w fun e w'=>∃v',e=.returned v'/\vA μ v v'/\Below w.heap.size w w':=by
 refine⟨dX (fn:=Tryz.f243) Tryz.func243 (by kernel_rfl),?_⟩;unfold Gm at hv;split at hv
 case h_2=>cases hv
 rename_i n b;rw[oB,ybb,ybb]at hv;obtain⟨⟨⟨h1,h2⟩,h3⟩,hv⟩:=hv;cases hv;obtain⟨x,y,rfl,hx,hy⟩:=Ji hl;rw[vA]at hx hy;subst hx hy;have g1:0<=n:=(Mn _ _).1 h1;have g2:n<18446744073709551616:=(oX _ _).1 h2;obtain rfl:b=10:=(vS _ _).1 h3;obtain⟨u,rfl⟩:∃u:Nat,n=u:=⟨n.toNat,by omega⟩;refine(uint23 u (by omega) w hI.tab).mono fun e w' ⟨he,k,os,hw⟩=>?_;subst hw;exact⟨_,he,by rw[vA];exact⟨_,rfl,rfl⟩,KB k os⟩
end
section
variable {B N:Nat}{μ:Mu}{H H':xA}{w:World}{args:List zA}{args':Array Value}{v:zA}
def CL{base:Nat}(hbase:B<=base)(hH:sB B N μ H w)(hv:mZ base Gy args H=some (v,H'))(hl:pB μ args args'.toList) :
  (callFunc 104 args').run Tryz.prog w=.ok (.enter 104 args') w/\Calls Tryz.prog 104 args' w fun e w'=>∃v' μ',e=.returned v'/\μ.le μ'/\sB B N μ' H' w'/\Below N w w'/\vA μ' v v':=
 SP hbase (fun p hp b n w h1 h2 h3 h4=>by
  unfold Gy at hp;rcases ybs.1 hp with rfl | hp
  ·exact YF b n w h1 h2 (show 2<n from h3) h4
  ·obtain rfl:p=(92,2):=by simpa using hp
   exact YE b n w h1 h2 (show 1<n from h3) h4) (fun b w h=>YD b w h) (fun w a=>dX (fn:=Tryz.f104) Tryz.func104 (by kernel_rfl)) hH hv hl
def CH{base:Nat}(hbase:B<=base)(hH:sB B N μ H w)(hv:Ci base 5 args H=some (v,H'))(hl:pB μ args args'.toList) :
  (callFunc 47 args').run Tryz.prog w=.ok (.enter 47 args') w/\Calls Tryz.prog 47 args' w fun e w'=>∃v' μ',e=.returned v'/\μ.le μ'/\sB B N μ' H' w'/\Below N w w'/\vA μ' v v':=
 SO Tryz.lays169 Tryz.Builder_Extra_169 (f:=47) rfl hbase (fun w a=>dX (fn:=Tryz.f47) Tryz.func47 (by kernel_rfl)) hH hv hl
end
def aO{α:Type}{t:Tr α}{i j:Nat}{x y:α}(h:(t.set i x).get j=some y):(j=i/\x=y)\/t.get j=some y:=by
 rw[Tr.get_set]at h;split at h
 ·rename_i e;exact .inl ⟨e,yci h⟩
 ·exact .inr h
def CF(f0 N:Nat):Ee Tryz.prog (lO f0) 256 N vH:=by
 intro f g hg args H v H' hv μ w args' hH hI hl;have hg:Ks.get f=some g:=hg;unfold Ks at hg;rcases aO hg with⟨rfl,rfl⟩ | hg
 ·exact cU hv hH fun hv=>SD hv hl
 rcases aO hg with⟨rfl,rfl⟩ | hg
 ·exact cU hv hH fun hv=>CK hI hv hl
 rcases aO hg with⟨rfl,rfl⟩ | hg
 ·exact cU hv hH fun hv=>CG hI hv hl
 rcases aO hg with⟨rfl,rfl⟩ | hg
 ·exact cU hv hH fun hv=>CJ hI hv hl
 rcases aO hg with⟨rfl,rfl⟩ | hg
 ·exact .inr (CH (ybk _) hH hv hl)
 rcases aO hg with⟨rfl,rfl⟩ | hg
 ·exact .inr (CL (ybk _) hH hv hl)
 ·rw[Tr.get_leaf]at hg;cases hg
def sim23v(f0 N:Nat)(hN:6<=N):sI Tryz.prog (lO f0) 256 N vH:=
 ⟨Pb rfl,Mv rfl,CF f0 N,ybk _,by kernel_rfl,fun _ _ hb h=>h.below hN hb⟩
def Xq{C:oA}{f n:Nat}{args:List zA}{args':Array Value}{w:World}(hw:vH w)(hS:sI Tryz.prog C 256 w.heap.size vH)(hroot:C.root=f)(hl:pB mu0 args args'.toList)
  (h:uF (zP C n (kU C f args H23))=1):Calls Tryz.prog f args' w fun e w'=>e=.returned (.bool true)/\Below w.heap.size w w':=by
 obtain⟨H',hr⟩:=zed h;unfold kU at hr;have stuck:∀(n k:Nat),zP C n (.fail k)=.fail k:=by
  intro n;induction n with
  | zero=>intro k;rfl
  | succ n ih=>
   intro k;show zP C n (zP C n (.fail k))=_;rw[ih,ih]
 cases he:oK C f args false with
 | none=>
  rw[he]at hr;rw[stuck]at hr;cases hr
 | some g=>
  rw[he]at hr;refine(YJ hS hw hroot (hrel23 hw) hl he hr).mono fun e w' ⟨v',μ',h1,_,h3,_,h5⟩=>?_;rw[vA]at h3;exact⟨by rw[h1,h3],h5⟩
def GU:∀ {l:List (List Nat × List Nat)} {a b:List Nat},inW l a b=true->(a,b)∈l
 | [],_,_,h=>by cases h
 | p::r,a,b,h=>by
  unfold inW at h;rw[eC]at h;split at h
  ·rename_i e;rw[ybb]at e;have h1:=(fH _ _).1 e.1;have h2:=(fH _ _).1 e.2;rw[<- h1,<- h2];exact .head _
  ·exact .tail _ (GU h)
def LI:∀p∈Oo,uF (zP (lO 22) 16 (kU (lO 22) 22 [.str p.1,.str p.2] H23))=1:=by
 intro p hp;unfold Oo at hp;rcases ybs.1 hp with rfl | hp
 ·exact LH
 rcases ybs.1 hp with rfl | hp
 ·exact LG
 rcases ybs.1 hp with rfl | hp
 ·exact LF
 rcases ybs.1 hp with rfl | hp
 ·exact LD
 rcases ybs.1 hp with rfl | hp
 ·exact LC
 ·cases hp
def SC{μ:Mu}{H:xA}{w:World}{args:List zA}{args':Array Value}{v:zA}(hI:vH w)(hv:Ss args H=some v)(hl:pB μ args args'.toList) :
  (callFunc 22 args').run Tryz.prog w=.ok (.enter 22 args') w/\Calls Tryz.prog 22 args' w fun e w'=>∃v',e=.returned v'/\vA μ v v'/\Below w.heap.size w w':=by
 refine⟨dX (fn:=Tryz.f22) Tryz.func22 (by kernel_rfl),?_⟩;unfold Ss at hv;split at hv
 case h_2=>cases hv
 rename_i a b;rw[oB]at hv;obtain⟨h1,hv⟩:=hv;cases hv;obtain⟨x,y,rfl,hx,hy⟩:=Ji hl;rw[vA]at hx hy;refine(Xq hI (sim23v 22 w.heap.size hI.size) rfl (args' := #[x,y]) (.cons (by rw[vA];exact hx) (.single (by rw[vA];exact hy))) (LI _ (GU h1))).mono fun e w' ⟨h1,h2⟩=>?_;exact⟨_,h1,by rw[vA],h2⟩
def RZ(N:Nat):Ee Tryz.prog C23w 256 N vH:=by
 intro f g hg args H v H' hv μ w args' hH hI hl;have hg:Sm.get f=some g:=hg;unfold Sm at hg;rcases aO hg with⟨rfl,rfl⟩ | hg
 ·exact cU hv hH fun hv=>SC hI hv hl
 ·exact CF 7 N f g hg args H v H' hv μ w args' hH hI hl
def sim23w(N:Nat)(hN:6<=N):sI Tryz.prog C23w 256 N vH:=
 ⟨Pb rfl,Mv rfl,RZ N,ybk _,by kernel_rfl,fun _ _ hb h=>h.below hN hb⟩
def YZ{w:World}(hw:vH w):Calls Tryz.prog 7 #[] w fun e w'=>e=.returned (.bool true)/\Below w.heap.size w w':=
 Xq hw (sim23w _ hw.size) rfl .nil YY
theorem SE{μ:Mu}{H:xA}{w:World}{args:List zA}{args':Array Value}{v:zA}(hI:vH w)(hv:Ky args H=some v)(hl:pB μ args args'.toList) :
  (callFunc 7 args').run Tryz.prog w=.ok (.enter 7 args') w/\Calls Tryz.prog 7 args' w fun e w'=>∃v',e=.returned v'/\vA μ v v'/\Below w.heap.size w w':=by
 refine⟨dX (fn:=Tryz.f7) Tryz.func7 (by kernel_rfl),?_⟩;unfold Ky at hv;split at hv
 case h_2=>cases hv
 cases hv;rw[pB]at hl;have:args' = #[]:=by apply yax.1;simpa using hl
 subst this;exact(YZ hI).mono fun e w' ⟨h1,h2⟩=>⟨_,h1,by rw[vA],h2⟩
end Go.Am
namespace Go.Am
open Go Go.RowKit
@[simp] theorem jD {α:Type} {x:Option α}:xB true x=x:=rfl
inductive D where
 | int (k:IntKind) (n:Int)
 | bool (b:Bool)
 | str (s:List Nat)
 | sl (sz:Nat) (l:List D)
 | st (l:List D)
def At (t:Tr sA)(b off:Nat)(cs:List zA):Prop:=∃c n lo,t.get b=some (.cells c n lo)/\∀(j:Nat) a,cs[j]?=some a->c.get (off+j)=some a
def vI(t:Tr sA)(sz:Nat)(v:zA)(cl:List (List zA)):Prop:=
 (v=.nilslice/\cl=[])\/∃b off cap,v=.slice b off cl.length cap/\cl.length<=cap/\(∃c n lo,t.get b=some (.cells c n lo)/\(lo=none\/∃x,lo=some x/\x.es=sz))/\∀(i:Nat) cs,cl[i]?=some cs->cs.length=sz/\At t b (off+i*sz) cs
mutual
/-- cells read as data -/
def RD (t:Tr sA):D->List zA->Prop
 | .int k n,cs=>cs=[.int k n]
 | .bool b,cs=>cs=[.bool b]
 | .str s,cs=>cs=[.str s]
 | .sl sz l,cs=>∃a cl,cs=[a]/\vI t sz a cl/\tC t l cl
 | .st l,cs=>∃cl,cs=cl.flatten/\tC t l cl
def tC (t:Tr sA):List D->List (List zA)->Prop
 | [],cl=>cl=[]
 | d::l,cl=>∃c r,cl=c::r/\RD t d c/\tC t l r
end
def bA (t t':Tr sA):Prop:=∀b y,t.get b=some y->t'.get b=some y
theorem bA.refl(t:Tr sA):bA t t:=fun _ _ h=>h
def bA.trans{a b c:Tr sA}(h:bA a b)(k:bA b c):bA a c:=fun x y e=>k x y (h x y e)
section
variable {t t':Tr sA}{C:oA}
theorem At.mono(h:bA t t'){b off:Nat}{cs:List zA}(k:At t b off cs):At t' b off cs:=by
 obtain⟨c,n,lo,h1,h2⟩:=k;exact⟨c,n,lo,h _ _ h1,h2⟩
theorem vI.mono(h:bA t t'){sz:Nat}{v:zA}{cl:List (List zA)}(k:vI t sz v cl):vI t' sz v cl:=by
 rcases k with k | ⟨b,off,cap,h1,h3,⟨c,n,lo,h4,h5⟩,h2⟩
 ·exact .inl k
 ·exact .inr ⟨b,off,cap,h1,h3,⟨c,n,lo,h _ _ h4,h5⟩,fun i cs hi=>⟨(h2 i cs hi).1,(h2 i cs hi).2.mono h⟩⟩
mutual
theorem RD.mono(h:bA t t'):∀(d:D) (cs:List zA),RD t d cs->RD t' d cs
 | .int _ _,_,k=>k
 | .bool _,_,k=>k
 | .str _,_,k=>k
 | .sl _ l,_,⟨a,cl,h1,h2,h3⟩=>⟨a,cl,h1,h2.mono h,tC.mono h l cl h3⟩
 | .st l,_,⟨cl,h1,h2⟩=>⟨cl,h1,tC.mono h l cl h2⟩
theorem tC.mono(h:bA t t'):∀(l:List D) (cl:List (List zA)),tC t l cl->tC t' l cl
 | [],_,k=>k
 | d::l,_,⟨c,r,h1,h2,h3⟩=>⟨c,r,h1,RD.mono h d c h2,tC.mono h l r h3⟩
end
theorem tC.length:∀ {l:List D} {cl:List (List zA)},tC t l cl->cl.length=l.length:=by
 intro l;induction l with
 | nil=>grind [tC]
 | cons d l ih=>grind [tC]
theorem tC.get:∀ {l:List D} {cl:List (List zA)} {i:Nat} {d:D},tC t l cl->l[i]?=some d->∃cs,cl[i]?=some cs/\RD t d cs:=by
 intro l;induction l with
 | nil=>simp_all
 | cons e l ih=>
  grind [tC]
theorem tC.mk:∀ {l:List D} {cl:List (List zA)},cl.length=l.length->(∀(i:Nat) d cs,l[i]?=some d->cl[i]?=some cs->RD t d cs)->tC t l cl:=by
 intro l;induction l with
 | nil=>grind [tC]
 | cons e l ih=>
  intro cl h k
  cases cl with
  | nil=>simp at h
  | cons c r=>
   rw[tC];exact⟨c,r,rfl,k 0 e c (by simp) (by simp),ih (by grind) fun i d cs h1 h2=>k (i+1) d cs (by simp_all) (by simp_all)⟩
@[simp] theorem oW {k:IntKind} {n:Int} {cs:List zA}:RD t (.int k n) cs ↔ cs=[.int k n]:=Iff.rfl
@[simp] theorem rY {b:Bool} {cs:List zA}:RD t (.bool b) cs ↔ cs=[.bool b]:=Iff.rfl
@[simp] theorem Il {s:List Nat} {cs:List zA}:RD t (.str s) cs ↔ cs=[.str s]:=Iff.rfl
def mA (t:Tr sA)(sz:Nat)(l:List D)(v:zA):Prop:=∃cl,vI t sz v cl/\tC t l cl
theorem mA.mono(h:bA t t'){sz:Nat}{l:List D}{v:zA}(k:mA t sz l v):mA t' sz l v:=by
 obtain⟨cl,h1,h2⟩:=k;exact⟨cl,h1.mono h,tC.mono h _ _ h2⟩
theorem vN{sz:Nat}{l:List D}{cs:List zA}:RD t (.sl sz l) cs ↔ ∃v,cs=[v]/\mA t sz l v:=by
 rw[RD];constructor
 ·rintro⟨a,cl,rfl,h1,h2⟩;exact⟨a,rfl,cl,h1,h2⟩
 ·rintro⟨a,rfl,cl,h1,h2⟩;grind
theorem mL{l:List D}{cs:List zA}:RD t (.st l) cs ↔ ∃cl,cs=cl.flatten/\tC t l cl:=by rw[RD]
theorem aJ{cl:List (List zA)}:tC t [] cl ↔ cl=[]:=by rw[tC]
theorem tJ{d:D}{l:List D}{cl:List (List zA)}:tC t (d::l) cl ↔ ∃c r,cl=c::r/\RD t d c/\tC t l r:=by rw[tC]
theorem mA.one{sz:Nat}{l:List D}{v:zA}(h:mA t sz l v):zA.one v=true:=by
 obtain⟨cl,h1,_⟩:=h;rcases h1 with⟨rfl,_⟩ | ⟨b,off,cap,rfl,_⟩
 ·decide
 ·rfl
theorem mA.len{sz:Nat}{l:List D}{v:zA}(h:mA t sz l v):vB v=some (.int .i64 (l.length:Int)):=by
 obtain⟨cl,h1,h2⟩:=h;have:=h2.length;rcases h1 with⟨rfl,rfl⟩ | ⟨b,off,cap,rfl,_⟩
 ·have:l.length=0:=this.symm;rw[this];rfl
 ·rw[<- this];rfl
theorem mA.same{sz d:Nat}{l:List D}{v:zA}(h:mA t sz l v):same d v v=true:=by
 obtain⟨cl,h1,_⟩:=h;rcases h1 with⟨rfl,_⟩ | ⟨b,off,cap,rfl,_⟩
 all_goals grind [Am.same,Nat.beq_refl]
theorem Vc{sz:Nat}{l:List D}{v:zA}(h:mA t sz l v):bV .nilslice v=true:=by
 obtain⟨cl,h1,_⟩:=h;rcases h1 with⟨rfl,_⟩ | ⟨b,off,cap,rfl,_⟩<;>rfl
theorem At.load{b off j n:Nat}{cs:List zA}(h:At t b off cs){ty:Nat}{y:pC}(hy:C.tys.get ty=some y)(ha:y.desc.isAgg=true)(hn:y.size=n)(hj:j+n<=cs.length):aA C ty ⟨0,t⟩ (.ptr b (off+j))=some (.agg ((cs.drop j).take n)):=by
 obtain⟨c,m,lo,h1,h2⟩:=h;unfold aA;simp only[zA.asPtr,tA];rw[hy,tA];unfold aC;rw[h1,tA];simp only[sA.asCells,tA];unfold vP;rw[ha,cond_true,hn];have key:∀(n j:Nat),j+n<=cs.length->c.many n (off+j)=some ((cs.drop j).take n):=by
  intro n;induction n with
  | zero=>intro j _;simp;rfl
  | succ n ih=>
   intro j hj;have hlt:j<cs.length:=by omega
   rw[Tr.many_succ,h2 j cs[j] (ybd hlt),tA,show off+j+1=off+(j+1) by omega,ih (j+1) (by omega),tA,ybl hlt,List.take_succ_cons]
 simp_all
theorem At.load1{b off j:Nat}{cs:List zA}{a:zA}(h:At t b off cs){ty:Nat}{y:pC}(hy:C.tys.get ty=some y)(ha:y.desc.isAgg=false)(hj:cs[j]?=some a):aA C ty ⟨0,t⟩ (.ptr b (off+j))=some a:=by
 obtain⟨c,m,lo,h1,h2⟩:=h
 simp_all [aA,zA.asPtr,aC,sA.asCells,vP]
structure yF (C:oA) (T el sz:Nat) (agg:Bool):Prop where
 ty:∃y,C.tys.get T=some y/\y.desc.asSlice=some el
 el:∃y,C.tys.get el=some y/\y.size=sz/\y.desc.isAgg=agg
def Fa(agg:Bool)(cs:List zA):zA:=if agg then .agg cs else match cs with | a::_=>a | []=>.nilptr
theorem yF.at{T el sz:Nat}{agg:Bool}(h:yF C T el sz agg)(h1:agg=false->sz=1){l:List D}{v:zA}(hr:mA t sz l v){i:Nat}{d:D}(hi:l[i]?=some d) :
  ∃b off cs,jB C T v (.int .i64 (i:Int))=some (.ptr b off)/\aA C el ⟨0,t⟩ (.ptr b off)=some (Fa agg cs)/\At t b off cs/\cs.length=sz/\RD t d cs:=by
 obtain⟨⟨y,hy1,hy2⟩,⟨z,hz1,hz2,hz3⟩⟩:=h;obtain⟨cl,he,hd⟩:=hr;obtain⟨cs,hc,hrd⟩:=hd.get hi;rcases he with⟨rfl,rfl⟩ | ⟨b,off,cap,rfl,_,_,he⟩
 ·simp at hc
 ·obtain⟨hl,ha⟩:=he i cs hc;have hlt:i<cl.length:=(ybc.1 hc).1;refine⟨b,off+i*sz,cs,?_,?_,ha,hl,hrd⟩
  ·unfold jB;rw[hy1,tA];have:(zA.int .i64 (i:Int)).asNat=some i:=rfl;rw[this,tA];simp only[zA.asSlice];rw[hy2,tA,hz1,tA,vC.2 hlt,hz2];rfl
  ·cases agg with
   | true=>
    have:=ha.load (j:=0) hz1 hz3 hz2 (by omega);simp only[yct,ycr]at this;rw[this,<- hl,List.take_length];rfl
   | false=>
    have hs:=h1 rfl
    cases cs with
    | nil=>simp_all
    | cons a r=>
     have:=ha.load1 (j:=0) (a:=a) hz1 hz3 (by simp);rw[yct]at this;rw[this];rfl
end
section
variable {t:Tr sA}{C:oA}
theorem yF.front{T el sz:Nat}{agg:Bool}(h:yF C T el sz agg){l:List D}{v:zA}(hr:mA t sz l v){k:Nat}(hk:k<=l.length) :
  ∃v',tE C T ⟨0,t⟩ v none (some (.int .i64 (k:Int)))=some v'/\mA t sz (l.take k) v':=by
 obtain⟨⟨y,hy1,hy2⟩,⟨z,hz1,hz2,hz3⟩⟩:=h;obtain⟨cl,he,hd⟩:=hr;have hlen:=hd.length;unfold tE;rw[hy1,tA];have hb:∀y,bT y (.int .i64 (k:Int))=xB (Nat.ble k y) (some k):=fun y=>rfl;rcases he with⟨rfl,rfl⟩ | ⟨b,off,cap,rfl,hcap,⟨c,n,lo,hg,hlo⟩,he⟩
 ·have:k=0:=by grind
  subst this;refine⟨.nilslice,?_,[],.inl ⟨rfl,rfl⟩,by simp[tC]⟩;unfold iK;simp only[zA.asStr,zA.asSlice,zA.asPtr];rw[hy2,tA,hz1,tA];rfl
 ·refine⟨.slice b off k cap,?_,cl.take k,.inr ⟨b,off,cap,?_,?_,⟨c,n,lo,hg,hlo⟩,fun i cs hi=>?_⟩,?_⟩
  ·unfold iK;simp only[zA.asStr,zA.asSlice];rw[hy2,tA];unfold gL;rw[hz1,tA];unfold xN cX;simp only[hb];rw[show Nat.ble k cap=true from rE.2 (by omega)];simp only[jD,tA];have he2:rK ⟨0,t⟩ b z.size cap 0 false=false:=by
    unfold rK aC;rw[hg,tA];simp only[sA.asCells];rcases hlo with rfl | ⟨x,rfl,hx⟩
    ·rfl
    ·simp
   rw[he2,yay,cond_false];have hf:jK ⟨0,t⟩ b z.size cap 0 false=true:=by
    unfold jK aC;rw[hg,tA];simp only[sA.asCells];rcases hlo with rfl | ⟨x,rfl,hx⟩
    all_goals simp_all
   rw[show Nat.ble k cap=true from rE.2 (by omega),hf];simp only[Bool.and_self,jD];congr 1;cases hq:Nat.beq cap 0<;>simp
  ·simp_all
  ·grind
  ·grind
  ·refine tC.mk (by simp_all) fun i d cs h1 h2=>?_;rw[ydf]at h1 h2;split at h1
   ·rename_i e;rw[yab e]at h2;obtain⟨cs',h3,h4⟩:=hd.get h1
    simp_all
   grind
end
mutual
def D.zs:D->List zA
 | .int k _=>[.int k 0]
 | .bool _=>[.bool false]
 | .str _=>[.str []]
 | .sl _ _=>[.nilslice]
 | .st l=>D.zss l
def D.zss:List D->List zA
 | []=>[]
 | d::l=>d.zs++D.zss l
end
def HT:∀(z z' l l':List zA),wO z l=true->wO z' l'=true->wO (z++z') (l++l')=true
 | [],_,[],_,_,h=>h
 | a::z,z',b::l,l',h,k=>by
  unfold wO at h;rw[ybb]at h;show(bV a b&&wO (z++z') (l++l'))=true;rw[h.1,HT z z' l l' h.2 k];rfl
 | [],_,_::_,_,h,_=>by cases h
 | _::_,_,[],_,h,_=>by cases h
mutual
theorem Uz{t:Tr sA}:∀(d:D) (cs:List zA),RD t d cs->wO d.zs cs=true
 | .int k n,cs,h=>by
  rw[RD]at h;subst h;show(bV (.int k 0) (.int k n)&&true)=true
  grind [bV,zA.asIntK,fJ]
 | .bool _,cs,h=>by rw[RD]at h;subst h;rfl
 | .str _,cs,h=>by rw[RD]at h;subst h;rfl
 | .sl sz l,cs,h=>by
  rw[vN]at h;obtain⟨v,rfl,h⟩:=h;show(bV .nilslice v&&true)=true;rw[Vc h];rfl
 | .st l,cs,h=>by
  rw[mL]at h;obtain⟨cl,rfl,h⟩:=h;show wO (D.zss l) cl.flatten=true;exact HQ l cl h
theorem HQ{t:Tr sA}:∀(l:List D) (cl:List (List zA)),tC t l cl->wO (D.zss l) cl.flatten=true
 | [],cl,h=>by rw[tC]at h;subst h;rfl
 | d::l,cl,h=>by
  rw[tC]at h;obtain⟨c,r,rfl,h1,h2⟩:=h;show wO (d.zs++D.zss l) (c::r).flatten=true;rw[yas];exact HT _ _ _ _ (Uz d c h1) (HQ l r h2)
end
theorem fB{k:IntKind}{n:Int}:aZ k (.int k n)=some n:=by unfold aZ;simp only[zA.asIntK,tA];rw[fJ.2 rfl];rfl
def Av{b:Bool}:(zA.bool b).asBool=some b:=rfl
theorem cW{d:Nat}{k:IntKind}{n:Int}:same d (.int k n) (.int k n)=true:=by
 cases d<;>simp[same,fJ,vS]
theorem PP{d:Nat}{b:Bool}:same d (.bool b) (.bool b)=true:=by cases d<;>simp[same,yU]
theorem Kc{d:Nat}{s:List Nat}:same d (.str s) (.str s)=true:=by cases d<;>simp[same,fH]
theorem wrap_i64{n:Int}(h1 : -9223372036854775808<=n)(h2:n<9223372036854775808):rA .i64 n=n:=by
 grind [kL,IntKind.wrap,IntKind.bits,IntKind.signed]
def wJ{t:Tr sA}{d:D}{cs zs:List zA}(h:RD t d cs)(hz:d.zs=zs):oO zs (.agg cs)=some (cellsOf cs):=by
 unfold oO;simp only[zA.asAgg,tA];rw[<- hz,Uz d cs h];rfl
theorem Ih{zs l:List zA}(h:wO zs l=true):oO zs (.agg l)=some (cellsOf l):=by
 simp_all [oO,zA.asAgg]
end Go.Am
