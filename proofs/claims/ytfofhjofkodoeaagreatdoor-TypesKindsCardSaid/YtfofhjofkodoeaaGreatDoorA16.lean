/- Seat 24: strconv.FormatUint at base 10. -/
import Derived.KernelRfl
import Derived.Lib.AppendIntMem
import Derived.ProofKit
import Derived.Test.YtfofhjofkodoeaaGreatDoorA10
import Derived.Test.YtfofhjofkodoeaaGreatDoorA11
import Derived.Test.YtfofhjofkodoeaaGreatDoorA12
import Derived.Test.YtfofhjofkodoeaaGreatDoorA13
import Derived.Test.YtfofhjofkodoeaaGreatDoorA14
import Derived.Test.YtfofhjofkodoeaaGreatDoorA15
set_option linter.all false
noncomputable section
namespace Go.Proofs
open Go Go.Shelf Go.RowKit Go.Sort Go.Lib
set_option maxHeartbeats 1000000 in
set_option maxRecDepth 100000 in
theorem OX(u:Nat)(hi:u<100)(w:World) :
  Calls Tryz.prog 272 #[.int .u64 u,.int .i64 10] w fun e w'=>e=.returned (.string ⟨(Lib.itoa u).toArray⟩)/\∃k os,w'=Sort.grow (w.drewN k) os:=by
 have hi':(u:Int)<100:=by omega
 have hw:IntKind.i64.wrap (u:Int)=u:=by rw[IntKind.wrap_i64];omega
 go_enter Tryz.func272,Tryz.ntmps272
 go_wp2_with (go_at_fn 288)
 refine(Tryz.internal_strconv_small u hi _).mono ?_;rintro e w' ⟨rfl,rfl⟩
 go_wp2
 go_ret
 refine⟨?_,0,#[],by simp_all [World.drewN_zero]⟩;rw[Lib.itoa_nonneg];rfl
set_option maxHeartbeats 4000000 in
set_option maxRecDepth 100000 in
theorem OY (u : Nat) (hu : 100 <= u) (hu64 : u < 18446744073709551616) (w : World) (htab : Lib.TabIs Tryz.prog w "internal/strconv.uint64pow10" .u64 Lib.pow10Tab) :
  Calls Tryz.prog 272 #[.int .u64 u,.int .i64 10] w fun e w'=>e=.returned (.string ⟨(Lib.itoa u).toArray⟩)/\∃k os,w'=Sort.grow (w.drewN k) os:=by
 have hu':(100:Int)<=(u:Int):=by omega
 have hu1:1<=u:=by omega
 have hnd20:Lib.nDigits u<=20:=by have:=Lib.numDigits_eq u hu1 hu64;split at this<;>omega
 have hal:Tryz.prog.arrayLen 295=24:=by kernel_rfl
 have hel:Tryz.prog.elem 295=5:=by kernel_rfl
 have hsl:∀W,(Instr.sliceAt 295 (.pointer (some ⟨w.heap.size,0,none⟩)) none (some (.int .i64 (Lib.nDigits u:Int))) none).run Tryz.prog W=.ok (.slice (some ⟨w.heap.size,0,none⟩) (Lib.nDigits u) 24) W:=fun W=>by
  rw[run_sliceAt_array_h W 295 ⟨w.heap.size,0,none⟩ (by simp_all) .i64 (Lib.nDigits u:Int) (by omega) (by omega)]
  simp_all [slicedAt,Addr.add]
 have hH0:=Lib.holds_zero0 w 295 (Lib.nDigits u) (by omega);have hfmt:=Tryz.internal_strconv_formatBase10 w.heap.size 0 24 u (Array.replicate (Lib.nDigits u) 0) (w.alloc (.cells Lib.zeros24 295)) hH0 (by grind [Lib.lt_pow_nDigits]) hu64 (by grind);rw[Array.size_replicate]at hfmt;have HH0:=Lib.hid hH0;clear hH0 hal hel
 go_enter Tryz.func272,Tryz.ntmps272
 go_wp2_with (go_at_fn 289)
 refine(Tryz.internal_strconv_numDigits u hu1 hu64 _ (Lib.tabIs_alloc htab _)).mono ?_;rintro e w' ⟨rfl,rfl⟩
 go_wp2_with (go_at_fn 290)
 refine hfmt.mono ?_;rintro e w' ⟨rfl,k,v',dk,rfl,hF⟩;have hcv:(convert 59 9 (.slice (some ⟨w.heap.size,0,none⟩) (Lib.nDigits u) 24)).run Tryz.prog ((putRow (fun(b:UInt8)=>Value.int .u8 (b.toNat:Int)) (w.alloc (.cells Lib.zeros24 295)) w.heap.size 0 dk).drewN k)=.ok (.string ⟨(Lib.decDigits u).toArray⟩) ((putRow (fun(b:UInt8)=>Value.int .u8 (b.toNat:Int)) (w.alloc (.cells Lib.zeros24 295)) w.heap.size 0 dk).drewN k):=by
  have h:=run_convert_bytes_back (P:=Tryz.prog) ((putRow (fun(b:UInt8)=>Value.int .u8 (b.toNat:Int)) (w.alloc (.cells Lib.zeros24 295)) w.heap.size 0 dk).drewN k) 59 9 5 ⟨w.heap.size,0,none⟩ 24 (Lib.decDigits u) Tryz.underlying59 Tryz.underlying5 Tryz.underlying9 (fun j hj=>by
   rw[Lib.row_is_numeral hF j hj,Lib.add_plain,World.cell?_drewN];exact cell?_putRow (fun(b:UInt8)=>Value.int .u8 (b.toNat:Int)) _ w.heap.size 0 _ dk HH0.out (by rw[hF.size,Array.size_replicate]) j (by rw[hF.size];grind [Lib.decDigits_length]))
  grind [Lib.decDigits_length]
 go_wp2
 go_ret
 obtain⟨os,eo⟩:=Lib.fin_at w (.cells Lib.zeros24 295) dk k 0;refine⟨?_,k,os,eo⟩;rw[Lib.itoa_nonneg];rfl
set_option maxHeartbeats 1000000 in
set_option maxRecDepth 100000 in
def uint24 (u : Nat) (hu64 : u < 18446744073709551616) (w : World) (htab : Lib.TabIs Tryz.prog w "internal/strconv.uint64pow10" .u64 Lib.pow10Tab) :
  Calls Tryz.prog 256 #[.int .u64 u,.int .i64 10] w fun e w'=>e=.returned (.string ⟨(Lib.itoa u).toArray⟩)/\∃k os,w'=Sort.grow (w.drewN k) os:=by
 have key:Calls Tryz.prog 272 #[.int .u64 u,.int .i64 10] w fun e w'=>e=.returned (.string ⟨(Lib.itoa u).toArray⟩)/\∃k os,w'=Sort.grow (w.drewN k) os:=by
  grind [OX,OY]
 go_enter Tryz.func256,Tryz.ntmps256
 go_wp2_with (go_at_fn 272)
 refine key.mono ?_;rintro e w' ⟨rfl,k,os,rfl⟩
 go_wp2
 go_ret
 exact⟨rfl,k,os,rfl⟩
end Go.Proofs
set_option maxRecDepth 100000
namespace Go.Am
open Go Go.RowKit Go.Proofs
theorem PC:allT (fun t ty=>match tyOf Tryz.prog t with | some u=>eqTy u ty | none=>false) tys (fun n=>n)=true:=by kernel_rfl
theorem Ig{C:dA}(hC:C.tys=tys):qF Tryz.prog C:=by
 intro t ty h;grind [zjd,PC,zit]
theorem UN : (Tryz.funcs.toList.all fun fn => !(fn.name == "runtime.NumGoroutine")) = true := by kernel_rfl
theorem Gc{C:dA}(hC:C.fns=fns):Ar Tryz.prog C:=by
 intro f fn h;rw[hC]at h;unfold fns at h;rw[Tr.get_ofList]at h;have h2:Tryz.prog.funcs[f]?=some fn:=by
  show Tryz.funcs[f]?=some fn
  grind
 grind [UN]
def u64s (l:List Int):List Value:=l.map fun n=>.int .u64 n
theorem AG{μ:Mu}:∀l:List Int,lB μ (lX .u64 l) (u64s l)
 | []=>.nil
 | b::l=>.cons (by rw[vA]) (AG l)
structure aG (w:World):Prop where
 modes:∃t,w.heap[0]?=some (.cells (oW tO).toArray t (0,0))
 lens:∃t,w.heap[3]?=some (.cells (kZ gP).toArray t (0,0))
 most:∃m,w.cell? ⟨1,0,none⟩=some (.int .i64 m)
 pow:∃t,w.heap[4]?=some (.cells (u64s dW).toArray t (0,0))
theorem aG.size{w:World}(h:aG w):5<=w.heap.size:=by
 obtain⟨t,h⟩:=h.pow
 grind
theorem aG.below{w w':World}{N:Nat}(hN:5<=N)(h:aG w)(hb:Below N w w'):aG w':=by
 refine⟨?_,?_,?_,?_⟩
 ·obtain⟨t,h⟩:=h.modes;exact⟨t,by rw[hb.block 0 (by omega)];exact h⟩
 ·obtain⟨t,h⟩:=h.lens;exact⟨t,by rw[hb.block 3 (by omega)];exact h⟩
 ·obtain⟨m,h⟩:=h.most;exact⟨m,by rw[hb.cell (p:=⟨1,0,none⟩) (by grind)];exact h⟩
 ·obtain⟨t,h⟩:=h.pow;exact⟨t,by rw[hb.block 4 (by omega)];exact h⟩
def aG.tab {w : World} (h : aG w) : Lib.TabIs Tryz.prog w "internal/strconv.uint64pow10" .u64 Lib.pow10Tab := by
 obtain⟨t,h⟩:=h.pow;have hg : Tryz.prog.globalNamed "internal/strconv.uint64pow10" = some 4 := by kernel_rfl
 unfold Lib.TabIs World.var?;rw[hg];simp only[yai,h];rfl
theorem hrel24{w:World}(h:aG w):mB 256 w.heap.size mu0 H24 w:=by
 have hget:∀a x,H24.t.get a=some x->(a=0/\x=.cells (Tr.ofList (strA tO)) (oB (strA tO)) none)\/(a=3/\x=.cells (Tr.ofList (lX .i64 gP)) (oB (lX .i64 gP)) none)\/(a=4/\x=.cells (Tr.ofList (lX .u64 dW)) (oB (lX .u64 dW)) none):=by
  intro a x hx;have hx:(glob 0 (strA tO) (glob 3 (lX .i64 gP) (glob 4 (lX .u64 dW) .leaf))).get a=some x:=hx
  grind [glob,Tr.get_set,Tr.get_leaf]
 have hsz:=h.size;refine⟨ybk _,fun g hg=>by simp[mu0,hg],fun a x i _ hx hi=>?_,ybk _,ybk _,fun a ha=>?_,fun a x i hx hi=>?_,fun a i ha hi=>?_,fun a b x y i j hx _ _ _ ha _ _=>?_,fun a x t ha=>by cases ha⟩
 ·rcases hget a x hx with⟨rfl,rfl⟩ | ⟨rfl,rfl⟩ | ⟨rfl,rfl⟩<;>cases hi<;>exact⟨Nat.lt_of_lt_of_le (by decide) hsz,rfl,rfl⟩
 ·have ha:256<=a:=ha;refine⟨by grind [mu0],?_⟩
  cases hx:H24.t.get a with
  | none=>rfl
  | some x=>rcases hget a x hx with⟨rfl,_⟩ | ⟨rfl,_⟩ | ⟨rfl,_⟩<;>omega
 ·rcases hget a x hx with⟨rfl,rfl⟩ | ⟨rfl,rfl⟩ | ⟨rfl,rfl⟩
  ·obtain⟨t,h⟩:=h.modes;cases hi;exact⟨_,h,Yy (BP tO) t⟩
  ·obtain⟨t,h⟩:=h.lens;cases hi;exact⟨_,h,Yy (IX gP) t⟩
  ·obtain⟨t,h⟩:=h.pow;cases hi;grind [Yy,AG]
 all_goals grind [mu0]
def My{s:ByteArray}{l:List Nat}(h:iF s=l):s.data.toList.map UInt8.toNat=l:=h
theorem jV{f:Nat}{fn:Func}(hf:Tryz.funcs[f]?=some fn)(hb:fn.body.isSome=true){args:Array Value}{w:World}:(callFunc f args).run Tryz.prog w=.ok (.enter f args) w:=
 Nl (C:=C24w) (Gc rfl) (show fns.get f=some fn by grind [fns,Tr.get_ofList]) hb
section
variable {B N:Nat}{μ:Mu}{H:wA}{w:World}{args:List zA}{args':Array Value}{v:zA}
theorem Mj{a b:zA}(h:lB μ [a,b] args'.toList):∃x y,args' = #[x,y]/\vA μ a x/\vA μ b y:=by
 grind [lB]
theorem TD(hv:Vu args H=some v)(hl:lB μ args args'.toList) :
  (callFunc 264 args').run Tryz.prog w=.ok (.enter 264 args') w/\Calls Tryz.prog 264 args' w fun e w'=>∃v',e=.returned v'/\vA μ v v'/\Below w.heap.size w w':=by
 refine⟨jV (fn:=Tryz.f264) Tryz.func264 (by kernel_rfl),?_⟩;unfold Vu at hv;split at hv
 case h_2=>cases hv
 rename_i s c;rw[jB,pC]at hv;obtain⟨hc,hv⟩:=hv;cases hv;obtain⟨x,y,rfl,hx,hy⟩:=Mj hl;simp only[vA]at hx hy;obtain⟨s',rfl,hs⟩:=hx;subst hy;refine(Tryz.stringslite_IndexByte s' (Int.ofNat c) w).mono fun e w' ⟨he,hw⟩=>?_;subst hw;refine⟨_,he,?_,Below.refl _ _⟩;have hcc:(c.toUInt8).toNat=c:=by simp_all
 have:=IZ c.toUInt8 s'.data.toList;rw[hcc,My hs]at this;grind [vA]
theorem EL(hI:aG w)(hv:Fg args H=some v)(hl:lB μ args args'.toList) :
  (callFunc 219 args').run Tryz.prog w=.ok (.enter 219 args') w/\Calls Tryz.prog 219 args' w fun e w'=>∃v',e=.returned v'/\vA μ v v'/\Below w.heap.size w w':=by
 refine⟨jV (fn:=Tryz.f219) Tryz.func219 (by kernel_rfl),?_⟩;unfold Fg at hv;split at hv
 case h_2=>cases hv
 rename_i s c;rw[jB,pC,pD]at hv;obtain⟨hlen,hv⟩:=hv;cases hv;obtain⟨x,y,rfl,hx,hy⟩:=Mj hl;rw[vA]at hx hy;obtain⟨s',rfl,hs⟩:=hx;obtain⟨c',rfl,hc⟩:=hy;obtain⟨m,hm⟩:=hI.most;have hsz:s'.size<4294967281:=by
  have:=congrArg List.length (My hs)
  simp_all
 refine(Tryz.strings_Contains s' c' m w hsz hm).mono fun e w' ⟨he,hw⟩=>?_;subst hw;refine⟨_,he,?_,Below.refl _ _⟩;have:=LO c'.data.toList s'.data.toList;rw[My hs,My hc]at this;rw[vA,this]
theorem MQ(k:Nat)(os:Array Obj):Below w.heap.size w (Sort.grow (w.drewN k) os):=by
 refine⟨rfl,rfl,rfl,?_,fun j hj=>?_⟩
 all_goals grind [Sort.grow,World.drewN]
theorem EJ(hI:aG w)(hv:Ff args H=some v)(hl:lB μ args args'.toList) :
  (callFunc 243 args').run Tryz.prog w=.ok (.enter 243 args') w/\Calls Tryz.prog 243 args' w fun e w'=>∃v',e=.returned v'/\vA μ v v'/\Below w.heap.size w w':=by
 refine⟨jV (fn:=Tryz.f243) Tryz.func243 (by kernel_rfl),?_⟩;unfold Ff at hv;split at hv
 case h_2=>cases hv
 rename_i n;rw[jB,ybb]at hv;obtain⟨⟨h1,h2⟩,hv⟩:=hv;cases hv;rw[lB]at hl;obtain⟨x,r,he,hx,hr⟩:=hl;rw[lB]at hr;rw[vA]at hx;subst hr hx;have:args' = #[.int .i64 n]:=by grind
 subst this;have g1 : -9223372036854775808<=n:=(Pz _ _).1 h1;have g2:n<9223372036854775808:=(Fv _ _).1 h2;refine(Tryz.strconv_Itoa n g1 (by omega) w hI.tab).mono fun e w' ⟨he,k,os,hw⟩=>?_;subst hw;exact⟨_,he,by rw[vA];exact⟨_,rfl,rfl⟩,MQ k os⟩
theorem EH(hI:aG w)(hv:Jl args H=some v)(hl:lB μ args args'.toList) :
  (callFunc 256 args').run Tryz.prog w=.ok (.enter 256 args') w/\Calls Tryz.prog 256 args' w fun e w'=>∃v',e=.returned v'/\vA μ v v'/\Below w.heap.size w w':=by
 refine⟨jV (fn:=Tryz.f256) Tryz.func256 (by kernel_rfl),?_⟩;unfold Jl at hv;split at hv
 case h_2=>cases hv
 rename_i n b;rw[jB,ybb,ybb]at hv;obtain⟨⟨⟨h1,h2⟩,h3⟩,hv⟩:=hv;cases hv;obtain⟨x,y,rfl,hx,hy⟩:=Mj hl;rw[vA]at hx hy;subst hx hy;have g1:0<=n:=(Pz _ _).1 h1;have g2:n<18446744073709551616:=(Fv _ _).1 h2;obtain rfl:b=10:=(nV _ _).1 h3;obtain⟨u,rfl⟩:∃u:Nat,n=u:=⟨n.toNat,by omega⟩;refine(uint24 u (by omega) w hI.tab).mono fun e w' ⟨he,k,os,hw⟩=>?_;subst hw;exact⟨_,he,by rw[vA];exact⟨_,rfl,rfl⟩,MQ k os⟩
end
section
variable {B N:Nat}{μ:Mu}{H H':wA}{w:World}{args:List zA}{args':Array Value}{v:zA}
theorem EM{base:Nat}(hbase:B<=base)(hH:mB B N μ H w)(hv:Bw base Jw args H=some (v,H'))(hl:lB μ args args'.toList) :
  (callFunc 223 args').run Tryz.prog w=.ok (.enter 223 args') w/\Calls Tryz.prog 223 args' w fun e w'=>∃v' μ',e=.returned v'/\μ.le μ'/\mB B N μ' H' w'/\Below N w w'/\vA μ' v v':=
 TQ hbase (fun p hp b n w h1 h2 h3 h4=>by
  grind [Jw,YR,YQ]) (fun b w h=>YP b w h) (fun w a=>jV (fn:=Tryz.f223) Tryz.func223 (by kernel_rfl)) hH hv hl
def EI{base:Nat}(hbase:B<=base)(hH:mB B N μ H w)(hv:Fe base 5 args H=some (v,H'))(hl:lB μ args args'.toList) :
  (callFunc 149 args').run Tryz.prog w=.ok (.enter 149 args') w/\Calls Tryz.prog 149 args' w fun e w'=>∃v' μ',e=.returned v'/\μ.le μ'/\mB B N μ' H' w'/\Below N w w'/\vA μ' v v':=
 TP Tryz.lays169 Tryz.Builder_Extra_169 (f:=149) rfl hbase (fun w a=>jV (fn:=Tryz.f149) Tryz.func149 (by kernel_rfl)) hH hv hl
end
theorem qN{α:Type}{t:Tr α}{i j:Nat}{x y:α}(h:(t.set i x).get j=some y):(j=i/\x=y)\/t.get j=some y:=by
 grind [Tr.get_set]
theorem Nz(f0 N:Nat):An Tryz.prog (C24v f0) 256 N aG:=by
 intro f g hg args H v H' hv μ w args' hH hI hl;have hg:Fb.get f=some g:=hg;unfold Fb at hg;rcases qN hg with⟨rfl,rfl⟩ | hg
 ·grind [zV,TD]
 rcases qN hg with⟨rfl,rfl⟩ | hg
 ·grind [zV,EL]
 rcases qN hg with⟨rfl,rfl⟩ | hg
 ·grind [zV,EH]
 rcases qN hg with⟨rfl,rfl⟩ | hg
 ·grind [zV,EJ]
 rcases qN hg with⟨rfl,rfl⟩ | hg
 ·exact .inr (EI (ybk _) hH hv hl)
 rcases qN hg with⟨rfl,rfl⟩ | hg
 ·exact .inr (EM (ybk _) hH hv hl)
 grind [Tr.get_leaf]
def sim24v(f0 N:Nat)(hN:5<=N):lI Tryz.prog (C24v f0) 256 N aG:=
 ⟨Ig rfl,Gc rfl,Nz f0 N,ybk _,by kernel_rfl,fun _ _ hb h=>h.below hN hb⟩
theorem Nj{C:dA}{f n:Nat}{args:List zA}{args':Array Value}{w:World}{v:zA}{H':wA}(hw:aG w)(hS:lI Tryz.prog C 256 w.heap.size aG)(hroot:C.root=f)(hl:lB mu0 args args'.toList)
  (hr:rP C n (cU C f args H24)=.done v H'):Calls Tryz.prog f args' w fun e w'=>∃v' μ',e=.returned v'/\vA μ' v v'/\mB 256 w.heap.size μ' H' w'/\Below w.heap.size w w':=by
 unfold cU at hr;have stuck:∀(n k:Nat),rP C n (.fail k)=.fail k:=by
  intro n;induction n with
  | zero=>intro k;rfl
  | succ n ih=>
   intro k;show rP C n (rP C n (.fail k))=_;rw[ih,ih]
 cases he:gL C f args false with
 | none=>
  simp_all
 | some g=>
  rw[he]at hr;exact(YV hS hw hroot (hrel24 hw) hl he hr).mono fun e w' ⟨v',μ',h1,_,h3,h4,h5⟩=>⟨v',μ',h1,h3,h4,h5⟩
theorem PG{C:dA}{f n:Nat}{args:List zA}{args':Array Value}{w:World}(hw:aG w)(hS:lI Tryz.prog C 256 w.heap.size aG)(hroot:C.root=f)(hl:lB mu0 args args'.toList)
  (h:fF (rP C n (cU C f args H24))=1):Calls Tryz.prog f args' w fun e w'=>e=.returned (.bool true)/\Below w.heap.size w w':=by
 obtain⟨H',hr⟩:=zil h;refine(Nj hw hS hroot hl hr).mono fun e w' ⟨v',μ',h1,h3,_,h5⟩=>?_
 grind [vA]
theorem KH{o:aE}{v:zA}(h:finV o=some v):∃H,o=.done v H:=by
 cases o with
 | done u H=>obtain rfl:=yci h;simp_all
 | next s=>cases h
 | fail n=>cases h
section
variable {μ:Mu}{H H':wA}{w:World}{args:List zA}{args':Array Value}{v:zA}
theorem zhn{y m:Nat}(h1:1900<=y)(h2:y<=2000)(h3:1<=m)(h4:m<=12):Wo y m=true:=by
 have h:=zb8;rw[ycb]at h;have h:=h (y-1900) (List.mem_range.2 (by omega));rw[ycb]at h;have h:=h (m-1) (List.mem_range.2 (by omega))
 simp_all
theorem zbs(hI:aG w)(hv:zg4 args H=some v)(hl:lB μ args args'.toList) :
  (callFunc 199 args').run Tryz.prog w=.ok (.enter 199 args') w/\Calls Tryz.prog 199 args' w fun e w'=>∃v',e=.returned v'/\vA μ v v'/\Below w.heap.size w w':=by
 refine⟨jV (fn:=Tryz.f199) Tryz.func199 (by kernel_rfl),?_⟩;unfold zg4 at hv;split at hv
 case h_2=>cases hv
 rename_i y m;unfold lenO at hv;rw[jB,ybb,ybb,ybb,mE,mE,mE,mE]at hv;obtain⟨⟨h1,h2,h3,h4⟩,hv⟩:=hv;cases hv;obtain⟨x,z,rfl,hx,hz⟩:=Mj hl;rw[vA]at hx hz;have hr:=zhn h1 h2 h3 h4;unfold Wo at hr;split at hr
 case h_2=>cases hr
 rename_i n hn;have hn':=oC.1 hr;obtain⟨H1,he⟩:=KH hn;refine(Nj hI (sim24v 199 w.heap.size hI.size) rfl (args' := #[x,z]) (.cons (by grind [vA]) (.single (by grind [vA]))) he).mono fun e w' ⟨v',μ',g1,g2,_,g4⟩=>?_
 grind [vA]
theorem TA(f0 N:Nat):An Tryz.prog (C24l f0) 256 N aG:=by
 intro f g hg args H v H' hv μ w args' hH hI hl;have hg:Vn.get f=some g:=hg;unfold Vn at hg;rcases qN hg with⟨rfl,rfl⟩ | hg
 ·grind [zV,zbs]
 ·exact Nz f0 N f g hg args H v H' hv μ w args' hH hI hl
def sim24l(f0 N:Nat)(hN:5<=N):lI Tryz.prog (C24l f0) 256 N aG:=
 ⟨Ig rfl,Gc rfl,TA f0 N,ybk _,by kernel_rfl,fun _ _ hb h=>h.below hN hb⟩
theorem JZ:∀ {l:List (List Nat × Int)} {s:List Nat} {v:zA},Qi l s=some v->∃n,(s,n)∈l/\v=.tup [.int .i64 n,.int .i64 0]
 | [],_,_,h=>by cases h
 | p::r,s,v,h=>by
  unfold Qi at h;rw[rD]at h;split at h
  ·grind [aI]
  ·obtain⟨n,h1,h2⟩:=JZ h
   simp_all
theorem TE(hI:aG w)(hv:zg5 args H=some v)(hl:lB μ args args'.toList) :
  (callFunc 172 args').run Tryz.prog w=.ok (.enter 172 args') w/\Calls Tryz.prog 172 args' w fun e w'=>∃v',e=.returned v'/\vA μ v v'/\Below w.heap.size w w':=by
 refine⟨jV (fn:=Tryz.f172) Tryz.func172 (by kernel_rfl),?_⟩;unfold zg5 at hv;split at hv
 case h_2=>cases hv
 rename_i s;obtain⟨n,hm,rfl⟩:=JZ hv;obtain⟨x,r,he,hx,hr⟩:=hl;have hr':r=[]:=by grind [lB]
 subst hr';have hx0:=hx;rw[vA]at hx;have:=ycb.1 YF _ hm;unfold LJ at this;split at this
 case h_2=>cases this
 rename_i u hu;have e:=Em _ _ _ this;subst e;obtain⟨H1,he1⟩:=KH hu;have ea:args' = #[x]:=by grind
 subst ea;refine(Nj hI (sim24l 172 w.heap.size hI.size) rfl (args' := #[x]) (.single (by grind [vA])) he1).mono fun e w' ⟨v',μ',g1,g2,_,g4⟩=>?_
 grind [vA,lB]
theorem TB(f0 N:Nat):An Tryz.prog (lU f0) 256 N aG:=by
 intro f g hg args H v H' hv μ w args' hH hI hl;have hg:Vo.get f=some g:=hg;unfold Vo at hg;rcases qN hg with⟨rfl,rfl⟩ | hg
 ·grind [zV,TE]
 ·exact Nz f0 N f g hg args H v H' hv μ w args' hH hI hl
def sim24d(f0 N:Nat)(hN:5<=N):lI Tryz.prog (lU f0) 256 N aG:=
 ⟨Ig rfl,Gc rfl,TB f0 N,ybk _,by kernel_rfl,fun _ _ hb h=>h.below hN hb⟩
theorem KC:∀ {l:List (List Nat × pK)} {s:List Nat} {g:pK},Qj l s=some g->(s,g)∈l
 | [],_,_,h=>by cases h
 | p::r,s,v,h=>by
  unfold Qj at h;rw[rD]at h;split at h
  ·grind [aI]
  ·exact .tail _ (KC h)
theorem EK{f n N:Nat}{tab:List (List Nat × pK)}(hroot:(lU f).root=f)(hH:mB 256 N μ H w)(hI:aG w)(hfn:∃fn,Tryz.funcs[f]?=some fn/\fn.body.isSome=true)
  (hruns:(tab.all fun p=>Lb p.2 (rP (lU f) n (cU (lU f) f [.str p.1] H24)))=true)
  (hv:Of tab args H=some (v,H')) (hl:lB μ args args'.toList) :
  (callFunc f args').run Tryz.prog w=.ok (.enter f args') w/\Calls Tryz.prog f args' w fun e w'=>∃v' μ',e=.returned v'/\μ.le μ'/\mB 256 N μ' H' w'/\Below N w w'/\vA μ' v v':=by
 obtain⟨fn,hf1,hf2⟩:=hfn;refine⟨jV hf1 hf2,?_⟩;unfold Of at hv;split at hv
 case h_2=>cases hv
 rename_i s;rw[mA]at hv;obtain⟨g,hg,hv⟩:=hv;have hv:=yci hv;have hm:=KC hg;have hrun:=ycb.1 hruns _ hm;obtain⟨x,r,he,hx,hr⟩:=hl;have hr':r=[]:=by grind [lB]
 subst hr';rw[vA]at hx;have ea:args' = #[x]:=by grind
 subst ea
 cases ho:rP (lU f) n (cU (lU f) f [.str s] H24)with
 | next s0=>rw[ho]at hrun;cases hrun
 | fail k=>rw[ho]at hrun;cases hrun
 | done u H1=>
  rw[ho]at hrun;refine(Nj hI (sim24d f w.heap.size hI.size) hroot (args' := #[x]) (.single (by grind [vA])) ho).mono fun e w' ⟨v',μ1,g1,g2,g3,g4⟩=>?_;obtain⟨μ',k1,k2,k3⟩:=zcr hH g4 g3 g2 hrun;have ev:v=(Kv g H).1:=by rw[hv]
  have eh:H'=(Kv g H).2:=by rw[hv]
  subst ev eh;exact⟨v',μ',g1,k1,k2,g4.mono hH.size,k3⟩
end
def SZ(N:Nat):An Tryz.prog C24w 256 N aG:=by
 intro f g hg args H v H' hv μ w args' hH hI hl;have hg:Vm.get f=some g:=hg;unfold Vm at hg;rcases qN hg with⟨rfl,rfl⟩ | hg
 ·exact .inr (EK rfl hH hI ⟨_,Tryz.func11,by kernel_rfl⟩ TJ hv hl)
 rcases qN hg with⟨rfl,rfl⟩ | hg
 ·exact .inr (EK rfl hH hI ⟨_,Tryz.func12,by kernel_rfl⟩ SL hv hl)
 ·exact Nz 8 N f g hg args H v H' hv μ w args' hH hI hl
def sim24w(N:Nat)(hN:5<=N):lI Tryz.prog C24w 256 N aG:=
 ⟨Ig rfl,Gc rfl,SZ N,ybk _,by kernel_rfl,fun _ _ hb h=>h.below hN hb⟩
theorem ZJ{w:World}(hw:aG w):Calls Tryz.prog 8 #[] w fun e w'=>e=.returned (.bool true)/\Below w.heap.size w w':=
 PG hw (sim24w _ hw.size) rfl .nil zab
theorem TF{μ:Mu}{H:wA}{w:World}{args:List zA}{args':Array Value}{v:zA}(hI:aG w)(hv:Oe args H=some v)(hl:lB μ args args'.toList) :
  (callFunc 8 args').run Tryz.prog w=.ok (.enter 8 args') w/\Calls Tryz.prog 8 args' w fun e w'=>∃v',e=.returned v'/\vA μ v v'/\Below w.heap.size w w':=by
 refine⟨jV (fn:=Tryz.f8) Tryz.func8 (by kernel_rfl),?_⟩;unfold Oe at hv;split at hv
 case h_2=>cases hv
 cases hv;rw[lB]at hl;have:args' = #[]:=by simp_all
 grind [ZJ,vA]
end Go.Am
namespace Go.Am
open Go Go.RowKit
@[simp] theorem vE {α:Type} {x:Option α}:pB true x=x:=rfl
inductive D where
 | int (k:IntKind) (n:Int)
 | bool (b:Bool)
 | str (s:List Nat)
 | sl (sz:Nat) (l:List D)
 | st (l:List D)
def At (t:Tr qA)(b off:Nat)(cs:List zA):Prop:=∃c n lo,t.get b=some (.cells c n lo)/\∀(j:Nat) a,cs[j]?=some a->c.get (off+j)=some a
def pJ(t:Tr qA)(sz:Nat)(v:zA)(cl:List (List zA)):Prop:=
 (v=.nilslice/\cl=[])\/∃b off cap,v=.slice b off cl.length cap/\cl.length<=cap/\(∃c n lo,t.get b=some (.cells c n lo)/\(lo=none\/∃x,lo=some x/\x.es=sz))/\∀(i:Nat) cs,cl[i]?=some cs->cs.length=sz/\At t b (off+i*sz) cs
mutual
/-- cells read as data -/
def RD (t:Tr qA):D->List zA->Prop
 | .int k n,cs=>cs=[.int k n]
 | .bool b,cs=>cs=[.bool b]
 | .str s,cs=>cs=[.str s]
 | .sl sz l,cs=>∃a cl,cs=[a]/\pJ t sz a cl/\jC t l cl
 | .st l,cs=>∃cl,cs=cl.flatten/\jC t l cl
def jC (t:Tr qA):List D->List (List zA)->Prop
 | [],cl=>cl=[]
 | d::l,cl=>∃c r,cl=c::r/\RD t d c/\jC t l r
end
def xB (t t':Tr qA):Prop:=∀b y,t.get b=some y->t'.get b=some y
theorem xB.refl(t:Tr qA):xB t t:=fun _ _ h=>h
def xB.trans{a b c:Tr qA}(h:xB a b)(k:xB b c):xB a c:=fun x y e=>k x y (h x y e)
section
variable {t t':Tr qA}{C:dA}
theorem At.mono(h:xB t t'){b off:Nat}{cs:List zA}(k:At t b off cs):At t' b off cs:=by
 obtain⟨c,n,lo,h1,h2⟩:=k;exact⟨c,n,lo,h _ _ h1,h2⟩
theorem pJ.mono(h:xB t t'){sz:Nat}{v:zA}{cl:List (List zA)}(k:pJ t sz v cl):pJ t' sz v cl:=by
 rcases k with k | ⟨b,off,cap,h1,h3,⟨c,n,lo,h4,h5⟩,h2⟩
 ·exact .inl k
 ·exact .inr ⟨b,off,cap,h1,h3,⟨c,n,lo,h _ _ h4,h5⟩,fun i cs hi=>⟨(h2 i cs hi).1,(h2 i cs hi).2.mono h⟩⟩
mutual
theorem RD.mono(h:xB t t'):∀(d:D) (cs:List zA),RD t d cs->RD t' d cs
 | .int _ _,_,k=>k
 | .bool _,_,k=>k
 | .str _,_,k=>k
 | .sl _ l,_,⟨a,cl,h1,h2,h3⟩=>⟨a,cl,h1,h2.mono h,jC.mono h l cl h3⟩
 | .st l,_,⟨cl,h1,h2⟩=>⟨cl,h1,jC.mono h l cl h2⟩
theorem jC.mono(h:xB t t'):∀(l:List D) (cl:List (List zA)),jC t l cl->jC t' l cl
 | [],_,k=>k
 | d::l,_,⟨c,r,h1,h2,h3⟩=>⟨c,r,h1,RD.mono h d c h2,jC.mono h l r h3⟩
end
theorem jC.length:∀ {l:List D} {cl:List (List zA)},jC t l cl->cl.length=l.length:=by
 intro l;induction l with
 | nil=>grind [jC]
 | cons d l ih=>grind [jC]
theorem jC.get:∀ {l:List D} {cl:List (List zA)} {i:Nat} {d:D},jC t l cl->l[i]?=some d->∃cs,cl[i]?=some cs/\RD t d cs:=by
 intro l;induction l with
 | nil=>simp_all
 | cons e l ih=>
  grind [jC]
theorem jC.mk:∀ {l:List D} {cl:List (List zA)},cl.length=l.length->(∀(i:Nat) d cs,l[i]?=some d->cl[i]?=some cs->RD t d cs)->jC t l cl:=by
 intro l;induction l with
 | nil=>grind [jC]
 | cons e l ih=>
  intro cl h k
  cases cl with
  | nil=>simp at h
  | cons c r=>
   rw[jC];exact⟨c,r,rfl,k 0 e c (by simp) (by simp),ih (by grind) fun i d cs h1 h2=>k (i+1) d cs (by simp_all) (by simp_all)⟩
@[simp] theorem eO {k:IntKind} {n:Int} {cs:List zA}:RD t (.int k n) cs ↔ cs=[.int k n]:=Iff.rfl
@[simp] theorem vQ {b:Bool} {cs:List zA}:RD t (.bool b) cs ↔ cs=[.bool b]:=Iff.rfl
@[simp] theorem jR {s:List Nat} {cs:List zA}:RD t (.str s) cs ↔ cs=[.str s]:=Iff.rfl
def lA (t:Tr qA)(sz:Nat)(l:List D)(v:zA):Prop:=∃cl,pJ t sz v cl/\jC t l cl
theorem lA.mono(h:xB t t'){sz:Nat}{l:List D}{v:zA}(k:lA t sz l v):lA t' sz l v:=by
 obtain⟨cl,h1,h2⟩:=k;exact⟨cl,h1.mono h,jC.mono h _ _ h2⟩
theorem oM{sz:Nat}{l:List D}{cs:List zA}:RD t (.sl sz l) cs ↔ ∃v,cs=[v]/\lA t sz l v:=by
 rw[RD];constructor
 ·rintro⟨a,cl,rfl,h1,h2⟩;exact⟨a,rfl,cl,h1,h2⟩
 ·rintro⟨a,rfl,cl,h1,h2⟩;grind
theorem nJ{l:List D}{cs:List zA}:RD t (.st l) cs ↔ ∃cl,cs=cl.flatten/\jC t l cl:=by rw[RD]
theorem rI{cl:List (List zA)}:jC t [] cl ↔ cl=[]:=by rw[jC]
theorem iH{d:D}{l:List D}{cl:List (List zA)}:jC t (d::l) cl ↔ ∃c r,cl=c::r/\RD t d c/\jC t l r:=by rw[jC]
theorem lA.one{sz:Nat}{l:List D}{v:zA}(h:lA t sz l v):zA.one v=true:=by
 obtain⟨cl,h1,_⟩:=h;rcases h1 with⟨rfl,_⟩ | ⟨b,off,cap,rfl,_⟩
 ·decide
 ·rfl
theorem lA.len{sz:Nat}{l:List D}{v:zA}(h:lA t sz l v):cA v=some (.int .i64 (l.length:Int)):=by
 obtain⟨cl,h1,h2⟩:=h;have:=h2.length;rcases h1 with⟨rfl,rfl⟩ | ⟨b,off,cap,rfl,_⟩
 ·have:l.length=0:=this.symm;rw[this];rfl
 ·rw[<- this];rfl
theorem lA.same{sz d:Nat}{l:List D}{v:zA}(h:lA t sz l v):same d v v=true:=by
 obtain⟨cl,h1,_⟩:=h;rcases h1 with⟨rfl,_⟩ | ⟨b,off,cap,rfl,_⟩
 all_goals grind [Am.same,Nat.beq_refl]
theorem Kw{sz:Nat}{l:List D}{v:zA}(h:lA t sz l v):mS .nilslice v=true:=by
 obtain⟨cl,h1,_⟩:=h;rcases h1 with⟨rfl,_⟩ | ⟨b,off,cap,rfl,_⟩<;>rfl
theorem At.load{b off j n:Nat}{cs:List zA}(h:At t b off cs){ty:Nat}{y:mC}(hy:C.tys.get ty=some y)(ha:y.desc.isAgg=true)(hn:y.size=n)(hj:j+n<=cs.length):vC C ty ⟨0,t⟩ (.ptr b (off+j))=some (.agg ((cs.drop j).take n)):=by
 obtain⟨c,m,lo,h1,h2⟩:=h;unfold vC;simp only[zA.asPtr,pA];rw[hy,pA];unfold mD;rw[h1,pA];simp only[qA.asCells,pA];unfold zR;rw[ha,cond_true,hn];have key:∀(n j:Nat),j+n<=cs.length->c.many n (off+j)=some ((cs.drop j).take n):=by
  intro n;induction n with
  | zero=>intro j _;simp;rfl
  | succ n ih=>
   intro j hj;have hlt:j<cs.length:=by omega
   rw[Tr.many_succ,h2 j cs[j] (ybd hlt),pA,show off+j+1=off+(j+1) by omega,ih (j+1) (by omega),pA,ybl hlt,List.take_succ_cons]
 simp_all
theorem At.load1{b off j:Nat}{cs:List zA}{a:zA}(h:At t b off cs){ty:Nat}{y:mC}(hy:C.tys.get ty=some y)(ha:y.desc.isAgg=false)(hj:cs[j]?=some a):vC C ty ⟨0,t⟩ (.ptr b (off+j))=some a:=by
 obtain⟨c,m,lo,h1,h2⟩:=h
 simp_all [vC,zA.asPtr,mD,qA.asCells,zR]
structure lD (C:dA) (T el sz:Nat) (agg:Bool):Prop where
 ty:∃y,C.tys.get T=some y/\y.desc.asSlice=some el
 el:∃y,C.tys.get el=some y/\y.size=sz/\y.desc.isAgg=agg
def Md(agg:Bool)(cs:List zA):zA:=if agg then .agg cs else match cs with | a::_=>a | []=>.nilptr
theorem lD.at{T el sz:Nat}{agg:Bool}(h:lD C T el sz agg)(h1:agg=false->sz=1){l:List D}{v:zA}(hr:lA t sz l v){i:Nat}{d:D}(hi:l[i]?=some d) :
  ∃b off cs,bC C T v (.int .i64 (i:Int))=some (.ptr b off)/\vC C el ⟨0,t⟩ (.ptr b off)=some (Md agg cs)/\At t b off cs/\cs.length=sz/\RD t d cs:=by
 obtain⟨⟨y,hy1,hy2⟩,⟨z,hz1,hz2,hz3⟩⟩:=h;obtain⟨cl,he,hd⟩:=hr;obtain⟨cs,hc,hrd⟩:=hd.get hi;rcases he with⟨rfl,rfl⟩ | ⟨b,off,cap,rfl,_,_,he⟩
 ·simp at hc
 ·obtain⟨hl,ha⟩:=he i cs hc;have hlt:i<cl.length:=(ybc.1 hc).1;refine⟨b,off+i*sz,cs,?_,?_,ha,hl,hrd⟩
  ·unfold bC;rw[hy1,pA];have:(zA.int .i64 (i:Int)).asNat=some i:=rfl;rw[this,pA];simp only[zA.asSlice];rw[hy2,pA,hz1,pA,pC.2 hlt,hz2];rfl
  ·cases agg with
   | true=>
    have:=ha.load (j:=0) hz1 hz3 hz2 (by omega);simp only[yct,ycr]at this;rw[this,<- hl,List.take_length];rfl
   | false=>
    have hs:=h1 rfl
    cases cs with
    | nil=>simp_all
    | cons a r=>
     have:=ha.load1 (j:=0) (a:=a) hz1 hz3 (by simp);rw[yct]at this;rw[this];rfl
end
section
variable {t:Tr qA}{C:dA}
theorem lD.front{T el sz:Nat}{agg:Bool}(h:lD C T el sz agg){l:List D}{v:zA}(hr:lA t sz l v){k:Nat}(hk:k<=l.length) :
  ∃v',qE C T ⟨0,t⟩ v none (some (.int .i64 (k:Int)))=some v'/\lA t sz (l.take k) v':=by
 obtain⟨⟨y,hy1,hy2⟩,⟨z,hz1,hz2,hz3⟩⟩:=h;obtain⟨cl,he,hd⟩:=hr;have hlen:=hd.length;unfold qE;rw[hy1,pA];have hb:∀y,eV y (.int .i64 (k:Int))=pB (Nat.ble k y) (some k):=fun y=>rfl;rcases he with⟨rfl,rfl⟩ | ⟨b,off,cap,rfl,hcap,⟨c,n,lo,hg,hlo⟩,he⟩
 ·have:k=0:=by grind
  subst this;refine⟨.nilslice,?_,[],.inl ⟨rfl,rfl⟩,by simp[jC]⟩;unfold vM;simp only[zA.asStr,zA.asSlice,zA.asPtr];rw[hy2,pA,hz1,pA];rfl
 ·refine⟨.slice b off k cap,?_,cl.take k,.inr ⟨b,off,cap,?_,?_,⟨c,n,lo,hg,hlo⟩,fun i cs hi=>?_⟩,?_⟩
  ·unfold vM;simp only[zA.asStr,zA.asSlice];rw[hy2,pA];unfold sN;rw[hz1,pA];unfold iO Ac;simp only[hb];rw[show Nat.ble k cap=true from mE.2 (by omega)];simp only[vE,pA];have he2:nL ⟨0,t⟩ b z.size cap 0 false=false:=by
    unfold nL mD;rw[hg,pA];simp only[qA.asCells];rcases hlo with rfl | ⟨x,rfl,hx⟩
    ·rfl
    ·simp
   rw[he2,yay,cond_false];have hf:wM ⟨0,t⟩ b z.size cap 0 false=true:=by
    unfold wM mD;rw[hg,pA];simp only[qA.asCells];rcases hlo with rfl | ⟨x,rfl,hx⟩
    all_goals simp_all
   rw[show Nat.ble k cap=true from mE.2 (by omega),hf];simp only[Bool.and_self,vE];congr 1;cases hq:Nat.beq cap 0<;>simp
  ·simp_all
  ·grind
  ·grind
  ·refine jC.mk (by simp_all) fun i d cs h1 h2=>?_;rw[ydf]at h1 h2;split at h1
   ·rename_i e;rw[yab e]at h2;obtain⟨cs',h3,h4⟩:=hd.get h1
    simp_all
   grind
end
mutual
def D.zs:D->List zA
 | .int k _=>[.int k 0]
 | .bool _=>[.bool false]
 | .str _=>[.str []]
 | .sl _ _=>[.nilslice]
 | .st l=>D.zss l
def D.zss:List D->List zA
 | []=>[]
 | d::l=>d.zs++D.zss l
end
def JW:∀(z z' l l':List zA),mO z l=true->mO z' l'=true->mO (z++z') (l++l')=true
 | [],_,[],_,_,h=>h
 | a::z,z',b::l,l',h,k=>by
  unfold mO at h;rw[ybb]at h;show(mS a b&&mO (z++z') (l++l'))=true;rw[h.1,JW z z' l l' h.2 k];rfl
 | [],_,_::_,_,h,_=>by cases h
 | _::_,_,[],_,h,_=>by cases h
mutual
theorem Yc{t:Tr qA}:∀(d:D) (cs:List zA),RD t d cs->mO d.zs cs=true
 | .int k n,cs,h=>by
  rw[RD]at h;subst h;show(mS (.int k 0) (.int k n)&&true)=true
  grind [mS,zA.asIntK,sK]
 | .bool _,cs,h=>by rw[RD]at h;subst h;rfl
 | .str _,cs,h=>by rw[RD]at h;subst h;rfl
 | .sl sz l,cs,h=>by
  rw[oM]at h;obtain⟨v,rfl,h⟩:=h;show(mS .nilslice v&&true)=true;rw[Kw h];rfl
 | .st l,cs,h=>by
  rw[nJ]at h;obtain⟨cl,rfl,h⟩:=h;show mO (D.zss l) cl.flatten=true;exact JT l cl h
theorem JT{t:Tr qA}:∀(l:List D) (cl:List (List zA)),jC t l cl->mO (D.zss l) cl.flatten=true
 | [],cl,h=>by rw[jC]at h;subst h;rfl
 | d::l,cl,h=>by
  rw[jC]at h;obtain⟨c,r,rfl,h1,h2⟩:=h;show mO (d.zs++D.zss l) (c::r).flatten=true;rw[yas];exact JW _ _ _ _ (Yc d c h1) (JT l r h2)
end
theorem fB{k:IntKind}{n:Int}:jZ k (.int k n)=some n:=by unfold jZ;simp only[zA.asIntK,pA];rw[sK.2 rfl];rfl
def Dd{b:Bool}:(zA.bool b).asBool=some b:=rfl
def MR{s:List Nat}:(zA.str s).asStr=some s:=rfl
theorem El{d:Nat}{k:IntKind}{n:Int}:same d (.int k n) (.int k n)=true:=by
 cases d<;>simp[same,sK,nV]
theorem RF{d:Nat}{b:Bool}:same d (.bool b) (.bool b)=true:=by cases d<;>simp[same,lR]
theorem Uo{d:Nat}{s:List Nat}:same d (.str s) (.str s)=true:=by cases d<;>simp[same,aI]
theorem wrap_i64{n:Int}(h1 : -9223372036854775808<=n)(h2:n<9223372036854775808):jA .i64 n=n:=by
 grind [vN,IntKind.wrap,IntKind.bits,IntKind.signed]
def rG{t:Tr qA}{d:D}{cs zs:List zA}(h:RD t d cs)(hz:d.zs=zs):yN zs (.agg cs)=some (cellsOf cs):=by
 unfold yN;simp only[zA.asAgg,pA];rw[<- hz,Yc d cs h];rfl
theorem zW{zs l:List zA}(h:mO zs l=true):yN zs (.agg l)=some (cellsOf l):=by
 simp_all [yN,zA.asAgg]
end Go.Am
