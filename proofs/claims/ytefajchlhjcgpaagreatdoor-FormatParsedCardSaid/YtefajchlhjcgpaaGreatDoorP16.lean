/- Seat 33: strconv.FormatUint at base 10. -/
import Derived.KernelRfl
import Derived.Lib.AppendIntMem
import Derived.ProofKit
import Derived.Test.YtefajchlhjcgpaaGreatDoorP09
import Derived.Test.YtefajchlhjcgpaaGreatDoorP10
import Derived.Test.YtefajchlhjcgpaaGreatDoorP11
import Derived.Test.YtefajchlhjcgpaaGreatDoorP12
import Derived.Test.YtefajchlhjcgpaaGreatDoorP13
import Derived.Test.YtefajchlhjcgpaaGreatDoorP14
import Derived.Test.YtefajchlhjcgpaaGreatDoorP15
set_option linter.all false
noncomputable section
namespace Go.Proofs
open Go Go.Shelf Go.RowKit Go.Sort Go.Lib
set_option maxHeartbeats 1000000 in
set_option maxRecDepth 100000 in
theorem VH(u:Nat)(hi:u<100)(w:World) :
  Calls Tryz.prog 270 #[.int .u64 u,.int .i64 10] w λe w'=>e=.returned (.string ⟨(Lib.itoa u).toArray⟩)/\∃k os,w'=Sort.grow (w.drewN k) os:=by
 have a:(u:Int)<100:=by omega
 have b:IntKind.i64.wrap (u:Int)=u:=by rw[IntKind.wrap_i64];omega
 go_enter Tryz.func270,Tryz.ntmps270
 go_wp2_with (go_at_fn 272)
 refine(Tryz.internal_strconv_small u hi _).mono ?_;rintro e w' ⟨rfl,rfl⟩
 go_wp2
 go_ret
 refine⟨?_,0,#[],by simp_all [World.drewN_zero]⟩;rw[Lib.itoa_nonneg];rfl
set_option maxHeartbeats 4000000 in
set_option maxRecDepth 100000 in
theorem zah (u : Nat) (x : 100 <= u) (a : u < 18446744073709551616) (w : World) (g : Lib.TabIs Tryz.prog w "internal/strconv.uint64pow10" .u64 Lib.pow10Tab) :
  Calls Tryz.prog 270 #[.int .u64 u,.int .i64 10] w λe w'=>e=.returned (.string ⟨(Lib.itoa u).toArray⟩)/\∃k os,w'=Sort.grow (w.drewN k) os:=by
 have v:(100:Int)<=(u:Int):=by omega
 have i:1<=u:=by omega
 have p:Lib.nDigits u<=20:=by have:=Lib.numDigits_eq u i a;split at this<;>omega
 have n:Tryz.prog.arrayLen 305=24:=by kernel_rfl
 have o:Tryz.prog.elem 305=5:=by kernel_rfl
 have t:∀W,(Instr.sliceAt 305 (.pointer (some ⟨w.heap.size,0,none⟩)) none (some (.int .i64 (Lib.nDigits u:Int))) none).run Tryz.prog W=.ok (.slice (some ⟨w.heap.size,0,none⟩) (Lib.nDigits u) 24) W:=λW=>by
  rw[run_sliceAt_array_h W 305 ⟨w.heap.size,0,none⟩ (by simp_all) .i64 (Lib.nDigits u:Int) (by omega) (by omega)]
  simp_all [slicedAt,Addr.add]
 have d:=Lib.holds_zero0 w 305 (Lib.nDigits u) (by omega);have c:=Tryz.internal_strconv_formatBase10 w.heap.size 0 24 u (Array.replicate (Lib.nDigits u) 0) (w.alloc (.cells Lib.zeros24 305)) d (by grind [Lib.lt_pow_nDigits]) a (by grind);rw[Array.size_replicate]at c;have l:=Lib.hid d;clear d n o
 go_enter Tryz.func270,Tryz.ntmps270
 go_wp2_with (go_at_fn 273)
 refine(Tryz.internal_strconv_numDigits u i a _ (Lib.tabIs_alloc g _)).mono ?_;rintro e w' ⟨rfl,rfl⟩
 go_wp2_with (go_at_fn 274)
 refine c.mono ?_;rintro e w' ⟨rfl,k,y,f,rfl,m⟩;have r:(convert 96 9 (.slice (some ⟨w.heap.size,0,none⟩) (Lib.nDigits u) 24)).run Tryz.prog ((putRow (fun(b:UInt8)=>Value.int .u8 (b.toNat:Int)) (w.alloc (.cells Lib.zeros24 305)) w.heap.size 0 f).drewN k)=.ok (.string ⟨(Lib.decDigits u).toArray⟩) ((putRow (fun(b:UInt8)=>Value.int .u8 (b.toNat:Int)) (w.alloc (.cells Lib.zeros24 305)) w.heap.size 0 f).drewN k):=by
  have h:=run_convert_bytes_back (P:=Tryz.prog) ((putRow (fun(b:UInt8)=>Value.int .u8 (b.toNat:Int)) (w.alloc (.cells Lib.zeros24 305)) w.heap.size 0 f).drewN k) 96 9 5 ⟨w.heap.size,0,none⟩ 24 (Lib.decDigits u) Tryz.underlying96 Tryz.underlying5 Tryz.underlying9 (λj s=>by
   rw[Lib.row_is_numeral m j s,Lib.add_plain,World.cell?_drewN];exact cell?_putRow (fun(b:UInt8)=>Value.int .u8 (b.toNat:Int)) _ w.heap.size 0 _ f l.out (by rw[m.size,Array.size_replicate]) j (by rw[m.size];grind [Lib.decDigits_length]))
  grind [Lib.decDigits_length]
 go_wp2
 go_ret
 obtain⟨os,q⟩:=Lib.fin_at w (.cells Lib.zeros24 305) f k 0;refine⟨?_,k,os,q⟩;rw[Lib.itoa_nonneg];rfl
set_option maxHeartbeats 1000000 in
set_option maxRecDepth 100000 in
def ir (u : Nat) (c : u < 18446744073709551616) (w : World) (b : Lib.TabIs Tryz.prog w "internal/strconv.uint64pow10" .u64 Lib.pow10Tab) :
  Calls Tryz.prog 238 #[.int .u64 u,.int .i64 10] w λe w'=>e=.returned (.string ⟨(Lib.itoa u).toArray⟩)/\∃k os,w'=Sort.grow (w.drewN k) os:=by
 have a:Calls Tryz.prog 270 #[.int .u64 u,.int .i64 10] w λe w'=>e=.returned (.string ⟨(Lib.itoa u).toArray⟩)/\∃k os,w'=Sort.grow (w.drewN k) os:=by
  grind [VH,zah]
 go_enter Tryz.func238,Tryz.ntmps238
 go_wp2_with (go_at_fn 270)
 refine a.mono ?_;rintro e w' ⟨rfl,k,os,rfl⟩
 go_wp2
 go_ret
 exact⟨rfl,k,os,rfl⟩
end Go.Proofs
set_option maxRecDepth 100000
namespace Go.Am
open Go Go.RowKit Go.Proofs
variable {C:fA}{base f:Nat}
theorem zde:N7 (λt ty=>match R6 Tryz.prog t with | some u=>fe u ty | none=>false) mr (λn=>n)=true:=by kernel_rfl
def wx (a:C.b=mr):nG Tryz.prog C:=by
 intro t b h;grind [zye,zde,zxa]
theorem XR : (Tryz.funcs.toList.all λfn => !(fn.name == "runtime.NumGoroutine")) = true := by kernel_rfl
def Yn (b:C.d=L5):Jd Tryz.prog C:=by
 intro f a h;rw[b]at h;unfold L5 at h;rw[G.o]at h;have c:Tryz.prog.funcs[f]?=some a:=by
  show Tryz.funcs[f]?=some a
  grind
 grind [XR]
def S1 (l:List Int):List Value:=l.map λn=>.int .u64 n
theorem HW{μ:Mu}:∀l:List Int,bB μ (Fb .u64 l) (S1 l)
 | []=>.p
 | b::l=>.e (by rw[rA]) (HW l)
structure bJ (w:World):Prop where
 a:∃t,w.heap[0]?=some (.cells (lR rU).toArray t (0,0))
 b:∃t,w.heap[1]?=some (.cells (lR zU).toArray t (0,0))
 d:∃t,w.heap[3]?=some (.cells (Ig aV).toArray t (0,0))
 e:∃m,w.cell? ⟨2,0,none⟩=some (.int .i64 m)
 f:∃t,w.heap[5]?=some (.cells (S1 Ej).toArray t (0,0))
def bJ.c{w:World}(h:bJ w):6<=w.heap.size:=by
 obtain⟨t,h⟩:=h.f
 grind
def bJ.below{w w':World}{N:Nat}(b:6<=N)(h:bJ w)(a:Below N w w'):bJ w':=by
 refine⟨?_,?_,?_,?_,?_⟩
 .obtain⟨t,h⟩:=h.a;exact⟨t,by rw[a.block 0 (by omega)];exact h⟩
 .obtain⟨t,h⟩:=h.b;exact⟨t,by rw[a.block 1 (by omega)];exact h⟩
 .obtain⟨t,h⟩:=h.d;exact⟨t,by rw[a.block 3 (by omega)];exact h⟩
 .obtain⟨m,h⟩:=h.e;exact⟨m,by rw[a.cell (p:=⟨2,0,none⟩) (by grind)];exact h⟩
 .obtain⟨t,h⟩:=h.f;exact⟨t,by rw[a.block 5 (by omega)];exact h⟩
def bJ.g {w : World} (h : bJ w) : Lib.TabIs Tryz.prog w "internal/strconv.uint64pow10" .u64 Lib.pow10Tab := by
 obtain⟨t,h⟩:=h.f;have a : Tryz.prog.globalNamed "internal/strconv.uint64pow10" = some 5 := by kernel_rfl
 unfold Lib.TabIs World.var?;rw[a];simp only[Z6,h];rfl
def iu{w:World}(h:bJ w):lB 256 w.heap.size mq M5 w:=by
 have c:∀a x,M5.t.c a=some x->(a=0/\x=.aa (G.ac (Hc rU)) (vB (Hc rU)) none)\/(a=1/\x=.aa (G.ac (Hc zU)) (vB (Hc zU)) none)\/(a=3/\x=.aa (G.ac (Fb .i64 aV)) (vB (Fb .i64 aV)) none)\/(a=5/\x=.aa (G.ac (Fb .u64 Ej)) (vB (Fb .u64 Ej)) none):=by
  intro a x d;have d:(G0 0 (Hc rU) (G0 1 (Hc zU) (G0 3 (Fb .i64 aV) (G0 5 (Fb .u64 Ej) .aj)))).c a=some x:=d
  grind [G0,G.aa,G.ah]
 have k:=h.c;refine⟨B4 _,λg l=>by simp[mq,l],λa x i _ d e=>?_,B4 _,B4 _,λa f=>?_,λa x i d e=>?_,λa i f e=>?_,λa b x y i j d _ _ _ f _ _=>?_,λa x t f=>by cases f⟩
 .rcases c a x d with⟨rfl,rfl⟩ | ⟨rfl,rfl⟩ | ⟨rfl,rfl⟩ | ⟨rfl,rfl⟩<;>cases e<;>exact⟨Nat.lt_of_lt_of_le (by decide) k,rfl,rfl⟩
 .have f:256<=a:=f;refine⟨by grind [mq],?_⟩
  cases d:M5.t.c a with
  | none=>rfl
  | some x=>rcases c a x d with⟨rfl,_⟩ | ⟨rfl,_⟩ | ⟨rfl,_⟩ | ⟨rfl,_⟩<;>omega
 .rcases c a x d with⟨rfl,rfl⟩ | ⟨rfl,rfl⟩ | ⟨rfl,rfl⟩ | ⟨rfl,rfl⟩
  .obtain⟨t,h⟩:=h.a;cases e;exact⟨_,h,Zr (BF rU) t⟩
  .obtain⟨t,h⟩:=h.b;cases e;exact⟨_,h,Zr (BF zU) t⟩
  .obtain⟨t,h⟩:=h.d;cases e;exact⟨_,h,Zr (OZ aV) t⟩
  .obtain⟨t,h⟩:=h.f;cases e;grind [Zr,HW]
 all_goals grind [mq]
def Dz{s:ByteArray}{l:List Nat}(h:rG s=l):s.data.toList.map UInt8.toNat=l:=h
def Bd {fn:Func}(b:Tryz.funcs[f]?=some fn)(a:fn.body.isSome=true){args:Array Value}{w:World}:(callFunc f args).run Tryz.prog w=.ok (.enter f args) w:=
 Wk (C:=N8) (Yn rfl) (show L5.c f=some fn by grind [L5,G.o]) a
section
variable {B N:Nat}{μ:Mu}{H:sA}{w:World}{args:List O}{args':Array Value}{v:O}
def Mx{a b:O}(h:bB μ [a,b] args'.toList):∃x y,args' = #[x,y]/\rA μ a x/\rA μ b y:=by
 grind [bB]
def LF (i:(callFunc f args').run Tryz.prog w=.ok (.enter f args') w)(j:∀(s:ByteArray) (c:Int),Calls Tryz.prog f #[.string s,.int .u8 c] w λe w'=>e=.returned (.int .i64 (Lib.indexByte s.data.toList c.toNat.toUInt8))/\w'=w)(a:Sa args H=some v)(l:bB μ args args'.toList) :
  (callFunc f args').run Tryz.prog w=.ok (.enter f args') w/\Calls Tryz.prog f args' w λe w'=>∃v',e=.returned v'/\rA μ v v'/\Below w.heap.size w w':=by
 refine⟨i,?_⟩;unfold Sa at a;split at a
 case h_2=>cases a
 rename_i s c;rw[qB,eC]at a;obtain⟨o,a⟩:=a;cases a;obtain⟨x,y,rfl,d,g⟩:=Mx l;simp only[rA]at d g;obtain⟨h,rfl,m⟩:=d;subst g;refine(j h (Int.ofNat c)).mono λe w' ⟨k,n⟩=>?_;subst n;refine⟨_,k,?_,Below.refl _ _⟩;have b:(c.toUInt8).toNat=c:=by simp_all
 have:=PD c.toUInt8 h.data.toList;rw[b,Dz m]at this;grind [rA]
theorem LG(k:bJ w)(a:Nt args H=some v)(o:bB μ args args'.toList) :
  (callFunc 143 args').run Tryz.prog w=.ok (.enter 143 args') w/\Calls Tryz.prog 143 args' w λe w'=>∃v',e=.returned v'/\rA μ v v'/\Below w.heap.size w w':=by
 refine⟨Bd (fn:=Tryz.f143) Tryz.func143 (by kernel_rfl),?_⟩;unfold Nt at a;split at a
 case h_2=>cases a
 rename_i s c;rw[qB,eC,dD]at a;obtain⟨g,a⟩:=a;cases a;obtain⟨x,y,rfl,i,j⟩:=Mx o;rw[rA]at i j;obtain⟨d,rfl,h⟩:=i;obtain⟨f,rfl,l⟩:=j;obtain⟨m,p⟩:=k.e;have b:d.size<4294967281:=by
  have:=congrArg List.length (Dz h)
  simp_all
 refine(Tryz.strings_Contains d f m w b p).mono λe w' ⟨n,q⟩=>?_;subst q;refine⟨_,n,?_,Below.refl _ _⟩;have:=SJ f.data.toList d.data.toList;rw[Dz h,Dz l]at this;rw[rA,this]
def TM(k:Nat)(os:Array Obj):Below w.heap.size w (Sort.grow (w.drewN k) os):=by
 refine⟨rfl,rfl,rfl,?_,λj a=>?_⟩
 all_goals grind [Sort.grow,World.drewN]
theorem LD(j:bJ w)(a:Ns args H=some v)(c:bB μ args args'.toList) :
  (callFunc 137 args').run Tryz.prog w=.ok (.enter 137 args') w/\Calls Tryz.prog 137 args' w λe w'=>∃v',e=.returned v'/\rA μ v v'/\Below w.heap.size w w':=by
 refine⟨Bd (fn:=Tryz.f137) Tryz.func137 (by kernel_rfl),?_⟩;unfold Ns at a;split at a
 case h_2=>cases a
 rename_i n;rw[qB,B3]at a;obtain⟨⟨h,i⟩,a⟩:=a;cases a;rw[bB]at c;obtain⟨x,r,b,f,d⟩:=c;rw[bB]at d;rw[rA]at f;subst d f;have:args' = #[.int .i64 n]:=by grind
 subst this;have g : -9223372036854775808<=n:=(Yg _ _).1 h;have o:n<9223372036854775808:=(Lg _ _).1 i;refine(Tryz.strconv_Itoa n g (by omega) w j.g).mono λe w' ⟨b,k,m,l⟩=>?_;subst l;exact⟨_,b,by rw[rA];exact⟨_,rfl,rfl⟩,TM k m⟩
theorem LA(i:bJ w)(a:Rz args H=some v)(l:bB μ args args'.toList) :
  (callFunc 238 args').run Tryz.prog w=.ok (.enter 238 args') w/\Calls Tryz.prog 238 args' w λe w'=>∃v',e=.returned v'/\rA μ v v'/\Below w.heap.size w w':=by
 refine⟨Bd (fn:=Tryz.f238) Tryz.func238 (by kernel_rfl),?_⟩;unfold Rz at a;split at a
 case h_2=>cases a
 rename_i n b;rw[qB,B3,B3]at a;obtain⟨⟨⟨f,g⟩,h⟩,a⟩:=a;cases a;obtain⟨x,y,rfl,c,d⟩:=Mx l;rw[rA]at c d;subst c d;have p:0<=n:=(Yg _ _).1 f;have q:n<18446744073709551616:=(Lg _ _).1 g;obtain rfl:b=10:=(Ba _ _).1 h;obtain⟨u,rfl⟩:∃u:Nat,n=u:=⟨n.toNat,by omega⟩;refine(ir u (by omega) w i.g).mono λe w' ⟨j,k,o,m⟩=>?_;subst m;exact⟨_,j,by rw[rA];exact⟨_,rfl,rfl⟩,TM k o⟩
end
def SH(c:UInt8):∀s:List UInt8,Bj c.toNat (s.map UInt8.toNat)=Lib.countByte s c
 | []=>rfl
 | b::l=>by
  have a:=SH c l
  grind [Lib.countByte,Bj,UInt8.toNat_inj,zD]
section
variable {B N:Nat}{μ:Mu}{H:sA}{w:World}{args:List O}{args':Array Value}{v:O}
theorem za1(a:Wz args H=some v)(n:bB μ args args'.toList) :
  (callFunc 126 args').run Tryz.prog w=.ok (.enter 126 args') w/\Calls Tryz.prog 126 args' w λe w'=>∃v',e=.returned v'/\rA μ v v'/\Below w.heap.size w w':=by
 refine⟨Bd (fn:=Tryz.f126) Tryz.func126 (by kernel_rfl),?_⟩;unfold Wz at a;split at a
 case h_2=>cases a
 rename_i s c;cases a;obtain⟨x,y,rfl,f,g⟩:=Mx n;rw[rA]at f g;obtain⟨h,rfl,q⟩:=f;obtain⟨d,rfl,k⟩:=g;obtain⟨b,i,j⟩:∃b:UInt8,d=⟨#[b]⟩/\b.toNat=c:=by
  have p:=Dz k;obtain⟨⟨l⟩⟩:=d
  simp_all
 subst i;refine(Tryz.strings_Count_one h b w).mono λe w' ⟨m,o⟩=>?_;subst o;refine⟨_,m,?_,Below.refl _ _⟩;have:=SH b h.data.toList
 simp_all [Dz,rA]
theorem zmv(u:bJ w)(f:R8 args H=some v)(C:bB μ args args'.toList) :
  (callFunc 139 args').run Tryz.prog w=.ok (.enter 139 args') w/\Calls Tryz.prog 139 args' w λe w'=>∃v',e=.returned v'/\rA μ v v'/\Below w.heap.size w w':=by
 refine⟨Bd (fn:=Tryz.f139) Tryz.func139 (by kernel_rfl),?_⟩;unfold R8 at f;split at f
 case h_2=>cases f
 rename_i s c;rw[qB,eC,dD]at f;obtain⟨k,f⟩:=f;obtain⟨x,y,rfl,i,o⟩:=Mx C;rw[rA]at i o;obtain⟨g,rfl,l⟩:=i;obtain⟨h,rfl,A⟩:=o;obtain⟨m,D⟩:=u.e;have j:g.size<4294967281:=by
  have:=congrArg List.length (Dz l)
  simp_all
 refine(Tryz.strings_Cut g h m w j D).mono λe w' ⟨B,n,E⟩=>?_;subst E;have z:Below w.heap.size w (w.drewN n):=⟨rfl,rfl,rfl,B4 _,λ_ _=>rfl⟩;refine⟨_,B,?_,z⟩;have d:=zs3 h.data.toList g.data.toList;rw[Dz l,Dz A]at d
 cases i:Ft c s with
 | none=>
  rw[i]at d f;cases f;have d:Lib.index g.data.toList h.data.toList = -1:=d;have e:Lib.cut g.data.toList h.data.toList=(g.data.toList,[],false):=by grind [Lib.cut]
  rw[e,rA];exact⟨_,rfl,.e (by grind [rA]) (.e (by grind [rA,rG]) (.g (by rw[rA])))⟩
 | some p=>
  rw[i]at d f;cases f;obtain⟨a,b,rfl,q,r,t⟩:=d;have e:Lib.cut g.data.toList h.data.toList=(a,b,true):=by unfold Lib.cut;rw[A5 q,r,t]
  rw[e,rA];exact⟨_,rfl,.e (by grind [rA,rG]) (.e (by grind [rA,rG]) (.g (by rw[rA])))⟩
end
section
variable {B N:Nat}{μ:Mu}{H H':sA}{w:World}{args:List O}{args':Array Value}{v:O}
def LH (c:B<=base)(f:lB B N μ H w)(i:Km base Sn args H=some (v,H'))(g:bB μ args args'.toList) :
  (callFunc 87 args').run Tryz.prog w=.ok (.enter 87 args') w/\Calls Tryz.prog 87 args' w λe w'=>∃v' d,e=.returned v'/\μ.le d/\lB B N d H' w'/\Below N w w'/\rA d v v':=
 zgj c (λp o b n w j k l m=>by
  grind [Sn,ZC,ZB]) (λb w h=>ZA b w h) (λw a=>Bd (fn:=Tryz.f87) Tryz.func87 (by kernel_rfl)) f i g
def LC (b:B<=base)(d:lB B N μ H w)(h:Kl base 5 args H=some (v,H'))(g:bB μ args args'.toList) :
  (callFunc 44 args').run Tryz.prog w=.ok (.enter 44 args') w/\Calls Tryz.prog 44 args' w λe w'=>∃v' c,e=.returned v'/\μ.le c/\lB B N c H' w'/\Below N w w'/\rA c v v':=
 XH Tryz.lays169 Tryz.Builder_Extra_169 (f:=44) rfl b (λw a=>Bd (fn:=Tryz.f44) Tryz.func44 (by kernel_rfl)) d h g
end
def mS{a:Type}{t:G a}{i j:Nat}{x y:a}(h:(t.d i x).c j=some y):(j=i/\x=y)\/t.c j=some y:=by
 grind [G.aa]
def KZ(j N:Nat):Pq Tryz.prog (fW j) 256 N bJ:=by
 intro f g a i H v k b m w d e l h;have a:Wv.c f=some g:=a;unfold Wv at a;rcases mS a with⟨rfl,rfl⟩ | a
 .exact mY b e λb=>LF (Bd (fn:=Tryz.f262) Tryz.func262 (by kernel_rfl)) (λs c=>Tryz.stringslite_IndexByte s c _) b h
 rcases mS a with⟨rfl,rfl⟩ | a
 .grind [mY,LG]
 rcases mS a with⟨rfl,rfl⟩ | a
 .grind [mY,LA]
 rcases mS a with⟨rfl,rfl⟩ | a
 .grind [mY,LD]
 rcases mS a with⟨rfl,rfl⟩ | a
 .exact .inr (LC (B4 _) e b h)
 rcases mS a with⟨rfl,rfl⟩ | a
 .exact .inr (LH (B4 _) e b h)
 grind [G.ah]
def iw(a N:Nat)(b:6<=N):rM Tryz.prog (fW a) 256 N bJ:=
 ⟨wx rfl,Yn rfl,KZ a N,B4 _,by kernel_rfl,λ_ _ c h=>h.below b c⟩
def HY {n:Nat}{args:List O}{args':Array Value}{w:World}(i:bJ w)(l:rM Tryz.prog C 256 w.heap.size bJ)(a:C.f=f)(m:bB mq args args'.toList)
  (h:M4 (sX C n (Ea C f args M5))=1):Calls Tryz.prog f args' w λe w'=>e=.returned (.bool true)/\Below w.heap.size w w':=by
 obtain⟨p,b⟩:=zw5 h;unfold Ea at b;have c:∀(n k:Nat),sX C n (.ac k)=.ac k:=by
  intro n;induction n with
  | zero=>intro k;rfl
  | succ n j=>
   intro k;show sX C n (sX C n (.ac k))=_;rw[j,j]
 cases d:xM C f args false with
 | none=>
  simp_all
 | some g=>
  rw[d]at b;refine(ZE l i a (iu i) m d b).mono λe w' ⟨t,o,q,_,r,_,s⟩=>?_
  grind [rA]
def zii:∀ {l:List (List Nat × List Nat)} {a b:List Nat},te l a b=true->(a,b)∈l
 | [],_,_,h=>by cases h
 | p::r,a,b,h=>by
  unfold te at h;rw[bD]at h;split at h
  .grind [eJ]
  .exact .tail _ (zii h)
def UV:∀p∈ww,M4 (sX (fW 24) 16 (Ea (fW 24) 24 [.h p.1,.h p.2] M5))=1:=by
 grind [ww,UU,UT,US,UR,UQ]
theorem XF{μ:Mu}{H:sA}{w:World}{args:List O}{args':Array Value}{v:O}(f:bJ w)(c:CU args H=some v)(g:bB μ args args'.toList) :
  (callFunc 24 args').run Tryz.prog w=.ok (.enter 24 args') w/\Calls Tryz.prog 24 args' w λe w'=>∃v',e=.returned v'/\rA μ v v'/\Below w.heap.size w w':=by
 refine⟨Bd (fn:=Tryz.f24) Tryz.func24 (by kernel_rfl),?_⟩;unfold CU at c;split at c
 case h_2=>cases c
 rename_i a b;rw[qB]at c;obtain⟨d,c⟩:=c;cases c;obtain⟨x,y,rfl,h,i⟩:=Mx g;rw[rA]at h i;refine(HY f (iw 24 w.heap.size f.c) rfl (args' := #[x,y]) (.e (by grind [rA]) (.g (by grind [rA]))) (UV _ (zii d))).mono λe w' ⟨d,j⟩=>?_
 grind [rA]
def XE(N:Nat):Pq Tryz.prog N8 256 N bJ:=by
 intro f g b c H v d j k w a e h i;have b:CQ.c f=some g:=b;unfold CQ at b;rcases mS b with⟨rfl,rfl⟩ | b
 .grind [mY,XF]
 .exact KZ 7 N f g b c H v d j k w a e h i
def ix(N:Nat)(a:6<=N):rM Tryz.prog N8 256 N bJ:=
 ⟨wx rfl,Yn rfl,XE N,B4 _,by kernel_rfl,λ_ _ b h=>h.below a b⟩
theorem ZN{w:World}(a:bJ w):Calls Tryz.prog 7 #[] w λe w'=>e=.returned (.bool true)/\Below w.heap.size w w':=
 HY a (ix _ a.c) rfl .p zkq
theorem za2{μ:Mu}{H:sA}{w:World}{args:List O}{args':Array Value}{v:O}(c:bJ w)(a:td args H=some v)(b:bB μ args args'.toList) :
  (callFunc 7 args').run Tryz.prog w=.ok (.enter 7 args') w/\Calls Tryz.prog 7 args' w λe w'=>∃v',e=.returned v'/\rA μ v v'/\Below w.heap.size w w':=by
 refine⟨Bd (fn:=Tryz.f7) Tryz.func7 (by kernel_rfl),?_⟩;unfold td at a;split at a
 case h_2=>cases a
 cases a;rw[bB]at b;have:args' = #[]:=by simp_all
 grind [ZN,rA]
end Go.Am
namespace Go.Am
open Go Go.RowKit
@[simp] theorem xE {a:Type} {x:Option a}:sB true x=x:=rfl
inductive D where
 | a (k:IntKind) (n:Int)
 | e (b:Bool)
 | c (s:List Nat)
 | h (sz:Nat) (l:List D)
 | f (l:List D)
def At (t:G uA)(b off:Nat)(cs:List O):Prop:=∃c n d,t.c b=some (.aa c n d)/\∀(j:Nat) a,cs[j]?=some a->c.c (off+j)=some a
def dQ(t:G uA)(sz:Nat)(v:O)(cl:List (List O)):Prop:=
 (v=.g/\cl=[])\/∃b d a,v=.m b d cl.length a/\cl.length<=a/\(∃c n f,t.c b=some (.aa c n f)/\(f=none\/∃x,f=some x/\x.c=sz))/\∀(i:Nat) e,cl[i]?=some e->e.length=sz/\At t b (d+i*sz) e
mutual
/-- cells read as data -/
def RD (t:G uA):D->List O->Prop
 | .a k n,cs=>cs=[.e k n]
 | .e b,cs=>cs=[.d b]
 | .c s,cs=>cs=[.h s]
 | .h sz l,cs=>∃a cl,cs=[a]/\dQ t sz a cl/\tD t l cl
 | .f l,cs=>∃cl,cs=cl.flatten/\tD t l cl
def tD (t:G uA):List D->List (List O)->Prop
 | [],cl=>cl=[]
 | d::l,cl=>∃c r,cl=c::r/\RD t d c/\tD t l r
end
def zB (t t':G uA):Prop:=∀b y,t.c b=some y->t'.c b=some y
theorem zB.f(t:G uA):zB t t:=λ_ _ h=>h
def zB.d{a b c:G uA}(h:zB a b)(k:zB b c):zB a c:=λx y e=>k x y (h x y e)
section
variable {t t':G uA}{C:fA}
theorem At.f(h:zB t t'){b off:Nat}{cs:List O}(k:At t b off cs):At t' b off cs:=by
 obtain⟨c,n,e,a,d⟩:=k;exact⟨c,n,e,h _ _ a,d⟩
theorem dQ.d(h:zB t t'){sz:Nat}{v:O}{cl:List (List O)}(k:dQ t sz v cl):dQ t' sz v cl:=by
 rcases k with k | ⟨b,d,a,j,l,⟨c,n,p,m,o⟩,f⟩
 .exact .inl k
 .exact .inr ⟨b,d,a,j,l,⟨c,n,p,h _ _ m,o⟩,λi e g=>⟨(f i e g).1,(f i e g).2.f h⟩⟩
mutual
theorem RD.f(h:zB t t'):∀(d:D) (cs:List O),RD t d cs->RD t' d cs
 | .a _ _,_,k=>k
 | .e _,_,k=>k
 | .c _,_,k=>k
 | .h _ l,_,⟨a,cl,b,e,f⟩=>⟨a,cl,b,e.d h,tD.f h l cl f⟩
 | .f l,_,⟨cl,b,e⟩=>⟨cl,b,tD.f h l cl e⟩
theorem tD.f(h:zB t t'):∀(l:List D) (cl:List (List O)),tD t l cl->tD t' l cl
 | [],_,k=>k
 | d::l,_,⟨c,r,b,e,f⟩=>⟨c,r,b,RD.f h d c e,tD.f h l r f⟩
end
def tD.g:∀ {l:List D} {cl:List (List O)},tD t l cl->cl.length=l.length:=by
 intro l;induction l with
 | nil=>grind [tD]
 | cons d l a=>grind [tD]
theorem tD.p:∀ {l:List D} {cl:List (List O)} {i:Nat} {d:D},tD t l cl->l[i]?=some d->∃cs,cl[i]?=some cs/\RD t d cs:=by
 intro l;induction l with
 | nil=>simp_all
 | cons e l a=>
  grind [tD]
theorem tD.mk:∀ {l:List D} {cl:List (List O)},cl.length=l.length->(∀(i:Nat) d cs,l[i]?=some d->cl[i]?=some cs->RD t d cs)->tD t l cl:=by
 intro l;induction l with
 | nil=>grind [tD]
 | cons e l a=>
  intro cl h k
  cases cl with
  | nil=>simp at h
  | cons c r=>
   rw[tD];exact⟨c,r,rfl,k 0 e c (by simp) (by simp),a (by grind) λi d cs b f=>k (i+1) d cs (by simp_all) (by simp_all)⟩
@[simp] theorem lP {k:IntKind} {n:Int} {cs:List O}:RD t (.a k n) cs ↔ cs=[.e k n]:=Iff.rfl
@[simp] theorem Dl {b:Bool} {cs:List O}:RD t (.e b) cs ↔ cs=[.d b]:=Iff.rfl
@[simp] theorem mP {s:List Nat} {cs:List O}:RD t (.c s) cs ↔ cs=[.h s]:=Iff.rfl
def bA (t:G uA)(sz:Nat)(l:List D)(v:O):Prop:=∃a,dQ t sz v a/\tD t l a
theorem bA.a(h:zB t t'){sz:Nat}{l:List D}{v:O}(k:bA t sz l v):bA t' sz l v:=by
 obtain⟨a,b,c⟩:=k;exact⟨a,b.d h,tD.f h _ _ c⟩
theorem xR{sz:Nat}{l:List D}{cs:List O}:RD t (.h sz l) cs ↔ ∃v,cs=[v]/\bA t sz l v:=by
 rw[RD];constructor
 .rintro⟨a,b,rfl,c,d⟩;exact⟨a,rfl,b,c,d⟩
 .rintro⟨a,rfl,b,c,d⟩;grind
theorem lK{l:List D}{cs:List O}:RD t (.f l) cs ↔ ∃cl,cs=cl.flatten/\tD t l cl:=by rw[RD]
theorem pG{cl:List (List O)}:tD t [] cl ↔ cl=[]:=by rw[tD]
theorem kD{d:D}{l:List D}{cl:List (List O)}:tD t (d::l) cl ↔ ∃c r,cl=c::r/\RD t d c/\tD t l r:=by rw[tD]
def bA.e{sz:Nat}{l:List D}{v:O}(h:bA t sz l v):O.z v=true:=by
 obtain⟨e,c,_⟩:=h;rcases c with⟨rfl,_⟩ | ⟨b,d,a,rfl,_⟩
 .decide
 .rfl
def bA.c{sz:Nat}{l:List D}{v:O}(h:bA t sz l v):vC v=some (.e .i64 (l.length:Int)):=by
 obtain⟨f,c,d⟩:=h;have:=d.g;rcases c with⟨rfl,rfl⟩ | ⟨b,e,a,rfl,_⟩
 .have:l.length=0:=this.symm;rw[this];rfl
 .rw[<- this];rfl
theorem bA.g{sz d:Nat}{l:List D}{v:O}(h:bA t sz l v):A8 d v v=true:=by
 obtain⟨f,c,_⟩:=h;rcases c with⟨rfl,_⟩ | ⟨b,e,a,rfl,_⟩
 all_goals grind [Am.A8,Nat.beq_refl]
theorem Ys{sz:Nat}{l:List D}{v:O}(h:bA t sz l v):Bc .g v=true:=by
 obtain⟨e,c,_⟩:=h;rcases c with⟨rfl,_⟩ | ⟨b,d,a,rfl,_⟩<;>rfl
def At.e{b off j n:Nat}{cs:List O}(h:At t b off cs){ty:Nat}{y:jD}(k:C.b.c ty=some y)(f:y.a.h=true)(i:y.b=n)(g:j+n<=cs.length):oA C ty ⟨0,t⟩ (.j b (off+j))=some (.i ((cs.drop j).take n)):=by
 obtain⟨c,m,p,d,e⟩:=h;unfold oA;simp only[O.ah,lA];rw[k,lA];unfold eD;rw[d,lA];simp only[uA.a,lA];unfold dV;rw[f,cond_true,i];have o:∀(n j:Nat),j+n<=cs.length->c.u n (off+j)=some ((cs.drop j).take n):=by
  intro n;induction n with
  | zero=>intro j _;simp;rfl
  | succ n l=>
   intro j g;have a:j<cs.length:=by omega
   rw[G.aw,e j cs[j] (D0 a),lA,show off+j+1=off+(j+1) by omega,l (j+1) (by omega),lA,F8 a,List.take_succ_cons]
 simp_all
def At.d{b off j:Nat}{cs:List O}{a:O}(h:At t b off cs){ty:Nat}{y:jD}(i:C.b.c ty=some y)(f:y.a.h=false)(g:cs[j]?=some a):oA C ty ⟨0,t⟩ (.j b (off+j))=some a:=by
 obtain⟨c,m,k,d,e⟩:=h
 simp_all [oA,O.ah,eD,uA.a,dV]
structure mG (C:fA) (T el sz:Nat) (agg:Bool):Prop where
 ty:∃y,C.b.c T=some y/\y.a.a=some el
 el:∃y,C.b.c el=some y/\y.b=sz/\y.a.h=agg
def Qp(b:Bool)(cs:List O):O:=if b then .i cs else match cs with | a::_=>a | []=>.y
def mG.at{T el sz:Nat}{c:Bool}(h:mG C T el sz c)(A:c=false->sz=1){l:List D}{v:O}(E:bA t sz l v){i:Nat}{d:D}(hi:l[i]?=some d) :
  ∃b off cs,zC C T v (.e .i64 (i:Int))=some (.j b off)/\oA C el ⟨0,t⟩ (.j b off)=some (Qp c cs)/\At t b off cs/\cs.length=sz/\RD t d cs:=by
 obtain⟨⟨y,q,s⟩,⟨z,e,f,g⟩⟩:=h;obtain⟨x,n,B⟩:=E;obtain⟨cs,m,p⟩:=B.p hi;rcases n with⟨rfl,rfl⟩ | ⟨b,off,w,rfl,_,_,n⟩
 .simp at m
 .obtain⟨u,k⟩:=n i cs m;have o:i<x.length:=(G1.1 m).1;refine⟨b,off+i*sz,cs,?_,?_,k,u,p⟩
  .unfold zC;rw[q,lA];have:(O.e .i64 (i:Int)).aj=some i:=rfl;rw[this,lA];simp only[O.u];rw[s,lA,e,lA,eC.2 o,f];rfl
  .cases c with
   | true=>
    have:=k.e (j:=0) e g f (by omega);simp only[L9,H6]at this;rw[this,<- u,List.take_length];rfl
   | false=>
    have F:=A rfl
    cases cs with
    | nil=>simp_all
    | cons a r=>
     have:=k.d (j:=0) (a:=a) e g (by simp);rw[L9]at this;rw[this];rfl
end
section
variable {t:G uA}{C:fA}
def mG.f{T el sz:Nat}{o:Bool}(h:mG C T el sz o){l:List D}{v:O}(L:bA t sz l v){k:Nat}(W:k<=l.length) :
  ∃v',aF C T ⟨0,t⟩ v none (some (.e .i64 (k:Int)))=some v'/\bA t sz (l.take k) v':=by
 obtain⟨⟨y,s,g⟩,⟨z,j,N,P⟩⟩:=h;obtain⟨F,B,A⟩:=L;have E:=A.g;unfold aF;rw[s,lA];have J:∀y,Bm y (.e .i64 (k:Int))=sB (Nat.ble k y) (some k):=λy=>rfl;rcases B with⟨rfl,rfl⟩ | ⟨b,m,a,rfl,w,⟨c,n,Q,r,f⟩,B⟩
 .have:k=0:=by grind
  subst this;refine⟨.g,?_,[],.inl ⟨rfl,rfl⟩,by simp[tD]⟩;unfold gP;simp only[O.w,O.u,O.ah];rw[g,lA,j,lA];rfl
 .refine⟨.m b m k a,?_,F.take k,.inr ⟨b,m,a,?_,?_,⟨c,n,Q,r,f⟩,λi H U=>?_⟩,?_⟩
  .unfold gP;simp only[O.w,O.u];rw[g,lA];unfold oS;rw[j,lA];unfold xT Fy;simp only[J];rw[show Nat.ble k a=true from mF.2 (by omega)];simp only[xE,lA];have q:iP ⟨0,t⟩ b z.b a 0 false=false:=by
    unfold iP eD;rw[r,lA];simp only[uA.a];rcases f with rfl | ⟨x,rfl,M⟩
    .rfl
    .simp
   rw[q,E9,cond_false];have K:mQ ⟨0,t⟩ b z.b a 0 false=true:=by
    unfold mQ eD;rw[r,lA];simp only[uA.a];rcases f with rfl | ⟨x,rfl,M⟩
    all_goals simp_all
   rw[show Nat.ble k a=true from mF.2 (by omega),K];simp only[Bool.and_self,xE];congr 1;cases X:Nat.beq a 0<;>simp
  .simp_all
  .grind
  .grind
  .refine tD.mk (by simp_all) λi d H p u=>?_;rw[ul]at p u;split at p
   .rename_i e;rw[A5 e]at u;obtain⟨I,R,S⟩:=A.p p
    simp_all
   grind
end
mutual
def D.g:D->List O
 | .a k _=>[.e k 0]
 | .e _=>[.d false]
 | .c _=>[.h []]
 | .h _ _=>[.g]
 | .f l=>D.i l
def D.i:List D->List O
 | []=>[]
 | d::l=>d.g++D.i l
end
def QN:∀(z d l c:List O),lU z l=true->lU d c=true->lU (z++d) (l++c)=true
 | [],_,[],_,_,h=>h
 | a::z,d,b::l,c,h,k=>by
  unfold lU at h;rw[B3]at h;show(Bc a b&&lU (z++d) (l++c))=true;rw[h.1,QN z d l c h.2 k];rfl
 | [],_,_::_,_,h,_=>by cases h
 | _::_,_,[],_,h,_=>by cases h
mutual
theorem Yr{t:G uA}:∀(d:D) (cs:List O),RD t d cs->lU d.g cs=true
 | .a k n,cs,h=>by
  rw[RD]at h;subst h;show(Bc (.e k 0) (.e k n)&&true)=true
  grind [Bc,O.ac,hO]
 | .e _,cs,h=>by rw[RD]at h;subst h;rfl
 | .c _,cs,h=>by rw[RD]at h;subst h;rfl
 | .h sz l,cs,h=>by
  rw[xR]at h;obtain⟨v,rfl,h⟩:=h;show(Bc .g v&&true)=true;rw[Ys h];rfl
 | .f l,cs,h=>by
  rw[lK]at h;obtain⟨cl,rfl,h⟩:=h;show lU (D.i l) cl.flatten=true;exact QM l cl h
theorem QM{t:G uA}:∀(l:List D) (cl:List (List O)),tD t l cl->lU (D.i l) cl.flatten=true
 | [],cl,h=>by rw[tD]at h;subst h;rfl
 | d::l,cl,h=>by
  rw[tD]at h;obtain⟨c,r,rfl,a,b⟩:=h;show lU (d.g++D.i l) (c::r).flatten=true;rw[lj];exact QN _ _ _ _ (Yr d c a) (QM l r b)
end
theorem yC{k:IntKind}{n:Int}:J3 k (.e k n)=some n:=by unfold J3;simp only[O.ac,lA];rw[hO.2 rfl];rfl
def Iv{b:Bool}:(O.d b).r=some b:=rfl
def TN{s:List Nat}:(O.h s).w=some s:=rfl
theorem Hh{d:Nat}{k:IntKind}{n:Int}:A8 d (.e k n) (.e k n)=true:=by
 cases d<;>simp[A8,hO,Ba]
theorem CA{d:Nat}{b:Bool}:A8 d (.d b) (.d b)=true:=by cases d<;>simp[A8,kZ]
theorem Hg{d:Nat}{s:List Nat}:A8 d (.h s) (.h s)=true:=by cases d<;>simp[A8,eJ]
theorem A2{n:Int}(a : -9223372036854775808<=n)(b:n<9223372036854775808):cA .i64 n=n:=by
 grind [vS,IntKind.wrap,IntKind.bits,IntKind.signed]
def vO{t:G uA}{d:D}{cs zs:List O}(h:RD t d cs)(a:d.g=zs):mK zs (.i cs)=some (AN cs):=by
 unfold mK;simp only[O.ak,lA];rw[<- a,Yr d cs h];rfl
def aQ{zs l:List O}(h:lU zs l=true):mK zs (.i l)=some (AN l):=by
 simp_all [mK,O.ak]
end Go.Am
