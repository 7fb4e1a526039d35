/- Seat 33: strconv.FormatUint at base 10. -/
import Derived.KernelRfl
import Derived.Lib.AppendIntMem
import Derived.ProofKit
import Derived.Test.YtefajchlhjcgpaaGreatDoorC09
import Derived.Test.YtefajchlhjcgpaaGreatDoorC10
import Derived.Test.YtefajchlhjcgpaaGreatDoorC11
import Derived.Test.YtefajchlhjcgpaaGreatDoorC12
import Derived.Test.YtefajchlhjcgpaaGreatDoorC13
import Derived.Test.YtefajchlhjcgpaaGreatDoorC14
import Derived.Test.YtefajchlhjcgpaaGreatDoorC15
set_option linter.all false
noncomputable section
namespace Go.Proofs
open Go Go.Shelf Go.RowKit Go.Sort Go.Lib
set_option maxHeartbeats 1000000 in
set_option maxRecDepth 100000 in
theorem UY(u:Nat)(hi:u<100)(w:World) :
  Calls Tryz.prog 270 #[.int .u64 u,.int .i64 10] w λe w'=>e=.returned (.string ⟨(Lib.itoa u).toArray⟩)/\∃k os,w'=Sort.grow (w.drewN k) os:=by
 have a:(u:Int)<100:=by omega
 have b:IntKind.i64.wrap (u:Int)=u:=by rw[IntKind.wrap_i64];omega
 go_enter Tryz.func270,Tryz.ntmps270
 go_wp2_with (go_at_fn 272)
 refine(Tryz.internal_strconv_small u hi _).mono ?_;rintro e w' ⟨rfl,rfl⟩
 go_wp2
 go_ret
 refine⟨?_,0,#[],by simp_all [World.drewN_zero]⟩;rw[Lib.itoa_nonneg];rfl
set_option maxHeartbeats 4000000 in
set_option maxRecDepth 100000 in
theorem UZ (u : Nat) (x : 100 <= u) (a : u < 18446744073709551616) (w : World) (g : Lib.TabIs Tryz.prog w "internal/strconv.uint64pow10" .u64 Lib.pow10Tab) :
  Calls Tryz.prog 270 #[.int .u64 u,.int .i64 10] w λe w'=>e=.returned (.string ⟨(Lib.itoa u).toArray⟩)/\∃k os,w'=Sort.grow (w.drewN k) os:=by
 have v:(100:Int)<=(u:Int):=by omega
 have i:1<=u:=by omega
 have p:Lib.nDigits u<=20:=by have:=Lib.numDigits_eq u i a;split at this<;>omega
 have n:Tryz.prog.arrayLen 305=24:=by kernel_rfl
 have o:Tryz.prog.elem 305=5:=by kernel_rfl
 have t:∀W,(Instr.sliceAt 305 (.pointer (some ⟨w.heap.size,0,none⟩)) none (some (.int .i64 (Lib.nDigits u:Int))) none).run Tryz.prog W=.ok (.slice (some ⟨w.heap.size,0,none⟩) (Lib.nDigits u) 24) W:=λW=>by
  rw[run_sliceAt_array_h W 305 ⟨w.heap.size,0,none⟩ (by simp_all) .i64 (Lib.nDigits u:Int) (by omega) (by omega)]
  simp_all [slicedAt,Addr.add]
 have d:=Lib.holds_zero0 w 305 (Lib.nDigits u) (by omega);have c:=Tryz.internal_strconv_formatBase10 w.heap.size 0 24 u (Array.replicate (Lib.nDigits u) 0) (w.alloc (.cells Lib.zeros24 305)) d (by grind [Lib.lt_pow_nDigits]) a (by grind);rw[Array.size_replicate]at c;have l:=Lib.hid d;clear d n o
 go_enter Tryz.func270,Tryz.ntmps270
 go_wp2_with (go_at_fn 273)
 refine(Tryz.internal_strconv_numDigits u i a _ (Lib.tabIs_alloc g _)).mono ?_;rintro e w' ⟨rfl,rfl⟩
 go_wp2_with (go_at_fn 274)
 refine c.mono ?_;rintro e w' ⟨rfl,k,y,f,rfl,m⟩;have r:(convert 96 9 (.slice (some ⟨w.heap.size,0,none⟩) (Lib.nDigits u) 24)).run Tryz.prog ((putRow (fun(b:UInt8)=>Value.int .u8 (b.toNat:Int)) (w.alloc (.cells Lib.zeros24 305)) w.heap.size 0 f).drewN k)=.ok (.string ⟨(Lib.decDigits u).toArray⟩) ((putRow (fun(b:UInt8)=>Value.int .u8 (b.toNat:Int)) (w.alloc (.cells Lib.zeros24 305)) w.heap.size 0 f).drewN k):=by
  have h:=run_convert_bytes_back (P:=Tryz.prog) ((putRow (fun(b:UInt8)=>Value.int .u8 (b.toNat:Int)) (w.alloc (.cells Lib.zeros24 305)) w.heap.size 0 f).drewN k) 96 9 5 ⟨w.heap.size,0,none⟩ 24 (Lib.decDigits u) Tryz.underlying96 Tryz.underlying5 Tryz.underlying9 (λj s=>by
   rw[Lib.row_is_numeral m j s,Lib.add_plain,World.cell?_drewN];exact cell?_putRow (fun(b:UInt8)=>Value.int .u8 (b.toNat:Int)) _ w.heap.size 0 _ f l.out (by rw[m.size,Array.size_replicate]) j (by rw[m.size];grind [Lib.decDigits_length]))
  grind [Lib.decDigits_length]
 go_wp2
 go_ret
 obtain⟨os,q⟩:=Lib.fin_at w (.cells Lib.zeros24 305) f k 0;refine⟨?_,k,os,q⟩;rw[Lib.itoa_nonneg];rfl
set_option maxHeartbeats 1000000 in
set_option maxRecDepth 100000 in
def jh (u : Nat) (c : u < 18446744073709551616) (w : World) (b : Lib.TabIs Tryz.prog w "internal/strconv.uint64pow10" .u64 Lib.pow10Tab) :
  Calls Tryz.prog 238 #[.int .u64 u,.int .i64 10] w λe w'=>e=.returned (.string ⟨(Lib.itoa u).toArray⟩)/\∃k os,w'=Sort.grow (w.drewN k) os:=by
 have a:Calls Tryz.prog 270 #[.int .u64 u,.int .i64 10] w λe w'=>e=.returned (.string ⟨(Lib.itoa u).toArray⟩)/\∃k os,w'=Sort.grow (w.drewN k) os:=by
  grind [UY,UZ]
 go_enter Tryz.func238,Tryz.ntmps238
 go_wp2_with (go_at_fn 270)
 refine a.mono ?_;rintro e w' ⟨rfl,k,os,rfl⟩
 go_wp2
 go_ret
 exact⟨rfl,k,os,rfl⟩
end Go.Proofs
set_option maxRecDepth 100000
namespace Go.Am
open Go Go.RowKit Go.Proofs
variable {C:fA}{base f:Nat}
theorem zcs:N1 (λt ty=>match R0 Tryz.prog t with | some u=>f9 u ty | none=>false) m8 (λn=>n)=true:=by kernel_rfl
def AP (a:C.b=m8):nG Tryz.prog C:=by
 intro t b h;grind [zwi,zcs,zvn]
theorem XS : (Tryz.funcs.toList.all λfn => !(fn.name == "runtime.NumGoroutine")) = true := by kernel_rfl
def Yh (b:C.d=K8):Iv Tryz.prog C:=by
 intro f a h;rw[b]at h;unfold K8 at h;rw[G.o]at h;have c:Tryz.prog.funcs[f]?=some a:=by
  show Tryz.funcs[f]?=some a
  grind
 grind [XS]
def R6 (l:List Int):List Value:=l.map λn=>.int .u64 n
theorem HR{μ:Mu}:∀l:List Int,jB μ (Em .u64 l) (R6 l)
 | []=>.p
 | b::l=>.e (by rw[rA]) (HR l)
structure oJ (w:World):Prop where
 a:∃t,w.heap[0]?=some (.cells (xR jT).toArray t (0,0))
 b:∃t,w.heap[1]?=some (.cells (xR rT).toArray t (0,0))
 d:∃t,w.heap[3]?=some (.cells (Hv oV).toArray t (0,0))
 e:∃m,w.cell? ⟨2,0,none⟩=some (.int .i64 m)
 f:∃t,w.heap[5]?=some (.cells (R6 Dw).toArray t (0,0))
def oJ.c{w:World}(h:oJ w):6<=w.heap.size:=by
 obtain⟨t,h⟩:=h.f
 grind
def oJ.below{w w':World}{N:Nat}(b:6<=N)(h:oJ w)(a:Below N w w'):oJ w':=by
 refine⟨?_,?_,?_,?_,?_⟩
 .obtain⟨t,h⟩:=h.a;exact⟨t,by rw[a.block 0 (by omega)];exact h⟩
 .obtain⟨t,h⟩:=h.b;exact⟨t,by rw[a.block 1 (by omega)];exact h⟩
 .obtain⟨t,h⟩:=h.d;exact⟨t,by rw[a.block 3 (by omega)];exact h⟩
 .obtain⟨m,h⟩:=h.e;exact⟨m,by rw[a.cell (p:=⟨2,0,none⟩) (by grind)];exact h⟩
 .obtain⟨t,h⟩:=h.f;exact⟨t,by rw[a.block 5 (by omega)];exact h⟩
def oJ.g {w : World} (h : oJ w) : Lib.TabIs Tryz.prog w "internal/strconv.uint64pow10" .u64 Lib.pow10Tab := by
 obtain⟨t,h⟩:=h.f;have a : Tryz.prog.globalNamed "internal/strconv.uint64pow10" = some 5 := by kernel_rfl
 unfold Lib.TabIs World.var?;rw[a];simp only[Z3,h];rfl
def ji{w:World}(h:oJ w):mB 256 w.heap.size m7 L8 w:=by
 have c:∀a x,L8.t.c a=some x->(a=0/\x=.aa (G.ac (Gt jT)) (wB (Gt jT)) none)\/(a=1/\x=.aa (G.ac (Gt rT)) (wB (Gt rT)) none)\/(a=3/\x=.aa (G.ac (Em .i64 oV)) (wB (Em .i64 oV)) none)\/(a=5/\x=.aa (G.ac (Em .u64 Dw)) (wB (Em .u64 Dw)) none):=by
  intro a x d;have d:(F8 0 (Gt jT) (F8 1 (Gt rT) (F8 3 (Em .i64 oV) (F8 5 (Em .u64 Dw) .aj)))).c a=some x:=d
  grind [F8,G.aa,G.ah]
 have k:=h.c;refine⟨B3 _,λg l=>by simp[m7,l],λa x i _ d e=>?_,B3 _,B3 _,λa f=>?_,λa x i d e=>?_,λa i f e=>?_,λa b x y i j d _ _ _ f _ _=>?_,λa x t f=>by cases f⟩
 .rcases c a x d with⟨rfl,rfl⟩ | ⟨rfl,rfl⟩ | ⟨rfl,rfl⟩ | ⟨rfl,rfl⟩<;>cases e<;>exact⟨Nat.lt_of_lt_of_le (by decide) k,rfl,rfl⟩
 .have f:256<=a:=f;refine⟨by grind [m7],?_⟩
  cases d:L8.t.c a with
  | none=>rfl
  | some x=>rcases c a x d with⟨rfl,_⟩ | ⟨rfl,_⟩ | ⟨rfl,_⟩ | ⟨rfl,_⟩<;>omega
 .rcases c a x d with⟨rfl,rfl⟩ | ⟨rfl,rfl⟩ | ⟨rfl,rfl⟩ | ⟨rfl,rfl⟩
  .obtain⟨t,h⟩:=h.a;cases e;exact⟨_,h,Zk (BK jT) t⟩
  .obtain⟨t,h⟩:=h.b;cases e;exact⟨_,h,Zk (BK rT) t⟩
  .obtain⟨t,h⟩:=h.d;cases e;exact⟨_,h,Zk (OM oV) t⟩
  .obtain⟨t,h⟩:=h.f;cases e;grind [Zk,HR]
 all_goals grind [m7]
def Dj{s:ByteArray}{l:List Nat}(h:sG s=l):s.data.toList.map UInt8.toNat=l:=h
def Aq {fn:Func}(b:Tryz.funcs[f]?=some fn)(a:fn.body.isSome=true){args:Array Value}{w:World}:(callFunc f args).run Tryz.prog w=.ok (.enter f args) w:=
 Wd (C:=N2) (Yh rfl) (show K8.c f=some fn by grind [K8,G.o]) a
section
variable {B N:Nat}{μ:Mu}{H:sA}{w:World}{args:List O}{args':Array Value}{v:O}
def Mr{a b:O}(h:jB μ [a,b] args'.toList):∃x y,args' = #[x,y]/\rA μ a x/\rA μ b y:=by
 grind [jB]
def KW (i:(callFunc f args').run Tryz.prog w=.ok (.enter f args') w)(j:∀(s:ByteArray) (c:Int),Calls Tryz.prog f #[.string s,.int .u8 c] w λe w'=>e=.returned (.int .i64 (Lib.indexByte s.data.toList c.toNat.toUInt8))/\w'=w)(a:Rv args H=some v)(l:jB μ args args'.toList) :
  (callFunc f args').run Tryz.prog w=.ok (.enter f args') w/\Calls Tryz.prog f args' w λe w'=>∃v',e=.returned v'/\rA μ v v'/\Below w.heap.size w w':=by
 refine⟨i,?_⟩;unfold Rv at a;split at a
 case h_2=>cases a
 rename_i s c;rw[qB,gC]at a;obtain⟨o,a⟩:=a;cases a;obtain⟨x,y,rfl,d,g⟩:=Mr l;simp only[rA]at d g;obtain⟨h,rfl,m⟩:=d;subst g;refine(j h (Int.ofNat c)).mono λe w' ⟨k,n⟩=>?_;subst n;refine⟨_,k,?_,Below.refl _ _⟩;have b:(c.toUInt8).toNat=c:=by simp_all
 have:=OP c.toUInt8 h.data.toList;rw[b,Dj m]at this;grind [rA]
theorem KX(k:oJ w)(a:Nq args H=some v)(o:jB μ args args'.toList) :
  (callFunc 143 args').run Tryz.prog w=.ok (.enter 143 args') w/\Calls Tryz.prog 143 args' w λe w'=>∃v',e=.returned v'/\rA μ v v'/\Below w.heap.size w w':=by
 refine⟨Aq (fn:=Tryz.f143) Tryz.func143 (by kernel_rfl),?_⟩;unfold Nq at a;split at a
 case h_2=>cases a
 rename_i s c;rw[qB,gC,eD]at a;obtain⟨g,a⟩:=a;cases a;obtain⟨x,y,rfl,i,j⟩:=Mr o;rw[rA]at i j;obtain⟨d,rfl,h⟩:=i;obtain⟨f,rfl,l⟩:=j;obtain⟨m,p⟩:=k.e;have b:d.size<4294967281:=by
  have:=congrArg List.length (Dj h)
  simp_all
 refine(Tryz.strings_Contains d f m w b p).mono λe w' ⟨n,q⟩=>?_;subst q;refine⟨_,n,?_,Below.refl _ _⟩;have:=RQ f.data.toList d.data.toList;rw[Dj h,Dj l]at this;rw[rA,this]
def SW(k:Nat)(os:Array Obj):Below w.heap.size w (Sort.grow (w.drewN k) os):=by
 refine⟨rfl,rfl,rfl,?_,λj a=>?_⟩
 all_goals grind [Sort.grow,World.drewN]
theorem KV(j:oJ w)(a:Np args H=some v)(c:jB μ args args'.toList) :
  (callFunc 137 args').run Tryz.prog w=.ok (.enter 137 args') w/\Calls Tryz.prog 137 args' w λe w'=>∃v',e=.returned v'/\rA μ v v'/\Below w.heap.size w w':=by
 refine⟨Aq (fn:=Tryz.f137) Tryz.func137 (by kernel_rfl),?_⟩;unfold Np at a;split at a
 case h_2=>cases a
 rename_i n;rw[qB,B2]at a;obtain⟨⟨h,i⟩,a⟩:=a;cases a;rw[jB]at c;obtain⟨x,r,b,f,d⟩:=c;rw[jB]at d;rw[rA]at f;subst d f;have:args' = #[.int .i64 n]:=by grind
 subst this;have g : -9223372036854775808<=n:=(Ya _ _).1 h;have o:n<9223372036854775808:=(Lb _ _).1 i;refine(Tryz.strconv_Itoa n g (by omega) w j.g).mono λe w' ⟨b,k,m,l⟩=>?_;subst l;exact⟨_,b,by rw[rA];exact⟨_,rfl,rfl⟩,SW k m⟩
theorem KS(i:oJ w)(a:Ru args H=some v)(l:jB μ args args'.toList) :
  (callFunc 238 args').run Tryz.prog w=.ok (.enter 238 args') w/\Calls Tryz.prog 238 args' w λe w'=>∃v',e=.returned v'/\rA μ v v'/\Below w.heap.size w w':=by
 refine⟨Aq (fn:=Tryz.f238) Tryz.func238 (by kernel_rfl),?_⟩;unfold Ru at a;split at a
 case h_2=>cases a
 rename_i n b;rw[qB,B2,B2]at a;obtain⟨⟨⟨f,g⟩,h⟩,a⟩:=a;cases a;obtain⟨x,y,rfl,c,d⟩:=Mr l;rw[rA]at c d;subst c d;have p:0<=n:=(Ya _ _).1 f;have q:n<18446744073709551616:=(Lb _ _).1 g;obtain rfl:b=10:=(An _ _).1 h;obtain⟨u,rfl⟩:∃u:Nat,n=u:=⟨n.toNat,by omega⟩;refine(jh u (by omega) w i.g).mono λe w' ⟨j,k,o,m⟩=>?_;subst m;exact⟨_,j,by rw[rA];exact⟨_,rfl,rfl⟩,SW k o⟩
end
def RN(c:UInt8):∀s:List UInt8,Av c.toNat (s.map UInt8.toNat)=Lib.countByte s c
 | []=>rfl
 | b::l=>by
  have a:=RN c l
  grind [Lib.countByte,Av,UInt8.toNat_inj,bC]
section
variable {B N:Nat}{μ:Mu}{H:sA}{w:World}{args:List O}{args':Array Value}{v:O}
theorem zam(a:Wu args H=some v)(n:jB μ args args'.toList) :
  (callFunc 126 args').run Tryz.prog w=.ok (.enter 126 args') w/\Calls Tryz.prog 126 args' w λe w'=>∃v',e=.returned v'/\rA μ v v'/\Below w.heap.size w w':=by
 refine⟨Aq (fn:=Tryz.f126) Tryz.func126 (by kernel_rfl),?_⟩;unfold Wu at a;split at a
 case h_2=>cases a
 rename_i s c;cases a;obtain⟨x,y,rfl,f,g⟩:=Mr n;rw[rA]at f g;obtain⟨h,rfl,q⟩:=f;obtain⟨d,rfl,k⟩:=g;obtain⟨b,i,j⟩:∃b:UInt8,d=⟨#[b]⟩/\b.toNat=c:=by
  have p:=Dj k;obtain⟨⟨l⟩⟩:=d
  simp_all
 subst i;refine(Tryz.strings_Count_one h b w).mono λe w' ⟨m,o⟩=>?_;subst o;refine⟨_,m,?_,Below.refl _ _⟩;have:=RN b h.data.toList
 simp_all [Dj,rA]
theorem zly(u:oJ w)(f:R3 args H=some v)(C:jB μ args args'.toList) :
  (callFunc 139 args').run Tryz.prog w=.ok (.enter 139 args') w/\Calls Tryz.prog 139 args' w λe w'=>∃v',e=.returned v'/\rA μ v v'/\Below w.heap.size w w':=by
 refine⟨Aq (fn:=Tryz.f139) Tryz.func139 (by kernel_rfl),?_⟩;unfold R3 at f;split at f
 case h_2=>cases f
 rename_i s c;rw[qB,gC,eD]at f;obtain⟨k,f⟩:=f;obtain⟨x,y,rfl,i,o⟩:=Mr C;rw[rA]at i o;obtain⟨g,rfl,l⟩:=i;obtain⟨h,rfl,A⟩:=o;obtain⟨m,D⟩:=u.e;have j:g.size<4294967281:=by
  have:=congrArg List.length (Dj l)
  simp_all
 refine(Tryz.strings_Cut g h m w j D).mono λe w' ⟨B,n,E⟩=>?_;subst E;have z:Below w.heap.size w (w.drewN n):=⟨rfl,rfl,rfl,B3 _,λ_ _=>rfl⟩;refine⟨_,B,?_,z⟩;have d:=zrj h.data.toList g.data.toList;rw[Dj l,Dj A]at d
 cases i:Fg c s with
 | none=>
  rw[i]at d f;cases f;have d:Lib.index g.data.toList h.data.toList = -1:=d;have e:Lib.cut g.data.toList h.data.toList=(g.data.toList,[],false):=by grind [Lib.cut]
  rw[e,rA];exact⟨_,rfl,.e (by grind [rA]) (.e (by grind [rA,sG]) (.g (by rw[rA])))⟩
 | some p=>
  rw[i]at d f;cases f;obtain⟨a,b,rfl,q,r,t⟩:=d;have e:Lib.cut g.data.toList h.data.toList=(a,b,true):=by unfold Lib.cut;rw[A5 q,r,t]
  rw[e,rA];exact⟨_,rfl,.e (by grind [rA,sG]) (.e (by grind [rA,sG]) (.g (by rw[rA])))⟩
end
section
variable {B N:Nat}{μ:Mu}{H H':sA}{w:World}{args:List O}{args':Array Value}{v:O}
def KY (c:B<=base)(f:mB B N μ H w)(i:Ki base Si args H=some (v,H'))(g:jB μ args args'.toList) :
  (callFunc 87 args').run Tryz.prog w=.ok (.enter 87 args') w/\Calls Tryz.prog 87 args' w λe w'=>∃v' d,e=.returned v'/\μ.le d/\mB B N d H' w'/\Below N w w'/\rA d v v':=
 zfr c (λp o b n w j k l m=>by
  grind [Si,ZC,ZB]) (λb w h=>ZA b w h) (λw a=>Aq (fn:=Tryz.f87) Tryz.func87 (by kernel_rfl)) f i g
def KU (b:B<=base)(d:mB B N μ H w)(h:Kh base 5 args H=some (v,H'))(g:jB μ args args'.toList) :
  (callFunc 44 args').run Tryz.prog w=.ok (.enter 44 args') w/\Calls Tryz.prog 44 args' w λe w'=>∃v' c,e=.returned v'/\μ.le c/\mB B N c H' w'/\Below N w w'/\rA c v v':=
 XI Tryz.lays169 Tryz.Builder_Extra_169 (f:=44) rfl b (λw a=>Aq (fn:=Tryz.f44) Tryz.func44 (by kernel_rfl)) d h g
end
def xS{a:Type}{t:G a}{i j:Nat}{x y:a}(h:(t.d i x).c j=some y):(j=i/\x=y)\/t.c j=some y:=by
 grind [G.aa]
def KR(j N:Nat):Pl Tryz.prog (wW j) 256 N oJ:=by
 intro f g a i H v k b m w d e l h;have a:Wn.c f=some g:=a;unfold Wn at a;rcases xS a with⟨rfl,rfl⟩ | a
 .exact yY b e λb=>KW (Aq (fn:=Tryz.f262) Tryz.func262 (by kernel_rfl)) (λs c=>Tryz.stringslite_IndexByte s c _) b h
 rcases xS a with⟨rfl,rfl⟩ | a
 .grind [yY,KX]
 rcases xS a with⟨rfl,rfl⟩ | a
 .grind [yY,KS]
 rcases xS a with⟨rfl,rfl⟩ | a
 .grind [yY,KV]
 rcases xS a with⟨rfl,rfl⟩ | a
 .exact .inr (KU (B3 _) e b h)
 rcases xS a with⟨rfl,rfl⟩ | a
 .exact .inr (KY (B3 _) e b h)
 grind [G.ah]
def jj(a N:Nat)(b:6<=N):cL Tryz.prog (wW a) 256 N oJ:=
 ⟨AP rfl,Yh rfl,KR a N,B3 _,by kernel_rfl,λ_ _ c h=>h.below b c⟩
def HT {n:Nat}{args:List O}{args':Array Value}{w:World}(i:oJ w)(l:cL Tryz.prog C 256 w.heap.size oJ)(a:C.f=f)(m:jB m7 args args'.toList)
  (h:L7 (jW C n (Dk C f args L8))=1):Calls Tryz.prog f args' w λe w'=>e=.returned (.bool true)/\Below w.heap.size w w':=by
 obtain⟨p,b⟩:=zvi h;unfold Dk at b;have c:∀(n k:Nat),jW C n (.ac k)=.ac k:=by
  intro n;induction n with
  | zero=>intro k;rfl
  | succ n j=>
   intro k;show jW C n (jW C n (.ac k))=_;rw[j,j]
 cases d:iL C f args false with
 | none=>
  simp_all
 | some g=>
  rw[d]at b;refine(ZE l i a (ji i) m d b).mono λe w' ⟨t,o,q,_,r,_,s⟩=>?_
  grind [rA]
def zhn:∀ {l:List (List Nat × List Nat)} {a b:List Nat},tj l a b=true->(a,b)∈l
 | [],_,_,h=>by cases h
 | p::r,a,b,h=>by
  unfold tj at h;rw[bD]at h;split at h
  .grind [bJ]
  .exact .tail _ (zhn h)
def UG:∀p∈AH,L7 (jW (wW 24) 16 (Dk (wW 24) 24 [.h p.1,.h p.2] L8))=1:=by
 grind [AH,UF,UE,UD,UC,UA]
theorem XE{μ:Mu}{H:sA}{w:World}{args:List O}{args':Array Value}{v:O}(f:oJ w)(c:CX args H=some v)(g:jB μ args args'.toList) :
  (callFunc 24 args').run Tryz.prog w=.ok (.enter 24 args') w/\Calls Tryz.prog 24 args' w λe w'=>∃v',e=.returned v'/\rA μ v v'/\Below w.heap.size w w':=by
 refine⟨Aq (fn:=Tryz.f24) Tryz.func24 (by kernel_rfl),?_⟩;unfold CX at c;split at c
 case h_2=>cases c
 rename_i a b;rw[qB]at c;obtain⟨d,c⟩:=c;cases c;obtain⟨x,y,rfl,h,i⟩:=Mr g;rw[rA]at h i;refine(HT f (jj 24 w.heap.size f.c) rfl (args' := #[x,y]) (.e (by grind [rA]) (.g (by grind [rA]))) (UG _ (zhn d))).mono λe w' ⟨d,j⟩=>?_
 grind [rA]
def XD(N:Nat):Pl Tryz.prog N2 256 N oJ:=by
 intro f g b c H v d j k w a e h i;have b:CT.c f=some g:=b;unfold CT at b;rcases xS b with⟨rfl,rfl⟩ | b
 .grind [yY,XE]
 .exact KR 7 N f g b c H v d j k w a e h i
def jk(N:Nat)(a:6<=N):cL Tryz.prog N2 256 N oJ:=
 ⟨AP rfl,Yh rfl,XD N,B3 _,by kernel_rfl,λ_ _ b h=>h.below a b⟩
theorem ZN{w:World}(a:oJ w):Calls Tryz.prog 7 #[] w λe w'=>e=.returned (.bool true)/\Below w.heap.size w w':=
 HT a (jk _ a.c) rfl .p zjs
theorem zan{μ:Mu}{H:sA}{w:World}{args:List O}{args':Array Value}{v:O}(c:oJ w)(a:ti args H=some v)(b:jB μ args args'.toList) :
  (callFunc 7 args').run Tryz.prog w=.ok (.enter 7 args') w/\Calls Tryz.prog 7 args' w λe w'=>∃v',e=.returned v'/\rA μ v v'/\Below w.heap.size w w':=by
 refine⟨Aq (fn:=Tryz.f7) Tryz.func7 (by kernel_rfl),?_⟩;unfold ti at a;split at a
 case h_2=>cases a
 cases a;rw[jB]at b;have:args' = #[]:=by simp_all
 grind [ZN,rA]
end Go.Am
namespace Go.Am
open Go Go.RowKit
@[simp] theorem xE {a:Type} {x:Option a}:tB true x=x:=rfl
inductive D where
 | a (k:IntKind) (n:Int)
 | e (b:Bool)
 | c (s:List Nat)
 | g (sz:Nat) (l:List D)
 | f (l:List D)
def At (t:G vA)(b off:Nat)(cs:List O):Prop:=∃c n d,t.c b=some (.aa c n d)/\∀(j:Nat) a,cs[j]?=some a->c.c (off+j)=some a
def nO(t:G vA)(sz:Nat)(v:O)(cl:List (List O)):Prop:=
 (v=.g/\cl=[])\/∃b d a,v=.m b d cl.length a/\cl.length<=a/\(∃c n f,t.c b=some (.aa c n f)/\(f=none\/∃x,f=some x/\x.c=sz))/\∀(i:Nat) e,cl[i]?=some e->e.length=sz/\At t b (d+i*sz) e
mutual
/-- cells read as data -/
def RD (t:G vA):D->List O->Prop
 | .a k n,cs=>cs=[.e k n]
 | .e b,cs=>cs=[.d b]
 | .c s,cs=>cs=[.h s]
 | .g sz l,cs=>∃a cl,cs=[a]/\nO t sz a cl/\wD t l cl
 | .f l,cs=>∃cl,cs=cl.flatten/\wD t l cl
def wD (t:G vA):List D->List (List O)->Prop
 | [],cl=>cl=[]
 | d::l,cl=>∃c r,cl=c::r/\RD t d c/\wD t l r
end
def zB (t t':G vA):Prop:=∀b y,t.c b=some y->t'.c b=some y
theorem zB.f(t:G vA):zB t t:=λ_ _ h=>h
def zB.d{a b c:G vA}(h:zB a b)(k:zB b c):zB a c:=λx y e=>k x y (h x y e)
section
variable {t t':G vA}{C:fA}
theorem At.f(h:zB t t'){b off:Nat}{cs:List O}(k:At t b off cs):At t' b off cs:=by
 obtain⟨c,n,e,a,d⟩:=k;exact⟨c,n,e,h _ _ a,d⟩
theorem nO.d(h:zB t t'){sz:Nat}{v:O}{cl:List (List O)}(k:nO t sz v cl):nO t' sz v cl:=by
 rcases k with k | ⟨b,d,a,j,l,⟨c,n,p,m,o⟩,f⟩
 .exact .inl k
 .exact .inr ⟨b,d,a,j,l,⟨c,n,p,h _ _ m,o⟩,λi e g=>⟨(f i e g).1,(f i e g).2.f h⟩⟩
mutual
theorem RD.f(h:zB t t'):∀(d:D) (cs:List O),RD t d cs->RD t' d cs
 | .a _ _,_,k=>k
 | .e _,_,k=>k
 | .c _,_,k=>k
 | .g _ l,_,⟨a,cl,b,e,f⟩=>⟨a,cl,b,e.d h,wD.f h l cl f⟩
 | .f l,_,⟨cl,b,e⟩=>⟨cl,b,wD.f h l cl e⟩
theorem wD.f(h:zB t t'):∀(l:List D) (cl:List (List O)),wD t l cl->wD t' l cl
 | [],_,k=>k
 | d::l,_,⟨c,r,b,e,f⟩=>⟨c,r,b,RD.f h d c e,wD.f h l r f⟩
end
def wD.g:∀ {l:List D} {cl:List (List O)},wD t l cl->cl.length=l.length:=by
 intro l;induction l with
 | nil=>grind [wD]
 | cons d l a=>grind [wD]
theorem wD.p:∀ {l:List D} {cl:List (List O)} {i:Nat} {d:D},wD t l cl->l[i]?=some d->∃cs,cl[i]?=some cs/\RD t d cs:=by
 intro l;induction l with
 | nil=>simp_all
 | cons e l a=>
  grind [wD]
theorem wD.mk:∀ {l:List D} {cl:List (List O)},cl.length=l.length->(∀(i:Nat) d cs,l[i]?=some d->cl[i]?=some cs->RD t d cs)->wD t l cl:=by
 intro l;induction l with
 | nil=>grind [wD]
 | cons e l a=>
  intro cl h k
  cases cl with
  | nil=>simp at h
  | cons c r=>
   rw[wD];exact⟨c,r,rfl,k 0 e c (by simp) (by simp),a (by grind) λi d cs b f=>k (i+1) d cs (by simp_all) (by simp_all)⟩
@[simp] theorem wP {k:IntKind} {n:Int} {cs:List O}:RD t (.a k n) cs ↔ cs=[.e k n]:=Iff.rfl
@[simp] theorem Cy {b:Bool} {cs:List O}:RD t (.e b) cs ↔ cs=[.d b]:=Iff.rfl
@[simp] theorem xP {s:List Nat} {cs:List O}:RD t (.c s) cs ↔ cs=[.h s]:=Iff.rfl
def bA (t:G vA)(sz:Nat)(l:List D)(v:O):Prop:=∃a,nO t sz v a/\wD t l a
theorem bA.a(h:zB t t'){sz:Nat}{l:List D}{v:O}(k:bA t sz l v):bA t' sz l v:=by
 obtain⟨a,b,c⟩:=k;exact⟨a,b.d h,wD.f h _ _ c⟩
theorem kO{sz:Nat}{l:List D}{cs:List O}:RD t (.g sz l) cs ↔ ∃v,cs=[v]/\bA t sz l v:=by
 rw[RD];constructor
 .rintro⟨a,b,rfl,c,d⟩;exact⟨a,rfl,b,c,d⟩
 .rintro⟨a,rfl,b,c,d⟩;grind
theorem xK{l:List D}{cs:List O}:RD t (.f l) cs ↔ ∃cl,cs=cl.flatten/\wD t l cl:=by rw[RD]
theorem pG{cl:List (List O)}:wD t [] cl ↔ cl=[]:=by rw[wD]
theorem kD{d:D}{l:List D}{cl:List (List O)}:wD t (d::l) cl ↔ ∃c r,cl=c::r/\RD t d c/\wD t l r:=by rw[wD]
def bA.e{sz:Nat}{l:List D}{v:O}(h:bA t sz l v):O.z v=true:=by
 obtain⟨e,c,_⟩:=h;rcases c with⟨rfl,_⟩ | ⟨b,d,a,rfl,_⟩
 .decide
 .rfl
def bA.c{sz:Nat}{l:List D}{v:O}(h:bA t sz l v):vC v=some (.e .i64 (l.length:Int)):=by
 obtain⟨f,c,d⟩:=h;have:=d.g;rcases c with⟨rfl,rfl⟩ | ⟨b,e,a,rfl,_⟩
 .have:l.length=0:=this.symm;rw[this];rfl
 .rw[<- this];rfl
theorem bA.g{sz d:Nat}{l:List D}{v:O}(h:bA t sz l v):A8 d v v=true:=by
 obtain⟨f,c,_⟩:=h;rcases c with⟨rfl,_⟩ | ⟨b,e,a,rfl,_⟩
 all_goals grind [Am.A8,Nat.beq_refl]
theorem Ym{sz:Nat}{l:List D}{v:O}(h:bA t sz l v):Ap .g v=true:=by
 obtain⟨e,c,_⟩:=h;rcases c with⟨rfl,_⟩ | ⟨b,d,a,rfl,_⟩<;>rfl
def At.e{b off j n:Nat}{cs:List O}(h:At t b off cs){ty:Nat}{y:jD}(k:C.b.c ty=some y)(f:y.a.h=true)(i:y.b=n)(g:j+n<=cs.length):oA C ty ⟨0,t⟩ (.j b (off+j))=some (.i ((cs.drop j).take n)):=by
 obtain⟨c,m,p,d,e⟩:=h;unfold oA;simp only[O.ah,mA];rw[k,mA];unfold fD;rw[d,mA];simp only[vA.a,mA];unfold qV;rw[f,cond_true,i];have o:∀(n j:Nat),j+n<=cs.length->c.u n (off+j)=some ((cs.drop j).take n):=by
  intro n;induction n with
  | zero=>intro j _;simp;rfl
  | succ n l=>
   intro j g;have a:j<cs.length:=by omega
   rw[G.aw,e j cs[j] (C6 a),mA,show off+j+1=off+(j+1) by omega,l (j+1) (by omega),mA,G0 a,List.take_succ_cons]
 simp_all
def At.d{b off j:Nat}{cs:List O}{a:O}(h:At t b off cs){ty:Nat}{y:jD}(i:C.b.c ty=some y)(f:y.a.h=false)(g:cs[j]?=some a):oA C ty ⟨0,t⟩ (.j b (off+j))=some a:=by
 obtain⟨c,m,k,d,e⟩:=h
 simp_all [oA,O.ah,fD,vA.a,qV]
structure gG (C:fA) (T el sz:Nat) (agg:Bool):Prop where
 ty:∃y,C.b.c T=some y/\y.a.a=some el
 el:∃y,C.b.c el=some y/\y.b=sz/\y.a.h=agg
def Qk(b:Bool)(cs:List O):O:=if b then .i cs else match cs with | a::_=>a | []=>.y
def gG.at{T el sz:Nat}{c:Bool}(h:gG C T el sz c)(A:c=false->sz=1){l:List D}{v:O}(E:bA t sz l v){i:Nat}{d:D}(hi:l[i]?=some d) :
  ∃b off cs,zC C T v (.e .i64 (i:Int))=some (.j b off)/\oA C el ⟨0,t⟩ (.j b off)=some (Qk c cs)/\At t b off cs/\cs.length=sz/\RD t d cs:=by
 obtain⟨⟨y,q,s⟩,⟨z,e,f,g⟩⟩:=h;obtain⟨x,n,B⟩:=E;obtain⟨cs,m,p⟩:=B.p hi;rcases n with⟨rfl,rfl⟩ | ⟨b,off,w,rfl,_,_,n⟩
 .simp at m
 .obtain⟨u,k⟩:=n i cs m;have o:i<x.length:=(F6.1 m).1;refine⟨b,off+i*sz,cs,?_,?_,k,u,p⟩
  .unfold zC;rw[q,mA];have:(O.e .i64 (i:Int)).aj=some i:=rfl;rw[this,mA];simp only[O.u];rw[s,mA,e,mA,gC.2 o,f];rfl
  .cases c with
   | true=>
    have:=k.e (j:=0) e g f (by omega);simp only[L1,G8]at this;rw[this,<- u,List.take_length];rfl
   | false=>
    have F:=A rfl
    cases cs with
    | nil=>simp_all
    | cons a r=>
     have:=k.d (j:=0) (a:=a) e g (by simp);rw[L1]at this;rw[this];rfl
end
section
variable {t:G vA}{C:fA}
def gG.f{T el sz:Nat}{o:Bool}(h:gG C T el sz o){l:List D}{v:O}(L:bA t sz l v){k:Nat}(W:k<=l.length) :
  ∃v',cF C T ⟨0,t⟩ v none (some (.e .i64 (k:Int)))=some v'/\bA t sz (l.take k) v':=by
 obtain⟨⟨y,s,g⟩,⟨z,j,N,P⟩⟩:=h;obtain⟨F,B,A⟩:=L;have E:=A.g;unfold cF;rw[s,mA];have J:∀y,Aw y (.e .i64 (k:Int))=tB (Nat.ble k y) (some k):=λy=>rfl;rcases B with⟨rfl,rfl⟩ | ⟨b,m,a,rfl,w,⟨c,n,Q,r,f⟩,B⟩
 .have:k=0:=by grind
  subst this;refine⟨.g,?_,[],.inl ⟨rfl,rfl⟩,by simp[wD]⟩;unfold sP;simp only[O.w,O.u,O.ah];rw[g,mA,j,mA];rfl
 .refine⟨.m b m k a,?_,F.take k,.inr ⟨b,m,a,?_,?_,⟨c,n,Q,r,f⟩,λi H U=>?_⟩,?_⟩
  .unfold sP;simp only[O.w,O.u];rw[g,mA];unfold aR;rw[j,mA];unfold gS Fl;simp only[J];rw[show Nat.ble k a=true from rF.2 (by omega)];simp only[xE,mA];have q:tP ⟨0,t⟩ b z.b a 0 false=false:=by
    unfold tP fD;rw[r,mA];simp only[vA.a];rcases f with rfl | ⟨x,rfl,M⟩
    .rfl
    .simp
   rw[q,E5,cond_false];have K:vQ ⟨0,t⟩ b z.b a 0 false=true:=by
    unfold vQ fD;rw[r,mA];simp only[vA.a];rcases f with rfl | ⟨x,rfl,M⟩
    all_goals simp_all
   rw[show Nat.ble k a=true from rF.2 (by omega),K];simp only[Bool.and_self,xE];congr 1;cases X:Nat.beq a 0<;>simp
  .simp_all
  .grind
  .grind
  .refine wD.mk (by simp_all) λi d H p u=>?_;rw[uo]at p u;split at p
   .rename_i e;rw[A5 e]at u;obtain⟨I,R,S⟩:=A.p p
    simp_all
   grind
end
mutual
def D.h:D->List O
 | .a k _=>[.e k 0]
 | .e _=>[.d false]
 | .c _=>[.h []]
 | .g _ _=>[.g]
 | .f l=>D.i l
def D.i:List D->List O
 | []=>[]
 | d::l=>d.h++D.i l
end
def PY:∀(z d l c:List O),bT z l=true->bT d c=true->bT (z++d) (l++c)=true
 | [],_,[],_,_,h=>h
 | a::z,d,b::l,c,h,k=>by
  unfold bT at h;rw[B2]at h;show(Ap a b&&bT (z++d) (l++c))=true;rw[h.1,PY z d l c h.2 k];rfl
 | [],_,_::_,_,h,_=>by cases h
 | _::_,_,[],_,h,_=>by cases h
mutual
theorem Yl{t:G vA}:∀(d:D) (cs:List O),RD t d cs->bT d.h cs=true
 | .a k n,cs,h=>by
  rw[RD]at h;subst h;show(Ap (.e k 0) (.e k n)&&true)=true
  grind [Ap,O.ac,sO]
 | .e _,cs,h=>by rw[RD]at h;subst h;rfl
 | .c _,cs,h=>by rw[RD]at h;subst h;rfl
 | .g sz l,cs,h=>by
  rw[kO]at h;obtain⟨v,rfl,h⟩:=h;show(Ap .g v&&true)=true;rw[Ym h];rfl
 | .f l,cs,h=>by
  rw[xK]at h;obtain⟨cl,rfl,h⟩:=h;show bT (D.i l) cl.flatten=true;exact PX l cl h
theorem PX{t:G vA}:∀(l:List D) (cl:List (List O)),wD t l cl->bT (D.i l) cl.flatten=true
 | [],cl,h=>by rw[wD]at h;subst h;rfl
 | d::l,cl,h=>by
  rw[wD]at h;obtain⟨c,r,rfl,a,b⟩:=h;show bT (d.h++D.i l) (c::r).flatten=true;rw[Z6];exact PY _ _ _ _ (Yl d c a) (PX l r b)
end
theorem yC{k:IntKind}{n:Int}:I9 k (.e k n)=some n:=by unfold I9;simp only[O.ac,mA];rw[sO.2 rfl];rfl
def Il{b:Bool}:(O.d b).r=some b:=rfl
def SX{s:List Nat}:(O.h s).w=some s:=rfl
theorem Gy{d:Nat}{k:IntKind}{n:Int}:A8 d (.e k n) (.e k n)=true:=by
 cases d<;>simp[A8,sO,An]
theorem CG{d:Nat}{b:Bool}:A8 d (.d b) (.d b)=true:=by cases d<;>simp[A8,xZ]
theorem Gx{d:Nat}{s:List Nat}:A8 d (.h s) (.h s)=true:=by cases d<;>simp[A8,bJ]
theorem A2{n:Int}(a : -9223372036854775808<=n)(b:n<9223372036854775808):cA .i64 n=n:=by
 grind [iR,IntKind.wrap,IntKind.bits,IntKind.signed]
def kN{t:G vA}{d:D}{cs zs:List O}(h:RD t d cs)(a:d.h=zs):nK zs (.i cs)=some (AN cs):=by
 unfold nK;simp only[O.ak,mA];rw[<- a,Yl d cs h];rfl
def kQ{zs l:List O}(h:bT zs l=true):nK zs (.i l)=some (AN l):=by
 simp_all [nK,O.ak]
end Go.Am
