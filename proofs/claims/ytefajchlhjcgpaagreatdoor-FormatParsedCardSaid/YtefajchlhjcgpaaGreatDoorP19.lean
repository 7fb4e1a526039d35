/- Facts on types. (Printed by a tool.) -/
import Derived.Test.YtefajchlhjcgpaaGreatDoorP18
set_option linter.all false
noncomputable section
set_option maxRecDepth 100000
namespace Go.Proofs
open Go Go.Am
variable [fC]
theorem cL:Y.b.c 3=some ⟨(.m .i64),1,8,[.e .i64 0],true⟩:=by kernel_rfl
def yy:Y.b.c 4=some ⟨.r,1,1,[.d false],true⟩:=by kernel_rfl
theorem M7:Y.b.c 5=some ⟨(.m .u8),1,1,[.e .u8 0],true⟩:=by kernel_rfl
theorem iI:Y.b.c 9=some ⟨.j,1,16,[.h []],true⟩:=by kernel_rfl
def O3:Y.b.c 22=some ⟨(.i 261),1,24,[.g],true⟩:=by kernel_rfl
def fi:Y.b.c 24=some ⟨(.f [(0,4,1),(1,22,1)]),2,32,[.d false,.g],true⟩:=by kernel_rfl
def ty26:Y.b.c 26=some ⟨(.f [(0,24,2),(2,24,2)]),4,64,[.d false,.g,.d false,.g],true⟩:=by kernel_rfl
def S7:Y.b.c 29=some ⟨(.i 31),1,24,[.g],true⟩:=by kernel_rfl
def cu:Y.b.c 31=some ⟨(.f [(0,5,1),(1,9,1),(2,28,6),(8,29,1)]),9,128,[.e .u8 0,.h [],.e .u8 0,.d false,.g,.d false,.g,.e .i64 0,.g],true⟩:=by kernel_rfl
def qS:Y.b.c 34=some ⟨(.m .i64),1,8,[.e .i64 0],true⟩:=by kernel_rfl
def cZ:Y.b.c 39=some ⟨(.f [(0,3,1),(1,3,1)]),2,16,[.e .i64 0,.e .i64 0],true⟩:=by kernel_rfl
def S8:Y.b.c 48=some ⟨(.i 89),1,24,[.g],true⟩:=by kernel_rfl
def cz:Y.b.c 49=some ⟨(.i 92),1,24,[.g],true⟩:=by kernel_rfl
def S9:Y.b.c 50=some ⟨(.i 60),1,24,[.g],true⟩:=by kernel_rfl
def fj:Y.b.c 52=some ⟨(.f [(0,9,1),(1,48,1),(2,49,1),(3,50,1)]),4,88,[.h [],.g,.g,.g],true⟩:=by kernel_rfl
def fk:Y.b.c 60=some ⟨(.f [(0,9,1),(1,9,1),(2,3,1),(3,3,1),(4,3,1),(5,4,1),(6,31,9),(15,31,9)]),24,320,[.h [],.h [],.e .i64 0,.e .i64 0,.e .i64 0,.d false,.e .u8 0,.h [],.e .u8 0,.d false,.g,.d false,.g,.e .i64 0,.g,.e .u8 0,.h [],.e .u8 0,.d false,.g,.d false,.g,.e .i64 0,.g],true⟩:=by kernel_rfl
def Ty:Y.b.c 62=some ⟨(.i 9),1,24,[.g],true⟩:=by kernel_rfl
def ty69:Y.b.c 69=some ⟨(.v 191),1,8,[.y],true⟩:=by kernel_rfl
def ty76:Y.b.c 76=some ⟨(.v 141),1,8,[.y],true⟩:=by kernel_rfl
def fm:Y.b.c 89=some ⟨(.f [(0,9,1),(1,5,1),(2,4,1)]),3,24,[.h [],.e .u8 0,.d false],true⟩:=by kernel_rfl
def dc:Y.b.c 90=some ⟨(.i 94),1,24,[.g],true⟩:=by kernel_rfl
def fp:Y.b.c 92=some ⟨(.f [(0,9,1),(1,4,1),(2,90,1)]),3,48,[.h [],.d false,.g],true⟩:=by kernel_rfl
def fq:Y.b.c 94=some ⟨(.f [(0,3,1),(1,3,1),(2,3,1),(3,26,4)]),7,88,[.e .i64 0,.e .i64 0,.e .i64 0,.d false,.g,.d false,.g],true⟩:=by kernel_rfl
def sY:Y.b.c 96=some ⟨(.i 5),1,24,[.g],true⟩:=by kernel_rfl
def ty98:Y.b.c 98=some ⟨(.f [(0,95,1),(1,96,1)]),2,32,[.y,.g],true⟩:=by kernel_rfl
theorem W4:Y.b.c 131=some ⟨(.f [(0,5,1),(1,9,1),(2,4,1),(3,3,1),(4,3,1),(5,3,1),(6,3,1),(7,3,1)]),8,72,[.e .u8 0,.h [],.d false,.e .i64 0,.e .i64 0,.e .i64 0,.e .i64 0,.e .i64 0],true⟩:=by kernel_rfl
def aW:Y.b.c 136=some ⟨(.i 149),1,24,[.g],true⟩:=by kernel_rfl
def yz:Y.b.c 147=some ⟨(.f [(0,9,1),(1,5,1)]),2,24,[.h [],.e .u8 0],true⟩:=by kernel_rfl
def ti:Y.b.c 149=some ⟨(.f [(0,5,1),(1,9,1),(2,39,2)]),4,40,[.e .u8 0,.h [],.e .i64 0,.e .i64 0],true⟩:=by kernel_rfl
def y7:Y.b.c 152=some ⟨.u,1,8,[.ap],true⟩:=by kernel_rfl
def y8:Y.b.c 201=some ⟨(.i 147),1,24,[.g],true⟩:=by kernel_rfl
def Qw:Y.b.c 209=some ⟨(.q 10 5),10,10,[.e .u8 0,.e .u8 0,.e .u8 0,.e .u8 0,.e .u8 0,.e .u8 0,.e .u8 0,.e .u8 0,.e .u8 0,.e .u8 0],true⟩:=by kernel_rfl
def y9:Y.b.c 223=some ⟨(.q 7 9),7,112,[.h [],.h [],.h [],.h [],.h [],.h [],.h []],true⟩:=by kernel_rfl
def pi:Y.b.c 236=some ⟨(.w 3 9),1,8,[.ax],true⟩:=by kernel_rfl
def W5:Y.b.c 239=some ⟨(.f [(0,39,2),(2,9,1),(3,3,1)]),4,40,[.e .i64 0,.e .i64 0,.h [],.e .i64 0],true⟩:=by kernel_rfl
def W6:Y.b.c 249=some ⟨(.i 3),1,24,[.g],true⟩:=by kernel_rfl
def lN:Y.b.c 253=some ⟨(.i 254),1,24,[.g],true⟩:=by kernel_rfl
def tI:Y.b.c 254=some ⟨(.m .u32),1,4,[.e .u32 0],true⟩:=by kernel_rfl
def Gv:Y.b.c 261=some ⟨(.m .u16),1,2,[.e .u16 0],true⟩:=by kernel_rfl
def lT:Y.b.c 270=some ⟨(.m .u64),1,8,[.e .u64 0],true⟩:=by kernel_rfl
def W7:Y.b.c 287=some ⟨(.v 253),1,8,[.y],true⟩:=by kernel_rfl
def W8:Y.b.c 304=some ⟨(.q 12 3),12,96,[.e .i64 0,.e .i64 0,.e .i64 0,.e .i64 0,.e .i64 0,.e .i64 0,.e .i64 0,.e .i64 0,.e .i64 0,.e .i64 0,.e .i64 0,.e .i64 0],true⟩:=by kernel_rfl
def za:Y.b.c 323=some ⟨(.i 24),1,24,[.g],true⟩:=by kernel_rfl
def W9:Y.b.c 340=some ⟨(.q 12 339),60,480,[.h [],.e .u8 0,.d false,.e .i64 0,.e .i64 0,.h [],.e .u8 0,.d false,.e .i64 0,.e .i64 0,.h [],.e .u8 0,.d false,.e .i64 0,.e .i64 0,.h [],.e .u8 0,.d false,.e .i64 0,.e .i64 0,.h [],.e .u8 0,.d false,.e .i64 0,.e .i64 0,.h [],.e .u8 0,.d false,.e .i64 0,.e .i64 0,.h [],.e .u8 0,.d false,.e .i64 0,.e .i64 0,.h [],.e .u8 0,.d false,.e .i64 0,.e .i64 0,.h [],.e .u8 0,.d false,.e .i64 0,.e .i64 0,.h [],.e .u8 0,.d false,.e .i64 0,.e .i64 0,.h [],.e .u8 0,.d false,.e .i64 0,.e .i64 0,.h [],.e .u8 0,.d false,.e .i64 0,.e .i64 0],true⟩:=by kernel_rfl
def Eb:mG Y 22 261 1 false:=⟨⟨_,O3,rfl⟩,⟨_,Gv,rfl,rfl⟩⟩
def J9:mG Y 29 31 9 true:=⟨⟨_,S7,rfl⟩,⟨_,cu,rfl,rfl⟩⟩
def TO:mG Y 48 89 3 true:=⟨⟨_,S8,rfl⟩,⟨_,fm,rfl,rfl⟩⟩
def O4:mG Y 49 92 3 true:=⟨⟨_,cz,rfl⟩,⟨_,fp,rfl,rfl⟩⟩
def O5:mG Y 50 60 24 true:=⟨⟨_,S9,rfl⟩,⟨_,fk,rfl,rfl⟩⟩
def nv:mG Y 62 9 1 false:=⟨⟨_,Ty,rfl⟩,⟨_,iI,rfl,rfl⟩⟩
def T0:mG Y 90 94 7 true:=⟨⟨_,dc,rfl⟩,⟨_,fq,rfl,rfl⟩⟩
def sl96:mG Y 96 5 1 false:=⟨⟨_,sY,rfl⟩,⟨_,M7,rfl,rfl⟩⟩
def pj:mG Y 136 149 4 true:=⟨⟨_,aW,rfl⟩,⟨_,ti,rfl,rfl⟩⟩
def pk:mG Y 201 147 2 true:=⟨⟨_,y8,rfl⟩,⟨_,yz,rfl,rfl⟩⟩
def X8:mG Y 249 3 1 false:=⟨⟨_,W6,rfl⟩,⟨_,cL,rfl,rfl⟩⟩
def aH:mG Y 253 254 1 false:=⟨⟨_,lN,rfl⟩,⟨_,tI,rfl,rfl⟩⟩
def pp:mG Y 323 24 2 true:=⟨⟨_,za,rfl⟩,⟨_,fi,rfl,rfl⟩⟩
end Go.Proofs
namespace Go.Am
open Go Go.RowKit
def vD (l:List Nat):List D:=l.map fun(n:Nat)=>D.a .u16 (n:Int)
theorem fU(l:List Nat):(vD l).length=l.length:=by simp[vD]
structure sM where
 b:Bool
 a:List Nat
def sM.d(w:sM):D:=.f [.e w.b,.h 1 (vD w.a)]
structure qF where
 n:sM
 d:sM
def qF.b(f:qF):D:=.f [f.n.d,f.d.d]
structure gE where
 a:Nat
 f:qF
 i:Int
def gE.d(v:gE):D:=.f [.a .u8 v.a,v.f.b,.a .i64 v.i]
inductive pA where
 | mk (op:Nat) (name:List Nat) (v:gE) (args:List pA)
def pA.e:pA->Nat | .mk o _ _ _=>o
def pA.i:pA->List Nat | .mk _ n _ _=>n
def pA.v:pA->gE | .mk _ _ v _=>v
def pA.j:pA->List pA | .mk _ _ _ a=>a
mutual
def pA.d:pA->D
 | .mk op name v args=>.f [.a .u8 op,.c name,v.d,.h 9 (pA.t args)]
def pA.t:List pA->List D
 | []=>[]
 | x::l=>x.d::pA.t l
end
def pA.r(l:List pA):pA.t l=l.map pA.d:=by
 induction l with
 | nil=>rfl
 | cons x l a=>simp[pA.t,a]
structure oG where
 a:Int
 b:Int
 c:Int
 f:qF
def oG.d(r:oG):D:=.f [.a .i64 r.a,.a .i64 r.b,.a .i64 r.c,r.f.b]
structure aE where
 b:List Nat
 c:Bool
 a:List oG
def aE.d(x:aE):D:=.f [.c x.b,.e x.c,.h 7 (x.a.map oG.d)]
structure pF where
 a:List Nat
 b:Nat
 c:Bool
def pF.d(x:pF):D:=.f [.c x.a,.a .u8 x.b,.e x.c]
structure qD where
 g:List Nat
 e:List Nat
 f:Int
 i:Int
 c:Int
 h:Bool
 a:pA
 b:pA
def qD.d(x:qD):D:=.f [.c x.g,.c x.e,.a .i64 x.f,.a .i64 x.i,.a .i64 x.c,.e x.h,x.a.d,x.b.d]
structure uD where
 e:List Nat
 c:List pF
 a:List aE
 b:List qD
def uD.d(x:uD):D:=.f [.c x.e,.h 3 (x.c.map pF.d),.h 3 (x.a.map aE.d),.h 24 (x.b.map qD.d)]
section
variable {t:G uA}{cs:List O}
theorem Wp{w:sM}(h:RD t w.d cs):∃v,cs=[.d w.b,v]/\bA t 1 (vD w.a) v:=by
 grind [sM.d,lK,kD,pG,xR,Dl]
theorem C4{f:qF}(h:RD t f.b cs):∃u v,cs=[.d f.n.b,u,.d f.d.b,v]/\bA t 1 (vD f.n.a) u/\bA t 1 (vD f.d.a) v:=by
 grind [qF.b,lK,kD,pG,Wp]
def Rr{v:gE}(h:RD t v.d cs):∃a b,cs=[.e .u8 v.a,.d v.f.n.b,a,.d v.f.d.b,b,.e .i64 v.i]/\bA t 1 (vD v.f.n.a) a/\bA t 1 (vD v.f.d.a) b:=by
 unfold gE.d at h;simp only[lK,kD,pG,lP]at h;obtain⟨k,rfl,c,r,rfl,rfl,j,l,rfl,e,d,i,rfl,rfl,rfl⟩:=h;obtain⟨a,b,rfl,f,g⟩:=C4 e;exact⟨a,b,rfl,f,g⟩
def bI{x:pA}(h:RD t x.d cs):∃a b c,cs=[.e .u8 x.e,.h x.i,.e .u8 x.v.a,.d x.v.f.n.b,a,.d x.v.f.d.b,b,.e .i64 x.v.i,c] ∧
  bA t 1 (vD x.v.f.n.a) a/\bA t 1 (vD x.v.f.d.a) b/\bA t 9 (x.j.map pA.d) c:=by
 obtain⟨p,e,v,d⟩:=x;unfold pA.d at h;rw[pA.r]at h;simp only[lK,kD,pG,lP,mP,xR]at h;obtain⟨o,rfl,c,r,rfl,rfl,m,q,rfl,rfl,f,l,rfl,k,n,s,rfl,⟨w,rfl,g⟩,rfl⟩:=h;obtain⟨a,b,rfl,i,j⟩:=Rr k;exact⟨a,b,w,rfl,i,j,g⟩
def Nj{r:oG}(h:RD t r.d cs):∃a b,cs=[.e .i64 r.a,.e .i64 r.b,.e .i64 r.c,.d r.f.n.b,a,.d r.f.d.b,b]/\bA t 1 (vD r.f.n.a) a/\bA t 1 (vD r.f.d.a) b:=by
 grind [oG.d,lK,kD,pG,lP,C4]
def Rs{x:aE}(h:RD t x.d cs):∃a,cs=[.h x.b,.d x.c,a]/\bA t 7 (x.a.map oG.d) a:=by
 grind [aE.d,lK,kD,pG,mP,Dl,xR]
theorem Nk{x:pF}(h:RD t x.d cs):cs=[.h x.a,.e .u8 x.b,.d x.c]:=by
 grind [pF.d,lK,kD,pG,mP,Dl,lP]
def qN(x:pA)(a b c:O):List O:=[.e .u8 x.e,.h x.i,.e .u8 x.v.a,.d x.v.f.n.b,a,.d x.v.f.d.b,b,.e .i64 x.v.i,c]
def Kh{x:qD}(h:RD t x.d cs):∃a b c a' b' c',cs=[.h x.g,.h x.e,.e .i64 x.f,.e .i64 x.i,.e .i64 x.c,.d x.h]++qN x.a a b c++qN x.b a' b' c' ∧
  RD t x.a.d (qN x.a a b c)/\RD t x.b.d (qN x.b a' b' c'):=by
 unfold qD.d at h;simp only[lK,kD,pG,mP,Dl,lP]at h;obtain⟨q,rfl,i,r,rfl,rfl,j,s,rfl,rfl,k,u,rfl,rfl,l,v,rfl,rfl,m,w,rfl,rfl,n,y,rfl,rfl,o,z,rfl,d,p,A,rfl,e,rfl⟩:=h;obtain⟨a,b,c,f,_⟩:=bI d;obtain⟨a',b',c',g,_⟩:=bI e;subst f g;exact⟨a,b,c,a',b',c',rfl,d,e⟩
def nY{x:uD}(h:RD t x.d cs):∃a b c,cs=[.h x.e,a,b,c]/\bA t 3 (x.c.map pF.d) a/\bA t 3 (x.a.map aE.d) b/\bA t 24 (x.b.map qD.d) c:=by
 grind [uD.d,lK,kD,pG,mP,xR]
end
def sM.zs(x:sM):x.d.g=[.d false,.g]:=rfl
def qF.zs(x:qF):x.b.g=[.d false,.g,.d false,.g]:=rfl
def gE.zs(x:gE):x.d.g=[.e .u8 0,.d false,.g,.d false,.g,.e .i64 0]:=rfl
def pA.s(x:pA):x.d.g=[.e .u8 0,.h [],.e .u8 0,.d false,.g,.d false,.g,.e .i64 0,.g]:=by cases x;rfl
def oG.g(x:oG):x.d.g=[.e .i64 0,.e .i64 0,.e .i64 0,.d false,.g,.d false,.g]:=rfl
def aE.f(x:aE):x.d.g=[.h [],.d false,.g]:=rfl
def pF.f(x:pF):x.d.g=[.h [],.e .u8 0,.d false]:=rfl
def qD.k(x:qD):x.d.g=[.h [],.h [],.e .i64 0,.e .i64 0,.e .i64 0,.d false,.e .u8 0,.h [],.e .u8 0,.d false,.g,.d false,.g,.e .i64 0,.g,.e .u8 0,.h [],.e .u8 0,.d false,.g,.d false,.g,.e .i64 0,.g]:=by
 obtain⟨_,_,_,_,_,_,w,v⟩:=x;cases w;cases v;rfl
def uD.zs(x:uD):x.d.g=[.h [],.g,.g,.g]:=rfl
def nS(f:qF):Nat:=1+f.n.a.length+f.d.a.length
mutual
/-- the size, as it is counted up to a limit -/
def xP:pA->Int->Int
 | .mk _ name v args,left=>oY args left (nS v.f+(name.length:Int) / 30)
def oY:List pA->Int->Int->Int
 | [],_,n=>n
 | x::l,left,n=>if n<=left then oY l left (n+xP x (left-n))else n
end
def tE:Nat:=1125899906842624
def qF.c(f:qF):Prop:=f.n.a.length<tE/\f.d.a.length<tE
mutual
def pA.q:pA->Prop
 | .mk _ name v args=>name.length<tE/\v.f.c/\args.length<tE/\pA.k args
def pA.k:List pA->Prop
 | []=>True
 | x::l=>x.q/\pA.k l
end
end Go.Am
namespace Go.Am
open Go Go.RowKit
section
def Rg{f:qF}(h:f.c):nS f<4503599627370496:=by
 grind [qF.c,tE,nS]
mutual
def Wd:∀(x:pA) (left:Int),x.q->0<=xP x left/\xP x left<=max left 0+9007199254740992
 | .mk op name v args,left,h=>by
  unfold pA.q at h;obtain⟨a,b,_,c⟩:=h;have d:=Rg b;unfold tE at a;unfold xP;have:=Rh args left (nS v.f+(name.length:Int) / 30) c (by omega);omega
def Rh:∀(l:List pA) (left n:Int),pA.k l->0<=n->n<=oY l left n/\oY l left n<=max n (left+9007199254740992)
 | [],left,n,_,_=>by grind [oY]
 | x::l,left,n,h,e=>by
  unfold pA.k at h;unfold oY;split
  .have a:=Wd x (left-n) h.1;have b:=Rh l left (n+xP x (left-n)) h.2 (by omega);omega
  .omega
end
theorem iE{a b:Int}:(fB a b=true) ↔ a<b:=Lg a b
theorem mI{a b:Int}:(vE a b=true) ↔ a<=b:=Yg a b
def FQ{a:Type}{l:List a}{i:Nat}{x:a}{r:List a}(h:l.drop i=x::r):l[i]?=some x/\l.drop (i+1)=r/\i<l.length:=by
 have b:(l.drop i)[0]?=some x:=by grind
 rw[lm]at b;have c:i<l.length:=by
  grind
 refine⟨by omega,?_,c⟩;have:=List.drop_drop (l:=l) (i:=1) (j:=i)
 simp_all
def FP{a:Type}{l:List a}{i:Nat}(h:l.drop i=[]):l.length<=i:=by
 simp_all
def oX(l:List Nat):(Int.ofNat (vB l))=(l.length:Int):=by rw[dD];rfl
def Cf(cs:List O):Qp true cs=.i cs:=rfl
end
section
variable {cap el i j n ty x:Nat}{y:jD}
def tC(k:IntKind)(l:List Nat):List D:=l.map fun(n:Nat)=>D.a k (n:Int)
theorem qH{k:IntKind}(l:List Nat):(tC k l).length=l.length:=by simp[tC]
def SE{k:IntKind}{l:List Nat} (h:l[i]?=some x):(tC k l)[i]?=some (.a k (x:Int)):=by simp[tC,h]
theorem SD{k:IntKind}{l:List Nat}  : (tC k l).take n=tC k (l.take n):=by simp[tC]
def zH (t:G uA)(b:Nat)(k:IntKind)(l:List Nat):Prop:=∃c,t.c b=some (.aa c l.length none)/\∀(j:Nat) x,l[j]?=some x->c.c j=some (.e k (x:Int))
def jF (b:Nat)(t t':G uA):Prop:=∀c,c≠b->t'.c c=t.c c
theorem jF.d(b:Nat)(t:G uA):jF b t t:=λ_ _=>rfl
def jF.a{b:Nat}{x y z:G uA}(h:jF b x y)(k:jF b y z):jF b x z:=λc a=>(k c a).trans (h c a)
section
variable {t t' t0:G uA}{C:fA}{b:Nat}{k:IntKind}{l:List Nat}
def zH.o(h:zH t b k l){c:Nat}(e:b≠c)(f:jF c t t'):zH t' b k l:=by
 obtain⟨x,a,d⟩:=h;exact⟨x,by rw[f b e];exact a,d⟩
def zH.p(h:zH t b k l)(d:zB t t'):zH t' b k l:=by
 obtain⟨x,a,c⟩:=h;exact⟨x,d _ _ a,c⟩
def zB.g(h:zB t0 t)(e:t0.c b=none)(d:jF b t t'):zB t0 t':=by
 intro c y a;rw[d c (by grind)];exact h c y a
def zH.g(h:zH t b k l){off:Nat}(s:off+n<=l.length)(f:n<=cap):bA t 1 (tC k ((l.drop off).take n)) (.m b off n cap):=by
 obtain⟨c,e,q⟩:=h;refine⟨((l.drop off).take n).map fun(x:Nat)=>[.e k (x:Int)],.inr ⟨b,off,cap,?_,?_,⟨c,_,none,e,.inl rfl⟩,λi o m=>?_⟩,?_⟩
 .grind
 .grind
 .simp only[G4,Z8]at m;obtain⟨x,p,rfl⟩:=m;refine⟨rfl,c,_,none,e,λj a r=>?_⟩
  grind
 .refine tD.mk (by simp[tC]) λi d o g f=>?_;simp only[tC,G4,Z8]at g f;obtain⟨x,p,rfl⟩:=g
  simp_all
def zH.m(h:zH t b k l) (a:l.length<=cap):bA t 1 (tC k l) (.m b 0 l.length cap):=by
 have:=h.g (off:=0) (n:=l.length) (by omega) a
 simp_all
def Gu{T sz:Nat}{a:Bool}(h:mG C T el sz a){off:Nat}(hi:i<n):zC C T (.m b off n cap) (.e .i64 (i:Int))=some (.j b (off+i*sz)):=by
 obtain⟨⟨y,c,d⟩,⟨z,e,f,g⟩⟩:=h;unfold zC;rw[c,lA];have:(O.e .i64 (i:Int)).aj=some i:=rfl;rw[this,lA];simp only[O.u];rw[d,lA,e,lA,eC.2 hi,f];rfl
def zH.f(h:zH t b k l) (f:l[j]?=some x)  (g:C.b.c ty=some y)(e:y.a.h=false):oA C ty ⟨0,t⟩ (.j b j)=some (.e k (x:Int)):=by
 obtain⟨c,a,d⟩:=h
 simp_all [oA,O.ah,eD,uA.a,dV]
def zH.e(h:zH t b k l)(s:C.a<=b) (o:j<l.length)(x:Nat)  (q:C.b.c ty=some y)(p:y.b=1) :
  ∃t',(∀n,mC C ty (.j b j) (.e k (x:Int)) ⟨n,t⟩=some (aD,⟨n,t'⟩))/\zH t' b k (l.set j x)/\jF b t t':=by
 obtain⟨c,m,r⟩:=h;refine⟨t.d b (.aa (c.am [.e k (x:Int)] j) l.length none),λn=>?_,⟨c.am [.e k (x:Int)] j,?_,λi y v=>?_⟩,λd u=>?_⟩
 .unfold mC;rw[q,lA];simp only[O.ah,lA,O.s,O.ak];rw[p];have a:Nat.beq (vB [O.e k (x:Int)]) 1=true:=rfl;rw[a,xE];unfold gK eD;have e:(!Nat.blt b C.a)=true:=by
   grind [eC]
  rw[e,xE,m,lA];simp only[uA.a,lA];have f:Nat.ble (j+vB [O.e k (x:Int)]) l.length=true:=mF.2 o;have g:nD O.z [O.e k (x:Int)]=true:=rfl;rw[f,g];rfl
 all_goals grind [G.aa,G.ap]
def La{T:Nat}{z:jD}(l:C.b.c T=some y)(e:y.a.a=some el)(p:C.b.c el=some z)(a:z.c=[.e k 0])(o:z.b=1)(d:z.d<=8) (f:n<1000000)(q:t.c b=none) :
  ∃t',sS C T (.e .i64 (n:Int)) (.e .i64 (n:Int)) ⟨b,t⟩=some (.m b 0 n n,⟨b+1,t'⟩)/\zH t' b k (List.replicate n 0)/\zB t t'/\jF b t t':=by
 have g:∀n,kJ [O.e k 0] n=List.replicate n (.e k 0):=by
  intro n;induction n with
  | zero=>rfl
  | succ n s=>grind [kJ,wI]
 refine⟨t.d b (.aa (G.ac (kJ z.c n)) (vB (kJ z.c n)) none),?_,⟨G.ac (kJ z.c n),?_,λj x r=>?_⟩,λc u m=>?_,λc m=>?_⟩
 .unfold sS;rw[l,lA,e,lA,p,lA];have h:(O.e .i64 (n:Int)).aj=some n:=rfl;rw[h,lA,lA];have i:(Nat.ble n n&&Nat.blt n 1000000&&Nat.blt (n*z.d) 1000000000&&Nat.beq (vB z.c) z.b)=true:=by
   rw[a,o,show Nat.ble n n=true from mF.2 (B4 n),eC.2 f];have:n*z.d<1000000000:=by
    have:=G5 (Nat.le_of_lt f) d;omega
   rw[eC.2 this];rfl
  rw[i,xE];rfl
 all_goals grind [G.aa,dD,G.o]
end
end
end Go.Am
namespace Go.Am
variable {B:Nat}{l m:List Nat}
def A4 (B:Nat):List Nat->Nat
 | []=>0
 | a::l=>a+B*A4 B l
def pB(B:Nat)(l:List Nat):Prop:=∀x∈l,x<B
def B5 (l:List Nat):Prop:=∀h:l≠[],l.getLast h≠0
theorem Mr(B:Nat):∀(l m:List Nat),A4 B (l++m)=A4 B l+B^l.length*A4 B m
 | [],m=>by simp[A4]
 | a::l,m=>by
  simp only[List.cons_append,A4,Mr B l m,D6,K7];grind
theorem qQ{B:Nat}(c:0<B):∀ {l:List Nat},pB B l->A4 B l<B^l.length
 | [],_=>by simp[A4]
 | a::l,h=>by
  have e:=h a (C7);have b:=qQ c (l:=l) λx d=>h x (C9 _ d);simp only[A4,D6,K7];have f:B*(A4 B l+1)<=B*B^l.length:=F6 B b
  grind
theorem Jr(B:Nat)(l:List Nat)(n:Nat):A4 B l=A4 B (l.take n)+B^(l.take n).length*A4 B (l.drop n):=by
 rw[<- Mr,List.take_append_drop]
theorem Iw  (h:pB B l)(n:Nat):pB B (l.take n):=λx a=>h x (List.mem_of_mem_take a)
def GW  (h:pB B l)(n:Nat):pB B (l.drop n):=λx a=>h x (List.mem_of_mem_drop a)
def UI  (h:pB B l)(k:pB B m):pB B (l++m):=λx a=>(F7.1 a).elim (h x) (k x)
def vF:List Nat->List Nat
 | []=>[]
 | a::l=>if vF l=[]/\a=0 then []else a::vF l
theorem wV(B:Nat):∀l:List Nat,A4 B (vF l)=A4 B l
 | []=>rfl
 | a::l=>by
  unfold vF;have b:=wV B l
  grind [A4]
theorem iY:∀l:List Nat,B5 (vF l)
 | []=>λh=>(h rfl).elim
 | a::l=>by
  have d:=iY l;unfold vF;split
  .simp_all
  .rename_i h;intro c;by_cases b:vF l=[]
   .simp_all
   .rw[List.getLast_cons b];exact d b
theorem iW{B:Nat}:∀ {l:List Nat},pB B l->pB B (vF l)
 | [],h=>h
 | a::l,h=>by
  have c:=iW (l:=l) λx b=>h x (C9 _ b);unfold vF;split
  .simp_all
  .exact λx b=>(C6.1 b).elim (λe=>e ▸ h a C7) (c x)
theorem Rc:∀l:List Nat,(vF l).length<=l.length
 | []=>B4 _
 | a::l=>by unfold vF;have:=Rc l;split<;>simp<;>omega
theorem BG:∀l:List Nat,vF (l++[0])=vF l
 | []=>by simp[vF]
 | a::l=>by
  show(if vF (l++[0])=[]/\a=0 then []else a::vF (l++[0]))=_;rw[BG l];rfl
def Rb:∀ {l:List Nat},B5 l->vF l=l
 | [],_=>rfl
 | a::l,h=>by
  have b:B5 l:=by
   intro c;have:=h (by simp)
   grind
  unfold vF;rw[Rb b];split
  .rename_i e;have:=h (by simp)
   simp_all
  .rfl
def Xg (d:0<B) (h:B5 l)(c:A4 B l=0):l=[]:=by
 have b:∀l:List Nat,A4 B l=0->∀x∈l,x=0:=by
  intro l;induction l with
  | nil=>simp_all
  | cons a l f=>
   grind [A4,Nat.mul_eq_zero]
 rcases List.eq_nil_or_concat l with e | ⟨m,a,e⟩
 .exact e
 .exfalso;subst e;have:=h (by simp);simp at this;exact this (b _ c a (by simp))
def zb  (h:B5 l)(b:l≠[]):B^(l.length-1)<=A4 B l:=by
 rcases List.eq_nil_or_concat l with e | ⟨m,a,e⟩
 .simp_all
 .rw[List.concat_eq_append]at e;subst e;have:=h (by simp);simp at this;rw[Mr];simp only[E1,D6,G2,A4];have:1<=a+B*0:=by omega
  calc B^(m.length+1-1)=B^m.length*1:=by simp
   _<=B^m.length*(a+B*0):=F6 _ this
   _<=_:=Nat.le_add_left _ _
def zc4{B:Nat}(i:0<B):∀ {l m:List Nat},pB B l->pB B m->l.length=m.length->A4 B l=A4 B m->l=m
 | [],[],_,_,_,_=>rfl
 | a::l,b::m,d,e,o,j=>by
  have k:=d a C7;have n:=e b C7;simp only[A4]at j;have f:a=b:=by
   grind [Nat.add_mul_mod_self_left,Nat.mod_eq_of_lt]
  subst f;have g:A4 B l=A4 B m:=by
   grind [Nat.eq_of_mul_eq_mul_left]
  rw[zc4 i (λx c=>d x (C9 _ c)) (λx c=>e x (C9 _ c)) (by simp_all) g]
 | [],_::_,_,_,h,_=>by simp at h
 | _::_,[],_,_,h,_=>by simp at h
def gV (f:1<B) (d:pB B l)(e:B5 m)(g:A4 B m<=A4 B l):m.length<=l.length:=by
 by_cases c:m=[]
 .simp[c]
 .have a:=zb (B:=B) e c;have b:=qQ (by omega) d;have:B^(m.length-1)<B^l.length:=by omega
  grind [Nat.pow_lt_pow_iff_right]
def MK (e:1<B) (c:pB B l)(d:pB B m)(f:B5 l)(g:B5 m)(h:A4 B l=A4 B m):l=m:=by
 have a:=gV e c g (by omega);have b:=gV e d f (by omega);exact zc4 (by omega) c d (by omega) h
def zQ (a b:List Nat):Int:=if a.length≠b.length then(if a.length<b.length then -1 else 1)else go a b
where go:List Nat->List Nat->Int
 | a::l,b::m=>if go l m≠0 then go l m else if a<b then -1 else if b<a then 1 else 0
 | _,_=>0
theorem zj7{B:Nat}:∀ {a b:List Nat},pB B a->pB B b->a.length=b.length->(zQ.go a b<0 ↔ A4 B a<A4 B b)/\(zQ.go a b=0 ↔ A4 B a=A4 B b)
 | [],[],_,_,_=>by simp[zQ.go,A4]
 | a::l,b::m,e,f,o=>by
  have j:=e a C7;have k:=f b C7;obtain⟨n,q⟩:=zj7 (a:=l) (b:=m) (λx d=>e x (C9 _ d)) (λx d=>f x (C9 _ d)) (by simp_all);have c:∀ {x y:Nat},x<y->∀u v,u<B->u+B*x<v+B*y:=by
   intro x y h u v p;have:B*(x+1)<=B*y:=F6 B h
   grind
  unfold zQ.go;simp only[A4];by_cases i:zQ.go l m=0
  .grind
  .rw[A5 i];constructor
   .rw[n];constructor
    .simp_all
    grind [Nat.lt_trichotomy]
   .constructor
    .omega
    .intro h;rcases Nat.lt_trichotomy (A4 B l) (A4 B m)with g | g | g
     .have:=c g a b j;omega
     .omega
     .have:=c g b a k;omega
 | [],_::_,_,_,h=>by simp at h
 | _::_,[],_,_,h=>by simp at h
def zj6 (d:1<B){a b:List Nat}(e:pB B a)(f:pB B b)(i:B5 a)(j:B5 b):zQ a b<0 ↔ A4 B a<A4 B b:=by
 unfold zQ;by_cases k:a.length=b.length
 .grind [zj7]
 .rw[A5 k];by_cases c:a.length<b.length
  .rw[A5 c];refine⟨λ_=>?_,λ_=>by omega⟩;rcases Q2 (A4 B a) (A4 B b)with g | g
   .exact g
   .have:=gV d e j g;omega
  .rw[A3 c];refine⟨λh=>by omega,λh=>?_⟩;have:=gV d f i (by omega);omega
end Go.Am
namespace Go.Am
open Go Go.RowKit
variable {a b n:Int}{k:IntKind}{i x y:Nat}{l:List Nat}
theorem gG (a:0<=n)(b:n<18446744073709551616):cA .u64 n=n:=by
 grind [vS,IntKind.wrap,IntKind.bits,IntKind.signed]
theorem xY (a:0<=n)(b:n<4294967296):cA .u32 n=n:=by
 grind [vS,IntKind.wrap,IntKind.bits,IntKind.signed]
def zk8 (a:0<=n)(b:n<65536):cA .u16 n=n:=by
 grind [vS,IntKind.wrap,IntKind.bits,IntKind.signed]
theorem Mi (a:0<=n)(b:n<256):cA .u8 n=n:=by
 grind [vS,IntKind.wrap,IntKind.bits,IntKind.signed]
theorem Vk(n:Int):cA .u64 n=n%18446744073709551616:=by
 grind [vS,IntKind.wrap,IntKind.bits,IntKind.signed]
theorem yY(n:Int):cA .u32 n=n%4294967296:=by
 grind [vS,IntKind.wrap,IntKind.bits,IntKind.signed]
def zcy(n:Int):cA .u16 n=n%65536:=by
 grind [vS,IntKind.wrap,IntKind.bits,IntKind.signed]
def PJ   : No k (x:Int) (y:Int)=fJ Nat.land k (x:Int) (y:Int):=rfl
theorem wZ{f:Nat->Nat->Nat}  (c:x<zI k)(d:y<zI k):fJ f k (x:Int) (y:Int)=some (.e k (f x y:Nat)):=by
 unfold fJ;have a:kO (x:Int)=some x:=rfl;have b:kO (y:Int)=some y:=rfl;rw[a,lA,b,lA,eC.2 c,eC.2 d];rfl
def EL  (b:0<y)(a:cA k ((x / y:Nat):Int)=((x / y:Nat):Int)):F9 k (x:Int) (y:Int)=some (.e k ((x / y:Nat):Int)):=by
 unfold F9;have:kB (y:Int) 0=false:=by
  grind [Ba]
 rw[this,cond_false,Int.tdiv_eq_ediv_of_nonneg (by omega)];rw[<- Int.natCast_ediv,a]
def Yf  (a:0<y):Fc k (x:Int) (y:Int)=some (.e k ((x%y:Nat):Int)):=by
 unfold Fc;have:kB (y:Int) 0=false:=by
  grind [Ba]
 rw[this,cond_false,Int.tmod_eq_emod_of_nonneg (by omega),<- Int.natCast_emod]
theorem rI  : (kB a b=true) ↔ a=b:=Ba a b
def Ai  : ((!kB a b)=true) ↔ a≠b:=by rw[E7,<- Bool.not_eq_true,rI]
def DE{b:Bool}:((!b)=true) ↔ b=false:=by simp
theorem Kb{a b n:Nat}(h:b<2^n):Nat.lor (a*2^n) b=a*2^n+b:=by
 show a*2^n ||| b=_;rw[<- Nat.shiftLeft_eq,<- Nat.shiftLeft_add_eq_or_of_lt h,Nat.shiftLeft_eq]
def iy{a b n:Nat}(h:b<2^n)(d:a%2^n=0):Nat.lor a b=a+b:=by
 obtain⟨c,e⟩:=Nat.dvd_of_mod_eq_zero d
 grind [Nat.mul_comm,Kb]
def bA.f{t:G uA}{C:fA}{T el:Nat}(h:mG C T el 1 false)  {v:O}(e:bA t 1 (tC k l) v) (hi:l[i]?=some x) :
  ∃b off,zC C T v (.e .i64 (i:Int))=some (.j b off)/\oA C el ⟨0,t⟩ (.j b off)=some (.e k (x:Int)):=by
 obtain⟨b,off,f,c,d,_,_,a⟩:=mG.at h (λ_=>rfl) e (SE hi);rw[lP]at a;subst a;exact⟨b,off,c,d⟩
def Il(x:Nat)(n:Nat):Int.fdiv (x:Int) (n:Int)=((x / n:Nat):Int):=by
 grind
def A6  (h:i<l.length):∃x,l[i]?=some x:=⟨l[i],D0 h⟩
def oN{B:Nat} (h:pB B l) (hi:l[i]?=some x):x<B:=h x (Q5 hi)
def Xm (h:l≠[]):∃m x,l=m++[x]:=by
 rcases List.eq_nil_or_concat l with e | ⟨m,a,e⟩
 all_goals simp_all
end Go.Am
namespace Go.Proofs
open Go Go.Am
variable {a b l:List Nat}{u v:O}{neg:Bool}
variable [fC]
variable {t:G uA}
def zdf:∀(n:Nat) (l:List Nat) (v:O),l.length=n->n<1125899906842624->bA t 1 (tC .u32 l) v->∃v',jp 247 2 [v] t (λu m=>u=v'/\m=t)/\bA t 1 (tC .u32 (vF l)) v':=by
 intro n;induction n with
 | zero=>
  intro l v i _ a;have:l=[]:=lk.1 i;subst this;refine⟨v,yx ?_,a⟩;simp only[uI,uL,V,uW,Vz,iA,a.c,xA,yC,qH,iE];simp_all
 | succ n p=>
  intro l v i y a;obtain⟨m,x,rfl⟩:=Xm (l:=l) (by grind);have j:m.length=n:=by simp_all
  have o:(m++[x])[m.length]?=some x:=by simp
  obtain⟨b,q,f,g⟩:=a.f aH o;obtain⟨u,h,c⟩:=mG.f aH a (k:=m.length) (by simp[tC]);rw[SD]at c;simp only[List.take_left']at c;have e:(((m++[x]).length:Nat):Int)-1=(m.length:Int):=by simp
  by_cases d:x=0
  .subst d;obtain⟨w,r,s⟩:=p m u j (by omega) c;refine⟨w,yx ?_,by grind [BG]⟩;simp (disch:=omega) only[uI,uL,V,uW,Vz,iA,a.c,xA,yC,qH,iE,rI,A2,e,f,g,h]
   simp_all
  .refine⟨v,yx ?_,?_⟩
   .simp (disch:=omega) only[uI,uL,V,uW,Vz,iA,a.c,xA,yC,qH,iE,rI,A2,e,f,g,h]
    simp_all
   .rw[Rb]
    .exact a
    .intro _;simp_all
def Gx  (c:l.length<1125899906842624)(d:bA t 1 (tC .u32 l) v):∃v',oB Y F 247 [v] t=some v'/\bA t 1 (tC .u32 (vF l)) v':=by
 obtain⟨v',a,b⟩:=zdf _ l v rfl c d;exact⟨v',lC.2 (w247 a),b⟩
def zpe  (z:bA t 1 (tC .u32 a) u)(A:bA t 1 (tC .u32 b) v)(H:a.length=b.length):∀(n:Nat),n<=a.length->n<1125899906842624->jp 300 2 [u,v,.e .i64 ((n:Int)-1)] t (λw m=>w=.e .i64 (zQ.go (a.take n) (b.take n))/\m=t):=by
 intro n;induction n with
 | zero=>
  intro _ _;refine zrv ?_;simp only[uL,V,uW,ym,iA,mI];grind [zQ.go]
 | succ n D=>
  intro I s;obtain⟨x,B⟩:=A6 (l:=a) (i:=n) (by omega);obtain⟨y,C⟩:=A6 (l:=b) (i:=n) (by omega);obtain⟨c,F,j,k⟩:=z.f aH B;obtain⟨d,e,o,r⟩:=A.f aH C;have f:(((n+1:Nat):Int)-1)=(n:Int):=by omega
  have E:∀(a b:List Nat) (x y:Nat),a.length=b.length->zQ.go (a++[x]) (b++[y])=if x<y then -1 else if y<x then 1 else zQ.go a b:=by
   intro a;induction a with
   | nil=>
    grind [zQ.go]
   | cons p a D=>
    intro b x y h
    cases b with
    | nil=>simp at h
    | cons q b=>
     grind [zQ.go]
  have g:zQ.go (a.take (n+1)) (b.take (n+1))=if x<y then -1 else if y<x then 1 else zQ.go (a.take n) (b.take n):=by
   grind [List.take_add_one]
  rw[f,g];refine zrv ?_;simp (disch:=omega) only[uL,V,uW,ym,iA,xA,yC,iE,mI,Ai,j,k,o,r,A2]
  grind
def zs5  (e:a.length<1125899906842624)(c:bA t 1 (tC .u32 a) u)(d:bA t 1 (tC .u32 b) v):oB Y F 300 [u,v] t=some (.e .i64 (zQ a b)):=by
 refine lC.2 (w300 ?_);simp (disch:=omega) only[uI,V,uW,t300,iA,c.c,d.c,xA,yC,qH,iE,Ai,A2];unfold zQ;by_cases f:a.length=b.length
 .rw[A3 (by omega),A3 (by omega)];have:=zpe c d f a.length (B4 _) e
  grind
 grind
def rL(neg:Bool)(l:List Nat):Bool:=if l=[]then !neg else decide (l.length<=1024)&&decide (l.getLast?≠some 0)
def Jp   (n:l.length<1125899906842624)(c:bA t 1 (tC .u16 l) v):oB Y F 196 [.i [.d neg,v]] t=some (.d (rL neg l)):=by
 refine lC.2 (w196 ?_);unfold rL;by_cases a:l=[]
 .subst a;simp only[uI,uH,rB,V,uW,t196,iA,c.c,xA,yC,qH,rI];simp
 .obtain⟨m,x,rfl⟩:=Xm a;have i:(m++[x])[m.length]?=some x:=by simp
  obtain⟨b,k,e,f⟩:=c.f Eb i;have d:(((m++[x]).length:Nat):Int)-1=(m.length:Int):=by simp
  have h:m.length<1125899906842624:=by omega
  simp (disch:=omega) only[uI,uH,rB,V,uW,t196,iA,c.c,xA,yC,qH,rI,mI,A2,d,e,f];rw[A3 (by omega),A3 a];by_cases g:(m++[x]).length<=1024
  .rw[A5 (by omega)];simp only[g,decide_true,E5];by_cases j:x=0
   .grind [Fe]
   .have:kB (x:Int) 0=false:=by
     grind [Ba]
    simp_all
  grind
def EG   (c:bA t 1 (tC .u16 l) v):oB Y F 233 [.i [.d neg,v]] t=some (.d (!neg&&decide (l=[1]))):=by
 refine lC.2 (w233 ?_)
 cases neg with
 | true=>simp[fh,uI,uH,rB,V,t233,iA]
 | false=>
  simp only[fh,uI,uH,rB,V,t233,iA,c.c,xA,yC,qH,rI];rw[A5 (by rfl)];by_cases e:l.length=1
  .obtain⟨x,rfl⟩:∃x,l=[x]:=by
    cases l with
    | nil=>simp at e
    | cons x r=>simp_all
   obtain⟨b,f,a,d⟩:=c.f Eb (i:=0) (x:=x) (by simp);simp only[Int.natCast_zero]at a;rw[A5 (by simp)];simp only[a,d,xA,yC];by_cases g:x=1
   .grind [Fe]
   .have:kB (x:Int) 1=false:=by
     grind [Ba]
    simp_all
  .rw[A3 (by omega)];have:l≠[1]:=by grind
   grind
end Go.Proofs
namespace Go.Am
def oH:List Nat->List Nat
 | []=>[]
 | [a]=>[a]
 | a::b::l=>(a+65536*b)::oH l
theorem dT:∀l:List Nat,(oH l).length=(l.length+1) / 2
 | []=>rfl
 | [a]=>by simp[oH]
 | a::b::l=>by simp[oH,dT l];omega
theorem Vp:∀l:List Nat,A4 4294967296 (oH l)=A4 65536 l
 | []=>rfl
 | [a]=>by simp[oH,A4]
 | a::b::l=>by simp only[oH,A4,Vp l];omega
def Md:∀ {l:List Nat},pB 65536 l->pB 4294967296 (oH l)
 | [],_=>λx c=>(by cases c)
 | [a],h=>λx c=>by
  have:=h a (by simp)
  grind [oH]
 | a::b::l,h=>λx c=>by
  have e:=h a (by simp);have f:=h b (by simp);rcases C6.1 c with rfl | c
  .omega
  .exact Md (l:=l) (λy d=>h y (by simp[d])) x c
def Nu:∀ {l:List Nat},B5 l->B5 (oH l)
 | [],_=>λh=>(h rfl).elim
 | [a],h=>by
  grind [oH]
 | [a,b],h=>by
  intro _;have:=h (by simp)
  grind [oH]
 | a::b::c::l,h=>by
  intro _;have e:B5 (c::l):=by
   intro d;have:=h (by simp)
   simp_all
  have d:oH (c::l)≠[]:=by
   grind [dT]
  have:=Nu (l:=c::l) e d
  grind [oH]
def CT:∀(l:List Nat) (x:Nat),l.length%2=0->oH (l++[x])=oH l++[x]
 | [],x,_=>rfl
 | [a],x,h=>by simp at h
 | a::b::l,x,h=>by
  show(a+65536*b)::oH (l++[x])=(a+65536*b)::(oH l++[x]);rw[CT l x (by grind)]
theorem LS:∀(l:List Nat) (a x:Nat),l.length%2=0->oH (l++[a,x])=oH l++[a+65536*x]
 | [],a,x,_=>rfl
 | [b],a,x,h=>by simp at h
 | c::b::l,a,x,h=>by
  show(c+65536*b)::oH (l++[a,x])=(c+65536*b)::(oH l++[a+65536*x]);rw[LS l a x (by grind)]
def jI:List Nat->List Nat
 | []=>[]
 | w::l=>w%65536::w / 65536::jI l
theorem Qu:∀l:List Nat,(jI l).length=2*l.length
 | []=>rfl
 | w::l=>by simp[jI,Qu l];omega
def Vo:∀l:List Nat,A4 65536 (jI l)=A4 4294967296 l
 | []=>rfl
 | w::l=>by
  simp only[jI,A4,Vo l];omega
def AG:∀ {l:List Nat},pB 4294967296 l->pB 65536 (jI l)
 | [],_=>λx a=>(by cases a)
 | w::l,h=>λx a=>by
  have c:=h w (by simp);rcases C6.1 a with rfl | a
  .omega
  .rcases C6.1 a with rfl | a
   .omega
   .exact AG (l:=l) (λy b=>h y (by simp[b])) x a
theorem Qv:∀(l:List Nat) (w:Nat),jI (l++[w])=jI l++[w%65536,w / 65536]
 | [],w=>rfl
 | a::l,w=>by simp[jI,Qv l w]
theorem IT{l:List Nat}{w:Nat}(a:w≠0):vF (jI (l++[w]))=if w / 65536=0 then jI l++[w%65536]else jI (l++[w]):=by
 rw[Qv];split
 .rename_i h;rw[h,show jI l++[w%65536,0]=(jI l++[w%65536])++[0] by simp,BG];refine Rb λ_=>?_
  grind
 .rename_i h;refine Rb λ_=>?_
  grind
end Go.Am
namespace Go.Proofs
open Go Go.Am
variable {l:List Nat}{v:O}{Q:mB}
variable [fC]
variable {t:G uA}
theorem B9{m:List Nat}{i x:Nat}(h:l.length=i):(l++m).set i x=l++m.set 0 x:=by
 simp_all
def zgi  {b:Nat} (hv:bA t 1 (tC .u16 l) v)(hl:l.length<1000000)(g:pB 65536 l)(e:Y.a<=b)(Z:t.c b=none)
  (X:∀t' v',zB t t'->bA t' 1 (tC .u32 (oH l)) v'->Q v' t'):∀(k i:Nat) (t':G uA),i+k=l.length->zB t t'->zH t' b .u32 (oH (l.take i)++List.replicate ((l.length+1) / 2-(i+1) / 2) 0) →
  jp 235 2 [.m b 0 ((l.length+1) / 2) ((l.length+1) / 2),v,.e .i64 l.length,.e .i64 i] t' Q:=by
 intro k;induction k with
 | zero=>
  intro i t' hi q o;refine zr3 ?_;simp only[uL,uH,uC,V,uW,ye,iA,iE];rw[A3 (by omega)];rw[L8 (by omega),show(l.length+1) / 2-(i+1) / 2=0 by omega,List.replicate_zero,Do]at o;refine X _ _ q ?_;have:=o.m (B4 _)
  grind [dT]
 | succ k ih=>
  intro i t' hi q o;obtain⟨x,K⟩:=A6 (l:=l) (i:=i) (by omega);have L:x<65536:=oN g K;obtain⟨c,a8,R,S⟩:=(hv.a q).f Eb K;have f:l.take (i+1)=l.take i++[x]:=by grind [List.take_add_one]
  have I:(l.take i).length=i:=by grind
  obtain⟨y,hy,m⟩:∃y,(oH (l.take i)++List.replicate ((l.length+1) / 2-(i+1) / 2) 0)[i / 2]?=some y/\y<4294967296/\Nat.lor y (x*2^(16*(i%2)))<4294967296 ∧
    (oH (l.take i)++List.replicate ((l.length+1) / 2-(i+1) / 2) 0).set (i / 2) (Nat.lor y (x*2^(16*(i%2))))=oH (l.take (i+1))++List.replicate ((l.length+1) / 2-(i+1+1) / 2) 0:=by
   rcases Nat.mod_two_eq_zero_or_one i with H | a1
   .have u:(oH (l.take i)).length=i / 2:=by grind [dT]
    refine⟨0,?_,by decide,?_,?_⟩
    .rw[T9 (by omega),u,Nat.sub_self,List.getElem?_replicate,A5 (by omega)]
    .rw[H];simp;omega
    .rw[B9 u,H,f,CT _ _ (by omega)];have:Nat.lor 0 (x*2^(16*0))=x:=by simp_all
     rw[this];obtain⟨r,hr⟩:∃r,(l.length+1) / 2-(i+1) / 2=r+1:=⟨(l.length+1) / 2-(i+1) / 2-1,by omega⟩;rw[hr,List.replicate_succ,List.set_cons_zero,show(l.length+1) / 2-(i+1+1) / 2=r by omega];simp
   .obtain⟨p,a,w⟩:=Xm (l:=l.take i) (by grind);have a6:p.length=i-1:=by grind
    have z:p.length%2=0:=by omega
    have ha:a<65536:=g a (List.mem_of_mem_take (by simp_all:a∈l.take i));have u:(oH p).length=i / 2:=by grind [dT]
    rw[w,CT _ _ z];have J:Nat.lor a (x*2^(16*1))=a+65536*x:=by
     show a ||| x*2^(16*1)=_;rw[Nat.or_comm];have:=Kb (a:=x) (b:=a) (n:=16) (by omega);show Nat.lor (x*2^16) a=_;omega
    refine⟨a,?_,by omega,?_,?_⟩
    all_goals grind [B9,LS]
  obtain⟨B,a7,D⟩:=m;have A:(oH (l.take i)++List.replicate ((l.length+1) / 2-(i+1) / 2) 0).length=(l.length+1) / 2:=by
   grind [dT]
  have E:zC Y 253 (.m b 0 ((l.length+1) / 2) ((l.length+1) / 2)) (.e .i64 ((i / 2:Nat):Int))=some (.j b (0+i / 2*1)):=Gu aH (by omega);rw[show 0+i / 2*1=i / 2 by omega]at E;have T:=o.f hy tI rfl;obtain⟨t2,U,F,W⟩:=o.e (C:=Y) e (j:=i / 2) (by omega) (Nat.lor y (x*2^(16*(i%2)))) tI rfl;rw[D]at F;refine zr3 ?_;have M:Int.tdiv (i:Int) 2=((i / 2:Nat):Int):=by simp_all
  have N:Int.tmod (i:Int) 2=((i%2:Nat):Int):=by grind
  have hm:=G3 i (show 0<2 by decide);simp (disch:=omega) only[uL,uH,uC,V,uW,ye,iA,iE,R,S,xA,yC,A2,xY,M,N,E,T];rw[A5 (by omega)];have P:Az .u32 (x:Int) (16*((i%2:Nat):Int))=some (.e .u32 ((x*2^(16*(i%2)):Nat):Int)):=by
   rcases Nat.mod_two_eq_zero_or_one i with h | h<;>rw[h]
   .simp[Az,Kc,kO];rw[xY (by omega) (by omega)]
   .have:Az .u32 (x:Int) (16*((1:Nat):Int))=some (.e .u32 (cA .u32 ((x:Int)*65536))):=rfl
    grind [xY]
  rw[P];have s:x*2^(16*(i%2))<4294967296:=by
   rcases Nat.mod_two_eq_zero_or_one i with h | h<;>rw[h]<;>omega
  simp only[xA,yC];rw[wZ (show y<zI .u32 from B) (show x*2^(16*(i%2))<zI .u32 from s)];simp only[xA,yC];intro d _ _;rw[U];simp only[xA];have:=ih (i+1) t2 (by omega) (q.g Z W) F
  simp_all
def Ry   (e:bA t 1 (tC .u16 l) v)(j:l.length<1000000)(c:pB 65536 l)
  (i:∀t' v',zB t t'->bA t' 1 (tC .u32 (oH l)) v'->Q v' t'):Wc Y F 235 [v] t Q:=by
 refine w235 ?_;have f:Int.tdiv ((l.length:Int)+1) 2=(((l.length+1) / 2:Nat):Int):=by grind
 simp (disch:=omega) only[uI,V,uW,t235,iA,e.c,xA,yC,qH,A2,f];intro b d a;obtain⟨t',g,m,h,_⟩:=La (C:=Y) (k:=.u32) lN rfl tI rfl rfl (by decide) (n:=(l.length+1) / 2) (by omega) d;rw[g];simp only[xA];exact zgi e j c a d i l.length 0 t' (by omega) h (by grind [oH])
end Go.Proofs
namespace Go.Proofs
open Go Go.Am
variable {n s x y:Nat}
variable [fC]
variable {t:G uA}
theorem zt4 (h:n<4294967296):n / 2147483648=if n.testBit 31 then 1 else 0:=by
 grind
theorem zc (h:n<4294967296):n.testBit 31=decide (2147483648<=n):=by
 grind
theorem HV (h:x<4294967296):Jt (.e .u32 (x:Int))=some (.e .u32 (Nat.xor 4294967295 x:Nat)):=by
 grind [Jt,O.ac,lA,Nat.beq,cg,xE,wZ,zI]
def zl4{b:Nat}(i:x<4294967296)(j:y<4294967296)(u:b<2) :
  oB Y F 311 [.e .u32 x,.e .u32 y,.e .u32 b] t=some (.p [.e .u32 (((x+8589934592-y-b)%4294967296:Nat):Int),.e .u32 (((if x<y+b then 1 else 0):Nat):Int)]):=by
 refine lC.2 (w311 ?_);obtain⟨d,v⟩:∃d,d=(x+8589934592-y-b)%4294967296:=⟨_,rfl⟩;have a:d<4294967296:=by omega
 have r:cA .u32 (cA .u32 ((x:Int)-y)-b)=(d:Int):=by
  grind [yY]
 have c:Nat.xor 4294967295 x<4294967296:=Nat.xor_lt_two_pow (n:=32) (by decide) i;have e:Nat.xor x y<4294967296:=Nat.xor_lt_two_pow (n:=32) i j;have f:Nat.xor 4294967295 (Nat.xor x y)<4294967296:=Nat.xor_lt_two_pow (n:=32) (by decide) e;have g:Nat.land (Nat.xor 4294967295 x) y<4294967296:=K8 Nat.and_le_left c;have h:Nat.land (Nat.xor 4294967295 (Nat.xor x y)) d<4294967296:=K8 Nat.and_le_left f;have l:Nat.lor (Nat.land (Nat.xor 4294967295 x) y) (Nat.land (Nat.xor 4294967295 (Nat.xor x y)) d)<4294967296:=Nat.or_lt_two_pow (n:=32) g h
 simp only[uL,t311,iA,r];rw[HV i];simp only[xA,yC];rw[PJ,wZ (k:=.u32) c j];simp only[xA,yC];rw[wZ (k:=.u32) i j];simp only[xA,yC];rw[HV e];simp only[xA,yC];rw[PJ,wZ (k:=.u32) f a];simp only[xA,yC];rw[wZ (k:=.u32) g h];simp only[xA,yC];have s:Int.fdiv ((Nat.lor (Nat.land (Nat.xor 4294967295 x) y) (Nat.land (Nat.xor 4294967295 (Nat.xor x y)) d):Nat):Int) 2147483648=(((if x<y+b then 1 else 0):Nat):Int):=by
  rw[show(2147483648:Int)=((2147483648:Nat):Int) from rfl,Il,zt4 l];congr 1;have w:(Nat.lor (Nat.land (Nat.xor 4294967295 x) y) (Nat.land (Nat.xor 4294967295 (Nat.xor x y)) d)).testBit 31=decide (x<y+b):=by
   show((4294967295 ^^^ x) &&& y ||| (4294967295 ^^^ (x ^^^ y)) &&& d).testBit 31=_;rw[Nat.testBit_or,Nat.testBit_and,Nat.testBit_and,Nat.testBit_xor,Nat.testBit_xor,Nat.testBit_xor,zc i,zc j,zc a];have:(4294967295:Nat).testBit 31=true:=by decide
   rw[this];by_cases m:2147483648<=x<;>by_cases o:2147483648<=y<;>by_cases p:2147483648<=d<;>by_cases q:x<y+b<;>simp only[m,o,p,q,decide_true,decide_false,Bool.xor_true,Bool.xor_false,Bool.true_xor,Bool.false_xor,Bool.not_true,L0,Bool.and_true,E9,Bool.or_true,Bool.or_false,Bool.xor_self]<;>omega
  simp_all
 simp_all
def zpy{c:Nat}(d:x<4294967296)(e:y<4294967296)(b:c<2) :
  oB Y F 317 [.e .u32 x,.e .u32 y,.e .u32 c] t=some (.p [.e .u32 (((x+y+c)%4294967296:Nat):Int),.e .u32 (((x+y+c) / 4294967296:Nat):Int)]):=by
 refine lC.2 (w317 ?_);have a:((x:Int)+y)+c=((x+y+c:Nat):Int):=by omega
 simp (disch:=omega) only[t317,iA,gG]
 grind [yY]
def zou{h l d:Nat}(i:h<d)(f:l<4294967296)(g:d<4294967296) :
  oB Y F 268 [.e .u32 h,.e .u32 l,.e .u32 d] t=some (.p [.e .u32 (((h*4294967296+l) / d:Nat):Int),.e .u32 (((h*4294967296+l)%d:Nat):Int)]):=by
 refine lC.2 (w268 ?_);simp only[t268,iA,Ai,mI];rw[A5 (by omega),A3 (by omega)];refine j268_7 ?_;have c:(h:Int)*4294967296=((h*4294967296:Nat):Int):=by omega
 have j:(h*4294967296+l) / d<4294967296:=Q4 (by
  omega)
 have m:(h*4294967296+l)%d<d:=G3 _ (by omega);simp (disch:=omega) only[uE,zqp,iA,gG,c];have e:fJ Nat.lor .u64 ((h*4294967296:Nat):Int) (l:Int)=some (.e .u64 ((h*4294967296+l:Nat):Int)):=by
  rw[wZ (k:=.u64) (show h*4294967296<zI .u64 by show _<18446744073709551616;omega) (show l<zI .u64 by show _<18446744073709551616;omega)];have:=Kb (a:=h) (b:=l) (n:=32) f;rw[show h*4294967296=h*2^32 by rfl,this]
 rw[e];simp only[xA,yC];rw[EL (k:=.u64) (by omega) (by
  grind [gG]),Yf (k:=.u64) (by omega)]
 grind [xA,yC,xY]
theorem znp(v:Nat)(a:v<256):∃k,k<9/\lD [0,1,2,2,3,3,3,3,4,4,4,4,4,4,4,4,5,5,5,5,5,5,5,5,5,5,5,5,5,5,5,5,6,6,6,6,6,6,6,6,6,6,6,6,6,6,6,6,6,6,6,6,6,6,6,6,6,6,6,6,6,6,6,6,7,7,7,7,7,7,7,7,7,7,7,7,7,7,7,7,7,7,7,7,7,7,7,7,7,7,7,7,7,7,7,7,7,7,7,7,7,7,7,7,7,7,7,7,7,7,7,7,7,7,7,7,7,7,7,7,7,7,7,7,7,7,7,7,8,8,8,8,8,8,8,8,8,8,8,8,8,8,8,8,8,8,8,8,8,8,8,8,8,8,8,8,8,8,8,8,8,8,8,8,8,8,8,8,8,8,8,8,8,8,8,8,8,8,8,8,8,8,8,8,8,8,8,8,8,8,8,8,8,8,8,8,8,8,8,8,8,8,8,8,8,8,8,8,8,8,8,8,8,8,8,8,8,8,8,8,8,8,8,8,8,8,8,8,8,8,8,8,8,8,8,8,8,8,8,8,8,8,8,8,8,8,8,8,8,8,8,8,8,8,8,8] v=some k/\(v=0/\k=0\/0<k/\2^(k-1)<=v/\v<2^k):=by
 have h:∀v:Fin 256,(lD [0,1,2,2,3,3,3,3,4,4,4,4,4,4,4,4,5,5,5,5,5,5,5,5,5,5,5,5,5,5,5,5,6,6,6,6,6,6,6,6,6,6,6,6,6,6,6,6,6,6,6,6,6,6,6,6,6,6,6,6,6,6,6,6,7,7,7,7,7,7,7,7,7,7,7,7,7,7,7,7,7,7,7,7,7,7,7,7,7,7,7,7,7,7,7,7,7,7,7,7,7,7,7,7,7,7,7,7,7,7,7,7,7,7,7,7,7,7,7,7,7,7,7,7,7,7,7,7,8,8,8,8,8,8,8,8,8,8,8,8,8,8,8,8,8,8,8,8,8,8,8,8,8,8,8,8,8,8,8,8,8,8,8,8,8,8,8,8,8,8,8,8,8,8,8,8,8,8,8,8,8,8,8,8,8,8,8,8,8,8,8,8,8,8,8,8,8,8,8,8,8,8,8,8,8,8,8,8,8,8,8,8,8,8,8,8,8,8,8,8,8,8,8,8,8,8,8,8,8,8,8,8,8,8,8,8,8,8,8,8,8,8,8,8,8,8,8,8,8,8,8,8,8,8,8,8] v.val).elim false (λk=>decide (k<9)&&(decide (v.val=0)&&decide (k=0)||decide (0<k)&&decide (2^(k-1)<=v.val)&&decide (v.val<2^k)))=true:=by decide +kernel
 have a:=h ⟨v,a⟩;simp only[]at a;generalize lD _ v=r at a ⊢
 cases r with
 | none=>simp at a
 | some k=>
  grind
def BL (x k:Nat):Prop:=x=0/\k=0\/0<k/\2^(k-1)<=x/\x<2^k
def NF (b:x<256)(e:s<100):∃k,k<=8/\BL x k/\jp 316 15 [.e .u32 x,.e .i64 s] t (λv m=>v=.e .i64 ((s+k:Nat):Int)/\m=t):=by
 obtain⟨k,d,c,a⟩:=znp x b;refine⟨k,by omega,a,zwa ?_⟩;simp (disch:=omega) only[uU,V,uY,uW,zdw,iA,Mi];unfold mJ;rw[iI,lA];have:(O.e .u8 (x:Int)).aj=some x:=rfl;rw[this,lA];simp only[O.w];rw[show(jD.a ⟨.j,1,16,[.h []],true⟩).c=true from rfl,xE]
 grind [lA,xA,yC,A2]
def ND (i:x<65536)(g:s<90):∃k,k<=16/\BL x k/\jp 316 9 [.e .u32 x,.e .i64 s] t (λv m=>v=.e .i64 ((s+k:Nat):Int)/\m=t):=by
 by_cases h:256<=x
 .obtain⟨k,b,a,c⟩:=NF (t:=t) (x:=x / 256) (s:=s+8) (by omega) (by omega);refine⟨k+8,by omega,?_,zro ?_⟩
  .rcases a with a | ⟨d,e,f⟩
   .omega
   .refine .inr ⟨by omega,?_,?_⟩
    .rw[show k+8-1=(k-1)+8 by omega,Nat.pow_add];omega
    grind
  .simp (disch:=omega) only[V,uW,yu,iA,mI,A2]
   grind
 .obtain⟨k,b,a,c⟩:=NF (t:=t) (x:=x) (s:=s) (by omega) (by omega);refine⟨k,by omega,a,zro ?_⟩;simp only[V,uW,yu,iA,mI];grind
def znq (g:x<4294967296):∃k,k<=32/\BL x k/\oB Y F 316 [.e .u32 x] t=some (.e .i64 (k:Int)):=by
 by_cases h:65536<=x
 .obtain⟨k,b,a,c⟩:=ND (t:=t) (x:=x / 65536) (s:=16) (by omega) (by omega);refine⟨k+16,by omega,?_,lC.2 (w316 ?_)⟩
  .rcases a with a | ⟨d,e,f⟩
   .omega
   .refine .inr ⟨by omega,?_,?_⟩
    .rw[show k+16-1=(k-1)+16 by omega,Nat.pow_add];omega
    grind
  .simp only[V,t316,iA,mI]
   grind
 .obtain⟨k,b,a,c⟩:=ND (t:=t) (x:=x) (s:=0) (by omega) (by omega);refine⟨k,by omega,a,lC.2 (w316 ?_)⟩;simp only[V,t316,iA,mI];grind
def zhb (e:x<4294967296)(g:0<x):∃s:Nat,s<32/\2147483648<=x*2^s/\x*2^s<4294967296/\oB Y F 308 [.e .u32 x] t=some (.e .i64 (s:Int)):=by
 obtain⟨k,h,a,d⟩:=znq (t:=t) e;rcases a with a | ⟨f,b,c⟩
 .omega
 .refine⟨32-k,by omega,?_,?_,lC.2 (w308 ?_)⟩
  .have:2^(k-1)*2^(32-k)=2147483648:=by rw[<- Nat.pow_add,show k-1+(32-k)=31 by omega]
   rw[<- this];exact D4 _ b
  .have:2^k*2^(32-k)=4294967296:=by rw[<- Nat.pow_add,show k+(32-k)=32 by omega]
   rw[<- this];exact Nat.mul_lt_mul_of_pos_right c (Nat.pow_pos (Nat.succ_pos 1))
  .simp (disch:=omega) only[uI,V,uW,t308,iA,q316,d,xA,yC,A2]
   grind
end Go.Proofs
namespace Go.Am
variable {B i x:Nat}{l:List Nat}
theorem Wg{p:List Nat}{n:Nat}:(p++List.replicate (n+1) 0).set p.length x=(p++[x])++List.replicate n 0:=by
 grind
theorem rQ(B:Nat)(l:List Nat)(x:Nat):A4 B (l++[x])=A4 B l+B^l.length*x:=by rw[Mr];simp[A4]
theorem Di   (h:pB B l)(a:x<B):pB B (l++[x]):=UI h λy b=>by simp_all
def zat {r w d:Nat}(a:r<d)(c:w<B):(r*B+w) / d<B:=by
 have b:0<d:=by omega
 refine Q4 ?_;have:(r+1)*B<=d*B:=D4 B a
 grind
def kT  (h:l[i]?=some x):l.take (i+1)=l.take i++[x]:=by rw[ydg,h];rfl
def iU  (h:l[i]?=some x):l.drop i=x::l.drop (i+1):=by
 have a:=(G1.1 h);rw[F8 a.1,a.2]
end Go.Am
namespace Go.Am
open Go Go.RowKit
variable {el n sz:Nat}{v:O}{cl:List (List O)}
section
variable {t:G uA}{C:fA}
def zg9{c:G O}  : ∀(cl:List (List O)) (off:Nat),(∀(i:Nat) cs,cl[i]?=some cs->cs.length=sz/\∀(j:Nat) a,cs[j]?=some a->c.c (off+i*sz+j)=some a)->c.u (cl.length*sz) off=some cl.flatten:=by
 intro cl;induction cl with
 | nil=>intro off _;simp;rfl
 | cons cs cl o=>
  intro off h;obtain⟨t,u⟩:=h 0 cs (by simp);have e:=o (off+sz) λi d v=>by
   obtain⟨q,s⟩:=h (i+1) d (by simp_all)
   grind
  have p:∀(n:Nat) (l r:List O) (off:Nat),l.length=n->(∀(j:Nat) a,l[j]?=some a->c.c (off+j)=some a)->∀m,c.u m (off+n)=some r->c.u (n+m) off=some (l++r):=by
   intro n;induction n with
   | zero=>
    simp_all
   | succ n f=>
    intro l r off k g m x
    cases l with
    | nil=>simp at k
    | cons a l=>
     rw[show n+1+m=(n+m)+1 by omega,G.aw];have:=g 0 a (by simp);rw[L9]at this;rw[this,lA,f l r (off+1) (by simp_all) (λj b w=>by
      have:=g (j+1) b (by simp_all)
      grind) m (by grind)]
     rfl
  grind [Nat.add_mul]
def dQ.a   (h:dQ t sz v cl)  : qZ ⟨n,t⟩ sz cl.length v=some cl.flatten/\Hz v=some cl.length:=by
 rcases h with⟨rfl,rfl⟩ | ⟨b,a,d,rfl,_,⟨c,m,r,f,_⟩,g⟩
 .exact⟨rfl,rfl⟩
 .refine⟨?_,rfl⟩;unfold qZ;simp only[O.u];unfold eD;rw[f,lA];simp only[uA.a,lA];refine zg9 cl a λi e j=>?_;obtain⟨o,l,s,k,p,q⟩:=g i e j
  simp_all
theorem Fj  : ∀ {cl:List (List O)},(∀(i:Nat) cs,cl[i]?=some cs->cs.length=sz)->cl.flatten.length=cl.length*sz:=by
 intro cl;induction cl with
 | nil=>grind
 | cons c cl a=>
  intro h;rw[lj,E1,D6,D7,a λi cs b=>h (i+1) cs (by simp_all),h 0 c (by simp)];omega
theorem rZ  : ∀ {cl:List (List O)},(∀(i:Nat) cs,cl[i]?=some cs->cs.length=sz)->∀(i j:Nat) cs a,cl[i]?=some cs->cs[j]?=some a->cl.flatten[i*sz+j]?=some a:=by
 intro cl;induction cl with
 | nil=>simp_all
 | cons c cl f=>
  intro h i j cs a d e;have b:=h 0 c (by simp);rw[lj]
  cases i with
  | zero=>
   grind
  | succ i=>
   rw[T9 (by grind),b,show(i+1)*sz+j-sz=i*sz+j by grind];exact f (λi cs d=>h (i+1) cs (by simp_all)) i j cs a (by simp_all) e
def dQ.e   (h:dQ t sz v cl):∀(i:Nat) cs,cl[i]?=some cs->cs.length=sz:=by
 rcases h with⟨rfl,rfl⟩ | ⟨b,c,a,rfl,_,_,d⟩
 all_goals grind
theorem FO  {t':G uA}{lo:Option Lo}(d:∀(i:Nat) cs,cl[i]?=some cs->cs.length=sz)(h:t'.c n=some (.aa (G.ac cl.flatten) (vB cl.flatten) lo))(b:lo=none\/∃x,lo=some x/\x.c=sz):dQ t' sz (.m n 0 cl.length cl.length) cl:=
 .inr ⟨n,0,cl.length,rfl,B4 _,⟨_,_,_,h,b⟩,λi cs c=>⟨d i cs c,_,_,_,h,λj a e=>by
  grind [G.o,rZ]⟩⟩
def NB (C:fA)(el:Nat):Prop:=∀y,C.b.c el=some y->zih y=false
def NB.a {z:jD}(h:NB C el)(a:C.b.c el=some z):wO el z=.b z.b:=by
 unfold wO;rw[h z a,E9];rfl
structure Gi (C:fA) (T el sz:Nat):Prop where
 ty:∃y,C.b.c T=some y/\y.a.a=some el/\Nat.beq y.a.l 1=false
 el:∃y,C.b.c el=some y/\y.b=sz/\vB y.c=sz/\y.d<=500/\0<sz
structure rT (C:fA) (T e sz:Nat):Prop where
 ty:∃y,C.b.c T=some y/\y.a.a=some e/\Nat.beq y.a.l 1=false
 el:∃y,C.b.c e=some y/\y.b=sz/\vB y.c=sz/\y.d<=500/\0<sz
 nb:NB C e
def UD{T:Nat}(F:rT C T el sz){l:List D}{x s:O}(L:bA t sz l x)(Z:l.length<1000000) (hn:t.c n=none)
  (K:s=.g\/∃b c m,s=.m b 0 0 0/\t.c b=some (.aa c m none)) :
  ∃v H',lG C T T s x ⟨n,t⟩=some (v,H')/\bA H'.t sz l v/\zB t H'.t/\jF n t H'.t:=by
 obtain⟨⟨y,M,N,P⟩,⟨z,o,g,Q,p,R⟩,k⟩:=F;have j:=NB.a k o;obtain⟨cl,A,f⟩:=L;have H:=f.g;obtain⟨X,B⟩:=A.a (n:=n);have e:=A.e
 have d:lG C T T s x ⟨n,t⟩=(match s.u with
  | some s=>bif Nat.ble (s.2.2.1+cl.length) s.2.2.2 then Cz C ⟨n,t⟩ z cl.length cl.flatten s else Bb C ⟨n,t⟩ el z cl.length cl.flatten s
  | none=>sB (Nat.beq s.aa 5) (jX ⟨n,t⟩ el z cl.length cl.flatten)):=by
  unfold lG Br;grind [lA,xE]
 have I:vB cl.flatten=cl.length*sz:=by grind [dD,Fj]
 have E:sZ z 0 0 cl.length cl.flatten=true:=by
  unfold sZ;have U:Nat.blt (0+cl.length+0) 1000000000=true:=eC.2 (by omega);have W:Nat.blt ((0+cl.length+0)*z.d) 1000000000=true:=eC.2 (by
   have:=G5 (show 0+cl.length+0<=1000000 by omega) p;omega)
  grind [eC,zD]
 have a:∀(q:uA),zB t (t.d n q)/\jF n t (t.d n q):=λq=>⟨λc u w=>by
   grind [G.aa],λc w=>by rw[G.aa,A3 w]⟩
 rcases K with rfl | ⟨b,c,m,rfl,r⟩
 .by_cases h:cl.length=0
  .have:cl=[]:=lk.1 h;subst this;refine⟨.g,⟨n,t⟩,?_,⟨[],.inl ⟨rfl,rfl⟩,f⟩,zB.f _,jF.d _ _⟩;rw[d];rfl
  .refine⟨.m n 0 cl.length cl.length,⟨n+1,t.d n (.aa (G.ac cl.flatten) (vB cl.flatten) (some (wO el z)))⟩,?_,⟨cl,FO e (show(t.d n _).c n=_ by rw[G.aa,A5 rfl]) (.inr ⟨_,rfl,by rw[Pb,g]⟩),tD.f (a _).1 _ _ f⟩,(a _).1,(a _).2⟩;rw[d];simp only[O.u];show sB true (jX ⟨n,t⟩ el z cl.length cl.flatten)=_;rw[xE];unfold jX;have:Nat.beq cl.length 0=false:=by
    grind [zD]
   rw[this,cond_false,E];rfl
 .by_cases h:cl.length=0
  .have:cl=[]:=lk.1 h;subst this;refine⟨.m b 0 0 0,⟨n,t⟩,?_,⟨[],.inr ⟨b,0,0,rfl,B4 _,⟨c,m,none,r,.inl rfl⟩,λi S J=>by simp at J⟩,f⟩,zB.f _,jF.d _ _⟩;rw[d];rfl
  .refine⟨.m n 0 cl.length cl.length,⟨n+1,t.d n (.aa (G.ac cl.flatten) (vB cl.flatten) (some (wO el z)))⟩,?_,⟨cl,FO e (show(t.d n _).c n=_ by rw[G.aa,A5 rfl]) (.inr ⟨_,rfl,by rw[Pb,g]⟩),tD.f (a _).1 _ _ f⟩,(a _).1,(a _).2⟩;rw[d];simp only[O.u];have:Nat.ble (0+cl.length) 0=false:=by
    grind [mF]
   rw[this,cond_false];unfold Bb;simp only[];rw[show ∀x,(!(Nat.beq 0 1&&x))=true from λ_=>rfl,xE,E,xE];unfold eD;rw[r,lA];simp only[uA.a,lA];unfold Oj;simp only[Nat.zero_mul];show ob (c.u 0 0) _=_;rw[show c.u 0 0=some [] from rfl,lA];rw[wI,F3,D8];rfl
end
end Go.Am
namespace Go.Proofs
open Go Go.Am
variable {b el n:Nat}{y z:jD}{l:List Nat}{v:O}{Q:mB}{k:IntKind}{neg:Bool}
variable [fC]
variable {t:G uA}
def pq:rT Y 253 254 1:=⟨⟨_,lN,rfl,rfl⟩,⟨_,tI,rfl,rfl,by decide,by decide⟩,λy h=>by rw[tI]at h;cases h;rfl⟩
def nw{T:Nat} (d:Y.b.c T=some y)(a:y.a.a=some el)(e:Y.b.c el=some z)(h:vB z.c=z.b) (f:t.c b=none) :
  ∃H',rD Y T 0 [] ⟨b,t⟩=some (.m b 0 0 0,H')/\(∃c,H'.t.c b=some (.aa c 0 none))/\zB t H'.t:=by
 refine⟨sG ⟨b,t⟩ [] none,?_,⟨G.ac [],?_⟩,?_⟩
 .unfold rD;rw[d,lA,a,lA,e,lA];have:(Nat.blt (0*z.b) 1000000&&Nat.beq (vB z.c) z.b)=true:=by simp_all
  rw[this];rfl
 .show(t.d b _).c b=_;rw[G.aa,A5 rfl];rfl
 .intro c u g;show(t.d b _).c c=_
  grind [G.aa]
def zpg   (f:bA t 1 (tC .u32 l) v)(z:l.length<1000000)
  (p:∀t' v',zB t t'->bA t' 1 (tC .u32 l) v'->Q v' t'):Wc Y F 307 [v] t Q:=by
 refine w307 ?_;have e:(dX .eql).f Y 253 (.tmp 3) (.const (.slice none 0 0)) v .g=some (.d (Nat.beq v.aa 5)):=by
  obtain⟨y,o,_⟩:=f;rcases o with⟨rfl,_⟩ | ⟨b,s,g,rfl,_⟩
  .kernel_rfl
  .kernel_rfl
 simp only[uB,t307,iA,e,xA,Iv];split
 .grind [bZ,zD,zB.f]
 .intro b q a;obtain⟨x,h,⟨c,i⟩,d⟩:=nw (t:=t) lN rfl tI rfl q;rw[h];simp only[xA];intro n r _;obtain⟨u,w,j,k,m,_⟩:=UD pq (f.a d) (by grind [qH]) r (.inr ⟨b,c,0,rfl,i⟩);rw[j];simp only[xA];exact p _ _ (d.d m) k
def Rj(n:Nat):List Nat:=vF [n%4294967296,n / 4294967296]
theorem zad(n:Nat):A4 4294967296 (Rj n)=n:=by grind [Rj,wV,A4]
theorem ZU (h:n<18446744073709551616):pB 4294967296 (Rj n):=iW λx a=>by
 grind
theorem XP(n:Nat):B5 (Rj n):=iY _
def DP{T:Nat}  (e:Y.b.c T=some y)(d:y.a.a=some el)(g:Y.b.c el=some z)(a:z.c=[.e k 0])(f:z.b=1)(x:Nat)(m:True) (h:t.c b=none) :
  ∃H',rD Y T 1 [(0,.e k (x:Int))] ⟨b,t⟩=some (.m b 0 1 1,H')/\zH H'.t b k [x]/\zB t H'.t:=by
 refine⟨sG ⟨b,t⟩ [.e k (x:Int)] none,?_,⟨G.ac [.e k (x:Int)],?_,λj u l=>?_⟩,?_⟩
 .unfold rD;rw[e,lA,d,lA,g,lA,f,a];rfl
 .show(t.d b _).c b=_;rw[G.aa,A5 rfl];rfl
 .grind [G.o]
 .intro c u i;show(t.d b _).c c=_
  grind [G.aa]
def znj{T:Nat}  (e:Y.b.c T=some y)(d:y.a.a=some el)(g:Y.b.c el=some z)(a:z.c=[.e k 0])(f:z.b=1)(x x':Nat) (h:t.c b=none) :
  ∃H',rD Y T 2 [(0,.e k (x:Int)),(1,.e k (x':Int))] ⟨b,t⟩=some (.m b 0 2 2,H')/\zH H'.t b k [x,x']/\zB t H'.t:=by
 refine⟨sG ⟨b,t⟩ [.e k (x:Int),.e k (x':Int)] none,?_,⟨G.ac [.e k (x:Int),.e k (x':Int)],?_,λj u l=>?_⟩,?_⟩
 .unfold rD;rw[e,lA,d,lA,g,lA,f,a];rfl
 .show(t.d b _).c b=_;rw[G.aa,A5 rfl];rfl
 .grind [G.o]
 .intro c u i;show(t.d b _).c c=_
  grind [G.aa]
theorem zmf  (o:n<18446744073709551616)(j:∀t' v',zB t t'->bA t' 1 (tC .u32 (Rj n)) v'->Q v' t'):Wc Y F 304 [.e .u64 n] t Q:=by
 refine w304 ?_;have d:cA .u32 (n:Int)=((n%4294967296:Nat):Int):=by rw[yY];omega
 have e:cA .u32 (Int.fdiv (n:Int) 4294967296)=((n / 4294967296:Nat):Int):=by
  rw[show Int.fdiv (n:Int) 4294967296=((n / 4294967296:Nat):Int) from Il _ 4294967296,xY (by omega) (by omega)]
 simp only[t304,iA,d,e];intro b m _;obtain⟨c,f,g,h⟩:=znj (t:=t) (k:=.u32) lN rfl tI rfl rfl (n%4294967296) (n / 4294967296) m;rw[f];simp only[xA];obtain⟨v',a,i⟩:=Gx (l:=[n%4294967296,n / 4294967296]) (by simp) (g.m (B4 _));simp only[cq];have a:oB Y F 247 [.m b 0 2 2] c.t=some v':=a;rw[a];exact j _ _ h i
def VG     (hv:bA t 1 (tC .u32 l) v)(hl:l.length<400000)(o:pB 4294967296 l)(B:l≠[])(g:B5 l)(a:Y.a<=b)(K:t.c b=none)
  (hQ:∀t' v',zB t t'->bA t' 1 (tC .u16 (vF (jI l))) v'->Q (.i [.d neg,v']) t'):∀(k i:Nat) (t':G uA),i+k=l.length->zB t t'->zH t' b .u16 (jI (l.take i)++List.replicate (2*k) 0) →
  jp 248 2 [.d neg,.m b 0 (2*l.length) (2*l.length),v,.e .i64 l.length,.e .i64 i,.d false,.g] t' Q:=by
 intro k;induction k with
 | zero=>
  intro i t' hi F p;refine zr1 ?_;rw[L8 (by omega),r9,List.replicate_zero,Do]at p;obtain⟨m,w,rfl⟩:=Xm B;have hw:w≠0:=by have:=g (by simp);simp_all
  have L:w<4294967296:=o w (by simp);have I:(jI (m++[w])).length=2*(m++[w]).length:=Qu _;have a6:(m++[w]).length=m.length+1:=by simp
  have f:(jI (m++[w]))[2*m.length+1]?=some (w / 65536):=by
   grind [Qv]
  have e:=p.m (cap:=2*(m++[w]).length) (by omega);rw[I]at e;have h:zC Y 22 (.m b 0 (2*(m++[w]).length) (2*(m++[w]).length)) (.e .i64 ((2*m.length+1:Nat):Int))=some (.j b (0+(2*m.length+1)*1)):=Gu Eb (by omega);rw[show 0+(2*m.length+1)*1=2*m.length+1 by omega]at h;have X:=p.f f Gv rfl;have s:((2*(m++[w]).length:Nat):Int)-1=((2*m.length+1:Nat):Int):=by omega
  have n:vC (.m b 0 (2*(m++[w]).length) (2*(m++[w]).length))=some (.e .i64 ((2*(m++[w]).length:Nat):Int)):=rfl;have a1:2*m.length+1<1000000:=by omega
  simp (disch:=omega) only[uI,uL,uH,aB,uC,V,uW,yg,iA,iE,n,xA,yC,s,A2,h,X,rI];rw[A3 (by omega)];by_cases hz:w / 65536=0
  .rw[A5 (by omega)];obtain⟨u,Z,g6⟩:=mG.f Eb e (k:=2*m.length+1) (by grind [qH]);rw[Z];simp only[xA];have q:nD O.z [.d neg,u]=true:=by
    show(bif O.z (.d neg)then(bif O.z u then true else false)else false)=true;rw[g6.e];rfl
   grind [SD,IT,Qv,Qu]
  .rw[A3 (by omega)];have q:nD O.z [.d neg,.m b 0 (2*(m++[w]).length) (2*(m++[w]).length)]=true:=rfl
   grind [IT]
 | succ k ih=>
  intro i t' hi F p;obtain⟨x,J⟩:=A6 (l:=l) (i:=i) (by omega);have M:x<4294967296:=oN o J;obtain⟨c,off,U,W⟩:=(hv.a F).f aH J;have H:(l.take i).length=i:=by grind
  have r:(jI (l.take i)).length=2*i:=by rw[Qu,H]
  have A:(jI (l.take i)++List.replicate (2*(k+1)) 0).length=2*l.length:=by grind
  have h:∀j,j<2*l.length->zC Y 22 (.m b 0 (2*l.length) (2*l.length)) (.e .i64 (j:Int))=some (.j b j):=by
   intro j hj;have:=Gu (b:=b) (off:=0) (cap:=2*l.length) Eb hj
   simp_all
  have y:=h (2*i) (by omega);have z:=h (2*i+1) (by omega);obtain⟨t1,s1,N,s3⟩:=p.e (C:=Y) a (j:=2*i) (by omega) (x%65536) Gv rfl;have D:(jI (l.take i)++List.replicate (2*(k+1)) 0).set (2*i) (x%65536)=(jI (l.take i)++[x%65536])++List.replicate (2*k+1) 0:=by
   grind [Wg]
  rw[D]at N;obtain⟨t2,s4,P,s6⟩:=N.e (C:=Y) a (j:=2*i+1) (by simp[r]) (x / 65536) Gv rfl;have E:((jI (l.take i)++[x%65536])++List.replicate (2*k+1) 0).set (2*i+1) (x / 65536)=jI (l.take (i+1))++List.replicate (2*k) 0:=by
   have hq:(jI (l.take i)++[x%65536]).length=2*i+1:=by simp[r]
   rw[<- hq,Wg,kT J,Qv];simp
  rw[E]at P;have s:cA .u16 (x:Int)=((x%65536:Nat):Int):=by rw[zcy];omega
  have R:cA .u16 (Int.fdiv (x:Int) 65536)=((x / 65536:Nat):Int):=by
   rw[show Int.fdiv (x:Int) 65536=((x / 65536:Nat):Int) from Il _ 65536,zk8 (by omega) (by omega)]
  have S:(2:Int)*(i:Int)=((2*i:Nat):Int):=by omega
  have T:((2*i:Nat):Int)+1=((2*i+1:Nat):Int):=by omega
  refine zr1 ?_;simp (disch:=omega) only[uI,uL,uH,aB,uC,V,uW,yg,iA,iE,U,W,xA,yC,s,R,S,T,A2,y,z];rw[A5 (by omega)];intro d _ _;rw[s1];simp only[xA];intro d' _ _;rw[s4];simp only[xA];have:=ih (i+1) t2 (by omega) ((F.g K s3).g K s6) P
  grind
def AS    (r:bA t 1 (tC .u32 l) v)(w:l.length<400000)(e:pB 4294967296 l)
  (p:∀t' v',zB t t'->bA t' 1 (tC .u16 (vF (jI (vF l)))) v'->Q (.i [.d (if vF l=[]then false else neg),v']) t'):Wc Y F 248 [.d neg,v] t Q:=by
 refine w248 ?_;obtain⟨u,o,f⟩:=Gx (l:=l) (by omega) r;have q:=Rc l;simp only[uI,V,uW,t248,iA,cq,o,xA,f.c,yC,qH,rI];by_cases d:vF l=[]
 .rw[A5 (by grind)];simp only[if_true];have:=p t .g (zB.f _) (by rw[d];exact⟨[],.inl ⟨rfl,rfl⟩,by simp[jI,vF,tC,tD]⟩)
  simp_all
 .have h:0<(vF l).length:=List.length_pos_iff.2 d;rw[A3 (by omega)];have i:(2:Int)*((vF l).length:Int)=((2*(vF l).length:Nat):Int):=by omega
  simp (disch:=omega) only[i,A2];intro b g c;obtain⟨t',j,s,m,_⟩:=La (C:=Y) (k:=.u16) O3 rfl Gv rfl rfl (by decide) (n:=2*(vF l).length) (by omega) g;rw[j];simp only[xA];refine VG f (by omega) (iW e) d (iY l) c g (λx y a b=>?_) (vF l).length 0 t' (by omega) m (by grind [jI])
  simp_all
end Go.Proofs
namespace Go.Proofs
open Go Go.Am
section
variable {b d s x:Nat}{l:List Nat}{v:O}{Q:mB}
variable [fC]
variable {t:G uA}
def Lf{T el:Nat}(h:mG Y T el 1 false){n cap j:Nat}(a:j<n):zC Y T (.m b 0 n cap) (.e .i64 (j:Int))=some (.j b j):=by
 have:=Gu (b:=b) (off:=0) (cap:=cap) h a
 simp_all
theorem PH (b:s<64)(c:x*2^s<18446744073709551616):Az .u64 (x:Int) (s:Int)=some (.e .u64 ((x*2^s:Nat):Int)):=by
 unfold Az Kc;have:kO (s:Int)=some s:=rfl;rw[this,lA,lA];have a:min s (IntKind.bits .u64)=s:=by show min s 64=s;omega
 rw[a];have e:(x:Int)*Int.ofNat (2^s)=((x*2^s:Nat):Int):=by simp_all
 rw[e,gG (by omega) (by omega)]
def PG (b:s<65):ci .u64 (x:Int) (s:Int)=some (.e .u64 ((x / 2^s:Nat):Int)):=by
 unfold ci Kc;have:kO (s:Int)=some s:=rfl;rw[this,lA,lA];have a:min s (IntKind.bits .u64)=s:=by show min s 64=s;omega
 rw[a];have e:Int.fdiv (x:Int) (Int.ofNat (2^s))=((x / 2^s:Nat):Int):=Il x (2^s);rw[e]
def zgc (a:s<32):2^s<=2147483648:=L7 (n:=2) (by decide) (show s<=31 by omega)
def LI (a:s<=32):2^s*2^(32-s)=4294967296:=by rw[<- Nat.pow_add,show s+(32-s)=32 by omega]
def zvn (a:s<=32):(x*2^s%4294967296)%2^s=0:=by
 rw[<- LI a,F0 x,Nat.mul_mod_mul_left,Nat.mul_mod_right]
def WH    (hv:bA t 1 (tC .u32 l) v)(hl:l.length<900000)(L:pB 4294967296 l)(hs:s<32)(e:Y.a<=b)(T:t.c b=none)
  (hQ:∀t' r,zB t t'->jF b t t'->zH t' b .u32 r->r.length=l.length+1->pB 4294967296 r->A4 4294967296 r=A4 4294967296 l*2^s->Q (.m b 0 (l.length+1) (l.length+1)) t') :
  ∀(k i:Nat) (t':G uA) (P:List Nat) (c:Nat),i+k=l.length->zB t t'->jF b t t'->zH t' b .u32 ((P++[c])++List.replicate k 0)->P.length=i->c<2^s->pB 4294967296 P->A4 4294967296 P+4294967296^i*c=A4 4294967296 (l.take i)*2^s →
  jp 309 2 [.e .i64 s,.m b 0 (l.length+1) (l.length+1),v,.e .i64 l.length,.e .i64 i] t' Q:=by
 have a1:=zgc hs
 intro k;induction k with
 | zero=>
  intro i t' P c hi H h B w U u m;refine zrt ?_;simp only[uL,uE,uC,V,yp,iA,iE];rw[A3 (by omega)];rw[List.replicate_zero,Do]at B;refine hQ t' (P++[c]) H h B (by grind) (Di u (by omega)) ?_;rw[rQ,w,m,L8 (by omega)]
 | succ k ih=>
  intro i t' P c hi H h B w U u m;obtain⟨x,S⟩:=A6 (l:=l) (i:=i) (by omega);have E:x<4294967296:=oN L S;obtain⟨d,a7,g1,g2⟩:=(hv.a H).f aH S;have a6:x*2^s<4294967296*2^s:=Nat.mul_lt_mul_of_pos_right E (Nat.pow_pos (by decide));have F:x*2^s<18446744073709551616:=by
   omega
  have o:=zvn (x:=x) (s:=s) (by omega);have A:Nat.lor c (x*2^s%4294967296)=x*2^s%4294967296+c:=by
   have:=iy (a:=x*2^s%4294967296) (b:=c) (n:=s) U o
   simp_all [Nat.or_comm]
  have D:x*2^s%4294967296+c<4294967296:=by
   have h1:x*2^s%4294967296<4294967296:=G3 _ (by decide);have h2:(4294967296:Nat)%2^s=0:=by rw[<- LI (s:=s) (by omega),Nat.mul_mod_right]
   obtain⟨p,hp⟩:=Nat.dvd_of_mod_eq_zero o;obtain⟨q,hq⟩:=Nat.dvd_of_mod_eq_zero h2;have M:p<q:=by
    rcases Q2 p q with g | g
    .exact g
    .have:=F6 (2^s) g;omega
   have:=F6 (2^s) (show p+1<=q from M)
   grind
  have f:x*2^s / 4294967296<2^s:=Q4 (by omega);have K:((P++[c])++List.replicate (k+1) 0).length=l.length+1:=by simp;omega
  have I:=Lf aH (b:=b) (n:=l.length+1) (cap:=l.length+1) (j:=i) (by omega);have J:=Lf aH (b:=b) (n:=l.length+1) (cap:=l.length+1) (j:=i+1) (by omega);have g4:=B.f (j:=i) (x:=c) (by simp_all [T9]) tI rfl;obtain⟨t1,s1,W,X⟩:=B.e (C:=Y) e (j:=i) (by omega) (x*2^s%4294967296+c) tI rfl;have N:((P++[c])++List.replicate (k+1) 0).set i (x*2^s%4294967296+c)=(P++[x*2^s%4294967296+c])++List.replicate (k+1) 0:=by
   simp_all
  rw[N]at W;obtain⟨t2,s4,Z,s6⟩:=W.e (C:=Y) e (j:=i+1) (by grind) (x*2^s / 4294967296) tI rfl;have R:((P++[x*2^s%4294967296+c])++List.replicate (k+1) 0).set (i+1) (x*2^s / 4294967296)=((P++[x*2^s%4294967296+c])++[x*2^s / 4294967296])++List.replicate k 0:=by
   have hq:(P++[x*2^s%4294967296+c]).length=i+1:=by simp[w]
   grind [Wg]
  rw[R]at Z;refine zrt ?_;have e1:cA .u32 ((x*2^s:Nat):Int)=((x*2^s%4294967296:Nat):Int):=by rw[yY];omega
  have e2:cA .u32 (Int.fdiv ((x*2^s:Nat):Int) 4294967296)=((x*2^s / 4294967296:Nat):Int):=by
   rw[show Int.fdiv ((x*2^s:Nat):Int) 4294967296=((x*2^s / 4294967296:Nat):Int) from Il _ 4294967296];generalize x*2^s=z at f ⊢;rw[xY (by omega) (by omega)]
  simp (disch:=omega) only[uL,uE,uC,V,yp,iA,iE,g1,g2,xA,yC,gG,I,g4];rw[A5 (by omega),PH (by omega) F];simp only[xA,yC,e1];have e3:fJ Nat.lor .u32 (c:Int) ((x*2^s%4294967296:Nat):Int)=some (.e .u32 ((x*2^s%4294967296+c:Nat):Int)):=by
   rw[wZ (k:=.u32) (x:=c) (y:=x*2^s%4294967296) (show c<zI .u32 by show c<4294967296;omega) (by show x*2^s%4294967296<4294967296;omega),A]
  rw[e3];simp only[xA,yC];intro _ _ _;rw[s1];simp (disch:=omega) only[xA,A2];rw[show(i:Int)+1=((i+1:Nat):Int) by omega,J];simp only[xA,e2];intro _ _ _;rw[s4];simp only[xA];refine ih (i+1) t2 _ _ (by omega) ((H.g T X).g T s6) ((h.a X).a s6) Z (by simp[w]) f (Di u D) ?_;rw[rQ,w,kT S,rQ,D7,<- m];have:(l.take i).length=i:=by simp;omega
  grind [Nat.div_add_mod]
def JJ    (j:bA t 1 (tC .u32 l) v)(u:l.length<900000)(i:pB 4294967296 l)(w:s<32)
  (q:∀t' b r,zB t t'->t.c b=none->Y.a<=b->zH t' b .u32 r->r.length=l.length+1->pB 4294967296 r->A4 4294967296 r=A4 4294967296 l*2^s->Q (.m b 0 (l.length+1) (l.length+1)) t'):Wc Y F 309 [v,.e .i64 s] t Q:=by
 refine w309 ?_;simp (disch:=omega) only[uI,uC,V,t309,iA,j.c,xA,yC,qH,A2];intro b h g;obtain⟨t',m,z,o,p⟩:=La (C:=Y) (k:=.u32) lN rfl tI rfl rfl (by decide) (n:=l.length+1) (by omega) h;rw[show(l.length:Int)+1=((l.length+1:Nat):Int) by omega,m];simp only[xA];have:=WH j u i w g h (λt' r a _ c d e f=>q t' b r a h g c d e f) l.length 0 t' [] 0 (by omega) o p (by grind) rfl (Nat.pow_pos (by decide)) (λx y=>by cases y) (by simp[A4])
 exact this
def YO    (S:bA t 1 (tC .u32 l) v)(hl:l.length<900000)(z:pB 4294967296 l)(P:d<4294967296)(u:0<d)(f:Y.a<=b)(N:t.c b=none)
  (hQ:∀t' v' q r,zB t t'->bA t' 1 (tC .u32 (vF q)) v'->pB 4294967296 q->q.length=l.length->r<d->A4 4294967296 l=A4 4294967296 q*d+r->Q (.p [v',.e .u32 (r:Nat)]) t') :
  ∀(i:Nat) (t':G uA) (q:List Nat) (r:Nat),i<=l.length->zB t t'->zH t' b .u32 (List.replicate i 0++q)->q.length=l.length-i->pB 4294967296 q->r<d->A4 4294967296 (l.drop i)=A4 4294967296 q*d+r →
  jp 236 2 [v,.e .u32 d,.m b 0 l.length l.length,.e .u32 r,.e .i64 ((i:Int)-1)] t' Q:=by
 intro i;induction i with
 | zero=>
  intro t' q r _ D s R k A p;refine zr2 ?_;simp only[uL,uX,V,uW,yf,iA,mI];rw[A3 (by omega)];rw[List.replicate_zero,F3]at s;have a:=s.m (B4 _);have g:q.length=l.length:=by omega
  rw[g]at a;obtain⟨v',M,h2⟩:=Gx (l:=q) (by omega) a;simp only[cq,M,xA];grind
 | succ i T=>
  intro t' q r hi D s R k A p;obtain⟨x,E⟩:=A6 (l:=l) (i:=i) (by omega);have e:x<4294967296:=oN z E;obtain⟨c,U,J,K⟩:=(S.a D).f aH E;have I:((i+1:Nat):Int)-1=(i:Int):=by omega
  have L:=Lf aH (b:=b) (n:=l.length) (cap:=l.length) (j:=i) (by omega);have w:(List.replicate (i+1) 0++q).length=l.length:=by grind
  have h:=zou (t:=t') A e P;have m:(r*4294967296+x) / d<4294967296:=zat A e;have o:(r*4294967296+x)%d<d:=G3 _ u;obtain⟨Z,W,H,X⟩:=s.e (C:=Y) f (j:=i) (by omega) ((r*4294967296+x) / d) tI rfl;have B:(List.replicate (i+1) 0++q).set i ((r*4294967296+x) / d)=List.replicate i 0++((r*4294967296+x) / d::q):=by
   grind [List.replicate_succ',B9]
  rw[B]at H;rw[I];refine zr2 ?_;simp (disch:=omega) only[uL,uX,V,uW,yf,iA,mI,J,K,xA,yC,q268,h,tK,O.ay,lA,L,A2];rw[A5 (by omega)];simp only[xI,I2,I3,xA,yC];intro _ _ _;rw[W];simp only[xA];refine T Z _ _ (by omega) (D.g N X) H (by grind) ?_ o ?_
  .intro y F;rcases C6.1 F with rfl | F
   .exact m
   .exact k y F
  .rw[iU E]
   grind [A4,Nat.div_add_mod]
def RU    (g:bA t 1 (tC .u32 l) v)(o:l.length<900000)(e:pB 4294967296 l)(m:d<4294967296)(c:0<d)
  (j:∀t' v' q r,zB t t'->bA t' 1 (tC .u32 (vF q)) v'->pB 4294967296 q->q.length=l.length->r<d->A4 4294967296 l=A4 4294967296 q*d+r->Q (.p [v',.e .u32 (r:Nat)]) t'):Wc Y F 236 [v,.e .u32 d] t Q:=by
 refine w236 ?_;simp (disch:=omega) only[uI,V,uW,t236,iA,g.c,xA,yC,qH,A2];intro b f a;obtain⟨t',h,s,i,u⟩:=La (C:=Y) (k:=.u32) lN rfl tI rfl rfl (by decide) (n:=l.length) (by omega) f;rw[h];simp only[xA];exact YO g o e m c a f j l.length t' [] 0 (B4 _) i (by simp_all) (by simp) (λx p=>by cases p) c (by simp[A4])
end
section
variable {l:List Nat}{v y:O}{a:Nat}{Q:mB}{I:Nat->G uA->Prop}
variable [fC]
def zjl      (u:l.length<1000000)
  (j:∀k t,I k t->oA Y 253 ⟨0,t⟩ (.j a 0)=some v/\bA t 1 (tC .u32 l) v)
  (o:∀k x t,l[k]?=some x->I (k+1) t->∀R:mB,(∀t',I k t'->R (.d true) t')->oD (eM y [.e .u32 (x:Nat)]) λp=>Wq Y F dC p.1 p.2 t R)
  (r:∀t,I 0 t->Q (.p []) t):∀(k:Nat) (t:G uA),k<=l.length->I k t->jp 269 2 [y,.j a 0,.e .i64 ((k:Int)-1)] t Q:=by
 intro k;induction k with
 | zero=>
  intro t _ h;refine zr0 ?_;simp only[uL,uB,V,uW,yh,iA,mI];simp_all
 | succ k w=>
  intro t s h;obtain⟨e,n⟩:=j _ _ h;obtain⟨x,b⟩:=A6 (l:=l) (i:=k) (by omega);obtain⟨c,q,f,g⟩:=n.f aH b;have d:((k+1:Nat):Int)-1=(k:Int):=by omega
  rw[d];refine zr0 ?_;simp (disch:=omega) only[uL,uB,V,uW,yh,iA,mI,e,f,g,xA,yC,A2];rw[A5 (by omega)];refine o k x t b h _ λt' m=>?_
  grind [O.r,xA]
def zxf     {t:G uA} (e:l.length<1000000)
  (b:∀k t,I k t->oA Y 253 ⟨0,t⟩ (.j a 0)=some v/\bA t 1 (tC .u32 l) v)
  (g:∀k x t,l[k]?=some x->I (k+1) t->∀R:mB,(∀t',I k t'->R (.d true) t')->oD (eM y [.e .u32 (x:Nat)]) λp=>Wq Y F dC p.1 p.2 t R)
  (d:∀t,I 0 t->Q (.p []) t) (h:I l.length t):Wc Y F 269 [y,.j a 0] t Q:=by
 obtain⟨c,f⟩:=b _ _ h;refine w269 ?_;simp (disch:=omega) only[uI,V,uW,t269,iA,c,f.c,qH,xA,yC,A2];exact zjl e b g d l.length t (B4 _) h
end
end Go.Proofs
namespace Go.Am
open Go Go.RowKit
variable {b base el k n sz:Nat}{cl cm:List (List O)}{t':G uA}{f:Lo}{l m:List D}{v x:O}
section
variable {t tf:G uA}{C:fA}
def oO (b:t.c n=none)(q:uA):zB t (t.d n q)/\jF n t (t.d n q):=
 ⟨λc u a=>by grind [G.aa],λc a=>by rw[G.aa,A3 a]⟩
def RS   {lo:Option Lo}(c:∀(i:Nat) cs,cl[i]?=some cs->cs.length=sz)(h:t'.c n=some (.aa (G.ac cl.flatten) (vB cl.flatten) lo))(a:lo=none\/∃x,lo=some x/\x.c=sz) (b:cl.length=k):dQ t' sz (.m n 0 k k) cl:=by
 grind [FO]
def Oa{T:Nat}{y z:jD}{ps:List (Nat × O)} (g:C.b.c T=some y)(e:y.a.a=some el)(j:C.b.c el=some z)(h:z.b=sz)(k:vB z.c=sz)(l:n*sz<1000000)
  (a:yO (λi=>some (i*sz,sz)) ps (kJ z.c n)=some cl.flatten) (d:∀(i:Nat) cs,cl[i]?=some cs->cs.length=sz) (c:cl.length=n)  (f:t.c b=none) :
  ∃t',rD C T n ps ⟨b,t⟩=some (.m b 0 n n,⟨b+1,t'⟩)/\dQ t' sz (.m b 0 n n) cl/\zB t t'/\jF b t t':=by
 refine⟨t.d b (.aa (G.ac cl.flatten) (vB cl.flatten) none),?_,RS d (by rw[G.aa,A5 rfl]) (.inl rfl) c,(oO f _).1,(oO f _).2⟩;unfold rD;rw[g,lA,e,lA,j,lA];have:(Nat.blt (n*z.b) 1000000&&Nat.beq (vB z.c) z.b)=true:=by
  simp_all
 rw[this,xE,h,a];rfl
def cH(f:Lo)(base:Nat)(tf t:G uA)(sz:Nat)(l:List D)(v:O):Prop:=
 (v=.g/\l=[])\/∃b cl c,v=.m b 0 l.length l.length/\base<=b/\tf.c b=none/\t.c b=some (.aa c (l.length*sz) (some f)) ∧
  (∀(i:Nat) d,cl[i]?=some d->d.length=sz/\∀(j:Nat) a,d[j]?=some a->c.c (i*sz+j)=some a)/\tD tf l cl
abbrev bU(base:Nat)(tf t:G uA)(sz:Nat)(l:List D)(v:O):Prop:=cH (.b sz) base tf t sz l v
def iM(v:O)(b:Nat):Prop:=∃o n c,v=.m b o n c
theorem Yb  : ¬ iM .g b:=fun⟨_,_,_,h⟩=>by cases h
theorem Cx{c o:Nat}:iM (.m b o n k) c ↔ c=b:=⟨fun⟨_,_,_,h⟩=>by grind,λh=>by subst h;exact⟨_,_,_,rfl⟩⟩
def cH.r    (e:f.c=sz)(h:cH f base tf t sz l v)(p:zB tf t):bA t sz l v:=by
 rcases h with⟨rfl,rfl⟩ | ⟨b,cl,c,rfl,_,_,g,n,k⟩
 .exact⟨[],.inl ⟨rfl,rfl⟩,pG.2 rfl⟩
 .have d:=k.g;refine⟨cl,.inr ⟨b,0,l.length,by rw[d],by omega,⟨c,_,_,g,.inr ⟨_,rfl,e⟩⟩,λi m o=>⟨(n i m o).1,c,_,_,g,λj a q=>?_⟩⟩,tD.f p _ _ k⟩
  simp_all
def cH.q    (h:cH f base tf t sz l v):vC v=some (.e .i64 (l.length:Int)):=by
 rcases h with⟨rfl,rfl⟩ | ⟨b,cl,c,rfl,_⟩
 .rfl
 .rfl
def cH.s    (h:cH f base tf t sz l v):O.z v=true:=by
 rcases h with⟨rfl,rfl⟩ | ⟨b,cl,c,rfl,_⟩<;>rfl
theorem cH.g{f:Lo}{base sz d:Nat}{l:List D}{v:O}(h:cH f base tf t sz l v):A8 d v v=true:=by
 rcases h with⟨rfl,rfl⟩ | ⟨b,cl,c,rfl,_⟩
 all_goals grind [Am.A8,Nat.beq_refl]
def cH.o{f:Lo}{base sz:Nat}{l:List D}{v:O}(h:cH f base tf t sz l v){b:Nat}(g:iM v b):tf.c b=none/\base<=b/\∃y,t.c b=some y:=by
 rcases h with⟨rfl,rfl⟩ | ⟨c,cl,x,rfl,a,d,e,_⟩
 all_goals grind [Yb,Cx]
def bU.d   {a:G uA}(h:bU base tf t sz l v)(g:zB tf a)(i:∀b,iM v b->t'.c b=t.c b/\a.c b=Option.none):bU base a t' sz l v:=by
 rcases h with⟨rfl,rfl⟩ | ⟨b,cl,c,rfl,d,k,m,e,f⟩
 .exact .inl ⟨rfl,rfl⟩
 .obtain⟨n,j⟩:=i b (Cx.2 rfl);exact .inr ⟨b,cl,c,rfl,d,j,by simp_all,e,tD.f g _ _ f⟩
def TY{T U:Nat} (hT:Gi C T el sz)(hU:∃u,C.b.c U=some u/\Nat.beq u.a.l 1=false)(H:∀z,C.b.c el=some z->wO el z=f)   (hv:cH f C.a tf t sz l v)(g:∀(i:Nat) cs,cm[i]?=some cs->cs.length=sz)(hx:∀n,qZ ⟨n,t⟩ sz cm.length x=some cm.flatten/\Hz x=some cm.length)(hm:tD tf m cm)(Z:∀a∈cm.flatten,O.z a=true)(a1:0<m.length)(hl:l.length+m.length<400000) (w:t.c n=none)(h:C.a<=n)(M:zB tf t) :
  ∃t',lG C T U v x ⟨n,t⟩=some (.m n 0 (l.length+m.length) (l.length+m.length),⟨n+1,t'⟩)/\cH f C.a tf t' sz (l++m) (.m n 0 (l.length+m.length) (l.length+m.length))/\zB tf t'/\(∀c,c≠n->¬ iM v c->t'.c c=t.c c):=by
 obtain⟨⟨y,aj,ak,al⟩,⟨z,N,P,am,Q,ao⟩⟩:=hT;have o:=H z N;have q:=hm.g;obtain⟨hf,X⟩:=hx n;obtain⟨u,ah,ai⟩:=hU;have J:=Fj g;have ac:vB cm.flatten=cm.length*sz:=by grind [dD]
 have r:tf.c n=none:=by
  cases hq:tf.c n with
  | none=>rfl
  | some u=>rw[M _ _ hq]at w;cases w
 have base:lG C T U v x ⟨n,t⟩=(match v.u with
  | some s=>bif Nat.ble (s.2.2.1+cm.length) s.2.2.2 then Cz C ⟨n,t⟩ z cm.length cm.flatten s else Bb C ⟨n,t⟩ el z cm.length cm.flatten s
  | none=>sB (Nat.beq v.aa 5) (jX ⟨n,t⟩ el z cm.length cm.flatten)):=by
  unfold lG Br;grind [lA,xE]
 have A:sZ z l.length l.length cm.length cm.flatten=true:=by
  unfold sZ;have S:Nat.blt (l.length+cm.length+l.length) 1000000000=true:=eC.2 (by omega);have W:Nat.blt ((l.length+cm.length+l.length)*z.d) 1000000000=true:=eC.2 (by
   have:=G5 (show l.length+cm.length+l.length<=800000 by omega) Q;omega)
  grind [eC,zD]
 rcases hv with⟨rfl,rfl⟩ | ⟨b,cl,c,rfl,a7,a8,B,E,F⟩
 .refine⟨t.d n (.aa (G.ac cm.flatten) (vB cm.flatten) (some f)),?_,.inr ⟨n,cm,G.ac cm.flatten,by simp,h,r,?_,λi cs p=>⟨g i cs p,λj a K=>?_⟩,by simp_all⟩,?_,λc hc _=>(oO w _).2 c hc⟩
  .rw[base];simp only[O.u];show sB true (jX ⟨n,t⟩ el z cm.length cm.flatten)=_;rw[xE];unfold jX;have:Nat.beq cm.length 0=false:=by
    grind [zD]
   have A:sZ z 0 0 cm.length cm.flatten=true:=A;rw[this,cond_false,A,xE,q,o];simp only[G2,D8];rfl
  .grind [G.aa]
  .grind [G.o,rZ]
  .exact M.d (oO w _).1
 .have ab:=F.g;have aa:b≠n:=by grind
  refine⟨(t.q b).d n (.aa (c.am cm.flatten (l.length*z.b)) ((l.length+cm.length)*z.b) (some f)),?_,.inr ⟨n,cl++cm,c.am cm.flatten (l.length*z.b),by simp,h,r,?_,λi cs p=>?_,?_⟩,λk u hk=>?_,λk af ag=>?_⟩
  .rw[base];simp only[O.u];have:Nat.ble (l.length+cm.length) l.length=false:=by
    grind [mF]
   rw[this,cond_false];unfold Bb;simp only[];rw[show ∀x,(!(Nat.beq 0 1&&x))=true from λ_=>rfl,xE,A,xE];unfold eD;rw[B,lA];simp only[uA.a,lA];unfold Lj;simp only[];have g1:M8 f (wO el z)=true:=by grind [DN]
   have g2:Nat.ble (l.length*z.b) (l.length*sz)=true:=mF.2 (by simp_all);have g3:Nat.ble (l.length*sz) ((l.length+cm.length)*z.b)=true:=mF.2 (by grind);have g4:nD O.z cm.flatten=true:=by grind [gI]
   have g5:(!Nat.blt b C.a)=true:=by
    grind [eC]
   rw[g1,g2,g3,g4,g5];simp_all
  .rw[G.aa,A5 rfl,P,q,E1]
  .rw[List.getElem?_append]at p;split at p
   .rename_i L;obtain⟨R,k2⟩:=E i cs p;refine⟨R,λj a K=>?_⟩;have ae:j<sz:=by grind
    have:i*sz+j<l.length*sz:=by
     have:=D4 sz (show i+1<=l.length by omega)
     grind
    grind [G.ap]
   .rename_i ad;have R:=g _ cs p;refine⟨R,λj a K=>?_⟩;have I:=rZ g _ j cs a p K;have L:=(G1.1 I).1;have e:i*sz=l.length*sz+(i-cl.length)*sz:=by rw[<- D7];simp_all
    grind [G.ap]
  .have a6:∀ {l m:List D} {cl cm:List (List O)},tD tf l cl->tD tf m cm->tD tf (l++m) (cl++cm):=by
    intro l;induction l with
    | nil=>grind [pG]
    | cons d l ih=>
     grind [kD]
   simp_all
  .have S:k≠b:=by grind
   have W:k≠n:=by grind
   rw[G.aa,A3 W,G.e,A3 S];exact M _ _ hk
  grind [G.aa,G.e,Cx]
def TZ{T:Nat} (j:Gi C T el sz)(g:∀z,C.b.c el=some z->wO el z=f)   (s:cH f C.a tf t sz l v)(k:dQ t sz x cm)(p:tD tf m cm)(d:∀a∈cm.flatten,O.z a=true)(e:0<m.length)(o:l.length+m.length<400000) (q:t.c n=none)(b:C.a<=n)(r:zB tf t) :
  ∃t',lG C T T v x ⟨n,t⟩=some (.m n 0 (l.length+m.length) (l.length+m.length),⟨n+1,t'⟩)/\cH f C.a tf t' sz (l++m) (.m n 0 (l.length+m.length) (l.length+m.length))/\zB tf t'/\(∀c,c≠n->¬ iM v c->t'.c c=t.c c):=by
 obtain⟨y,h,u,i⟩:=j.ty;exact TY j ⟨y,h,i⟩ g s k.e (λn=>k.a (n:=n)) p d e o q b r
def UA{T:Nat}(f:rT C T el sz)   (q:bU C.a tf t sz l v)(r:dQ t sz x cm)(k:tD tf m cm)(d:∀a∈cm.flatten,O.z a=true)(e:0<m.length)(j:l.length+m.length<400000) (o:t.c n=none)(b:C.a<=n)(p:zB tf t) :
  ∃t',lG C T T v x ⟨n,t⟩=some (.m n 0 (l.length+m.length) (l.length+m.length),⟨n+1,t'⟩)/\bU C.a tf t' sz (l++m) (.m n 0 (l.length+m.length) (l.length+m.length))/\zB tf t'/\(∀c,c≠n->¬ iM v c->t'.c c=t.c c):=by
 refine TZ ⟨f.ty,f.el⟩ (λz h=>?_) q r k d e j o b p;obtain⟨y,g,i,_⟩:=f.el;rw[f.nb.a h,show z=y from D9 (h.symm.trans g),i]
def cH.p    (n:f.c=sz)(h:cH f base tf t sz l v)(q:zB tf t):∃d,zB tf d/\zB d t/\bA d sz l v/\∀b,¬ iM v b->d.c b=tf.c b:=by
 rcases h with⟨rfl,rfl⟩ | ⟨b,cl,c,rfl,x,o,y,s,p⟩
 .exact⟨tf,zB.f _,q,⟨[],.inl ⟨rfl,rfl⟩,pG.2 rfl⟩,λ_ _=>rfl⟩
 .have m:=p.g;refine⟨tf.d b (.aa c (l.length*sz) (some f)),(oO o _).1,λk u g=>?_,⟨cl,.inr ⟨b,0,l.length,by rw[m],by omega,⟨c,_,_,by rw[G.aa,A5 rfl],.inr ⟨_,rfl,n⟩⟩,λi r w=>⟨(s i r w).1,c,_,_,(by rw[G.aa,A5 rfl]),λj a z=>?_⟩⟩,tD.f (oO o _).1 _ _ p⟩,λk g=>by rw[G.aa,A3 (λe=>g (Cx.2 e))]⟩
  .rw[G.aa]at g;split at g
   .simp_all
   .exact q _ _ g
  simp_all
def bU.a   (h:bU base tf t sz l v)(c:zB tf t):∃a,zB tf a/\zB a t/\bA a sz l v/\∀b,¬ iM v b->a.c b=tf.c b:=cH.p rfl h c
end
end Go.Am
namespace Go.Am
open Go Go.RowKit
section
variable {l:List O}{j sz:Nat}{y:jD}{v:O}
def xC (t:G uA)(b:Nat)(lo:Option Lo)(cs:List O):Prop:=∃c,t.c b=some (.aa c cs.length lo)/\∀(j:Nat) a,cs[j]?=some a->c.c j=some a
def jJ(cs:List O)(j:Nat)(l:List O):List O:=cs.take j++(l++cs.drop (j+l.length))
theorem CV{cs:List O} (h:j+l.length<=cs.length):(jJ cs j l).length=cs.length:=by
 grind [jJ]
theorem Kn{cs:List O} (h:j+l.length<=cs.length)(k:Nat):(jJ cs j l)[k]?=if j<=k/\k<j+l.length then l[k-j]? else cs[k]?:=by
 grind [jJ]
section
variable {t tf:G uA}{C:fA}{b:Nat}{lo:Option Lo}{cs:List O}
def xC.p(h:xC t b lo cs):At t b 0 cs:=by
 obtain⟨c,d,e⟩:=h;exact⟨c,_,_,d,λj a f=>by simp_all⟩
def xC.i(h:xC t b lo cs){t':G uA}(k:t'.c b=t.c b):xC t' b lo cs:=by
 obtain⟨c,d,a⟩:=h;exact⟨c,by simp_all,a⟩
def xC.f(h:xC t b lo cs) {a:O}{ty:Nat} (e:C.b.c ty=some y)(c:y.a.h=false)(d:cs[j]?=some a):oA C ty ⟨0,t⟩ (.j b j)=some a:=by
 have:=h.p.d e c d
 simp_all
def xC.m(h:xC t b lo cs)(q:C.a<=b){T:Nat}  (m:C.b.c T=some y)(u:v.s.length=y.b)(r:j+v.s.length<=cs.length)(e:nD O.z v.s=true) :
  ∃t',(∀n,mC C T (.j b j) v ⟨n,t⟩=some (aD,⟨n,t'⟩))/\xC t' b lo (jJ cs j v.s)/\jF b t t':=by
 obtain⟨c,l,p⟩:=h;refine⟨t.d b (.aa (c.am v.s j) cs.length lo),λn=>?_,⟨c.am v.s j,?_,λk a s=>?_⟩,λd o=>by rw[G.aa,A3 o]⟩
 .unfold mC;rw[m,lA];simp only[O.ah,lA];have f:Nat.beq (vB v.s) y.b=true:=by grind [dD,zD]
  rw[f,xE];unfold gK eD;have g:(!Nat.blt b C.a)=true:=by
   grind [eC]
  rw[g,xE,l,lA];simp only[uA.a,lA];have i:Nat.ble (j+vB v.s) cs.length=true:=by simp_all
  rw[i,e];rfl
 all_goals grind [G.aa,CV,Kn,G.ap]
def xC.g(h:xC t b lo cs)(i:C.a<=b){T:Nat}  (g:C.b.c T=some y)(m:y.b=1)(c:v.s=[v])(a:O.z v=true)(l:j<cs.length) :
  ∃t',(∀n,mC C T (.j b j) v ⟨n,t⟩=some (aD,⟨n,t'⟩))/\xC t' b lo (cs.set j v)/\jF b t t':=by
 obtain⟨t',d,k,f⟩:=h.m i g (v:=v) (j:=j) (by simp_all) (by grind) (by rw[c];show(bif O.z v then true else false)=true;simp_all);refine⟨t',d,?_,f⟩;have e:jJ cs j v.s=cs.set j v:=by
  rw[c];apply List.ext_getElem?
  grind [Kn]
 simp_all
def Ep{b:Nat}(c:t.c b=none)(cs:List O)(lo:Option Lo):∃t',sG ⟨b,t⟩ cs lo=⟨b+1,t'⟩/\xC t' b lo cs/\zB t t'/\jF b t t':=
 ⟨t.d b (.aa (G.ac cs) (vB cs) lo),rfl,⟨G.ac cs,by rw[G.aa,A5 rfl,dD],λj a d=>by grind [G.o]⟩,(oO c _).1,(oO c _).2⟩
def yQ{b T:Nat} (f:C.b.c T=some y)(g:t.c b=none):∃t',qL C T ⟨b,t⟩=some (.j b 0,⟨b+1,t'⟩)/\xC t' b none y.c/\zB t t'/\jF b t t':=by
 obtain⟨t',a,c,d,e⟩:=Ep g y.c none;refine⟨t',?_,c,d,e⟩;unfold qL;rw[f,lA,<- a]
def Zv{b:Nat} (a:t.c b=none):∃t',dL v ⟨b,t⟩=some (.j b 0,⟨b+1,t'⟩)/\xC t' b none v.s/\zB t t'/\jF b t t':=by
 simp_all [Ep,dL]
def ny (base:Nat)(tf t:G uA)(sz:Nat)(l:List D)(b:Nat)(lo:Option Lo):Prop:=
 base<=b/\tf.c b=none/\∃a,xC t b lo a.flatten/\(∀(i:Nat) cs,a[i]?=some cs->cs.length=sz)/\tD tf l a
def ny.read{base n:Nat}{l:List D}(h:ny base tf t sz l b lo)(e:lo=none\/∃x,lo=some x/\x.c=sz)(q:zB tf t)(p:l.length=n){cap:Nat}(s:n<=cap):bA t sz l (.m b 0 n cap):=by
 obtain⟨_,_,k,⟨c,f,r⟩,m,g⟩:=h;have d:=g.g;refine⟨k,.inr ⟨b,0,cap,by rw[d,p],by omega,⟨c,_,_,f,e⟩,λi cs o=>⟨m i cs o,c,_,_,f,λj a u=>?_⟩⟩,tD.f q _ _ g⟩
 grind [rZ]
def zon  : ∀ {cl:List (List O)},(∀(i:Nat) cs,cl[i]?=some cs->cs.length=sz)->∀ {i o:Nat} {cs l:List O},cl[i]?=some cs->o+l.length<=sz->jJ cl.flatten (i*sz+o) l=(cl.set i (jJ cs o l)).flatten:=by
 intro cl h i o cs l f C;have u:i<cl.length:=(G1.1 f).1;have q:=h i cs f;have s:=Fj h;have B:i*sz+sz<=cl.length*sz:=by
  have:=D4 sz (show i+1<=cl.length by omega)
  grind
 have v:(jJ cs o l).length=sz:=by grind [CV]
 have n:∀(k:Nat) c,(cl.set i (jJ cs o l))[k]?=some c->c.length=sz:=by
  grind
 have a:=Fj n;rw[ydh]at a;have e:∀k,k<cl.length*sz->k / sz<cl.length/\k%sz<sz:=by
  intro k g;have b:0<sz:=by
   grind
  simp_all [Q4,F0,G3]
 apply List.ext_getElem?;intro k;rw[Kn (by omega)];by_cases g:k<cl.length*sz
 .obtain⟨y,D⟩:=e k g;have r:=Q3 k sz;have t:k=k / sz*sz+k%sz:=by grind
  have w:cl[k / sz]?=some cl[k / sz]:=D0 y;have x:=h _ _ w;have j:cl.flatten[k]?=cl[k / sz][k%sz]?:=by
   grind [rZ]
  have m:∀c,(cl.set i (jJ cs o l))[k / sz]?=some c->(cl.set i (jJ cs o l)).flatten[k]?=c[k%sz]?:=by
   grind [rZ]
  by_cases d:k / sz=i
  .grind [Kn]
  .have p:(cl.set i (jJ cs o l))[k / sz]?=some cl[k / sz]:=by grind
   rw[m _ p,j,A3];intro⟨z,A⟩;apply d;have b:0<sz:=by omega
   exact Nat.div_eq_of_lt_le (by omega) (by grind)
 grind
end
end
section
variable {k n:Nat}{t':G uA}
structure kF where
 aa:List Nat
 ok:G uA->G uA->Prop
 ac:∀ {tf t tf' t':G uA},ok tf t->zB tf tf'->(∀k∈aa,t'.c k=t.c k/\tf'.c k=none)->ok tf' t'
 ah:∀ {tf t:G uA},ok tf t->∀k∈aa,∃y,t.c k=some y
structure xB (base:Nat) (tf t:G uA) (l:List kF):Prop where
 b:zB tf t
 w:(l.flatMap kF.aa).Nodup
 s:∀o∈l,o.ok tf t
 f:∀k∈l.flatMap kF.aa,base<=k/\tf.c k=none
def vK (v:O):List Nat:=match v with | .m b _ _ _=>[b] | _=>[]
theorem Kz{v:O}{k:Nat}:k∈vK v ↔ iM v k:=by
 unfold vK iM;grind
def oC (b:Nat)(lo:Option Lo)(cs:List O):kF where
 aa:=[b]
 ok:=λ_ t=>xC t b lo cs
 ac:=λh _ k=>h.i (k b (by simp)).1
 ah:=λh k a=>by rw[ydd]at a;subst a;obtain⟨c,d,_⟩:=h;simp_all
def iD(base sz:Nat)(l:List D)(v:O):kF where
 aa:=vK v
 ok:=λe t=>bU base e t sz l v
 ac:=λh c k=>h.d c λb a=>k b (Kz.2 a)
 ah:=λh k d=>(h.o (Kz.1 d)).2.2
section
variable {base:Nat}{tf t:G uA}{l A B:List kF}{o o':kF}
def xB.am(h:xB base tf t l) (a:k∈l.flatMap kF.aa):∃y,t.c k=some y:=by
 obtain⟨o,b,a⟩:=List.mem_flatMap.1 a;exact o.ah (h.s o b) k a
def xB.aa(h:xB base tf t l) (b:t.c n=none):n∉l.flatMap kF.aa:=by
 intro a;obtain⟨y,c⟩:=h.am a
 simp_all
def xB.ak(h:xB base tf t l) (b:t.c n=none):tf.c n=none:=by
 cases a:tf.c n with
 | none=>rfl
 | some y=>have:=h.b _ _ a;simp_all
def xB.ah(h:xB base tf t l){b:G uA}(e:zB tf b)(f:zB b t')(c:∀k∈l.flatMap kF.aa,t'.c k=t.c k/\b.c k=none):xB base b t' l:=
 ⟨f,h.w,λo d=>o.ac (h.s o d) e λk a=>c k (List.mem_flatMap.2 ⟨o,d,a⟩),λk a=>⟨(h.f k a).1,(c k a).2⟩⟩
def xB.z(h:xB base tf t l)  (b:t.c n=none)(c:jF n t t'):xB base tf t' l:=
 h.ah (zB.f _) (h.b.g (h.ak b) c) λk a=>⟨c k (λe:k=n=>h.aa b (e ▸ a)),(h.f k a).2⟩
def xB.aw(h:xB base tf t l)  (d:n∉l.flatMap kF.aa)(c:tf.c n=none)(b:jF n t t'):xB base tf t' l:=
 h.ah (zB.f _) (h.b.g c b) λk a=>⟨b k (λe:k=n=>d (e ▸ a)),(h.f k a).2⟩
def xB.r(h:xB base tf t l) {y:uA}(d:n∉l.flatMap kF.aa)(f:t.c n=some y)(c:tf.c n=none):xB base (tf.d n y) t l/\zB tf (tf.d n y):=by
 have b:=(oO (t:=tf) c y).1;refine⟨h.ah b (λk u a=>?_) λk a=>⟨rfl,?_⟩,b⟩
 .rw[G.aa]at a;split at a
  .simp_all
  .exact h.b _ _ a
 .rw[G.aa,A3 (λe:k=n=>d (e ▸ a))];exact(h.f k a).2
def Yp:(A++o::B).flatMap kF.aa=A.flatMap kF.aa++(o.aa++B.flatMap kF.aa):=by simp
theorem xB.aj(h:xB base tf t (A++o::B)) (q:∀k,k∉o.aa->k∉o'.aa->t'.c k=t.c k)(n:∀k∈o'.aa,k∈o.aa\/(t.c k=none/\base<=k))(s:o'.ok tf t')(r:o'.aa.Nodup)(u:zB tf t'):xB base tf t' (A++o'::B):=by
 have d:=h.w;rw[Yp]at d;rw[List.nodup_append]at d;obtain⟨w,g,x⟩:=d;rw[List.nodup_append]at g;obtain⟨z,C,D⟩:=g;have v:∀k,k∈A.flatMap kF.aa\/k∈B.flatMap kF.aa->k∉o.aa/\k∉o'.aa/\t'.c k=t.c k/\base<=k/\tf.c k=none:=by
  intro k a;have m:k∈(A++o::B).flatMap kF.aa:=by rw[Yp];simp only[F7];rcases a with h | h<;>simp[h]
  have i:k∉o.aa:=λl=>by
   grind
  have j:k∉o'.aa:=λl=>by
   rcases n k l with b | b
   .grind
   .obtain⟨y,F⟩:=h.am m
    simp_all
  exact⟨i,j,q k i j,h.f k m⟩
 have f:∀k,k∈(A++o'::B).flatMap kF.aa->(k∈A.flatMap kF.aa\/k∈B.flatMap kF.aa)\/k∈o'.aa:=by
  grind
 refine⟨u,?_,λp E=>?_,λk a=>?_⟩
 .grind
 .have e:p∈A\/p=o'\/p∈B:=by simp_all
  rcases e with b | b | b
  .exact p.ac (h.s p (by simp[b])) (zB.f _) λk a=>by
    grind
  .simp_all
  .exact p.ac (h.s p (by simp[b])) (zB.f _) λk a=>by
    grind
 .rcases f k a with b | b
  .simp_all
  .rcases n k b with c | c
   .exact h.f k (by simp_all)
   .exact⟨c.2,h.ak c.1⟩
def tj:kF:=⟨[],λ_ _=>True,λ_ _ _=>trivial,λ_ _ h=>by cases h⟩
theorem xB.ac(h:xB base tf t (A++B)) (b:∀k,k∉o'.aa->t'.c k=t.c k)(i:∀k∈o'.aa,t.c k=none/\base<=k)(d:o'.ok tf t')(c:o'.aa.Nodup)(j:zB tf t'):xB base tf t' (A++o'::B):=by
 have e:xB base tf t (A++tj::B):=by
  have g:(A++tj::B).flatMap kF.aa=(A++B).flatMap kF.aa:=by simp[tj]
  refine⟨h.b,by rw[g];exact h.w,λo l=>?_,λk b=>h.f k (by simp_all)⟩;have:o∈A\/o=tj\/o∈B:=by simp_all
  rcases this with a | a | a
  .exact h.s o (by simp[a])
  .subst a;trivial
  .exact h.s o (by simp[a])
 exact e.aj (λk _ f=>b k f) (λk b=>.inr (i k b)) d c j
def xB.i(h:xB base tf t (A++o::B)):xB base tf t (A++B):=by
 have b:=h.w;rw[Yp]at b;refine⟨h.b,?_,λp c=>h.s p (by rcases F7.1 c with h | h<;>simp[h]),λk a=>h.f k (by rw[Yp];rw[List.flatMap_append]at a;rcases F7.1 a with h | h<;>simp[h])⟩
 grind
def xB.x(h:xB base tf t (A++o::B)) (b:k∈o.aa):k∉(A++B).flatMap kF.aa:=by
 have a:=h.w
 grind
def xB.g{sz:Nat}{m:List D}{v:O}(h:xB base tf t (A++iD base sz m v::B)):∃a,zB tf a/\xB base a t (A++B)/\bA a sz m v:=by
 have i:bU base tf t sz m v:=h.s (iD base sz m v) (by simp);obtain⟨a,c,e,f,g⟩:=i.a h.b;refine⟨a,c,h.i.ah c e λk d=>⟨rfl,?_⟩,f⟩;have b:¬ iM v k:=λb=>h.x (o:=iD base sz m v) (Kz.2 b) d;rw[g k b];exact(h.i.f k d).2
end
end
section
variable {b cap el k:Nat}{cs:List O}{lo:Option Lo}
section
variable {t tf:G uA}{C:fA}
def ZQ{T m n:Nat}  {x:O}{cm:List (List O)}(D:Gi C T el 1)(E:xC t b lo cs)(R:C.a<=b)(u:dQ t 1 x cm)(q:cm.length=m)(P:0<m)(I:k+m<=cap)(p:cap<=cs.length)(s:∀a∈cm.flatten,O.z a=true) :
  ∃t',lG C T T (.m b 0 k cap) x ⟨n,t⟩=some (.m b 0 (k+m) cap,⟨n,t'⟩)/\xC t' b lo (jJ cs k cm.flatten)/\jF b t t':=by
 obtain⟨⟨y,h,i,l⟩,⟨z,o,f,L,M,N⟩⟩:=D;obtain⟨H,e⟩:=u.a (n:=n);have g:=Fj u.e;rw[Nat.mul_one,q]at g;obtain⟨c,B,Q⟩:=E;have J:cm.flatten≠[]:=by grind
 refine⟨t.d b (.aa (c.am cm.flatten k) cs.length lo),?_,⟨c.am cm.flatten k,by rw[G.aa,A5 rfl,CV (by omega)],λj a S=>?_⟩,λd F=>by rw[G.aa,A3 F]⟩
 .unfold lG Br;rw[h,lA,lA,l];simp only[L0,xE];rw[i,lA,o,lA,e,lA,f,H,lA];simp only[O.u,q];rw[mF.2 I,cond_true];unfold Cz
  cases K:cm.flatten with
  | nil=>simp_all
  | cons a r=>
   simp only[f,Nat.mul_one,D8];rw[<- K];unfold gK eD;have v:(!Nat.blt b C.a)=true:=by
    grind [eC]
   rw[v,xE,B,lA];simp only[uA.a,lA];have w:Nat.ble (k+vB cm.flatten) cs.length=true:=by grind [dD,mF]
   have A:nD O.z cm.flatten=true:=by grind [gI]
   rw[w,A];rfl
 grind [Kn,G.ap]
def Pi(l:List Nat):List O:=l.map fun(n:Nat)=>O.e .u8 (n:Int)
def zb8{S m:Nat}  {l:List Nat}{o i n:jD}(z:C.b.c S=some o)(w:C.b.c m=some i)(q:i.a.o=none)(r:i.a.c=true)(s:o.a.a=some el)(u:C.b.c el=some n)(v:n.a.o=some .u8)
  (B:xC t b lo cs) (E:l.length=k) (J:∀(j:Nat) x,l[j]?=some x->cs[j]?=some (.e .u8 (x:Int))) (f:pB 256 l):rS C S m ⟨0,t⟩ (.m b 0 k cap)=some (.h l):=by
 obtain⟨c,p,I⟩:=B;unfold rS rW;rw[z,lA,w,lA,q];simp only[];rw[r,xE];have d:Nat.beq (O.m b 0 k cap).aa 2=false:=rfl;rw[d,cond_false,s,lA,u,lA,v,lA,hO.2 rfl,xE];unfold Lt;simp only[O.u];unfold eD;rw[p,lA];simp only[uA.a,lA];have F:∀(l:List Nat) (a:Nat),(∀(j:Nat) x,l[j]?=some x->c.c (a+j)=some (.e .u8 (x:Int)))->c.u l.length a=some (Pi l):=by
  intro l;induction l with
  | nil=>intro a _;rfl
  | cons x l g=>
   intro a h;rw[D6,G.aw];have:=h 0 x rfl;rw[L9]at this;rw[this,lA,g (a+1) (λj y D=>by rw[show a+1+j=a+(j+1) by omega];simp_all),lA];rfl
 subst E;rw[F l 0 (λj x D=>by simp_all),lA];have A:∀(l:List Nat),pB 256 l->jH lZ (Pi l)=some l:=by
  intro l;induction l with
  | nil=>intro _;rfl
  | cons x l g=>
   intro h;have e:lZ (.e .u8 (x:Int))=some x:=by
    unfold lZ;have d:kO (x:Int)=some x:=rfl;simp only[O.ac,lA];rw[hO.2 rfl,xE,d,lA,eC.2 (h x (by simp))];rfl
   show jH lZ (.e .u8 (x:Int)::Pi l)=_;rw[iQ,e,lA,g λy H=>h y (by simp[H]),lA]
 rw[A l f,lA]
def zha{T:Nat}{y z:jD}{k:IntKind}(p:C.b.c T=some y)(e:y.a.a=some el)(s:C.b.c el=some z)(a:z.c=[.e k 0])(r:z.b=1)(d:z.d<=8)(f:cap<1000000) (q:t.c b=none) :
  ∃t',sS C T (.e .i64 0) (.e .i64 (cap:Int)) ⟨b,t⟩=some (.m b 0 0 cap,⟨b+1,t'⟩)/\xC t' b none (List.replicate cap (.e k 0))/\zB t t'/\jF b t t':=by
 have c:∀n,kJ [O.e k 0] n=List.replicate n (.e k 0):=by
  intro n;induction n with
  | zero=>rfl
  | succ n u=>grind [kJ,wI]
 obtain⟨t',j,l,m,o⟩:=Ep q (List.replicate cap (.e k 0)) none;refine⟨t',?_,l,m,o⟩;unfold sS;rw[p,lA,e,lA,s,lA];have h:(O.e .i64 (cap:Int)).aj=some cap:=rfl;have g:(O.e .i64 0).aj=some 0:=rfl;rw[h,g,lA,lA];have i:(Nat.ble 0 cap&&Nat.blt cap 1000000&&Nat.blt (cap*z.d) 1000000000&&Nat.beq (vB z.c) z.b)=true:=by
  rw[a,r,show Nat.ble 0 cap=true from mF.2 (I1 _),eC.2 f];have:cap*z.d<1000000000:=by
   have:=G5 (Nat.le_of_lt f) d;omega
  rw[eC.2 this];rfl
 rw[i,xE,a,c,j]
end
end
end Go.Am
namespace Go.Am
open Go
variable {k:IntKind}{l m:List Nat}{base el n sz:Nat}{v:O}{d:Lo}
section
variable {C:fA}{t tf:G uA}
def B8(k:IntKind)(l:List Nat):List (List O):=l.map fun(x:Nat)=>[O.e k (x:Int)]
theorem Gh{k:IntKind}:∀ {l:List Nat} {cl:List (List O)},tD t (tC k l) cl ↔ cl=B8 k l
 | [],cl=>by
  show tD t [] cl ↔ cl=[];exact pG
 | x::l,cl=>by
  show tD t (.a k (x:Int)::tC k l) cl ↔ cl=[.e k (x:Int)]::B8 k l;rw[kD];constructor
  .rintro⟨c,r,rfl,a,b⟩;rw[lP]at a;rw[a,Gh.1 b]
  .rintro rfl;exact⟨_,_,rfl,lP.2 rfl,Gh.2 rfl⟩
def Zs{k:IntKind}:∀(l:List Nat),(B8 k l).flatten=l.map fun(x:Nat)=>O.e k (x:Int)
 | []=>rfl
 | x::l=>by
  show [O.e k (x:Int)]++(B8 k l).flatten=_;rw[Zs l];rfl
theorem SZ   : (B8 k l).length=l.length:=by simp[B8]
def zcg  (i:Nat)(cs:List O)(h:(B8 k l)[i]?=some cs):cs.length=1:=by
 grind [B8]
def ZI(l:List Nat)(h:pB 256 l):jH lZ (Pi l)=some l:=by
 induction l with
 | nil=>rfl
 | cons x l c=>
  have e:lZ (.e .u8 (x:Int))=some x:=by
   unfold lZ;have a:kO (x:Int)=some x:=rfl;simp only[O.ac,lA];rw[hO.2 rfl,xE,a,lA,eC.2 (h x (by simp))];rfl
  show jH lZ (.e .u8 (x:Int)::Pi l)=_;rw[iQ,e,lA,c λy b=>h y (by simp[b]),lA]
def zo7{S j:Nat}  {o i m:jD}(x:C.b.c S=some o)(w:C.b.c j=some i)(p:i.a.o=none)(q:i.a.c=true)(r:o.a.a=some el)(s:C.b.c el=some m)(u:m.a.o=some .u8)
  (z:bA t 1 (tC .u8 l) v) (g:pB 256 l):rS C S j ⟨0,t⟩ v=some (.h l):=by
 obtain⟨A,f,k⟩:=z;rw[Gh]at k;subst k;have a:=(f.a (n:=0)).1;have d:Nat.beq v.aa 2=false:=by
  rcases f with⟨rfl,_⟩ | ⟨b,h,e,rfl,_⟩<;>rfl
 unfold rS rW;rw[x,lA,w,lA,p];simp only[];rw[q,xE,d,cond_false,r,lA,s,lA,u,lA,hO.2 rfl,xE];unfold Lt;rcases f with⟨rfl,B⟩ | ⟨b,h,e,rfl,_⟩
 .have:l=[]:=by
   grind [SZ]
  subst this;rfl
 .unfold qZ at a;simp only[O.u,Nat.mul_one]at a ⊢;rw[mA]at a;obtain⟨c,y,a⟩:=a;rw[y,lA,a,lA,Zs];have:=ZI l g;unfold Pi at this;rw[this,lA]
theorem zbt{k:Nat} (h:l.length=k):qZ ⟨n,t⟩ 1 k (.h l)=some (B8 .u8 l).flatten/\Hz (.h l)=some k:=by
 subst h;constructor
 .unfold qZ;simp only[O.u,O.w];rw[Zs,eV,List.take_length];rfl
 grind [Hz,O.u,O.w,dD]
def MB   : ∀a∈(B8 k l).flatten,O.z a=true:=by
 intro a b;rw[Zs]at b;obtain⟨x,_,rfl⟩:=G6.1 b;rfl
theorem SF   : tC k (l++m)=tC k l++tC k m:=by simp[tC]
def TW{T U:Nat} (f:Gi C T el 1)(g:∃u,C.b.c U=some u/\Nat.beq u.a.l 1=false)(e:∀z,C.b.c el=some z->wO el z=d)  (j:cH d C.a tf t 1 (tC .u8 l) v)(b:m≠[])(s:l.length+m.length<400000) (h:t.c n=none)(a:C.a<=n)(i:zB tf t) :
  ∃t',lG C T U v (.h m) ⟨n,t⟩=some (.m n 0 (l.length+m.length) (l.length+m.length),⟨n+1,t'⟩)/\cH d C.a tf t' 1 (tC .u8 (l++m)) (.m n 0 (l.length+m.length) (l.length+m.length))/\zB tf t'/\(∀c,c≠n->¬ iM v c->t'.c c=t.c c):=by
 have k:0<m.length:=List.length_pos_iff.2 b;obtain⟨t',o,p,q,r⟩:=TY f g e (l:=tC .u8 l) (m:=tC .u8 m) (x:=.h m) (cm:=B8 .u8 m) j zcg (λn=>by grind [SZ,zbt]) (Gh.2 rfl) MB (by grind [qH]) (by grind [qH]) h a i
 grind [qH,SF]
def UC{T:Nat}  (h:Gi C T el 1)(e:∀z,C.b.c el=some z->wO el z=d) {x:O}(o:cH d C.a tf t 1 (tC k l) v)(p:bA t 1 (tC k m) x)(b:m≠[])(A:l.length+m.length<400000) (i:t.c n=none)(a:C.a<=n)(j:zB tf t) :
  ∃t',lG C T T v x ⟨n,t⟩=some (.m n 0 (l.length+m.length) (l.length+m.length),⟨n+1,t'⟩)/\cH d C.a tf t' 1 (tC k (l++m)) (.m n 0 (l.length+m.length) (l.length+m.length))/\zB tf t'/\(∀c,c≠n->¬ iM v c->t'.c c=t.c c):=by
 have r:0<m.length:=List.length_pos_iff.2 b;obtain⟨q,g,f⟩:=p;rw[Gh]at f;subst f;obtain⟨t',s,u,w,y⟩:=TZ h e (l:=tC k l) (m:=tC k m) (x:=x) (cm:=B8 k m) o g (Gh.2 rfl) MB (by grind [qH]) (by grind [qH]) i a j
 grind [qH,SF]
def MR   : cH d base tf t sz [] .g:=.inl ⟨rfl,rfl⟩
def cH.f  {l:List D} {t':G uA}(h:cH d base tf t sz l v)(k:∀b,iM v b->t'.c b=t.c b):cH d base tf t' sz l v:=by
 rcases h with⟨rfl,rfl⟩ | ⟨b,a,c,rfl,e,f,j,g,i⟩
 .exact .inl ⟨rfl,rfl⟩
 .exact .inr ⟨b,a,c,rfl,e,f,by grind [Cx],g,i⟩
end
end Go.Am
namespace Go.Am
variable {B U V a b d e m f j k i n:Nat}{l:List Nat}
def py (p:U=(e*B+j)*B^m+k)(o:k<B^m)(l:j<B)(q:V=(f*B+i)*B^m+n)(a:0<f):U / V<=e / f:=by
 have h:0<B^m:=by omega
 rw[Nat.le_div_iff_mul_le a];have b:U / V*V<=U:=Nat.div_mul_le_self U V;have c:f*B*B^m<=V:=by
  grind
 have d:U<(e+1)*B*B^m:=by
  have:e*B+j+1<=(e+1)*B:=by grind
  have:=D4 (B^m) this
  grind
 have g:U / V*f*(B*B^m)<(e+1)*(B*B^m):=by
  calc U / V*f*(B*B^m)=U / V*(f*B*B^m):=by rw[F4,F4]
   _<=U / V*V:=F6 _ c
   _<=U:=b
   _<(e+1)*B*B^m:=d
   _=(e+1)*(B*B^m):=by rw[F4]
 exact Nat.lt_succ_iff.1 (Nat.lt_of_mul_lt_mul_right g)
def pz (p:U=(e*B+j)*B^m+k)(b:k<B^m)(q:V=(f*B+i)*B^m+n)(h:e*B+j<d*(f*B+i)):U / V<d:=by
 rcases Q2 (U / V) d with g | g
 .exact g
 .exfalso;have a:U / V*V<=U:=Nat.div_mul_le_self U V;have c:d*V<=U:=Nat.le_trans (D4 _ g) a;have l:d*(f*B+i)*B^m<=d*V:=by simp_all [F4,F6]
  have o:=D4 (B^m) (show e*B+j+1<=d*(f*B+i) from h)
  grind
def Y0 (l:0<B)(u:U=(e*B+j)*B^m+k)(o:V=(f*B+i)*B^m+n)(q:n<B^m)(a:0<f)(p:d<=B)(h:d*(f*B+i)<=e*B+j):d<=U / V+1:=by
 have b:0<V:=by
  rw[o];have:0<f*B+i:=by have:=Nat.mul_pos a l;omega
  have:=Nat.mul_pos this (show 0<B^m by omega);omega
 rcases Q2 (U / V+1) d with g | g
 .exfalso;have c:(d-1)*V<=U:=by
   have r:d*V<=d*((f*B+i)*B^m)+d*B^m:=by
    simp_all [K9,F6,Nat.le_of_lt]
   have s:d*((f*B+i)*B^m)<=(e*B+j)*B^m:=by rw[<- F4];exact D4 _ h
   have t:d*B^m<=V:=by
    have:d*B^m<=f*B*B^m:=by
     refine D4 _ (Nat.le_trans p ?_);exact T7 _ a
    grind
   grind [Nat.sub_mul]
  have:=(Nat.le_div_iff_mul_le b).2 c;omega
 .exact g
def top2 (i:0<B)  (g:pB B l)(j:l.length=m+2)(e:l[m+1]?=some a)(f:l[m]?=some b):A4 B l=(a*B+b)*B^m+A4 B (l.take m)/\A4 B (l.take m)<B^m:=by
 have d:=Jr B l m;have c:(l.take m).length=m:=by grind
 rw[c]at d;have h:l.drop m=[b,a]:=by
  rw[iU f,iU e,List.drop_of_length_le (by omega)]
 grind [A4,qQ,Iw]
def top3 (k:0<B) {c:Nat}(i:pB B l)(n:l.length=m+3)(f:l[m+2]?=some a)(g:l[m+1]?=some b)(h:l[m]?=some c):A4 B l=((a*B+b)*B+c)*B^m+A4 B (l.take m)/\A4 B (l.take m)<B^m:=by
 have e:=Jr B l m;have d:(l.take m).length=m:=by grind
 rw[d]at e;have j:l.drop m=[c,b,a]:=by
  rw[iU h,iU g,iU f,List.drop_of_length_le (by omega)]
 grind [A4,qQ,Iw]
end Go.Am
namespace Go.Proofs
open Go Go.Am
variable {b cap d j x:Nat}{A Z lv w:List Nat}{v:O}{t0:G uA}{Q:mB}
variable [fC]
variable {t:G uA}
def BB:Nat:=4294967296
def sR:BB=4294967296:=rfl
def jK:0<BB:=by decide
def Ye{T el:Nat}(h:mG Y T el 1 false){off n:Nat}(a:j<n):zC Y T (.m b off n cap) (.e .i64 (j:Int))=some (.j b (off+j)):=by
 have:=Gu (b:=b) (off:=off) (cap:=cap) h a
 simp_all
theorem Nx  (h:w[j]?=some x):(A++w++Z)[A.length+j]?=some x:=by
 grind
def Sm  (h:j<w.length):(A++w++Z).set (A.length+j) x=A++w.set j x++Z:=by
 rw[D5,List.set_append_right _ _ (by omega),Nat.add_sub_cancel_left,List.set_append_left _ _ h,D5]
def ZX     (hv:bA t0 1 (tC .u32 lv) v)(hl:lv.length<900000)(R:pB BB lv)(f:Y.a<=b)(hb:t0.c b=none)(hd:0<d)(M:d<=BB)(W:List Nat)(a7:W.length=lv.length)(D:pB BB W)(a:Nat)(P:a<BB)(a6:lv.length+1<=cap)
  (hQ:∀t' r e,jF b t t'->zH t' b .u32 (A++(r++[(a+e)%BB])++Z)->r.length=lv.length->pB BB r->e<2->A4 BB r+BB^lv.length*e=A4 BB W+A4 BB lv->Q (.e .u32 ((d-1:Nat):Int)) t') :
  ∀(k i e:Nat) (t':G uA) (r:List Nat),i+k=lv.length->zB t0 t'->jF b t t'->zH t' b .u32 (A++(r++(W++[a]).drop i)++Z)->r.length=i->pB BB r->e<2->A4 BB r+BB^i*e=A4 BB (W.take i)+A4 BB (lv.take i) →
  jp 310 10 [.m b A.length (lv.length+1) cap,.e .i64 lv.length,.e .u64 d,.e .u32 e,v,.e .i64 lv.length,.e .i64 i] t' Q:=by
 intro k;induction k with
 | zero=>
  intro i e t' r hi S m B H u w p;have N:i=lv.length:=by omega
  subst N;have g:(W++[a]).drop lv.length=[a]:=by simp_all
  rw[g]at B;refine zib ?_;have K:=Ye aH (b:=b) (off:=A.length) (n:=lv.length+1) (cap:=cap) (j:=lv.length) (by omega);have h:(r++[a])[lv.length]?=some a:=by simp_all
  have L:=B.f (Nx (A:=A) (Z:=Z) h) tI rfl;obtain⟨J,X,z,I⟩:=B.e (C:=Y) f (j:=A.length+lv.length) (by grind) ((a+e)%BB) tI rfl;rw[Sm (by grind)]at z;have o:(r++[a]).set lv.length ((a+e)%BB)=r++[(a+e)%BB]:=by simp_all
  rw[o]at z;have e1:cA .u32 ((a:Int)+(e:Int))=(((a+e)%BB:Nat):Int):=by rw[yY];show _=(((a+e)%4294967296:Nat):Int);omega
  simp only[uL,uC,uX,V,BC,iA,iE,K,L,xA,yC,e1];rw[A3 (by omega)];intro _ _ _;rw[X];simp only[xA];rw[L8 (by omega),L8 (by omega)]at p;have e2:cA .u32 (cA .u64 ((d:Int)-1))=((d-1:Nat):Int):=by
   have:d<=4294967296:=M
   grind [gG,xY]
  rw[e2];exact hQ J r e (m.a I) z H u w p
 | succ k ih=>
  intro i e t' r hi S m B H u w p;obtain⟨x,T⟩:=A6 (l:=lv) (i:=i) (by omega);obtain⟨y,hy⟩:=A6 (l:=W) (i:=i) (by omega);have q:x<BB:=oN R T;have s:y<BB:=oN D hy;obtain⟨c,off,K,L⟩:=(hv.a S).f aH T;have U:(W++[a])[i]?=some y:=by grind
  have g:(W++[a]).drop i=y::(W++[a]).drop (i+1):=iU U;have g3:=Ye aH (b:=b) (off:=A.length) (n:=lv.length+1) (cap:=cap) (j:=i) (by omega);have h:(r++(W++[a]).drop i)[i]?=some y:=by simp_all
  have g4:=B.f (Nx (A:=A) (Z:=Z) h) tI rfl;have F:i<(r++(W++[a]).drop i).length:=by simp_all
  obtain⟨J,X,z,I⟩:=B.e (C:=Y) f (j:=A.length+i) (by grind) ((y+x+e)%BB) tI rfl;rw[Sm F]at z;have o:(r++(W++[a]).drop i).set i ((y+x+e)%BB)=(r++[(y+x+e)%BB])++(W++[a]).drop (i+1):=by
   simp_all
  rw[o]at z;have E:=zpy (t:=t') (x:=y) (y:=x) (c:=e) s q w;refine zib ?_;simp (disch:=omega) only[uL,uC,uX,V,BC,iA,iE,K,L,g3,g4,xA,yC,q317,E,tK,O.ay,lA,xI,I2,I3,A2];rw[A5 (by omega)];intro _ _ _;have a1:∀n,mC Y 254 (.j b (A.length+i)) (.e .u32 (((y+x+e)%4294967296:Nat):Int)) ⟨n,t'⟩=some (aD,⟨n,J⟩):=X;rw[a1];simp only[xA];refine ih (i+1) ((y+x+e) / BB) J _ (by omega) (S.g hb I) (m.a I) z (by simp[H]) (Di u (G3 _ (by decide))) ?_ ?_
  .have h1:y<4294967296:=s;have h2:x<4294967296:=q;show(y+x+e) / 4294967296<2;omega
  .rw[rQ,H,kT T,kT hy,rQ,rQ]
   grind [Nat.div_add_mod]
theorem IS{u low bo:Nat}(b:u<BB)(a:low<BB)(c:bo<2):∃w b',w<BB/\b'<2/\u+BB*b'=w+low+bo ∧
  cA .u32 (cA .u64 (cA .u64 ((u:Int)-(low:Int))-(bo:Int)))=(w:Int)/\Int.fdiv (cA .u64 (cA .u64 ((u:Int)-(low:Int))-(bo:Int))) 9223372036854775808=(b':Int):=by
 have b:u<4294967296:=b;have a:low<4294967296:=a;rcases Q2 u (low+bo)with g | g
 .refine⟨u+BB-low-bo,1,by omega,by omega,by omega,?_,?_⟩
  .rw[yY,Vk,Vk];show _=((u+4294967296-low-bo:Nat):Int);omega
  grind [Vk]
 .refine⟨u-low-bo,0,by omega,by omega,by omega,?_,?_⟩
  all_goals grind [yY,Vk]
def XS{lu:List Nat}    (hv:bA t0 1 (tC .u32 lv) v)(hl:lv.length<900000)(a6:pB BB lv)(g:Y.a<=b)(hb:t0.c b=none)(hd:d<BB)(ac:lu.length=lv.length+1)(K:pB BB lu)(ab:lv.length+1<=cap)
  (hQ:∀t' (W:List Nat) s bo,zB t0 t'->jF b t t'->zH t' b .u32 (A++(W++[s])++Z)->W.length=lv.length->pB BB W->s<BB->bo<2->A4 BB (W++[s])+d*A4 BB lv=A4 BB lu+BB^(lv.length+1)*bo →
   if bo=0 then Q (.e .u32 (d:Int)) t' else jp 310 10 [.m b A.length (lv.length+1) cap,.e .i64 lv.length,.e .u64 d,.e .u32 0,v,.e .i64 lv.length,.e .i64 (0:Nat)] t' Q) :
  ∀(k i a e:Nat) (t':G uA) (W:List Nat),i+k=lv.length->zB t0 t'->jF b t t'->zH t' b .u32 (A++(W++lu.drop i)++Z)->W.length=i->pB BB W->a<BB->e<2->A4 BB W+d*A4 BB (lv.take i)=A4 BB (lu.take i)+BB^i*(a+e) →
  jp 310 6 [.m b A.length (lv.length+1) cap,v,.e .i64 lv.length,.e .u64 d,.e .u64 a,.e .u64 e,v,.e .i64 lv.length,.e .i64 i] t' Q:=by
 intro k;induction k with
 | zero=>
  intro i a e t' W hi M q E T z hc B N;have a1:i=lv.length:=by omega
  subst a1;obtain⟨x,F⟩:=A6 (l:=lu) (i:=lv.length) (by omega);have f:x<BB:=oN K F;have m:lu.drop lv.length=[x]:=by rw[iU F,List.drop_of_length_le (by omega)]
  rw[m]at E;obtain⟨w,bo,hw,h,L,e1,e2⟩:=IS f hc B;have g1:=Ye aH (b:=b) (off:=A.length) (n:=lv.length+1) (cap:=cap) (j:=lv.length) (by omega);have p:(W++[x])[lv.length]?=some x:=by simp_all
  have g2:=E.f (Nx (A:=A) (Z:=Z) p) tI rfl;obtain⟨t1,s1,D,H⟩:=E.e (C:=Y) g (j:=A.length+lv.length) (by grind) w tI rfl;rw[Sm (by grind)]at D;have r:(W++[x]).set lv.length w=W++[w]:=by simp_all
  rw[r]at D;have R:x<4294967296:=f;have U:cA .u64 (x:Int)=(x:Int):=gG (by omega) (by omega);refine zrr ?_;simp only[uI,uL,uC,V,yr,iA,iE,g1,g2,xA,yC,U,e1,e2,rI];rw[A3 (by omega)];intro _ _ _;rw[s1];simp only[xA];have o:=hQ t1 W w bo (M.g hb H) (q.a H) D T z hw h (by
   grind [rQ,A4,Jr])
  by_cases hz:bo=0
  .rw[A5 (by omega)];rw[A5 hz]at o;have J:d<4294967296:=hd
   grind [xY]
  .rw[A3 (by omega)];rw[A3 hz]at o;simp only[(hv.a (M.g hb H)).c,xA,yC,qH];exact o
 | succ k ih=>
  intro i a e t' W hi M q E T z hc B N;obtain⟨x,F⟩:=A6 (l:=lu) (i:=i) (by omega);obtain⟨y,hy⟩:=A6 (l:=lv) (i:=i) (by omega);have f:x<BB:=oN K F;have S:y<BB:=oN a6 hy;have J:d<4294967296:=hd;have R:x<4294967296:=f;have ad:y<4294967296:=S;have aa:a<4294967296:=hc;have m:lu.drop i=x::lu.drop (i+1):=iU F;obtain⟨c,off,g1,g2⟩:=(hv.a M).f aH hy;have g3:=Ye aH (b:=b) (off:=A.length) (n:=lv.length+1) (cap:=cap) (j:=i) (by omega)
  have p:(W++lu.drop i)[i]?=some x:=by simp_all
  have g4:=E.f (Nx (A:=A) (Z:=Z) p) tI rfl;have a7:d*y<=4294967295*4294967295:=G5 (by omega) (by omega);obtain⟨P,hP⟩:∃P,P=d*y+a:=⟨_,rfl⟩;have a8:P<18446744073709551616:=by omega
  have I:P / 4294967296<4294967296:=by omega
  obtain⟨w,bo,hw,h,L,e1,e2⟩:=IS (u:=x) (low:=P%4294967296) (bo:=e) f (G3 _ (by decide)) B;obtain⟨t1,s1,D,H⟩:=E.e (C:=Y) g (j:=A.length+i) (by simp_all) w tI rfl;rw[Sm (by simp_all)]at D;have r:(W++lu.drop i).set i w=(W++[w])++lu.drop (i+1):=by simp_all
  rw[r]at D;have U:cA .u64 (x:Int)=(x:Int):=gG (by omega) (by omega);have X:cA .u64 (y:Int)=(y:Int):=gG (by omega) (by omega);have e3:(d:Int)*(y:Int)=((d*y:Nat):Int):=(Int.natCast_mul d y).symm;have e4:cA .u64 ((d*y:Nat):Int)=((d*y:Nat):Int):=by
   grind [gG]
  have e5:cA .u64 (((d*y:Nat):Int)+(a:Int))=(P:Int):=by
   rw[hP,<- Int.natCast_add];grind [gG]
  have e6:cA .u64 (cA .u32 (P:Int))=((P%4294967296:Nat):Int):=by
   grind [yY,gG]
  have e7:Int.fdiv (P:Int) 4294967296=((P / 4294967296:Nat):Int):=Il P 4294967296;refine zrr ?_;simp only[uI,uL,uC,V,yr,iA,iE,g1,g2,g3,g4,xA,yC,U,X,e3,e4,e5,e6,e7,e1,e2];rw[A5 (by omega)];intro _ _ _;rw[s1];simp (disch:=omega) only[xA,A2];refine ih (i+1) (P / 4294967296) bo t1 _ (by omega) (M.g hb H) (q.a H) D (by simp[T]) (Di z hw) I h ?_;rw[rQ,T,kT F,kT hy,rQ,rQ];have l1:(lu.take i).length=i:=by simp;omega
  have l2:(lv.take i).length=i:=by simp;omega
  grind [Nat.div_add_mod,BB]
attribute [irreducible] BB
end Go.Proofs
