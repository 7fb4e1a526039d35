/- Facts on types. (Printed by a tool.) -/
import Derived.Test.YtefajchlhjcgpaaGreatDoorC18
set_option linter.all false
noncomputable section
set_option maxRecDepth 100000
namespace Go.Proofs
open Go Go.Am
variable [fC]
theorem mL:Y.b.c 3=some ⟨(.m .i64),1,8,[.e .i64 0],true⟩:=by kernel_rfl
def yr:Y.b.c 4=some ⟨.r,1,1,[.d false],true⟩:=by kernel_rfl
theorem M0:Y.b.c 5=some ⟨(.m .u8),1,1,[.e .u8 0],true⟩:=by kernel_rfl
theorem iI:Y.b.c 9=some ⟨.j,1,16,[.h []],true⟩:=by kernel_rfl
def N8:Y.b.c 22=some ⟨(.i 261),1,24,[.g],true⟩:=by kernel_rfl
def gg:Y.b.c 24=some ⟨(.f [(0,4,1),(1,22,1)]),2,32,[.d false,.g],true⟩:=by kernel_rfl
def ty26:Y.b.c 26=some ⟨(.f [(0,24,2),(2,24,2)]),4,64,[.d false,.g,.d false,.g],true⟩:=by kernel_rfl
def S3:Y.b.c 29=some ⟨(.i 31),1,24,[.g],true⟩:=by kernel_rfl
def N9:Y.b.c 31=some ⟨(.f [(0,5,1),(1,9,1),(2,28,6),(8,29,1)]),9,128,[.e .u8 0,.h [],.e .u8 0,.d false,.g,.d false,.g,.e .i64 0,.g],true⟩:=by kernel_rfl
def bR:Y.b.c 34=some ⟨(.m .i64),1,8,[.e .i64 0],true⟩:=by kernel_rfl
def qZ:Y.b.c 39=some ⟨(.f [(0,3,1),(1,3,1)]),2,16,[.e .i64 0,.e .i64 0],true⟩:=by kernel_rfl
def S4:Y.b.c 48=some ⟨(.i 89),1,24,[.g],true⟩:=by kernel_rfl
def Jt:Y.b.c 49=some ⟨(.i 92),1,24,[.g],true⟩:=by kernel_rfl
def S5:Y.b.c 50=some ⟨(.i 60),1,24,[.g],true⟩:=by kernel_rfl
def gh:Y.b.c 52=some ⟨(.f [(0,9,1),(1,48,1),(2,49,1),(3,50,1)]),4,88,[.h [],.g,.g,.g],true⟩:=by kernel_rfl
def gi:Y.b.c 60=some ⟨(.f [(0,9,1),(1,9,1),(2,3,1),(3,3,1),(4,3,1),(5,4,1),(6,31,9),(15,31,9)]),24,320,[.h [],.h [],.e .i64 0,.e .i64 0,.e .i64 0,.d false,.e .u8 0,.h [],.e .u8 0,.d false,.g,.d false,.g,.e .i64 0,.g,.e .u8 0,.h [],.e .u8 0,.d false,.g,.d false,.g,.e .i64 0,.g],true⟩:=by kernel_rfl
def S6:Y.b.c 62=some ⟨(.i 9),1,24,[.g],true⟩:=by kernel_rfl
def ty69:Y.b.c 69=some ⟨(.v 191),1,8,[.y],true⟩:=by kernel_rfl
def ty76:Y.b.c 76=some ⟨(.v 141),1,8,[.y],true⟩:=by kernel_rfl
def gj:Y.b.c 89=some ⟨(.f [(0,9,1),(1,5,1),(2,4,1)]),3,24,[.h [],.e .u8 0,.d false],true⟩:=by kernel_rfl
def Js:Y.b.c 90=some ⟨(.i 94),1,24,[.g],true⟩:=by kernel_rfl
def gk:Y.b.c 92=some ⟨(.f [(0,9,1),(1,4,1),(2,90,1)]),3,48,[.h [],.d false,.g],true⟩:=by kernel_rfl
def gn:Y.b.c 94=some ⟨(.f [(0,3,1),(1,3,1),(2,3,1),(3,26,4)]),7,88,[.e .i64 0,.e .i64 0,.e .i64 0,.d false,.g,.d false,.g],true⟩:=by kernel_rfl
def iX:Y.b.c 96=some ⟨(.i 5),1,24,[.g],true⟩:=by kernel_rfl
def ty98:Y.b.c 98=some ⟨(.f [(0,95,1),(1,96,1)]),2,32,[.y,.g],true⟩:=by kernel_rfl
theorem W2:Y.b.c 131=some ⟨(.f [(0,5,1),(1,9,1),(2,4,1),(3,3,1),(4,3,1),(5,3,1),(6,3,1),(7,3,1)]),8,72,[.e .u8 0,.h [],.d false,.e .i64 0,.e .i64 0,.e .i64 0,.e .i64 0,.e .i64 0],true⟩:=by kernel_rfl
def qW:Y.b.c 136=some ⟨(.i 149),1,24,[.g],true⟩:=by kernel_rfl
def yu:Y.b.c 147=some ⟨(.f [(0,9,1),(1,5,1)]),2,24,[.h [],.e .u8 0],true⟩:=by kernel_rfl
def tu:Y.b.c 149=some ⟨(.f [(0,5,1),(1,9,1),(2,39,2)]),4,40,[.e .u8 0,.h [],.e .i64 0,.e .i64 0],true⟩:=by kernel_rfl
def yv:Y.b.c 152=some ⟨.u,1,8,[.ap],true⟩:=by kernel_rfl
def yx:Y.b.c 201=some ⟨(.i 147),1,24,[.g],true⟩:=by kernel_rfl
def Qr:Y.b.c 209=some ⟨(.q 10 5),10,10,[.e .u8 0,.e .u8 0,.e .u8 0,.e .u8 0,.e .u8 0,.e .u8 0,.e .u8 0,.e .u8 0,.e .u8 0,.e .u8 0],true⟩:=by kernel_rfl
def yy:Y.b.c 223=some ⟨(.q 7 9),7,112,[.h [],.h [],.h [],.h [],.h [],.h [],.h []],true⟩:=by kernel_rfl
def pq:Y.b.c 236=some ⟨(.w 3 9),1,8,[.ax],true⟩:=by kernel_rfl
def W3:Y.b.c 239=some ⟨(.f [(0,39,2),(2,9,1),(3,3,1)]),4,40,[.e .i64 0,.e .i64 0,.h [],.e .i64 0],true⟩:=by kernel_rfl
def W4:Y.b.c 249=some ⟨(.i 3),1,24,[.g],true⟩:=by kernel_rfl
def tN:Y.b.c 253=some ⟨(.i 254),1,24,[.g],true⟩:=by kernel_rfl
def tI:Y.b.c 254=some ⟨(.m .u32),1,4,[.e .u32 0],true⟩:=by kernel_rfl
def Gl:Y.b.c 261=some ⟨(.m .u16),1,2,[.e .u16 0],true⟩:=by kernel_rfl
def zT:Y.b.c 270=some ⟨(.m .u64),1,8,[.e .u64 0],true⟩:=by kernel_rfl
def W5:Y.b.c 287=some ⟨(.v 253),1,8,[.y],true⟩:=by kernel_rfl
def W6:Y.b.c 304=some ⟨(.q 12 3),12,96,[.e .i64 0,.e .i64 0,.e .i64 0,.e .i64 0,.e .i64 0,.e .i64 0,.e .i64 0,.e .i64 0,.e .i64 0,.e .i64 0,.e .i64 0,.e .i64 0],true⟩:=by kernel_rfl
def yz:Y.b.c 323=some ⟨(.i 24),1,24,[.g],true⟩:=by kernel_rfl
def W7:Y.b.c 340=some ⟨(.q 12 339),60,480,[.h [],.e .u8 0,.d false,.e .i64 0,.e .i64 0,.h [],.e .u8 0,.d false,.e .i64 0,.e .i64 0,.h [],.e .u8 0,.d false,.e .i64 0,.e .i64 0,.h [],.e .u8 0,.d false,.e .i64 0,.e .i64 0,.h [],.e .u8 0,.d false,.e .i64 0,.e .i64 0,.h [],.e .u8 0,.d false,.e .i64 0,.e .i64 0,.h [],.e .u8 0,.d false,.e .i64 0,.e .i64 0,.h [],.e .u8 0,.d false,.e .i64 0,.e .i64 0,.h [],.e .u8 0,.d false,.e .i64 0,.e .i64 0,.h [],.e .u8 0,.d false,.e .i64 0,.e .i64 0,.h [],.e .u8 0,.d false,.e .i64 0,.e .i64 0,.h [],.e .u8 0,.d false,.e .i64 0,.e .i64 0],true⟩:=by kernel_rfl
def Dl:gG Y 22 261 1 false:=⟨⟨_,N8,rfl⟩,⟨_,Gl,rfl,rfl⟩⟩
def On:gG Y 29 31 9 true:=⟨⟨_,S3,rfl⟩,⟨_,N9,rfl,rfl⟩⟩
def S7:gG Y 48 89 3 true:=⟨⟨_,S4,rfl⟩,⟨_,gj,rfl,rfl⟩⟩
def OK:gG Y 49 92 3 true:=⟨⟨_,Jt,rfl⟩,⟨_,gk,rfl,rfl⟩⟩
def S8:gG Y 50 60 24 true:=⟨⟨_,S5,rfl⟩,⟨_,gi,rfl,rfl⟩⟩
def oc:gG Y 62 9 1 false:=⟨⟨_,S6,rfl⟩,⟨_,iI,rfl,rfl⟩⟩
def S9:gG Y 90 94 7 true:=⟨⟨_,Js,rfl⟩,⟨_,gn,rfl,rfl⟩⟩
def sl96:gG Y 96 5 1 false:=⟨⟨_,iX,rfl⟩,⟨_,M0,rfl,rfl⟩⟩
def py:gG Y 136 149 4 true:=⟨⟨_,qW,rfl⟩,⟨_,tu,rfl,rfl⟩⟩
def pz:gG Y 201 147 2 true:=⟨⟨_,yx,rfl⟩,⟨_,yu,rfl,rfl⟩⟩
def W8:gG Y 249 3 1 false:=⟨⟨_,W4,rfl⟩,⟨_,mL,rfl,rfl⟩⟩
def bH:gG Y 253 254 1 false:=⟨⟨_,tN,rfl⟩,⟨_,tI,rfl,rfl⟩⟩
def qa:gG Y 323 24 2 true:=⟨⟨_,yz,rfl⟩,⟨_,gg,rfl,rfl⟩⟩
end Go.Proofs
namespace Go.Am
open Go Go.RowKit
def vD (l:List Nat):List D:=l.map fun(n:Nat)=>D.a .u16 (n:Int)
theorem wU(l:List Nat):(vD l).length=l.length:=by simp[vD]
structure xL where
 b:Bool
 a:List Nat
def xL.d(w:xL):D:=.f [.e w.b,.g 1 (vD w.a)]
structure qF where
 n:xL
 d:xL
def qF.b(f:qF):D:=.f [f.n.d,f.d.d]
structure iF where
 a:Nat
 f:qF
 i:Int
def iF.d(v:iF):D:=.f [.a .u8 v.a,v.f.b,.a .i64 v.i]
inductive iA where
 | mk (op:Nat) (name:List Nat) (v:iF) (args:List iA)
def iA.e:iA->Nat | .mk o _ _ _=>o
def iA.i:iA->List Nat | .mk _ n _ _=>n
def iA.v:iA->iF | .mk _ _ v _=>v
def iA.k:iA->List iA | .mk _ _ _ a=>a
mutual
def iA.d:iA->D
 | .mk op name v args=>.f [.a .u8 op,.c name,v.d,.g 9 (iA.t args)]
def iA.t:List iA->List D
 | []=>[]
 | x::l=>x.d::iA.t l
end
theorem iA.q(l:List iA):iA.t l=l.map iA.d:=by
 induction l with
 | nil=>rfl
 | cons x l a=>simp[iA.t,a]
structure rG where
 a:Int
 b:Int
 c:Int
 f:qF
def rG.d(r:rG):D:=.f [.a .i64 r.a,.a .i64 r.b,.a .i64 r.c,r.f.b]
structure mE where
 b:List Nat
 c:Bool
 a:List rG
def mE.d(x:mE):D:=.f [.c x.b,.e x.c,.g 7 (x.a.map rG.d)]
structure eE where
 a:List Nat
 b:Nat
 c:Bool
def eE.d(x:eE):D:=.f [.c x.a,.a .u8 x.b,.e x.c]
structure nD where
 g:List Nat
 c:List Nat
 f:Int
 i:Int
 e:Int
 h:Bool
 a:iA
 b:iA
def nD.d(x:nD):D:=.f [.c x.g,.c x.c,.a .i64 x.f,.a .i64 x.i,.a .i64 x.e,.e x.h,x.a.d,x.b.d]
structure rD where
 e:List Nat
 c:List eE
 a:List mE
 b:List nD
def rD.d(x:rD):D:=.f [.c x.e,.g 3 (x.c.map eE.d),.g 3 (x.a.map mE.d),.g 24 (x.b.map nD.d)]
section
variable {t:G vA}{cs:List O}
theorem Wj{w:xL}(h:RD t w.d cs):∃v,cs=[.d w.b,v]/\bA t 1 (vD w.a) v:=by
 grind [xL.d,xK,kD,pG,kO,Cy]
theorem C2{f:qF}(h:RD t f.b cs):∃u v,cs=[.d f.n.b,u,.d f.d.b,v]/\bA t 1 (vD f.n.a) u/\bA t 1 (vD f.d.a) v:=by
 grind [qF.b,xK,kD,pG,Wj]
def Rm{v:iF}(h:RD t v.d cs):∃a b,cs=[.e .u8 v.a,.d v.f.n.b,a,.d v.f.d.b,b,.e .i64 v.i]/\bA t 1 (vD v.f.n.a) a/\bA t 1 (vD v.f.d.a) b:=by
 unfold iF.d at h;simp only[xK,kD,pG,wP]at h;obtain⟨k,rfl,c,r,rfl,rfl,j,l,rfl,e,d,i,rfl,rfl,rfl⟩:=h;obtain⟨a,b,rfl,f,g⟩:=C2 e;exact⟨a,b,rfl,f,g⟩
def uJ{x:iA}(h:RD t x.d cs):∃a b c,cs=[.e .u8 x.e,.h x.i,.e .u8 x.v.a,.d x.v.f.n.b,a,.d x.v.f.d.b,b,.e .i64 x.v.i,c] ∧
  bA t 1 (vD x.v.f.n.a) a/\bA t 1 (vD x.v.f.d.a) b/\bA t 9 (x.k.map iA.d) c:=by
 obtain⟨p,e,v,d⟩:=x;unfold iA.d at h;rw[iA.q]at h;simp only[xK,kD,pG,wP,xP,kO]at h;obtain⟨o,rfl,c,r,rfl,rfl,m,q,rfl,rfl,f,l,rfl,k,n,s,rfl,⟨w,rfl,g⟩,rfl⟩:=h;obtain⟨a,b,rfl,i,j⟩:=Rm k;exact⟨a,b,w,rfl,i,j,g⟩
def Nf{r:rG}(h:RD t r.d cs):∃a b,cs=[.e .i64 r.a,.e .i64 r.b,.e .i64 r.c,.d r.f.n.b,a,.d r.f.d.b,b]/\bA t 1 (vD r.f.n.a) a/\bA t 1 (vD r.f.d.a) b:=by
 grind [rG.d,xK,kD,pG,wP,C2]
def Rn{x:mE}(h:RD t x.d cs):∃a,cs=[.h x.b,.d x.c,a]/\bA t 7 (x.a.map rG.d) a:=by
 grind [mE.d,xK,kD,pG,xP,Cy,kO]
theorem Ng{x:eE}(h:RD t x.d cs):cs=[.h x.a,.e .u8 x.b,.d x.c]:=by
 grind [eE.d,xK,kD,pG,xP,Cy,wP]
def mO(x:iA)(a b c:O):List O:=[.e .u8 x.e,.h x.i,.e .u8 x.v.a,.d x.v.f.n.b,a,.d x.v.f.d.b,b,.e .i64 x.v.i,c]
def Nh{x:nD}(h:RD t x.d cs):∃a b c a' b' c',cs=[.h x.g,.h x.c,.e .i64 x.f,.e .i64 x.i,.e .i64 x.e,.d x.h]++mO x.a a b c++mO x.b a' b' c' ∧
  RD t x.a.d (mO x.a a b c)/\RD t x.b.d (mO x.b a' b' c'):=by
 unfold nD.d at h;simp only[xK,kD,pG,xP,Cy,wP]at h;obtain⟨q,rfl,i,r,rfl,rfl,j,s,rfl,rfl,k,u,rfl,rfl,l,v,rfl,rfl,m,w,rfl,rfl,n,y,rfl,rfl,o,z,rfl,d,p,A,rfl,e,rfl⟩:=h;obtain⟨a,b,c,f,_⟩:=uJ d;obtain⟨a',b',c',g,_⟩:=uJ e;subst f g;exact⟨a,b,c,a',b',c',rfl,d,e⟩
def aX{x:rD}(h:RD t x.d cs):∃a b c,cs=[.h x.e,a,b,c]/\bA t 3 (x.c.map eE.d) a/\bA t 3 (x.a.map mE.d) b/\bA t 24 (x.b.map nD.d) c:=by
 grind [rD.d,xK,kD,pG,xP,kO]
end
def xL.zs(x:xL):x.d.h=[.d false,.g]:=rfl
def qF.zs(x:qF):x.b.h=[.d false,.g,.d false,.g]:=rfl
def iF.zs(x:iF):x.d.h=[.e .u8 0,.d false,.g,.d false,.g,.e .i64 0]:=rfl
def iA.s(x:iA):x.d.h=[.e .u8 0,.h [],.e .u8 0,.d false,.g,.d false,.g,.e .i64 0,.g]:=by cases x;rfl
def rG.g(x:rG):x.d.h=[.e .i64 0,.e .i64 0,.e .i64 0,.d false,.g,.d false,.g]:=rfl
def mE.f(x:mE):x.d.h=[.h [],.d false,.g]:=rfl
def eE.f(x:eE):x.d.h=[.h [],.e .u8 0,.d false]:=rfl
def nD.k(x:nD):x.d.h=[.h [],.h [],.e .i64 0,.e .i64 0,.e .i64 0,.d false,.e .u8 0,.h [],.e .u8 0,.d false,.g,.d false,.g,.e .i64 0,.g,.e .u8 0,.h [],.e .u8 0,.d false,.g,.d false,.g,.e .i64 0,.g]:=by
 obtain⟨_,_,_,_,_,_,w,v⟩:=x;cases w;cases v;rfl
def rD.zs(x:rD):x.d.h=[.h [],.g,.g,.g]:=rfl
def zS(f:qF):Nat:=1+f.n.a.length+f.d.a.length
mutual
/-- the size, as it is counted up to a limit -/
def hO:iA->Int->Int
 | .mk _ name v args,left=>cX args left (zS v.f+(name.length:Int) / 30)
def cX:List iA->Int->Int->Int
 | [],_,n=>n
 | x::l,left,n=>if n<=left then cX l left (n+hO x (left-n))else n
end
def lF:Nat:=1125899906842624
def qF.c(f:qF):Prop:=f.n.a.length<lF/\f.d.a.length<lF
mutual
def iA.r:iA->Prop
 | .mk _ name v args=>name.length<lF/\v.f.c/\args.length<lF/\iA.m args
def iA.m:List iA->Prop
 | []=>True
 | x::l=>x.r/\iA.m l
end
end Go.Am
namespace Go.Am
open Go Go.RowKit
section
def Rb{f:qF}(h:f.c):zS f<4503599627370496:=by
 grind [qF.c,lF,zS]
mutual
def Vx:∀(x:iA) (left:Int),x.r->0<=hO x left/\hO x left<=max left 0+9007199254740992
 | .mk op name v args,left,h=>by
  unfold iA.r at h;obtain⟨a,b,_,c⟩:=h;have d:=Rb b;unfold lF at a;unfold hO;have:=Rc args left (zS v.f+(name.length:Int) / 30) c (by omega);omega
def Rc:∀(l:List iA) (left n:Int),iA.m l->0<=n->n<=cX l left n/\cX l left n<=max n (left+9007199254740992)
 | [],left,n,_,_=>by grind [cX]
 | x::l,left,n,h,e=>by
  unfold iA.m at h;unfold cX;split
  .have a:=Vx x (left-n) h.1;have b:=Rc l left (n+hO x (left-n)) h.2 (by omega);omega
  .omega
end
theorem kE{a b:Int}:(bB a b=true) ↔ a<b:=Lb a b
theorem mI{a b:Int}:(sE a b=true) ↔ a<=b:=Ya a b
def QY{a:Type}{l:List a}{i:Nat}{x:a}{r:List a}(h:l.drop i=x::r):l[i]?=some x/\l.drop (i+1)=r/\i<l.length:=by
 have b:(l.drop i)[0]?=some x:=by grind
 rw[mb]at b;have c:i<l.length:=by
  grind
 refine⟨by omega,?_,c⟩;have:=List.drop_drop (l:=l) (i:=1) (j:=i)
 simp_all
def QX{a:Type}{l:List a}{i:Nat}(h:l.drop i=[]):l.length<=i:=by
 simp_all
def eW(l:List Nat):(Int.ofNat (wB l))=(l.length:Int):=by rw[eD];rfl
def Bo(cs:List O):Qk true cs=.i cs:=rfl
end
section
variable {cap el i j n ty x:Nat}{y:jD}
def uC(k:IntKind)(l:List Nat):List D:=l.map fun(n:Nat)=>D.a k (n:Int)
theorem sH{k:IntKind}(l:List Nat):(uC k l).length=l.length:=by simp[uC]
def RK{k:IntKind}{l:List Nat} (h:l[i]?=some x):(uC k l)[i]?=some (.a k (x:Int)):=by simp[uC,h]
theorem RJ{k:IntKind}{l:List Nat}  : (uC k l).take n=uC k (l.take n):=by simp[uC]
def aG (t:G vA)(b:Nat)(k:IntKind)(l:List Nat):Prop:=∃c,t.c b=some (.aa c l.length none)/\∀(j:Nat) x,l[j]?=some x->c.c j=some (.e k (x:Int))
def nF (b:Nat)(t t':G vA):Prop:=∀c,c≠b->t'.c c=t.c c
theorem nF.d(b:Nat)(t:G vA):nF b t t:=λ_ _=>rfl
def nF.a{b:Nat}{x y z:G vA}(h:nF b x y)(k:nF b y z):nF b x z:=λc a=>(k c a).trans (h c a)
section
variable {t t' t0:G vA}{C:fA}{b:Nat}{k:IntKind}{l:List Nat}
def aG.o(h:aG t b k l){c:Nat}(e:b≠c)(f:nF c t t'):aG t' b k l:=by
 obtain⟨x,a,d⟩:=h;exact⟨x,by rw[f b e];exact a,d⟩
def aG.p(h:aG t b k l)(d:zB t t'):aG t' b k l:=by
 obtain⟨x,a,c⟩:=h;exact⟨x,d _ _ a,c⟩
def zB.g(h:zB t0 t)(e:t0.c b=none)(d:nF b t t'):zB t0 t':=by
 intro c y a;rw[d c (by grind)];exact h c y a
def aG.g(h:aG t b k l){off:Nat}(s:off+n<=l.length)(f:n<=cap):bA t 1 (uC k ((l.drop off).take n)) (.m b off n cap):=by
 obtain⟨c,e,q⟩:=h;refine⟨((l.drop off).take n).map fun(x:Nat)=>[.e k (x:Int)],.inr ⟨b,off,cap,?_,?_,⟨c,_,none,e,.inl rfl⟩,λi o m=>?_⟩,?_⟩
 .grind
 .grind
 .simp only[F7,Z5]at m;obtain⟨x,p,rfl⟩:=m;refine⟨rfl,c,_,none,e,λj a r=>?_⟩
  grind
 .refine wD.mk (by simp[uC]) λi d o g f=>?_;simp only[uC,F7,Z5]at g f;obtain⟨x,p,rfl⟩:=g
  simp_all
def aG.m(h:aG t b k l) (a:l.length<=cap):bA t 1 (uC k l) (.m b 0 l.length cap):=by
 have:=h.g (off:=0) (n:=l.length) (by omega) a
 simp_all
def Gk{T sz:Nat}{a:Bool}(h:gG C T el sz a){off:Nat}(hi:i<n):zC C T (.m b off n cap) (.e .i64 (i:Int))=some (.j b (off+i*sz)):=by
 obtain⟨⟨y,c,d⟩,⟨z,e,f,g⟩⟩:=h;unfold zC;rw[c,mA];have:(O.e .i64 (i:Int)).aj=some i:=rfl;rw[this,mA];simp only[O.u];rw[d,mA,e,mA,gC.2 hi,f];rfl
def aG.f(h:aG t b k l) (f:l[j]?=some x)  (g:C.b.c ty=some y)(e:y.a.h=false):oA C ty ⟨0,t⟩ (.j b j)=some (.e k (x:Int)):=by
 obtain⟨c,a,d⟩:=h
 simp_all [oA,O.ah,fD,vA.a,qV]
def aG.e(h:aG t b k l)(s:C.a<=b) (o:j<l.length)(x:Nat)  (q:C.b.c ty=some y)(p:y.b=1) :
  ∃t',(∀n,nC C ty (.j b j) (.e k (x:Int)) ⟨n,t⟩=some (aD,⟨n,t'⟩))/\aG t' b k (l.set j x)/\nF b t t':=by
 obtain⟨c,m,r⟩:=h;refine⟨t.d b (.aa (c.am [.e k (x:Int)] j) l.length none),λn=>?_,⟨c.am [.e k (x:Int)] j,?_,λi y v=>?_⟩,λd u=>?_⟩
 .unfold nC;rw[q,mA];simp only[O.ah,mA,O.s,O.ak];rw[p];have a:Nat.beq (wB [O.e k (x:Int)]) 1=true:=rfl;rw[a,xE];unfold kK fD;have e:(!Nat.blt b C.a)=true:=by
   grind [gC]
  rw[e,xE,m,mA];simp only[vA.a,mA];have f:Nat.ble (j+wB [O.e k (x:Int)]) l.length=true:=rF.2 o;have g:oD O.z [O.e k (x:Int)]=true:=rfl;rw[f,g];rfl
 all_goals grind [G.aa,G.ap]
def Kv{T:Nat}{z:jD}(l:C.b.c T=some y)(e:y.a.a=some el)(p:C.b.c el=some z)(a:z.c=[.e k 0])(o:z.b=1)(d:z.d<=8) (f:n<1000000)(q:t.c b=none) :
  ∃t',eR C T (.e .i64 (n:Int)) (.e .i64 (n:Int)) ⟨b,t⟩=some (.m b 0 n n,⟨b+1,t'⟩)/\aG t' b k (List.replicate n 0)/\zB t t'/\nF b t t':=by
 have g:∀n,mJ [O.e k 0] n=List.replicate n (.e k 0):=by
  intro n;induction n with
  | zero=>rfl
  | succ n s=>grind [mJ,xI]
 refine⟨t.d b (.aa (G.ac (mJ z.c n)) (wB (mJ z.c n)) none),?_,⟨G.ac (mJ z.c n),?_,λj x r=>?_⟩,λc u m=>?_,λc m=>?_⟩
 .unfold eR;rw[l,mA,e,mA,p,mA];have h:(O.e .i64 (n:Int)).aj=some n:=rfl;rw[h,mA,mA];have i:(Nat.ble n n&&Nat.blt n 1000000&&Nat.blt (n*z.d) 1000000000&&Nat.beq (wB z.c) z.b)=true:=by
   rw[a,o,show Nat.ble n n=true from rF.2 (B3 n),gC.2 f];have:n*z.d<1000000000:=by
    have:=G5 (Nat.le_of_lt f) d;omega
   rw[gC.2 this];rfl
  rw[i,xE];rfl
 all_goals grind [G.aa,eD,G.o]
end
end
end Go.Am
namespace Go.Am
variable {B:Nat}{l m:List Nat}
def A4 (B:Nat):List Nat->Nat
 | []=>0
 | a::l=>a+B*A4 B l
def pB(B:Nat)(l:List Nat):Prop:=∀x∈l,x<B
def B4 (l:List Nat):Prop:=∀h:l≠[],l.getLast h≠0
theorem Ml(B:Nat):∀(l m:List Nat),A4 B (l++m)=A4 B l+B^l.length*A4 B m
 | [],m=>by simp[A4]
 | a::l,m=>by
  simp only[List.cons_append,A4,Ml B l m,Do,K1];grind
theorem aQ{B:Nat}(c:0<B):∀ {l:List Nat},pB B l->A4 B l<B^l.length
 | [],_=>by simp[A4]
 | a::l,h=>by
  have e:=h a (C5);have b:=aQ c (l:=l) λx d=>h x (C7 _ d);simp only[A4,Do,K1];have f:B*(A4 B l+1)<=B*B^l.length:=F1 B b
  grind
theorem Jl(B:Nat)(l:List Nat)(n:Nat):A4 B l=A4 B (l.take n)+B^(l.take n).length*A4 B (l.drop n):=by
 rw[<- Ml,List.take_append_drop]
theorem Im  (h:pB B l)(n:Nat):pB B (l.take n):=λx a=>h x (List.mem_of_mem_take a)
def GO  (h:pB B l)(n:Nat):pB B (l.drop n):=λx a=>h x (List.mem_of_mem_drop a)
def TN  (h:pB B l)(k:pB B m):pB B (l++m):=λx a=>(F5.1 a).elim (h x) (k x)
def xF:List Nat->List Nat
 | []=>[]
 | a::l=>if xF l=[]/\a=0 then []else a::xF l
theorem jU(B:Nat):∀l:List Nat,A4 B (xF l)=A4 B l
 | []=>rfl
 | a::l=>by
  unfold xF;have b:=jU B l
  grind [A4]
theorem sY:∀l:List Nat,B4 (xF l)
 | []=>λh=>(h rfl).elim
 | a::l=>by
  have d:=sY l;unfold xF;split
  .simp_all
  .rename_i h;intro c;by_cases b:xF l=[]
   .simp_all
   .rw[List.getLast_cons b];exact d b
theorem yW{B:Nat}:∀ {l:List Nat},pB B l->pB B (xF l)
 | [],h=>h
 | a::l,h=>by
  have c:=yW (l:=l) λx b=>h x (C7 _ b);unfold xF;split
  .simp_all
  .exact λx b=>(C3.1 b).elim (λe=>e ▸ h a C5) (c x)
theorem Qx:∀l:List Nat,(xF l).length<=l.length
 | []=>B3 _
 | a::l=>by unfold xF;have:=Qx l;split<;>simp<;>omega
theorem BM:∀l:List Nat,xF (l++[0])=xF l
 | []=>by simp[xF]
 | a::l=>by
  show(if xF (l++[0])=[]/\a=0 then []else a::xF (l++[0]))=_;rw[BM l];rfl
def Qw:∀ {l:List Nat},B4 l->xF l=l
 | [],_=>rfl
 | a::l,h=>by
  have b:B4 l:=by
   intro c;have:=h (by simp)
   grind
  unfold xF;rw[Qw b];split
  .rename_i e;have:=h (by simp)
   simp_all
  .rfl
def Xb (d:0<B) (h:B4 l)(c:A4 B l=0):l=[]:=by
 have b:∀l:List Nat,A4 B l=0->∀x∈l,x=0:=by
  intro l;induction l with
  | nil=>simp_all
  | cons a l f=>
   grind [A4,Nat.mul_eq_zero]
 rcases List.eq_nil_or_concat l with e | ⟨m,a,e⟩
 .exact e
 .exfalso;subst e;have:=h (by simp);simp at this;exact this (b _ c a (by simp))
def AL  (h:B4 l)(b:l≠[]):B^(l.length-1)<=A4 B l:=by
 rcases List.eq_nil_or_concat l with e | ⟨m,a,e⟩
 .simp_all
 .rw[List.concat_eq_append]at e;subst e;have:=h (by simp);simp at this;rw[Ml];simp only[E1,Do,G1,A4];have:1<=a+B*0:=by omega
  calc B^(m.length+1-1)=B^m.length*1:=by simp
   _<=B^m.length*(a+B*0):=F1 _ this
   _<=_:=Nat.le_add_left _ _
def zck{B:Nat}(i:0<B):∀ {l m:List Nat},pB B l->pB B m->l.length=m.length->A4 B l=A4 B m->l=m
 | [],[],_,_,_,_=>rfl
 | a::l,b::m,d,e,o,j=>by
  have k:=d a C5;have n:=e b C5;simp only[A4]at j;have f:a=b:=by
   grind [Nat.add_mul_mod_self_left,Nat.mod_eq_of_lt]
  subst f;have g:A4 B l=A4 B m:=by
   grind [Nat.eq_of_mul_eq_mul_left]
  rw[zck i (λx c=>d x (C7 _ c)) (λx c=>e x (C7 _ c)) (by simp_all) g]
 | [],_::_,_,_,h,_=>by simp at h
 | _::_,[],_,_,h,_=>by simp at h
def tV (f:1<B) (d:pB B l)(e:B4 m)(g:A4 B m<=A4 B l):m.length<=l.length:=by
 by_cases c:m=[]
 .simp[c]
 .have a:=AL (B:=B) e c;have b:=aQ (by omega) d;have:B^(m.length-1)<B^l.length:=by omega
  grind [Nat.pow_lt_pow_iff_right]
def MB (e:1<B) (c:pB B l)(d:pB B m)(f:B4 l)(g:B4 m)(h:A4 B l=A4 B m):l=m:=by
 have a:=tV e c g (by omega);have b:=tV e d f (by omega);exact zck (by omega) c d (by omega) h
def iP (a b:List Nat):Int:=if a.length≠b.length then(if a.length<b.length then -1 else 1)else go a b
where go:List Nat->List Nat->Int
 | a::l,b::m=>if go l m≠0 then go l m else if a<b then -1 else if b<a then 1 else 0
 | _,_=>0
theorem zjb{B:Nat}:∀ {a b:List Nat},pB B a->pB B b->a.length=b.length->(iP.go a b<0 ↔ A4 B a<A4 B b)/\(iP.go a b=0 ↔ A4 B a=A4 B b)
 | [],[],_,_,_=>by simp[iP.go,A4]
 | a::l,b::m,e,f,o=>by
  have j:=e a C5;have k:=f b C5;obtain⟨n,q⟩:=zjb (a:=l) (b:=m) (λx d=>e x (C7 _ d)) (λx d=>f x (C7 _ d)) (by simp_all);have c:∀ {x y:Nat},x<y->∀u v,u<B->u+B*x<v+B*y:=by
   intro x y h u v p;have:B*(x+1)<=B*y:=F1 B h
   grind
  unfold iP.go;simp only[A4];by_cases i:iP.go l m=0
  .grind
  .rw[A5 i];constructor
   .rw[n];constructor
    .simp_all
    grind [Nat.lt_trichotomy]
   .constructor
    .omega
    .intro h;rcases Nat.lt_trichotomy (A4 B l) (A4 B m)with g | g | g
     .have:=c g a b j;omega
     .omega
     .have:=c g b a k;omega
 | [],_::_,_,_,h=>by simp at h
 | _::_,[],_,_,h=>by simp at h
def zja (d:1<B){a b:List Nat}(e:pB B a)(f:pB B b)(i:B4 a)(j:B4 b):iP a b<0 ↔ A4 B a<A4 B b:=by
 unfold iP;by_cases k:a.length=b.length
 .grind [zjb]
 .rw[A5 k];by_cases c:a.length<b.length
  .rw[A5 c];refine⟨λ_=>?_,λ_=>by omega⟩;rcases P6 (A4 B a) (A4 B b)with g | g
   .exact g
   .have:=tV d e j g;omega
  .rw[A3 c];refine⟨λh=>by omega,λh=>?_⟩;have:=tV d f i (by omega);omega
end Go.Am
namespace Go.Am
open Go Go.RowKit
variable {a b n:Int}{k:IntKind}{i x y:Nat}{l:List Nat}
theorem iG (a:0<=n)(b:n<18446744073709551616):cA .u64 n=n:=by
 grind [iR,IntKind.wrap,IntKind.bits,IntKind.signed]
theorem mX (a:0<=n)(b:n<4294967296):cA .u32 n=n:=by
 grind [iR,IntKind.wrap,IntKind.bits,IntKind.signed]
def zkb (a:0<=n)(b:n<65536):cA .u16 n=n:=by
 grind [iR,IntKind.wrap,IntKind.bits,IntKind.signed]
theorem Md (a:0<=n)(b:n<256):cA .u8 n=n:=by
 grind [iR,IntKind.wrap,IntKind.bits,IntKind.signed]
theorem Vd(n:Int):cA .u64 n=n%18446744073709551616:=by
 grind [iR,IntKind.wrap,IntKind.bits,IntKind.signed]
theorem nX(n:Int):cA .u32 n=n%4294967296:=by
 grind [iR,IntKind.wrap,IntKind.bits,IntKind.signed]
def zcg(n:Int):cA .u16 n=n%65536:=by
 grind [iR,IntKind.wrap,IntKind.bits,IntKind.signed]
def OT   : M4 k (x:Int) (y:Int)=jJ Nat.land k (x:Int) (y:Int):=rfl
theorem kY{f:Nat->Nat->Nat}  (c:x<aH k)(d:y<aH k):jJ f k (x:Int) (y:Int)=some (.e k (f x y:Nat)):=by
 unfold jJ;have a:wO (x:Int)=some x:=rfl;have b:wO (y:Int)=some y:=rfl;rw[a,mA,b,mA,gC.2 c,gC.2 d];rfl
def EO  (b:0<y)(a:cA k ((x / y:Nat):Int)=((x / y:Nat):Int)):Eo k (x:Int) (y:Int)=some (.e k ((x / y:Nat):Int)):=by
 unfold Eo;have:kB (y:Int) 0=false:=by
  grind [An]
 rw[this,cond_false,Int.tdiv_eq_ediv_of_nonneg (by omega)];rw[<- Int.natCast_ediv,a]
def Xz  (a:0<y):En k (x:Int) (y:Int)=some (.e k ((x%y:Nat):Int)):=by
 unfold En;have:kB (y:Int) 0=false:=by
  grind [An]
 rw[this,cond_false,Int.tmod_eq_emod_of_nonneg (by omega),<- Int.natCast_emod]
theorem fI  : (kB a b=true) ↔ a=b:=An a b
def fZ  : ((!kB a b)=true) ↔ a≠b:=by rw[F4,<- Bool.not_eq_true,fI]
def DH{b:Bool}:((!b)=true) ↔ b=false:=by simp
theorem Jy{a b n:Nat}(h:b<2^n):Nat.lor (a*2^n) b=a*2^n+b:=by
 show a*2^n ||| b=_;rw[<- Nat.shiftLeft_eq,<- Nat.shiftLeft_add_eq_or_of_lt h,Nat.shiftLeft_eq]
def jl{a b n:Nat}(h:b<2^n)(d:a%2^n=0):Nat.lor a b=a+b:=by
 obtain⟨c,e⟩:=Nat.dvd_of_mod_eq_zero d
 grind [Nat.mul_comm,Jy]
def bA.f{t:G vA}{C:fA}{T el:Nat}(h:gG C T el 1 false)  {v:O}(e:bA t 1 (uC k l) v) (hi:l[i]?=some x) :
  ∃b off,zC C T v (.e .i64 (i:Int))=some (.j b off)/\oA C el ⟨0,t⟩ (.j b off)=some (.e k (x:Int)):=by
 obtain⟨b,off,f,c,d,_,_,a⟩:=gG.at h (λ_=>rfl) e (RK hi);rw[wP]at a;subst a;exact⟨b,off,c,d⟩
def Ib(x:Nat)(n:Nat):Int.fdiv (x:Int) (n:Int)=((x / n:Nat):Int):=by
 grind
def A6  (h:i<l.length):∃x,l[i]?=some x:=⟨l[i],C6 h⟩
def yN{B:Nat} (h:pB B l) (hi:l[i]?=some x):x<B:=h x (O9 hi)
def Xh (h:l≠[]):∃m x,l=m++[x]:=by
 rcases List.eq_nil_or_concat l with e | ⟨m,a,e⟩
 all_goals simp_all
end Go.Am
namespace Go.Proofs
open Go Go.Am
variable {a b l:List Nat}{u v:O}{neg:Bool}
variable [fC]
variable {t:G vA}
def zcu:∀(n:Nat) (l:List Nat) (v:O),l.length=n->n<1125899906842624->bA t 1 (uC .u32 l) v->∃v',jp 247 2 [v] t (λu m=>u=v'/\m=t)/\bA t 1 (uC .u32 (xF l)) v':=by
 intro n;induction n with
 | zero=>
  intro l v i _ a;have:l=[]:=ma.1 i;subst this;refine⟨v,yq ?_,a⟩;simp only[uI,uL,V,uW,Vu,lA,a.c,xA,yC,sH,kE];simp_all
 | succ n p=>
  intro l v i y a;obtain⟨m,x,rfl⟩:=Xh (l:=l) (by grind);have j:m.length=n:=by simp_all
  have o:(m++[x])[m.length]?=some x:=by simp
  obtain⟨b,q,f,g⟩:=a.f bH o;obtain⟨u,h,c⟩:=gG.f bH a (k:=m.length) (by simp[uC]);rw[RJ]at c;simp only[List.take_left']at c;have e:(((m++[x]).length:Nat):Int)-1=(m.length:Int):=by simp
  by_cases d:x=0
  .subst d;obtain⟨w,r,s⟩:=p m u j (by omega) c;refine⟨w,yq ?_,by grind [BM]⟩;simp (disch:=omega) only[uI,uL,V,uW,Vu,lA,a.c,xA,yC,sH,kE,fI,A2,e,f,g,h]
   simp_all
  .refine⟨v,yq ?_,?_⟩
   .simp (disch:=omega) only[uI,uL,V,uW,Vu,lA,a.c,xA,yC,sH,kE,fI,A2,e,f,g,h]
    simp_all
   .rw[Qw]
    .exact a
    .intro _;simp_all
def Gn  (c:l.length<1125899906842624)(d:bA t 1 (uC .u32 l) v):∃v',oB Y F 247 [v] t=some v'/\bA t 1 (uC .u32 (xF l)) v':=by
 obtain⟨v',a,b⟩:=zcu _ l v rfl c d;exact⟨v',mC.2 (w247 a),b⟩
def zoc  (z:bA t 1 (uC .u32 a) u)(A:bA t 1 (uC .u32 b) v)(H:a.length=b.length):∀(n:Nat),n<=a.length->n<1125899906842624->jp 300 2 [u,v,.e .i64 ((n:Int)-1)] t (λw m=>w=.e .i64 (iP.go (a.take n) (b.take n))/\m=t):=by
 intro n;induction n with
 | zero=>
  intro _ _;refine zqj ?_;simp only[uL,V,uW,yi,lA,mI];grind [iP.go]
 | succ n D=>
  intro I s;obtain⟨x,B⟩:=A6 (l:=a) (i:=n) (by omega);obtain⟨y,C⟩:=A6 (l:=b) (i:=n) (by omega);obtain⟨c,F,j,k⟩:=z.f bH B;obtain⟨d,e,o,r⟩:=A.f bH C;have f:(((n+1:Nat):Int)-1)=(n:Int):=by omega
  have E:∀(a b:List Nat) (x y:Nat),a.length=b.length->iP.go (a++[x]) (b++[y])=if x<y then -1 else if y<x then 1 else iP.go a b:=by
   intro a;induction a with
   | nil=>
    grind [iP.go]
   | cons p a D=>
    intro b x y h
    cases b with
    | nil=>simp at h
    | cons q b=>
     grind [iP.go]
  have g:iP.go (a.take (n+1)) (b.take (n+1))=if x<y then -1 else if y<x then 1 else iP.go (a.take n) (b.take n):=by
   grind [List.take_add_one]
  rw[f,g];refine zqj ?_;simp (disch:=omega) only[uL,V,uW,yi,lA,xA,yC,kE,mI,fZ,j,k,o,r,A2]
  grind
def zrl  (e:a.length<1125899906842624)(c:bA t 1 (uC .u32 a) u)(d:bA t 1 (uC .u32 b) v):oB Y F 300 [u,v] t=some (.e .i64 (iP a b)):=by
 refine mC.2 (w300 ?_);simp (disch:=omega) only[uI,V,uW,t300,lA,c.c,d.c,xA,yC,sH,kE,fZ,A2];unfold iP;by_cases f:a.length=b.length
 .rw[A3 (by omega),A3 (by omega)];have:=zoc c d f a.length (B3 _) e
  grind
 grind
def yM(neg:Bool)(l:List Nat):Bool:=if l=[]then !neg else decide (l.length<=1024)&&decide (l.getLast?≠some 0)
def Jk   (n:l.length<1125899906842624)(c:bA t 1 (uC .u16 l) v):oB Y F 196 [.i [.d neg,v]] t=some (.d (yM neg l)):=by
 refine mC.2 (w196 ?_);unfold yM;by_cases a:l=[]
 .subst a;simp only[uI,uH,rB,V,uW,t196,lA,c.c,xA,yC,sH,fI];simp
 .obtain⟨m,x,rfl⟩:=Xh a;have i:(m++[x])[m.length]?=some x:=by simp
  obtain⟨b,k,e,f⟩:=c.f Dl i;have d:(((m++[x]).length:Nat):Int)-1=(m.length:Int):=by simp
  have h:m.length<1125899906842624:=by omega
  simp (disch:=omega) only[uI,uH,rB,V,uW,t196,lA,c.c,xA,yC,sH,fI,mI,A2,d,e,f];rw[A3 (by omega),A3 a];by_cases g:(m++[x]).length<=1024
  .rw[A5 (by omega)];simp only[g,decide_true,F3];by_cases j:x=0
   .grind [Ep]
   .have:kB (x:Int) 0=false:=by
     grind [An]
    simp_all
  grind
def EJ   (c:bA t 1 (uC .u16 l) v):oB Y F 233 [.i [.d neg,v]] t=some (.d (!neg&&decide (l=[1]))):=by
 refine mC.2 (w233 ?_)
 cases neg with
 | true=>simp[gf,uI,uH,rB,V,t233,lA]
 | false=>
  simp only[gf,uI,uH,rB,V,t233,lA,c.c,xA,yC,sH,fI];rw[A5 (by rfl)];by_cases e:l.length=1
  .obtain⟨x,rfl⟩:∃x,l=[x]:=by
    cases l with
    | nil=>simp at e
    | cons x r=>simp_all
   obtain⟨b,f,a,d⟩:=c.f Dl (i:=0) (x:=x) (by simp);simp only[Int.natCast_zero]at a;rw[A5 (by simp)];simp only[a,d,xA,yC];by_cases g:x=1
   .grind [Ep]
   .have:kB (x:Int) 1=false:=by
     grind [An]
    simp_all
  .rw[A3 (by omega)];have:l≠[1]:=by grind
   grind
end Go.Proofs
namespace Go.Am
def qH:List Nat->List Nat
 | []=>[]
 | [a]=>[a]
 | a::b::l=>(a+65536*b)::qH l
theorem vT:∀l:List Nat,(qH l).length=(l.length+1) / 2
 | []=>rfl
 | [a]=>by simp[qH]
 | a::b::l=>by simp[qH,vT l];omega
theorem Vi:∀l:List Nat,A4 4294967296 (qH l)=A4 65536 l
 | []=>rfl
 | [a]=>by simp[qH,A4]
 | a::b::l=>by simp only[qH,A4,Vi l];omega
def Lw:∀ {l:List Nat},pB 65536 l->pB 4294967296 (qH l)
 | [],_=>λx c=>(by cases c)
 | [a],h=>λx c=>by
  have:=h a (by simp)
  grind [qH]
 | a::b::l,h=>λx c=>by
  have e:=h a (by simp);have f:=h b (by simp);rcases C3.1 c with rfl | c
  .omega
  .exact Lw (l:=l) (λy d=>h y (by simp[d])) x c
def Nr:∀ {l:List Nat},B4 l->B4 (qH l)
 | [],_=>λh=>(h rfl).elim
 | [a],h=>by
  grind [qH]
 | [a,b],h=>by
  intro _;have:=h (by simp)
  grind [qH]
 | a::b::c::l,h=>by
  intro _;have e:B4 (c::l):=by
   intro d;have:=h (by simp)
   simp_all
  have d:qH (c::l)≠[]:=by
   grind [vT]
  have:=Nr (l:=c::l) e d
  grind [qH]
def CW:∀(l:List Nat) (x:Nat),l.length%2=0->qH (l++[x])=qH l++[x]
 | [],x,_=>rfl
 | [a],x,h=>by simp at h
 | a::b::l,x,h=>by
  show(a+65536*b)::qH (l++[x])=(a+65536*b)::(qH l++[x]);rw[CW l x (by grind)]
theorem LJ:∀(l:List Nat) (a x:Nat),l.length%2=0->qH (l++[a,x])=qH l++[a+65536*x]
 | [],a,x,_=>rfl
 | [b],a,x,h=>by simp at h
 | c::b::l,a,x,h=>by
  show(c+65536*b)::qH (l++[a,x])=(c+65536*b)::(qH l++[a+65536*x]);rw[LJ l a x (by grind)]
def jI:List Nat->List Nat
 | []=>[]
 | w::l=>w%65536::w / 65536::jI l
theorem Qo:∀l:List Nat,(jI l).length=2*l.length
 | []=>rfl
 | w::l=>by simp[jI,Qo l];omega
def Vh:∀l:List Nat,A4 65536 (jI l)=A4 4294967296 l
 | []=>rfl
 | w::l=>by
  simp only[jI,A4,Vh l];omega
def Zz:∀ {l:List Nat},pB 4294967296 l->pB 65536 (jI l)
 | [],_=>λx a=>(by cases a)
 | w::l,h=>λx a=>by
  have c:=h w (by simp);rcases C3.1 a with rfl | a
  .omega
  .rcases C3.1 a with rfl | a
   .omega
   .exact Zz (l:=l) (λy b=>h y (by simp[b])) x a
theorem Qp:∀(l:List Nat) (w:Nat),jI (l++[w])=jI l++[w%65536,w / 65536]
 | [],w=>rfl
 | a::l,w=>by simp[jI,Qp l w]
theorem IN{l:List Nat}{w:Nat}(a:w≠0):xF (jI (l++[w]))=if w / 65536=0 then jI l++[w%65536]else jI (l++[w]):=by
 rw[Qp];split
 .rename_i h;rw[h,show jI l++[w%65536,0]=(jI l++[w%65536])++[0] by simp,BM];refine Qw λ_=>?_
  grind
 .rename_i h;refine Qw λ_=>?_
  grind
end Go.Am
namespace Go.Proofs
open Go Go.Am
variable {l:List Nat}{v:O}{Q:lB}
variable [fC]
variable {t:G vA}
theorem B8{m:List Nat}{i x:Nat}(h:l.length=i):(l++m).set i x=l++m.set 0 x:=by
 simp_all
def zfq  {b:Nat} (hv:bA t 1 (uC .u16 l) v)(hl:l.length<1000000)(g:pB 65536 l)(e:Y.a<=b)(Z:t.c b=none)
  (X:∀t' v',zB t t'->bA t' 1 (uC .u32 (qH l)) v'->Q v' t'):∀(k i:Nat) (t':G vA),i+k=l.length->zB t t'->aG t' b .u32 (qH (l.take i)++List.replicate ((l.length+1) / 2-(i+1) / 2) 0) →
  jp 235 2 [.m b 0 ((l.length+1) / 2) ((l.length+1) / 2),v,.e .i64 l.length,.e .i64 i] t' Q:=by
 intro k;induction k with
 | zero=>
  intro i t' hi q o;refine zqr ?_;simp only[uL,uH,tC,V,uW,ya,lA,kE];rw[A3 (by omega)];rw[L0 (by omega),show(l.length+1) / 2-(i+1) / 2=0 by omega,List.replicate_zero,C8]at o;refine X _ _ q ?_;have:=o.m (B3 _)
  grind [vT]
 | succ k ih=>
  intro i t' hi q o;obtain⟨x,K⟩:=A6 (l:=l) (i:=i) (by omega);have L:x<65536:=yN g K;obtain⟨c,a8,R,S⟩:=(hv.a q).f Dl K;have f:l.take (i+1)=l.take i++[x]:=by grind [List.take_add_one]
  have I:(l.take i).length=i:=by grind
  obtain⟨y,hy,m⟩:∃y,(qH (l.take i)++List.replicate ((l.length+1) / 2-(i+1) / 2) 0)[i / 2]?=some y/\y<4294967296/\Nat.lor y (x*2^(16*(i%2)))<4294967296 ∧
    (qH (l.take i)++List.replicate ((l.length+1) / 2-(i+1) / 2) 0).set (i / 2) (Nat.lor y (x*2^(16*(i%2))))=qH (l.take (i+1))++List.replicate ((l.length+1) / 2-(i+1+1) / 2) 0:=by
   rcases Nat.mod_two_eq_zero_or_one i with H | a1
   .have u:(qH (l.take i)).length=i / 2:=by grind [vT]
    refine⟨0,?_,by decide,?_,?_⟩
    .rw[T6 (by omega),u,Nat.sub_self,List.getElem?_replicate,A5 (by omega)]
    .rw[H];simp;omega
    .rw[B8 u,H,f,CW _ _ (by omega)];have:Nat.lor 0 (x*2^(16*0))=x:=by simp_all
     rw[this];obtain⟨r,hr⟩:∃r,(l.length+1) / 2-(i+1) / 2=r+1:=⟨(l.length+1) / 2-(i+1) / 2-1,by omega⟩;rw[hr,List.replicate_succ,List.set_cons_zero,show(l.length+1) / 2-(i+1+1) / 2=r by omega];simp
   .obtain⟨p,a,w⟩:=Xh (l:=l.take i) (by grind);have a6:p.length=i-1:=by grind
    have z:p.length%2=0:=by omega
    have ha:a<65536:=g a (List.mem_of_mem_take (by simp_all:a∈l.take i));have u:(qH p).length=i / 2:=by grind [vT]
    rw[w,CW _ _ z];have J:Nat.lor a (x*2^(16*1))=a+65536*x:=by
     show a ||| x*2^(16*1)=_;rw[Nat.or_comm];have:=Jy (a:=x) (b:=a) (n:=16) (by omega);show Nat.lor (x*2^16) a=_;omega
    refine⟨a,?_,by omega,?_,?_⟩
    all_goals grind [B8,LJ]
  obtain⟨B,a7,D⟩:=m;have A:(qH (l.take i)++List.replicate ((l.length+1) / 2-(i+1) / 2) 0).length=(l.length+1) / 2:=by
   grind [vT]
  have E:zC Y 253 (.m b 0 ((l.length+1) / 2) ((l.length+1) / 2)) (.e .i64 ((i / 2:Nat):Int))=some (.j b (0+i / 2*1)):=Gk bH (by omega);rw[show 0+i / 2*1=i / 2 by omega]at E;have T:=o.f hy tI rfl;obtain⟨t2,U,F,W⟩:=o.e (C:=Y) e (j:=i / 2) (by omega) (Nat.lor y (x*2^(16*(i%2)))) tI rfl;rw[D]at F;refine zqr ?_;have M:Int.tdiv (i:Int) 2=((i / 2:Nat):Int):=by simp_all
  have N:Int.tmod (i:Int) 2=((i%2:Nat):Int):=by grind
  have hm:=G2 i (show 0<2 by decide);simp (disch:=omega) only[uL,uH,tC,V,uW,ya,lA,kE,R,S,xA,yC,A2,mX,M,N,E,T];rw[A5 (by omega)];have P:Al .u32 (x:Int) (16*((i%2:Nat):Int))=some (.e .u32 ((x*2^(16*(i%2)):Nat):Int)):=by
   rcases Nat.mod_two_eq_zero_or_one i with h | h<;>rw[h]
   .simp[Al,Jz,wO];rw[mX (by omega) (by omega)]
   .have:Al .u32 (x:Int) (16*((1:Nat):Int))=some (.e .u32 (cA .u32 ((x:Int)*65536))):=rfl
    grind [mX]
  rw[P];have s:x*2^(16*(i%2))<4294967296:=by
   rcases Nat.mod_two_eq_zero_or_one i with h | h<;>rw[h]<;>omega
  simp only[xA,yC];rw[kY (show y<aH .u32 from B) (show x*2^(16*(i%2))<aH .u32 from s)];simp only[xA,yC];intro d _ _;rw[U];simp only[xA];have:=ih (i+1) t2 (by omega) (q.g Z W) F
  simp_all
def Rt   (e:bA t 1 (uC .u16 l) v)(j:l.length<1000000)(c:pB 65536 l)
  (i:∀t' v',zB t t'->bA t' 1 (uC .u32 (qH l)) v'->Q v' t'):Wc Y F 235 [v] t Q:=by
 refine w235 ?_;have f:Int.tdiv ((l.length:Int)+1) 2=(((l.length+1) / 2:Nat):Int):=by grind
 simp (disch:=omega) only[uI,V,uW,t235,lA,e.c,xA,yC,sH,A2,f];intro b d a;obtain⟨t',g,m,h,_⟩:=Kv (C:=Y) (k:=.u32) tN rfl tI rfl rfl (by decide) (n:=(l.length+1) / 2) (by omega) d;rw[g];simp only[xA];exact zfq e j c a d i l.length 0 t' (by omega) h (by grind [qH])
end Go.Proofs
namespace Go.Proofs
open Go Go.Am
variable {n s x y:Nat}
variable [fC]
variable {t:G vA}
theorem zsf (h:n<4294967296):n / 2147483648=if n.testBit 31 then 1 else 0:=by
 grind
theorem AU (h:n<4294967296):n.testBit 31=decide (2147483648<=n):=by
 grind
theorem HQ (h:x<4294967296):Jn (.e .u32 (x:Int))=some (.e .u32 (Nat.xor 4294967295 x:Nat)):=by
 grind [Jn,O.ac,mA,Nat.beq,Z9,xE,kY,aH]
def zk6{b:Nat}(i:x<4294967296)(j:y<4294967296)(u:b<2) :
  oB Y F 311 [.e .u32 x,.e .u32 y,.e .u32 b] t=some (.p [.e .u32 (((x+8589934592-y-b)%4294967296:Nat):Int),.e .u32 (((if x<y+b then 1 else 0):Nat):Int)]):=by
 refine mC.2 (w311 ?_);obtain⟨d,v⟩:∃d,d=(x+8589934592-y-b)%4294967296:=⟨_,rfl⟩;have a:d<4294967296:=by omega
 have r:cA .u32 (cA .u32 ((x:Int)-y)-b)=(d:Int):=by
  grind [nX]
 have c:Nat.xor 4294967295 x<4294967296:=Nat.xor_lt_two_pow (n:=32) (by decide) i;have e:Nat.xor x y<4294967296:=Nat.xor_lt_two_pow (n:=32) i j;have f:Nat.xor 4294967295 (Nat.xor x y)<4294967296:=Nat.xor_lt_two_pow (n:=32) (by decide) e;have g:Nat.land (Nat.xor 4294967295 x) y<4294967296:=P5 Nat.and_le_left c;have h:Nat.land (Nat.xor 4294967295 (Nat.xor x y)) d<4294967296:=P5 Nat.and_le_left f;have l:Nat.lor (Nat.land (Nat.xor 4294967295 x) y) (Nat.land (Nat.xor 4294967295 (Nat.xor x y)) d)<4294967296:=Nat.or_lt_two_pow (n:=32) g h
 simp only[uL,t311,lA,r];rw[HQ i];simp only[xA,yC];rw[OT,kY (k:=.u32) c j];simp only[xA,yC];rw[kY (k:=.u32) i j];simp only[xA,yC];rw[HQ e];simp only[xA,yC];rw[OT,kY (k:=.u32) f a];simp only[xA,yC];rw[kY (k:=.u32) g h];simp only[xA,yC];have s:Int.fdiv ((Nat.lor (Nat.land (Nat.xor 4294967295 x) y) (Nat.land (Nat.xor 4294967295 (Nat.xor x y)) d):Nat):Int) 2147483648=(((if x<y+b then 1 else 0):Nat):Int):=by
  rw[show(2147483648:Int)=((2147483648:Nat):Int) from rfl,Ib,zsf l];congr 1;have w:(Nat.lor (Nat.land (Nat.xor 4294967295 x) y) (Nat.land (Nat.xor 4294967295 (Nat.xor x y)) d)).testBit 31=decide (x<y+b):=by
   show((4294967295 ^^^ x) &&& y ||| (4294967295 ^^^ (x ^^^ y)) &&& d).testBit 31=_;rw[Nat.testBit_or,Nat.testBit_and,Nat.testBit_and,Nat.testBit_xor,Nat.testBit_xor,Nat.testBit_xor,AU i,AU j,AU a];have:(4294967295:Nat).testBit 31=true:=by decide
   rw[this];by_cases m:2147483648<=x<;>by_cases o:2147483648<=y<;>by_cases p:2147483648<=d<;>by_cases q:x<y+b<;>simp only[m,o,p,q,decide_true,decide_false,Bool.xor_true,Bool.xor_false,Bool.true_xor,Bool.false_xor,Bool.not_true,K4,Bool.and_true,E5,Bool.or_true,Bool.or_false,Bool.xor_self]<;>omega
  simp_all
 simp_all
def zou{c:Nat}(d:x<4294967296)(e:y<4294967296)(b:c<2) :
  oB Y F 317 [.e .u32 x,.e .u32 y,.e .u32 c] t=some (.p [.e .u32 (((x+y+c)%4294967296:Nat):Int),.e .u32 (((x+y+c) / 4294967296:Nat):Int)]):=by
 refine mC.2 (w317 ?_);have a:((x:Int)+y)+c=((x+y+c:Nat):Int):=by omega
 simp (disch:=omega) only[t317,lA,iG]
 grind [nX]
def znu{h l d:Nat}(i:h<d)(f:l<4294967296)(g:d<4294967296) :
  oB Y F 268 [.e .u32 h,.e .u32 l,.e .u32 d] t=some (.p [.e .u32 (((h*4294967296+l) / d:Nat):Int),.e .u32 (((h*4294967296+l)%d:Nat):Int)]):=by
 refine mC.2 (w268 ?_);simp only[t268,lA,fZ,mI];rw[A5 (by omega),A3 (by omega)];refine j268_7 ?_;have c:(h:Int)*4294967296=((h*4294967296:Nat):Int):=by omega
 have j:(h*4294967296+l) / d<4294967296:=P8 (by
  omega)
 have m:(h*4294967296+l)%d<d:=G2 _ (by omega);simp (disch:=omega) only[uE,zpj,lA,iG,c];have e:jJ Nat.lor .u64 ((h*4294967296:Nat):Int) (l:Int)=some (.e .u64 ((h*4294967296+l:Nat):Int)):=by
  rw[kY (k:=.u64) (show h*4294967296<aH .u64 by show _<18446744073709551616;omega) (show l<aH .u64 by show _<18446744073709551616;omega)];have:=Jy (a:=h) (b:=l) (n:=32) f;rw[show h*4294967296=h*2^32 by rfl,this]
 rw[e];simp only[xA,yC];rw[EO (k:=.u64) (by omega) (by
  grind [iG]),Xz (k:=.u64) (by omega)]
 grind [xA,yC,mX]
theorem zmu(v:Nat)(a:v<256):∃k,k<9/\lD [0,1,2,2,3,3,3,3,4,4,4,4,4,4,4,4,5,5,5,5,5,5,5,5,5,5,5,5,5,5,5,5,6,6,6,6,6,6,6,6,6,6,6,6,6,6,6,6,6,6,6,6,6,6,6,6,6,6,6,6,6,6,6,6,7,7,7,7,7,7,7,7,7,7,7,7,7,7,7,7,7,7,7,7,7,7,7,7,7,7,7,7,7,7,7,7,7,7,7,7,7,7,7,7,7,7,7,7,7,7,7,7,7,7,7,7,7,7,7,7,7,7,7,7,7,7,7,7,8,8,8,8,8,8,8,8,8,8,8,8,8,8,8,8,8,8,8,8,8,8,8,8,8,8,8,8,8,8,8,8,8,8,8,8,8,8,8,8,8,8,8,8,8,8,8,8,8,8,8,8,8,8,8,8,8,8,8,8,8,8,8,8,8,8,8,8,8,8,8,8,8,8,8,8,8,8,8,8,8,8,8,8,8,8,8,8,8,8,8,8,8,8,8,8,8,8,8,8,8,8,8,8,8,8,8,8,8,8,8,8,8,8,8,8,8,8,8,8,8,8,8,8,8,8,8,8] v=some k/\(v=0/\k=0\/0<k/\2^(k-1)<=v/\v<2^k):=by
 have h:∀v:Fin 256,(lD [0,1,2,2,3,3,3,3,4,4,4,4,4,4,4,4,5,5,5,5,5,5,5,5,5,5,5,5,5,5,5,5,6,6,6,6,6,6,6,6,6,6,6,6,6,6,6,6,6,6,6,6,6,6,6,6,6,6,6,6,6,6,6,6,7,7,7,7,7,7,7,7,7,7,7,7,7,7,7,7,7,7,7,7,7,7,7,7,7,7,7,7,7,7,7,7,7,7,7,7,7,7,7,7,7,7,7,7,7,7,7,7,7,7,7,7,7,7,7,7,7,7,7,7,7,7,7,7,8,8,8,8,8,8,8,8,8,8,8,8,8,8,8,8,8,8,8,8,8,8,8,8,8,8,8,8,8,8,8,8,8,8,8,8,8,8,8,8,8,8,8,8,8,8,8,8,8,8,8,8,8,8,8,8,8,8,8,8,8,8,8,8,8,8,8,8,8,8,8,8,8,8,8,8,8,8,8,8,8,8,8,8,8,8,8,8,8,8,8,8,8,8,8,8,8,8,8,8,8,8,8,8,8,8,8,8,8,8,8,8,8,8,8,8,8,8,8,8,8,8,8,8,8,8,8,8] v.val).elim false (λk=>decide (k<9)&&(decide (v.val=0)&&decide (k=0)||decide (0<k)&&decide (2^(k-1)<=v.val)&&decide (v.val<2^k)))=true:=by decide +kernel
 have a:=h ⟨v,a⟩;simp only[]at a;generalize lD _ v=r at a ⊢
 cases r with
 | none=>simp at a
 | some k=>
  grind
def BL (x k:Nat):Prop:=x=0/\k=0\/0<k/\2^(k-1)<=x/\x<2^k
def MQ (b:x<256)(e:s<100):∃k,k<=8/\BL x k/\jp 316 15 [.e .u32 x,.e .i64 s] t (λv m=>v=.e .i64 ((s+k:Nat):Int)/\m=t):=by
 obtain⟨k,d,c,a⟩:=zmu x b;refine⟨k,by omega,a,zun ?_⟩;simp (disch:=omega) only[uU,V,uY,uW,zc6,lA,Md];unfold wJ;rw[iI,mA];have:(O.e .u8 (x:Int)).aj=some x:=rfl;rw[this,mA];simp only[O.w];rw[show(jD.a ⟨.j,1,16,[.h []],true⟩).c=true from rfl,xE]
 grind [mA,xA,yC,A2]
def MP (i:x<65536)(g:s<90):∃k,k<=16/\BL x k/\jp 316 9 [.e .u32 x,.e .i64 s] t (λv m=>v=.e .i64 ((s+k:Nat):Int)/\m=t):=by
 by_cases h:256<=x
 .obtain⟨k,b,a,c⟩:=MQ (t:=t) (x:=x / 256) (s:=s+8) (by omega) (by omega);refine⟨k+8,by omega,?_,zqc ?_⟩
  .rcases a with a | ⟨d,e,f⟩
   .omega
   .refine .inr ⟨by omega,?_,?_⟩
    .rw[show k+8-1=(k-1)+8 by omega,Nat.pow_add];omega
    grind
  .simp (disch:=omega) only[V,uW,yn,lA,mI,A2]
   grind
 .obtain⟨k,b,a,c⟩:=MQ (t:=t) (x:=x) (s:=s) (by omega) (by omega);refine⟨k,by omega,a,zqc ?_⟩;simp only[V,uW,yn,lA,mI];grind
def zmv (g:x<4294967296):∃k,k<=32/\BL x k/\oB Y F 316 [.e .u32 x] t=some (.e .i64 (k:Int)):=by
 by_cases h:65536<=x
 .obtain⟨k,b,a,c⟩:=MP (t:=t) (x:=x / 65536) (s:=16) (by omega) (by omega);refine⟨k+16,by omega,?_,mC.2 (w316 ?_)⟩
  .rcases a with a | ⟨d,e,f⟩
   .omega
   .refine .inr ⟨by omega,?_,?_⟩
    .rw[show k+16-1=(k-1)+16 by omega,Nat.pow_add];omega
    grind
  .simp only[V,t316,lA,mI]
   grind
 .obtain⟨k,b,a,c⟩:=MP (t:=t) (x:=x) (s:=0) (by omega) (by omega);refine⟨k,by omega,a,mC.2 (w316 ?_)⟩;simp only[V,t316,lA,mI];grind
def zgf (e:x<4294967296)(g:0<x):∃s:Nat,s<32/\2147483648<=x*2^s/\x*2^s<4294967296/\oB Y F 308 [.e .u32 x] t=some (.e .i64 (s:Int)):=by
 obtain⟨k,h,a,d⟩:=zmv (t:=t) e;rcases a with a | ⟨f,b,c⟩
 .omega
 .refine⟨32-k,by omega,?_,?_,mC.2 (w308 ?_)⟩
  .have:2^(k-1)*2^(32-k)=2147483648:=by rw[<- Nat.pow_add,show k-1+(32-k)=31 by omega]
   rw[<- this];exact D3 _ b
  .have:2^k*2^(32-k)=4294967296:=by rw[<- Nat.pow_add,show k+(32-k)=32 by omega]
   rw[<- this];exact Nat.mul_lt_mul_of_pos_right c (Nat.pow_pos (Nat.succ_pos 1))
  .simp (disch:=omega) only[uI,V,uW,t308,lA,q316,d,xA,yC,A2]
   grind
end Go.Proofs
namespace Go.Am
variable {B i x:Nat}{l:List Nat}
theorem Vy{p:List Nat}{n:Nat}:(p++List.replicate (n+1) 0).set p.length x=(p++[x])++List.replicate n 0:=by
 grind
theorem zQ(B:Nat)(l:List Nat)(x:Nat):A4 B (l++[x])=A4 B l+B^l.length*x:=by rw[Ml];simp[A4]
theorem Cv   (h:pB B l)(a:x<B):pB B (l++[x]):=TN h λy b=>by simp_all
def zae {r w d:Nat}(a:r<d)(c:w<B):(r*B+w) / d<B:=by
 have b:0<d:=by omega
 refine P8 ?_;have:(r+1)*B<=d*B:=D3 B a
 grind
def yT  (h:l[i]?=some x):l.take (i+1)=l.take i++[x]:=by rw[ydg,h];rfl
def xU  (h:l[i]?=some x):l.drop i=x::l.drop (i+1):=by
 have a:=(F6.1 h);rw[G0 a.1,a.2]
end Go.Am
namespace Go.Am
open Go Go.RowKit
variable {el n sz:Nat}{v:O}{cl:List (List O)}
section
variable {t:G vA}{C:fA}
def zgd{c:G O}  : ∀(cl:List (List O)) (off:Nat),(∀(i:Nat) cs,cl[i]?=some cs->cs.length=sz/\∀(j:Nat) a,cs[j]?=some a->c.c (off+i*sz+j)=some a)->c.u (cl.length*sz) off=some cl.flatten:=by
 intro cl;induction cl with
 | nil=>intro off _;simp;rfl
 | cons cs cl o=>
  intro off h;obtain⟨t,u⟩:=h 0 cs (by simp);have e:=o (off+sz) λi d v=>by
   obtain⟨q,s⟩:=h (i+1) d (by simp_all)
   grind
  have p:∀(n:Nat) (l r:List O) (off:Nat),l.length=n->(∀(j:Nat) a,l[j]?=some a->c.c (off+j)=some a)->∀m,c.u m (off+n)=some r->c.u (n+m) off=some (l++r):=by
   intro n;induction n with
   | zero=>
    simp_all
   | succ n f=>
    intro l r off k g m x
    cases l with
    | nil=>simp at k
    | cons a l=>
     rw[show n+1+m=(n+m)+1 by omega,G.aw];have:=g 0 a (by simp);rw[L1]at this;rw[this,mA,f l r (off+1) (by simp_all) (λj b w=>by
      have:=g (j+1) b (by simp_all)
      grind) m (by grind)]
     rfl
  grind [Nat.add_mul]
def nO.a   (h:nO t sz v cl)  : dY ⟨n,t⟩ sz cl.length v=some cl.flatten/\Hp v=some cl.length:=by
 rcases h with⟨rfl,rfl⟩ | ⟨b,a,d,rfl,_,⟨c,m,r,f,_⟩,g⟩
 .exact⟨rfl,rfl⟩
 .refine⟨?_,rfl⟩;unfold dY;simp only[O.u];unfold fD;rw[f,mA];simp only[vA.a,mA];refine zgd cl a λi e j=>?_;obtain⟨o,l,s,k,p,q⟩:=g i e j
  simp_all
theorem Eu  : ∀ {cl:List (List O)},(∀(i:Nat) cs,cl[i]?=some cs->cs.length=sz)->cl.flatten.length=cl.length*sz:=by
 intro cl;induction cl with
 | nil=>grind
 | cons c cl a=>
  intro h;rw[Z6,E1,Do,D5,a λi cs b=>h (i+1) cs (by simp_all),h 0 c (by simp)];omega
theorem eY  : ∀ {cl:List (List O)},(∀(i:Nat) cs,cl[i]?=some cs->cs.length=sz)->∀(i j:Nat) cs a,cl[i]?=some cs->cs[j]?=some a->cl.flatten[i*sz+j]?=some a:=by
 intro cl;induction cl with
 | nil=>simp_all
 | cons c cl f=>
  intro h i j cs a d e;have b:=h 0 c (by simp);rw[Z6]
  cases i with
  | zero=>
   grind
  | succ i=>
   rw[T6 (by grind),b,show(i+1)*sz+j-sz=i*sz+j by grind];exact f (λi cs d=>h (i+1) cs (by simp_all)) i j cs a (by simp_all) e
def nO.e   (h:nO t sz v cl):∀(i:Nat) cs,cl[i]?=some cs->cs.length=sz:=by
 rcases h with⟨rfl,rfl⟩ | ⟨b,c,a,rfl,_,_,d⟩
 all_goals grind
theorem FP  {t':G vA}{lo:Option Lo}(d:∀(i:Nat) cs,cl[i]?=some cs->cs.length=sz)(h:t'.c n=some (.aa (G.ac cl.flatten) (wB cl.flatten) lo))(b:lo=none\/∃x,lo=some x/\x.c=sz):nO t' sz (.m n 0 cl.length cl.length) cl:=
 .inr ⟨n,0,cl.length,rfl,B3 _,⟨_,_,_,h,b⟩,λi cs c=>⟨d i cs c,_,_,_,h,λj a e=>by
  grind [G.o,eY]⟩⟩
def NB (C:fA)(el:Nat):Prop:=∀y,C.b.c el=some y->zhm y=false
def NB.a {z:jD}(h:NB C el)(a:C.b.c el=some z):lN el z=.b z.b:=by
 unfold lN;rw[h z a,E5];rfl
structure Fw (C:fA) (T el sz:Nat):Prop where
 ty:∃y,C.b.c T=some y/\y.a.a=some el/\Nat.beq y.a.l 1=false
 el:∃y,C.b.c el=some y/\y.b=sz/\wB y.c=sz/\y.d<=500/\0<sz
structure eS (C:fA) (T e sz:Nat):Prop where
 ty:∃y,C.b.c T=some y/\y.a.a=some e/\Nat.beq y.a.l 1=false
 el:∃y,C.b.c e=some y/\y.b=sz/\wB y.c=sz/\y.d<=500/\0<sz
 nb:NB C e
def TI{T:Nat}(F:eS C T el sz){l:List D}{x s:O}(L:bA t sz l x)(Z:l.length<1000000) (hn:t.c n=none)
  (K:s=.g\/∃b c m,s=.m b 0 0 0/\t.c b=some (.aa c m none)) :
  ∃v H',mG C T T s x ⟨n,t⟩=some (v,H')/\bA H'.t sz l v/\zB t H'.t/\nF n t H'.t:=by
 obtain⟨⟨y,M,N,P⟩,⟨z,o,g,Q,p,R⟩,k⟩:=F;have j:=NB.a k o;obtain⟨cl,A,f⟩:=L;have H:=f.g;obtain⟨X,B⟩:=A.a (n:=n);have e:=A.e
 have d:mG C T T s x ⟨n,t⟩=(match s.u with
  | some s=>bif Nat.ble (s.2.2.1+cl.length) s.2.2.2 then Cj C ⟨n,t⟩ z cl.length cl.flatten s else Ao C ⟨n,t⟩ el z cl.length cl.flatten s
  | none=>tB (Nat.beq s.aa 5) (zX ⟨n,t⟩ el z cl.length cl.flatten)):=by
  unfold mG Ba;grind [mA,xE]
 have I:wB cl.flatten=cl.length*sz:=by grind [eD,Eu]
 have E:fY z 0 0 cl.length cl.flatten=true:=by
  unfold fY;have U:Nat.blt (0+cl.length+0) 1000000000=true:=gC.2 (by omega);have W:Nat.blt ((0+cl.length+0)*z.d) 1000000000=true:=gC.2 (by
   have:=G5 (show 0+cl.length+0<=1000000 by omega) p;omega)
  grind [gC,bC]
 have a:∀(q:vA),zB t (t.d n q)/\nF n t (t.d n q):=λq=>⟨λc u w=>by
   grind [G.aa],λc w=>by rw[G.aa,A3 w]⟩
 rcases K with rfl | ⟨b,c,m,rfl,r⟩
 .by_cases h:cl.length=0
  .have:cl=[]:=ma.1 h;subst this;refine⟨.g,⟨n,t⟩,?_,⟨[],.inl ⟨rfl,rfl⟩,f⟩,zB.f _,nF.d _ _⟩;rw[d];rfl
  .refine⟨.m n 0 cl.length cl.length,⟨n+1,t.d n (.aa (G.ac cl.flatten) (wB cl.flatten) (some (lN el z)))⟩,?_,⟨cl,FP e (show(t.d n _).c n=_ by rw[G.aa,A5 rfl]) (.inr ⟨_,rfl,by rw[Ox,g]⟩),wD.f (a _).1 _ _ f⟩,(a _).1,(a _).2⟩;rw[d];simp only[O.u];show tB true (zX ⟨n,t⟩ el z cl.length cl.flatten)=_;rw[xE];unfold zX;have:Nat.beq cl.length 0=false:=by
    grind [bC]
   rw[this,cond_false,E];rfl
 .by_cases h:cl.length=0
  .have:cl=[]:=ma.1 h;subst this;refine⟨.m b 0 0 0,⟨n,t⟩,?_,⟨[],.inr ⟨b,0,0,rfl,B3 _,⟨c,m,none,r,.inl rfl⟩,λi S J=>by simp at J⟩,f⟩,zB.f _,nF.d _ _⟩;rw[d];rfl
  .refine⟨.m n 0 cl.length cl.length,⟨n+1,t.d n (.aa (G.ac cl.flatten) (wB cl.flatten) (some (lN el z)))⟩,?_,⟨cl,FP e (show(t.d n _).c n=_ by rw[G.aa,A5 rfl]) (.inr ⟨_,rfl,by rw[Ox,g]⟩),wD.f (a _).1 _ _ f⟩,(a _).1,(a _).2⟩;rw[d];simp only[O.u];have:Nat.ble (0+cl.length) 0=false:=by
    grind [rF]
   rw[this,cond_false];unfold Ao;simp only[];rw[show ∀x,(!(Nat.beq 0 1&&x))=true from λ_=>rfl,xE,E,xE];unfold fD;rw[r,mA];simp only[vA.a,mA];unfold Of;simp only[Nat.zero_mul];show ob (c.u 0 0) _=_;rw[show c.u 0 0=some [] from rfl,mA];rw[xI,E8,D8];rfl
end
end Go.Am
namespace Go.Proofs
open Go Go.Am
variable {b el n:Nat}{y z:jD}{l:List Nat}{v:O}{Q:lB}{k:IntKind}{neg:Bool}
variable [fC]
variable {t:G vA}
def qb:eS Y 253 254 1:=⟨⟨_,tN,rfl,rfl⟩,⟨_,tI,rfl,rfl,by decide,by decide⟩,λy h=>by rw[tI]at h;cases h;rfl⟩
def oe{T:Nat} (d:Y.b.c T=some y)(a:y.a.a=some el)(e:Y.b.c el=some z)(h:wB z.c=z.b) (f:t.c b=none) :
  ∃H',sD Y T 0 [] ⟨b,t⟩=some (.m b 0 0 0,H')/\(∃c,H'.t.c b=some (.aa c 0 none))/\zB t H'.t:=by
 refine⟨tG ⟨b,t⟩ [] none,?_,⟨G.ac [],?_⟩,?_⟩
 .unfold sD;rw[d,mA,a,mA,e,mA];have:(Nat.blt (0*z.b) 1000000&&Nat.beq (wB z.c) z.b)=true:=by simp_all
  rw[this];rfl
 .show(t.d b _).c b=_;rw[G.aa,A5 rfl];rfl
 .intro c u g;show(t.d b _).c c=_
  grind [G.aa]
def zoe   (f:bA t 1 (uC .u32 l) v)(z:l.length<1000000)
  (p:∀t' v',zB t t'->bA t' 1 (uC .u32 l) v'->Q v' t'):Wc Y F 307 [v] t Q:=by
 refine w307 ?_;have e:(rU .eql).f Y 253 (.tmp 3) (.const (.slice none 0 0)) v .g=some (.d (Nat.beq v.aa 5)):=by
  obtain⟨y,o,_⟩:=f;rcases o with⟨rfl,_⟩ | ⟨b,s,g,rfl,_⟩
  .kernel_rfl
  .kernel_rfl
 simp only[uB,t307,lA,e,xA,Il];split
 .grind [pZ,bC,zB.f]
 .intro b q a;obtain⟨x,h,⟨c,i⟩,d⟩:=oe (t:=t) tN rfl tI rfl q;rw[h];simp only[xA];intro n r _;obtain⟨u,w,j,k,m,_⟩:=TI qb (f.a d) (by grind [sH]) r (.inr ⟨b,c,0,rfl,i⟩);rw[j];simp only[xA];exact p _ _ (d.d m) k
def Re(n:Nat):List Nat:=xF [n%4294967296,n / 4294967296]
theorem UL(n:Nat):A4 4294967296 (Re n)=n:=by grind [Re,jU,A4]
theorem ZU (h:n<18446744073709551616):pB 4294967296 (Re n):=yW λx a=>by
 grind
theorem XQ(n:Nat):B4 (Re n):=sY _
def DS{T:Nat}  (e:Y.b.c T=some y)(d:y.a.a=some el)(g:Y.b.c el=some z)(a:z.c=[.e k 0])(f:z.b=1)(x:Nat)(m:True) (h:t.c b=none) :
  ∃H',sD Y T 1 [(0,.e k (x:Int))] ⟨b,t⟩=some (.m b 0 1 1,H')/\aG H'.t b k [x]/\zB t H'.t:=by
 refine⟨tG ⟨b,t⟩ [.e k (x:Int)] none,?_,⟨G.ac [.e k (x:Int)],?_,λj u l=>?_⟩,?_⟩
 .unfold sD;rw[e,mA,d,mA,g,mA,f,a];rfl
 .show(t.d b _).c b=_;rw[G.aa,A5 rfl];rfl
 .grind [G.o]
 .intro c u i;show(t.d b _).c c=_
  grind [G.aa]
def zmn{T:Nat}  (e:Y.b.c T=some y)(d:y.a.a=some el)(g:Y.b.c el=some z)(a:z.c=[.e k 0])(f:z.b=1)(x x':Nat) (h:t.c b=none) :
  ∃H',sD Y T 2 [(0,.e k (x:Int)),(1,.e k (x':Int))] ⟨b,t⟩=some (.m b 0 2 2,H')/\aG H'.t b k [x,x']/\zB t H'.t:=by
 refine⟨tG ⟨b,t⟩ [.e k (x:Int),.e k (x':Int)] none,?_,⟨G.ac [.e k (x:Int),.e k (x':Int)],?_,λj u l=>?_⟩,?_⟩
 .unfold sD;rw[e,mA,d,mA,g,mA,f,a];rfl
 .show(t.d b _).c b=_;rw[G.aa,A5 rfl];rfl
 .grind [G.o]
 .intro c u i;show(t.d b _).c c=_
  grind [G.aa]
theorem zlh  (o:n<18446744073709551616)(j:∀t' v',zB t t'->bA t' 1 (uC .u32 (Re n)) v'->Q v' t'):Wc Y F 304 [.e .u64 n] t Q:=by
 refine w304 ?_;have d:cA .u32 (n:Int)=((n%4294967296:Nat):Int):=by rw[nX];omega
 have e:cA .u32 (Int.fdiv (n:Int) 4294967296)=((n / 4294967296:Nat):Int):=by
  rw[show Int.fdiv (n:Int) 4294967296=((n / 4294967296:Nat):Int) from Ib _ 4294967296,mX (by omega) (by omega)]
 simp only[t304,lA,d,e];intro b m _;obtain⟨c,f,g,h⟩:=zmn (t:=t) (k:=.u32) tN rfl tI rfl rfl (n%4294967296) (n / 4294967296) m;rw[f];simp only[xA];obtain⟨v',a,i⟩:=Gn (l:=[n%4294967296,n / 4294967296]) (by simp) (g.m (B3 _));simp only[en];have a:oB Y F 247 [.m b 0 2 2] c.t=some v':=a;rw[a];exact j _ _ h i
def UX     (hv:bA t 1 (uC .u32 l) v)(hl:l.length<400000)(o:pB 4294967296 l)(B:l≠[])(g:B4 l)(a:Y.a<=b)(K:t.c b=none)
  (hQ:∀t' v',zB t t'->bA t' 1 (uC .u16 (xF (jI l))) v'->Q (.i [.d neg,v']) t'):∀(k i:Nat) (t':G vA),i+k=l.length->zB t t'->aG t' b .u16 (jI (l.take i)++List.replicate (2*k) 0) →
  jp 248 2 [.d neg,.m b 0 (2*l.length) (2*l.length),v,.e .i64 l.length,.e .i64 i,.d false,.g] t' Q:=by
 intro k;induction k with
 | zero=>
  intro i t' hi F p;refine zqp ?_;rw[L0 (by omega),se,List.replicate_zero,C8]at p;obtain⟨m,w,rfl⟩:=Xh B;have hw:w≠0:=by have:=g (by simp);simp_all
  have L:w<4294967296:=o w (by simp);have I:(jI (m++[w])).length=2*(m++[w]).length:=Qo _;have a6:(m++[w]).length=m.length+1:=by simp
  have f:(jI (m++[w]))[2*m.length+1]?=some (w / 65536):=by
   grind [Qp]
  have e:=p.m (cap:=2*(m++[w]).length) (by omega);rw[I]at e;have h:zC Y 22 (.m b 0 (2*(m++[w]).length) (2*(m++[w]).length)) (.e .i64 ((2*m.length+1:Nat):Int))=some (.j b (0+(2*m.length+1)*1)):=Gk Dl (by omega);rw[show 0+(2*m.length+1)*1=2*m.length+1 by omega]at h;have X:=p.f f Gl rfl;have s:((2*(m++[w]).length:Nat):Int)-1=((2*m.length+1:Nat):Int):=by omega
  have n:vC (.m b 0 (2*(m++[w]).length) (2*(m++[w]).length))=some (.e .i64 ((2*(m++[w]).length:Nat):Int)):=rfl;have a1:2*m.length+1<1000000:=by omega
  simp (disch:=omega) only[uI,uL,uH,aB,tC,V,uW,yc,lA,kE,n,xA,yC,s,A2,h,X,fI];rw[A3 (by omega)];by_cases hz:w / 65536=0
  .rw[A5 (by omega)];obtain⟨u,Z,g6⟩:=gG.f Dl e (k:=2*m.length+1) (by grind [sH]);rw[Z];simp only[xA];have q:oD O.z [.d neg,u]=true:=by
    show(bif O.z (.d neg)then(bif O.z u then true else false)else false)=true;rw[g6.e];rfl
   grind [RJ,IN,Qp,Qo]
  .rw[A3 (by omega)];have q:oD O.z [.d neg,.m b 0 (2*(m++[w]).length) (2*(m++[w]).length)]=true:=rfl
   grind [IN]
 | succ k ih=>
  intro i t' hi F p;obtain⟨x,J⟩:=A6 (l:=l) (i:=i) (by omega);have M:x<4294967296:=yN o J;obtain⟨c,off,U,W⟩:=(hv.a F).f bH J;have H:(l.take i).length=i:=by grind
  have r:(jI (l.take i)).length=2*i:=by rw[Qo,H]
  have A:(jI (l.take i)++List.replicate (2*(k+1)) 0).length=2*l.length:=by grind
  have h:∀j,j<2*l.length->zC Y 22 (.m b 0 (2*l.length) (2*l.length)) (.e .i64 (j:Int))=some (.j b j):=by
   intro j hj;have:=Gk (b:=b) (off:=0) (cap:=2*l.length) Dl hj
   simp_all
  have y:=h (2*i) (by omega);have z:=h (2*i+1) (by omega);obtain⟨t1,s1,N,s3⟩:=p.e (C:=Y) a (j:=2*i) (by omega) (x%65536) Gl rfl;have D:(jI (l.take i)++List.replicate (2*(k+1)) 0).set (2*i) (x%65536)=(jI (l.take i)++[x%65536])++List.replicate (2*k+1) 0:=by
   grind [Vy]
  rw[D]at N;obtain⟨t2,s4,P,s6⟩:=N.e (C:=Y) a (j:=2*i+1) (by simp[r]) (x / 65536) Gl rfl;have E:((jI (l.take i)++[x%65536])++List.replicate (2*k+1) 0).set (2*i+1) (x / 65536)=jI (l.take (i+1))++List.replicate (2*k) 0:=by
   have hq:(jI (l.take i)++[x%65536]).length=2*i+1:=by simp[r]
   rw[<- hq,Vy,yT J,Qp];simp
  rw[E]at P;have s:cA .u16 (x:Int)=((x%65536:Nat):Int):=by rw[zcg];omega
  have R:cA .u16 (Int.fdiv (x:Int) 65536)=((x / 65536:Nat):Int):=by
   rw[show Int.fdiv (x:Int) 65536=((x / 65536:Nat):Int) from Ib _ 65536,zkb (by omega) (by omega)]
  have S:(2:Int)*(i:Int)=((2*i:Nat):Int):=by omega
  have T:((2*i:Nat):Int)+1=((2*i+1:Nat):Int):=by omega
  refine zqp ?_;simp (disch:=omega) only[uI,uL,uH,aB,tC,V,uW,yc,lA,kE,U,W,xA,yC,s,R,S,T,A2,y,z];rw[A5 (by omega)];intro d _ _;rw[s1];simp only[xA];intro d' _ _;rw[s4];simp only[xA];have:=ih (i+1) t2 (by omega) ((F.g K s3).g K s6) P
  grind
def AO    (r:bA t 1 (uC .u32 l) v)(w:l.length<400000)(e:pB 4294967296 l)
  (p:∀t' v',zB t t'->bA t' 1 (uC .u16 (xF (jI (xF l)))) v'->Q (.i [.d (if xF l=[]then false else neg),v']) t'):Wc Y F 248 [.d neg,v] t Q:=by
 refine w248 ?_;obtain⟨u,o,f⟩:=Gn (l:=l) (by omega) r;have q:=Qx l;simp only[uI,V,uW,t248,lA,en,o,xA,f.c,yC,sH,fI];by_cases d:xF l=[]
 .rw[A5 (by grind)];simp only[if_true];have:=p t .g (zB.f _) (by rw[d];exact⟨[],.inl ⟨rfl,rfl⟩,by simp[jI,xF,uC,wD]⟩)
  simp_all
 .have h:0<(xF l).length:=List.length_pos_iff.2 d;rw[A3 (by omega)];have i:(2:Int)*((xF l).length:Int)=((2*(xF l).length:Nat):Int):=by omega
  simp (disch:=omega) only[i,A2];intro b g c;obtain⟨t',j,s,m,_⟩:=Kv (C:=Y) (k:=.u16) N8 rfl Gl rfl rfl (by decide) (n:=2*(xF l).length) (by omega) g;rw[j];simp only[xA];refine UX f (by omega) (yW e) d (sY l) c g (λx y a b=>?_) (xF l).length 0 t' (by omega) m (by grind [jI])
  simp_all
end Go.Proofs
namespace Go.Proofs
open Go Go.Am
section
variable {b d s x:Nat}{l:List Nat}{v:O}{Q:lB}
variable [fC]
variable {t:G vA}
def La{T el:Nat}(h:gG Y T el 1 false){n cap j:Nat}(a:j<n):zC Y T (.m b 0 n cap) (.e .i64 (j:Int))=some (.j b j):=by
 have:=Gk (b:=b) (off:=0) (cap:=cap) h a
 simp_all
theorem OS (b:s<64)(c:x*2^s<18446744073709551616):Al .u64 (x:Int) (s:Int)=some (.e .u64 ((x*2^s:Nat):Int)):=by
 unfold Al Jz;have:wO (s:Int)=some s:=rfl;rw[this,mA,mA];have a:min s (IntKind.bits .u64)=s:=by show min s 64=s;omega
 rw[a];have e:(x:Int)*Int.ofNat (2^s)=((x*2^s:Nat):Int):=by simp_all
 rw[e,iG (by omega) (by omega)]
def OR (b:s<65):dw .u64 (x:Int) (s:Int)=some (.e .u64 ((x / 2^s:Nat):Int)):=by
 unfold dw Jz;have:wO (s:Int)=some s:=rfl;rw[this,mA,mA];have a:min s (IntKind.bits .u64)=s:=by show min s 64=s;omega
 rw[a];have e:Int.fdiv (x:Int) (Int.ofNat (2^s))=((x / 2^s:Nat):Int):=Ib x (2^s);rw[e]
def zfm (a:s<32):2^s<=2147483648:=O8 (n:=2) (by decide) (show s<=31 by omega)
def KZ (a:s<=32):2^s*2^(32-s)=4294967296:=by rw[<- Nat.pow_add,show s+(32-s)=32 by omega]
def zt2 (a:s<=32):(x*2^s%4294967296)%2^s=0:=by
 rw[<- KZ a,E7 x,Nat.mul_mod_mul_left,Nat.mul_mod_right]
def WH    (hv:bA t 1 (uC .u32 l) v)(hl:l.length<900000)(L:pB 4294967296 l)(hs:s<32)(e:Y.a<=b)(T:t.c b=none)
  (hQ:∀t' r,zB t t'->nF b t t'->aG t' b .u32 r->r.length=l.length+1->pB 4294967296 r->A4 4294967296 r=A4 4294967296 l*2^s->Q (.m b 0 (l.length+1) (l.length+1)) t') :
  ∀(k i:Nat) (t':G vA) (P:List Nat) (c:Nat),i+k=l.length->zB t t'->nF b t t'->aG t' b .u32 ((P++[c])++List.replicate k 0)->P.length=i->c<2^s->pB 4294967296 P->A4 4294967296 P+4294967296^i*c=A4 4294967296 (l.take i)*2^s →
  jp 309 2 [.e .i64 s,.m b 0 (l.length+1) (l.length+1),v,.e .i64 l.length,.e .i64 i] t' Q:=by
 have a1:=zfm hs
 intro k;induction k with
 | zero=>
  intro i t' P c hi H h B w U u m;refine zqh ?_;simp only[uL,uE,tC,V,yk,lA,kE];rw[A3 (by omega)];rw[List.replicate_zero,C8]at B;refine hQ t' (P++[c]) H h B (by grind) (Cv u (by omega)) ?_;rw[zQ,w,m,L0 (by omega)]
 | succ k ih=>
  intro i t' P c hi H h B w U u m;obtain⟨x,S⟩:=A6 (l:=l) (i:=i) (by omega);have E:x<4294967296:=yN L S;obtain⟨d,a7,g1,g2⟩:=(hv.a H).f bH S;have a6:x*2^s<4294967296*2^s:=Nat.mul_lt_mul_of_pos_right E (Nat.pow_pos (by decide));have F:x*2^s<18446744073709551616:=by
   omega
  have o:=zt2 (x:=x) (s:=s) (by omega);have A:Nat.lor c (x*2^s%4294967296)=x*2^s%4294967296+c:=by
   have:=jl (a:=x*2^s%4294967296) (b:=c) (n:=s) U o
   simp_all [Nat.or_comm]
  have D:x*2^s%4294967296+c<4294967296:=by
   have h1:x*2^s%4294967296<4294967296:=G2 _ (by decide);have h2:(4294967296:Nat)%2^s=0:=by rw[<- KZ (s:=s) (by omega),Nat.mul_mod_right]
   obtain⟨p,hp⟩:=Nat.dvd_of_mod_eq_zero o;obtain⟨q,hq⟩:=Nat.dvd_of_mod_eq_zero h2;have M:p<q:=by
    rcases P6 p q with g | g
    .exact g
    .have:=F1 (2^s) g;omega
   have:=F1 (2^s) (show p+1<=q from M)
   grind
  have f:x*2^s / 4294967296<2^s:=P8 (by omega);have K:((P++[c])++List.replicate (k+1) 0).length=l.length+1:=by simp;omega
  have I:=La bH (b:=b) (n:=l.length+1) (cap:=l.length+1) (j:=i) (by omega);have J:=La bH (b:=b) (n:=l.length+1) (cap:=l.length+1) (j:=i+1) (by omega);have g4:=B.f (j:=i) (x:=c) (by simp_all [T6]) tI rfl;obtain⟨t1,s1,W,X⟩:=B.e (C:=Y) e (j:=i) (by omega) (x*2^s%4294967296+c) tI rfl;have N:((P++[c])++List.replicate (k+1) 0).set i (x*2^s%4294967296+c)=(P++[x*2^s%4294967296+c])++List.replicate (k+1) 0:=by
   simp_all
  rw[N]at W;obtain⟨t2,s4,Z,s6⟩:=W.e (C:=Y) e (j:=i+1) (by grind) (x*2^s / 4294967296) tI rfl;have R:((P++[x*2^s%4294967296+c])++List.replicate (k+1) 0).set (i+1) (x*2^s / 4294967296)=((P++[x*2^s%4294967296+c])++[x*2^s / 4294967296])++List.replicate k 0:=by
   have hq:(P++[x*2^s%4294967296+c]).length=i+1:=by simp[w]
   grind [Vy]
  rw[R]at Z;refine zqh ?_;have e1:cA .u32 ((x*2^s:Nat):Int)=((x*2^s%4294967296:Nat):Int):=by rw[nX];omega
  have e2:cA .u32 (Int.fdiv ((x*2^s:Nat):Int) 4294967296)=((x*2^s / 4294967296:Nat):Int):=by
   rw[show Int.fdiv ((x*2^s:Nat):Int) 4294967296=((x*2^s / 4294967296:Nat):Int) from Ib _ 4294967296];generalize x*2^s=z at f ⊢;rw[mX (by omega) (by omega)]
  simp (disch:=omega) only[uL,uE,tC,V,yk,lA,kE,g1,g2,xA,yC,iG,I,g4];rw[A5 (by omega),OS (by omega) F];simp only[xA,yC,e1];have e3:jJ Nat.lor .u32 (c:Int) ((x*2^s%4294967296:Nat):Int)=some (.e .u32 ((x*2^s%4294967296+c:Nat):Int)):=by
   rw[kY (k:=.u32) (x:=c) (y:=x*2^s%4294967296) (show c<aH .u32 by show c<4294967296;omega) (by show x*2^s%4294967296<4294967296;omega),A]
  rw[e3];simp only[xA,yC];intro _ _ _;rw[s1];simp (disch:=omega) only[xA,A2];rw[show(i:Int)+1=((i+1:Nat):Int) by omega,J];simp only[xA,e2];intro _ _ _;rw[s4];simp only[xA];refine ih (i+1) t2 _ _ (by omega) ((H.g T X).g T s6) ((h.a X).a s6) Z (by simp[w]) f (Cv u D) ?_;rw[zQ,w,yT S,zQ,D5,<- m];have:(l.take i).length=i:=by simp;omega
  grind [Nat.div_add_mod]
def JE    (j:bA t 1 (uC .u32 l) v)(u:l.length<900000)(i:pB 4294967296 l)(w:s<32)
  (q:∀t' b r,zB t t'->t.c b=none->Y.a<=b->aG t' b .u32 r->r.length=l.length+1->pB 4294967296 r->A4 4294967296 r=A4 4294967296 l*2^s->Q (.m b 0 (l.length+1) (l.length+1)) t'):Wc Y F 309 [v,.e .i64 s] t Q:=by
 refine w309 ?_;simp (disch:=omega) only[uI,tC,V,t309,lA,j.c,xA,yC,sH,A2];intro b h g;obtain⟨t',m,z,o,p⟩:=Kv (C:=Y) (k:=.u32) tN rfl tI rfl rfl (by decide) (n:=l.length+1) (by omega) h;rw[show(l.length:Int)+1=((l.length+1:Nat):Int) by omega,m];simp only[xA];have:=WH j u i w g h (λt' r a _ c d e f=>q t' b r a h g c d e f) l.length 0 t' [] 0 (by omega) o p (by grind) rfl (Nat.pow_pos (by decide)) (λx y=>by cases y) (by simp[A4])
 exact this
def YO    (S:bA t 1 (uC .u32 l) v)(hl:l.length<900000)(z:pB 4294967296 l)(P:d<4294967296)(u:0<d)(f:Y.a<=b)(N:t.c b=none)
  (hQ:∀t' v' q r,zB t t'->bA t' 1 (uC .u32 (xF q)) v'->pB 4294967296 q->q.length=l.length->r<d->A4 4294967296 l=A4 4294967296 q*d+r->Q (.p [v',.e .u32 (r:Nat)]) t') :
  ∀(i:Nat) (t':G vA) (q:List Nat) (r:Nat),i<=l.length->zB t t'->aG t' b .u32 (List.replicate i 0++q)->q.length=l.length-i->pB 4294967296 q->r<d->A4 4294967296 (l.drop i)=A4 4294967296 q*d+r →
  jp 236 2 [v,.e .u32 d,.m b 0 l.length l.length,.e .u32 r,.e .i64 ((i:Int)-1)] t' Q:=by
 intro i;induction i with
 | zero=>
  intro t' q r _ D s R k A p;refine zqq ?_;simp only[uL,uX,V,uW,yb,lA,mI];rw[A3 (by omega)];rw[List.replicate_zero,E8]at s;have a:=s.m (B3 _);have g:q.length=l.length:=by omega
  rw[g]at a;obtain⟨v',M,h2⟩:=Gn (l:=q) (by omega) a;simp only[en,M,xA];grind
 | succ i T=>
  intro t' q r hi D s R k A p;obtain⟨x,E⟩:=A6 (l:=l) (i:=i) (by omega);have e:x<4294967296:=yN z E;obtain⟨c,U,J,K⟩:=(S.a D).f bH E;have I:((i+1:Nat):Int)-1=(i:Int):=by omega
  have L:=La bH (b:=b) (n:=l.length) (cap:=l.length) (j:=i) (by omega);have w:(List.replicate (i+1) 0++q).length=l.length:=by grind
  have h:=znu (t:=t') A e P;have m:(r*4294967296+x) / d<4294967296:=zae A e;have o:(r*4294967296+x)%d<d:=G2 _ u;obtain⟨Z,W,H,X⟩:=s.e (C:=Y) f (j:=i) (by omega) ((r*4294967296+x) / d) tI rfl;have B:(List.replicate (i+1) 0++q).set i ((r*4294967296+x) / d)=List.replicate i 0++((r*4294967296+x) / d::q):=by
   grind [List.replicate_succ',B8]
  rw[B]at H;rw[I];refine zqq ?_;simp (disch:=omega) only[uL,uX,V,uW,yb,lA,mI,J,K,xA,yC,q268,h,vK,O.ay,mA,L,A2];rw[A5 (by omega)];simp only[yI,If,In,xA,yC];intro _ _ _;rw[W];simp only[xA];refine T Z _ _ (by omega) (D.g N X) H (by grind) ?_ o ?_
  .intro y F;rcases C3.1 F with rfl | F
   .exact m
   .exact k y F
  .rw[xU E]
   grind [A4,Nat.div_add_mod]
def QW    (g:bA t 1 (uC .u32 l) v)(o:l.length<900000)(e:pB 4294967296 l)(m:d<4294967296)(c:0<d)
  (j:∀t' v' q r,zB t t'->bA t' 1 (uC .u32 (xF q)) v'->pB 4294967296 q->q.length=l.length->r<d->A4 4294967296 l=A4 4294967296 q*d+r->Q (.p [v',.e .u32 (r:Nat)]) t'):Wc Y F 236 [v,.e .u32 d] t Q:=by
 refine w236 ?_;simp (disch:=omega) only[uI,V,uW,t236,lA,g.c,xA,yC,sH,A2];intro b f a;obtain⟨t',h,s,i,u⟩:=Kv (C:=Y) (k:=.u32) tN rfl tI rfl rfl (by decide) (n:=l.length) (by omega) f;rw[h];simp only[xA];exact YO g o e m c a f j l.length t' [] 0 (B3 _) i (by simp_all) (by simp) (λx p=>by cases p) c (by simp[A4])
end
section
variable {l:List Nat}{v y:O}{a:Nat}{Q:lB}{I:Nat->G vA->Prop}
variable [fC]
def zio      (u:l.length<1000000)
  (j:∀k t,I k t->oA Y 253 ⟨0,t⟩ (.j a 0)=some v/\bA t 1 (uC .u32 l) v)
  (o:∀k x t,l[k]?=some x->I (k+1) t->∀R:lB,(∀t',I k t'->R (.d true) t')->pD (mM y [.e .u32 (x:Nat)]) λp=>Wq Y F eC p.1 p.2 t R)
  (r:∀t,I 0 t->Q (.p []) t):∀(k:Nat) (t:G vA),k<=l.length->I k t->jp 269 2 [y,.j a 0,.e .i64 ((k:Int)-1)] t Q:=by
 intro k;induction k with
 | zero=>
  intro t _ h;refine zqo ?_;simp only[uL,uB,V,uW,yd,lA,mI];simp_all
 | succ k w=>
  intro t s h;obtain⟨e,n⟩:=j _ _ h;obtain⟨x,b⟩:=A6 (l:=l) (i:=k) (by omega);obtain⟨c,q,f,g⟩:=n.f bH b;have d:((k+1:Nat):Int)-1=(k:Int):=by omega
  rw[d];refine zqo ?_;simp (disch:=omega) only[uL,uB,V,uW,yd,lA,mI,e,f,g,xA,yC,A2];rw[A5 (by omega)];refine o k x t b h _ λt' m=>?_
  grind [O.r,xA]
def zvs     {t:G vA} (e:l.length<1000000)
  (b:∀k t,I k t->oA Y 253 ⟨0,t⟩ (.j a 0)=some v/\bA t 1 (uC .u32 l) v)
  (g:∀k x t,l[k]?=some x->I (k+1) t->∀R:lB,(∀t',I k t'->R (.d true) t')->pD (mM y [.e .u32 (x:Nat)]) λp=>Wq Y F eC p.1 p.2 t R)
  (d:∀t,I 0 t->Q (.p []) t) (h:I l.length t):Wc Y F 269 [y,.j a 0] t Q:=by
 obtain⟨c,f⟩:=b _ _ h;refine w269 ?_;simp (disch:=omega) only[uI,V,uW,t269,lA,c,f.c,sH,xA,yC,A2];exact zio e b g d l.length t (B3 _) h
end
end Go.Proofs
namespace Go.Am
open Go Go.RowKit
variable {b base el k n sz:Nat}{cl cm:List (List O)}{t':G vA}{f:Lo}{l m:List D}{v x:O}
section
variable {t tf:G vA}{C:fA}
def bN (b:t.c n=none)(q:vA):zB t (t.d n q)/\nF n t (t.d n q):=
 ⟨λc u a=>by grind [G.aa],λc a=>by rw[G.aa,A3 a]⟩
def QV   {lo:Option Lo}(c:∀(i:Nat) cs,cl[i]?=some cs->cs.length=sz)(h:t'.c n=some (.aa (G.ac cl.flatten) (wB cl.flatten) lo))(a:lo=none\/∃x,lo=some x/\x.c=sz) (b:cl.length=k):nO t' sz (.m n 0 k k) cl:=by
 grind [FP]
def Nw{T:Nat}{y z:jD}{ps:List (Nat × O)} (g:C.b.c T=some y)(e:y.a.a=some el)(j:C.b.c el=some z)(h:z.b=sz)(k:wB z.c=sz)(l:n*sz<1000000)
  (a:mN (λi=>some (i*sz,sz)) ps (mJ z.c n)=some cl.flatten) (d:∀(i:Nat) cs,cl[i]?=some cs->cs.length=sz) (c:cl.length=n)  (f:t.c b=none) :
  ∃t',sD C T n ps ⟨b,t⟩=some (.m b 0 n n,⟨b+1,t'⟩)/\nO t' sz (.m b 0 n n) cl/\zB t t'/\nF b t t':=by
 refine⟨t.d b (.aa (G.ac cl.flatten) (wB cl.flatten) none),?_,QV d (by rw[G.aa,A5 rfl]) (.inl rfl) c,(bN f _).1,(bN f _).2⟩;unfold sD;rw[g,mA,e,mA,j,mA];have:(Nat.blt (n*z.b) 1000000&&Nat.beq (wB z.c) z.b)=true:=by
  simp_all
 rw[this,xE,h,a];rfl
def dH(f:Lo)(base:Nat)(tf t:G vA)(sz:Nat)(l:List D)(v:O):Prop:=
 (v=.g/\l=[])\/∃b cl c,v=.m b 0 l.length l.length/\base<=b/\tf.c b=none/\t.c b=some (.aa c (l.length*sz) (some f)) ∧
  (∀(i:Nat) d,cl[i]?=some d->d.length=sz/\∀(j:Nat) a,d[j]?=some a->c.c (i*sz+j)=some a)/\wD tf l cl
abbrev oU(base:Nat)(tf t:G vA)(sz:Nat)(l:List D)(v:O):Prop:=dH (.b sz) base tf t sz l v
def oM(v:O)(b:Nat):Prop:=∃o n c,v=.m b o n c
theorem Xv  : ¬ oM .g b:=fun⟨_,_,_,h⟩=>by cases h
theorem Cf{c o:Nat}:oM (.m b o n k) c ↔ c=b:=⟨fun⟨_,_,_,h⟩=>by grind,λh=>by subst h;exact⟨_,_,_,rfl⟩⟩
def dH.r    (e:f.c=sz)(h:dH f base tf t sz l v)(p:zB tf t):bA t sz l v:=by
 rcases h with⟨rfl,rfl⟩ | ⟨b,cl,c,rfl,_,_,g,n,k⟩
 .exact⟨[],.inl ⟨rfl,rfl⟩,pG.2 rfl⟩
 .have d:=k.g;refine⟨cl,.inr ⟨b,0,l.length,by rw[d],by omega,⟨c,_,_,g,.inr ⟨_,rfl,e⟩⟩,λi m o=>⟨(n i m o).1,c,_,_,g,λj a q=>?_⟩⟩,wD.f p _ _ k⟩
  simp_all
def dH.q    (h:dH f base tf t sz l v):vC v=some (.e .i64 (l.length:Int)):=by
 rcases h with⟨rfl,rfl⟩ | ⟨b,cl,c,rfl,_⟩
 .rfl
 .rfl
def dH.s    (h:dH f base tf t sz l v):O.z v=true:=by
 rcases h with⟨rfl,rfl⟩ | ⟨b,cl,c,rfl,_⟩<;>rfl
theorem dH.g{f:Lo}{base sz d:Nat}{l:List D}{v:O}(h:dH f base tf t sz l v):A8 d v v=true:=by
 rcases h with⟨rfl,rfl⟩ | ⟨b,cl,c,rfl,_⟩
 all_goals grind [Am.A8,Nat.beq_refl]
def dH.o{f:Lo}{base sz:Nat}{l:List D}{v:O}(h:dH f base tf t sz l v){b:Nat}(g:oM v b):tf.c b=none/\base<=b/\∃y,t.c b=some y:=by
 rcases h with⟨rfl,rfl⟩ | ⟨c,cl,x,rfl,a,d,e,_⟩
 all_goals grind [Xv,Cf]
def oU.d   {a:G vA}(h:oU base tf t sz l v)(g:zB tf a)(i:∀b,oM v b->t'.c b=t.c b/\a.c b=Option.none):oU base a t' sz l v:=by
 rcases h with⟨rfl,rfl⟩ | ⟨b,cl,c,rfl,d,k,m,e,f⟩
 .exact .inl ⟨rfl,rfl⟩
 .obtain⟨n,j⟩:=i b (Cf.2 rfl);exact .inr ⟨b,cl,c,rfl,d,j,by simp_all,e,wD.f g _ _ f⟩
def TE{T U:Nat} (hT:Fw C T el sz)(hU:∃u,C.b.c U=some u/\Nat.beq u.a.l 1=false)(H:∀z,C.b.c el=some z->lN el z=f)   (hv:dH f C.a tf t sz l v)(g:∀(i:Nat) cs,cm[i]?=some cs->cs.length=sz)(hx:∀n,dY ⟨n,t⟩ sz cm.length x=some cm.flatten/\Hp x=some cm.length)(hm:wD tf m cm)(Z:∀a∈cm.flatten,O.z a=true)(a1:0<m.length)(hl:l.length+m.length<400000) (w:t.c n=none)(h:C.a<=n)(M:zB tf t) :
  ∃t',mG C T U v x ⟨n,t⟩=some (.m n 0 (l.length+m.length) (l.length+m.length),⟨n+1,t'⟩)/\dH f C.a tf t' sz (l++m) (.m n 0 (l.length+m.length) (l.length+m.length))/\zB tf t'/\(∀c,c≠n->¬ oM v c->t'.c c=t.c c):=by
 obtain⟨⟨y,aj,ak,al⟩,⟨z,N,P,am,Q,ao⟩⟩:=hT;have o:=H z N;have q:=hm.g;obtain⟨hf,X⟩:=hx n;obtain⟨u,ah,ai⟩:=hU;have J:=Eu g;have ac:wB cm.flatten=cm.length*sz:=by grind [eD]
 have r:tf.c n=none:=by
  cases hq:tf.c n with
  | none=>rfl
  | some u=>rw[M _ _ hq]at w;cases w
 have base:mG C T U v x ⟨n,t⟩=(match v.u with
  | some s=>bif Nat.ble (s.2.2.1+cm.length) s.2.2.2 then Cj C ⟨n,t⟩ z cm.length cm.flatten s else Ao C ⟨n,t⟩ el z cm.length cm.flatten s
  | none=>tB (Nat.beq v.aa 5) (zX ⟨n,t⟩ el z cm.length cm.flatten)):=by
  unfold mG Ba;grind [mA,xE]
 have A:fY z l.length l.length cm.length cm.flatten=true:=by
  unfold fY;have S:Nat.blt (l.length+cm.length+l.length) 1000000000=true:=gC.2 (by omega);have W:Nat.blt ((l.length+cm.length+l.length)*z.d) 1000000000=true:=gC.2 (by
   have:=G5 (show l.length+cm.length+l.length<=800000 by omega) Q;omega)
  grind [gC,bC]
 rcases hv with⟨rfl,rfl⟩ | ⟨b,cl,c,rfl,a7,a8,B,E,F⟩
 .refine⟨t.d n (.aa (G.ac cm.flatten) (wB cm.flatten) (some f)),?_,.inr ⟨n,cm,G.ac cm.flatten,by simp,h,r,?_,λi cs p=>⟨g i cs p,λj a K=>?_⟩,by simp_all⟩,?_,λc hc _=>(bN w _).2 c hc⟩
  .rw[base];simp only[O.u];show tB true (zX ⟨n,t⟩ el z cm.length cm.flatten)=_;rw[xE];unfold zX;have:Nat.beq cm.length 0=false:=by
    grind [bC]
   have A:fY z 0 0 cm.length cm.flatten=true:=A;rw[this,cond_false,A,xE,q,o];simp only[G1,D8];rfl
  .grind [G.aa]
  .grind [G.o,eY]
  .exact M.d (bN w _).1
 .have ab:=F.g;have aa:b≠n:=by grind
  refine⟨(t.q b).d n (.aa (c.am cm.flatten (l.length*z.b)) ((l.length+cm.length)*z.b) (some f)),?_,.inr ⟨n,cl++cm,c.am cm.flatten (l.length*z.b),by simp,h,r,?_,λi cs p=>?_,?_⟩,λk u hk=>?_,λk af ag=>?_⟩
  .rw[base];simp only[O.u];have:Nat.ble (l.length+cm.length) l.length=false:=by
    grind [rF]
   rw[this,cond_false];unfold Ao;simp only[];rw[show ∀x,(!(Nat.beq 0 1&&x))=true from λ_=>rfl,xE,A,xE];unfold fD;rw[B,mA];simp only[vA.a,mA];unfold Ld;simp only[];have g1:M2 f (lN el z)=true:=by grind [DQ]
   have g2:Nat.ble (l.length*z.b) (l.length*sz)=true:=rF.2 (by simp_all);have g3:Nat.ble (l.length*sz) ((l.length+cm.length)*z.b)=true:=rF.2 (by grind);have g4:oD O.z cm.flatten=true:=by grind [gI]
   have g5:(!Nat.blt b C.a)=true:=by
    grind [gC]
   rw[g1,g2,g3,g4,g5];simp_all
  .rw[G.aa,A5 rfl,P,q,E1]
  .rw[List.getElem?_append]at p;split at p
   .rename_i L;obtain⟨R,k2⟩:=E i cs p;refine⟨R,λj a K=>?_⟩;have ae:j<sz:=by grind
    have:i*sz+j<l.length*sz:=by
     have:=D3 sz (show i+1<=l.length by omega)
     grind
    grind [G.ap]
   .rename_i ad;have R:=g _ cs p;refine⟨R,λj a K=>?_⟩;have I:=eY g _ j cs a p K;have L:=(F6.1 I).1;have e:i*sz=l.length*sz+(i-cl.length)*sz:=by rw[<- D5];simp_all
    grind [G.ap]
  .have a6:∀ {l m:List D} {cl cm:List (List O)},wD tf l cl->wD tf m cm->wD tf (l++m) (cl++cm):=by
    intro l;induction l with
    | nil=>grind [pG]
    | cons d l ih=>
     grind [kD]
   simp_all
  .have S:k≠b:=by grind
   have W:k≠n:=by grind
   rw[G.aa,A3 W,G.e,A3 S];exact M _ _ hk
  grind [G.aa,G.e,Cf]
def TF{T:Nat} (j:Fw C T el sz)(g:∀z,C.b.c el=some z->lN el z=f)   (s:dH f C.a tf t sz l v)(k:nO t sz x cm)(p:wD tf m cm)(d:∀a∈cm.flatten,O.z a=true)(e:0<m.length)(o:l.length+m.length<400000) (q:t.c n=none)(b:C.a<=n)(r:zB tf t) :
  ∃t',mG C T T v x ⟨n,t⟩=some (.m n 0 (l.length+m.length) (l.length+m.length),⟨n+1,t'⟩)/\dH f C.a tf t' sz (l++m) (.m n 0 (l.length+m.length) (l.length+m.length))/\zB tf t'/\(∀c,c≠n->¬ oM v c->t'.c c=t.c c):=by
 obtain⟨y,h,u,i⟩:=j.ty;exact TE j ⟨y,h,i⟩ g s k.e (λn=>k.a (n:=n)) p d e o q b r
def TG{T:Nat}(f:eS C T el sz)   (q:oU C.a tf t sz l v)(r:nO t sz x cm)(k:wD tf m cm)(d:∀a∈cm.flatten,O.z a=true)(e:0<m.length)(j:l.length+m.length<400000) (o:t.c n=none)(b:C.a<=n)(p:zB tf t) :
  ∃t',mG C T T v x ⟨n,t⟩=some (.m n 0 (l.length+m.length) (l.length+m.length),⟨n+1,t'⟩)/\oU C.a tf t' sz (l++m) (.m n 0 (l.length+m.length) (l.length+m.length))/\zB tf t'/\(∀c,c≠n->¬ oM v c->t'.c c=t.c c):=by
 refine TF ⟨f.ty,f.el⟩ (λz h=>?_) q r k d e j o b p;obtain⟨y,g,i,_⟩:=f.el;rw[f.nb.a h,show z=y from D6 (h.symm.trans g),i]
def dH.p    (n:f.c=sz)(h:dH f base tf t sz l v)(q:zB tf t):∃d,zB tf d/\zB d t/\bA d sz l v/\∀b,¬ oM v b->d.c b=tf.c b:=by
 rcases h with⟨rfl,rfl⟩ | ⟨b,cl,c,rfl,x,o,y,s,p⟩
 .exact⟨tf,zB.f _,q,⟨[],.inl ⟨rfl,rfl⟩,pG.2 rfl⟩,λ_ _=>rfl⟩
 .have m:=p.g;refine⟨tf.d b (.aa c (l.length*sz) (some f)),(bN o _).1,λk u g=>?_,⟨cl,.inr ⟨b,0,l.length,by rw[m],by omega,⟨c,_,_,by rw[G.aa,A5 rfl],.inr ⟨_,rfl,n⟩⟩,λi r w=>⟨(s i r w).1,c,_,_,(by rw[G.aa,A5 rfl]),λj a z=>?_⟩⟩,wD.f (bN o _).1 _ _ p⟩,λk g=>by rw[G.aa,A3 (λe=>g (Cf.2 e))]⟩
  .rw[G.aa]at g;split at g
   .simp_all
   .exact q _ _ g
  simp_all
def oU.a   (h:oU base tf t sz l v)(c:zB tf t):∃a,zB tf a/\zB a t/\bA a sz l v/\∀b,¬ oM v b->a.c b=tf.c b:=dH.p rfl h c
end
end Go.Am
namespace Go.Am
open Go Go.RowKit
section
variable {l:List O}{j sz:Nat}{y:jD}{v:O}
def xC (t:G vA)(b:Nat)(lo:Option Lo)(cs:List O):Prop:=∃c,t.c b=some (.aa c cs.length lo)/\∀(j:Nat) a,cs[j]?=some a->c.c j=some a
def lJ(cs:List O)(j:Nat)(l:List O):List O:=cs.take j++(l++cs.drop (j+l.length))
theorem CY{cs:List O} (h:j+l.length<=cs.length):(lJ cs j l).length=cs.length:=by
 grind [lJ]
theorem Kj{cs:List O} (h:j+l.length<=cs.length)(k:Nat):(lJ cs j l)[k]?=if j<=k/\k<j+l.length then l[k-j]? else cs[k]?:=by
 grind [lJ]
section
variable {t tf:G vA}{C:fA}{b:Nat}{lo:Option Lo}{cs:List O}
def xC.p(h:xC t b lo cs):At t b 0 cs:=by
 obtain⟨c,d,e⟩:=h;exact⟨c,_,_,d,λj a f=>by simp_all⟩
def xC.i(h:xC t b lo cs){t':G vA}(k:t'.c b=t.c b):xC t' b lo cs:=by
 obtain⟨c,d,a⟩:=h;exact⟨c,by simp_all,a⟩
def xC.f(h:xC t b lo cs) {a:O}{ty:Nat} (e:C.b.c ty=some y)(c:y.a.h=false)(d:cs[j]?=some a):oA C ty ⟨0,t⟩ (.j b j)=some a:=by
 have:=h.p.d e c d
 simp_all
def xC.m(h:xC t b lo cs)(q:C.a<=b){T:Nat}  (m:C.b.c T=some y)(u:v.s.length=y.b)(r:j+v.s.length<=cs.length)(e:oD O.z v.s=true) :
  ∃t',(∀n,nC C T (.j b j) v ⟨n,t⟩=some (aD,⟨n,t'⟩))/\xC t' b lo (lJ cs j v.s)/\nF b t t':=by
 obtain⟨c,l,p⟩:=h;refine⟨t.d b (.aa (c.am v.s j) cs.length lo),λn=>?_,⟨c.am v.s j,?_,λk a s=>?_⟩,λd o=>by rw[G.aa,A3 o]⟩
 .unfold nC;rw[m,mA];simp only[O.ah,mA];have f:Nat.beq (wB v.s) y.b=true:=by grind [eD,bC]
  rw[f,xE];unfold kK fD;have g:(!Nat.blt b C.a)=true:=by
   grind [gC]
  rw[g,xE,l,mA];simp only[vA.a,mA];have i:Nat.ble (j+wB v.s) cs.length=true:=by simp_all
  rw[i,e];rfl
 all_goals grind [G.aa,CY,Kj,G.ap]
def xC.g(h:xC t b lo cs)(i:C.a<=b){T:Nat}  (g:C.b.c T=some y)(m:y.b=1)(c:v.s=[v])(a:O.z v=true)(l:j<cs.length) :
  ∃t',(∀n,nC C T (.j b j) v ⟨n,t⟩=some (aD,⟨n,t'⟩))/\xC t' b lo (cs.set j v)/\nF b t t':=by
 obtain⟨t',d,k,f⟩:=h.m i g (v:=v) (j:=j) (by simp_all) (by grind) (by rw[c];show(bif O.z v then true else false)=true;simp_all);refine⟨t',d,?_,f⟩;have e:lJ cs j v.s=cs.set j v:=by
  rw[c];apply List.ext_getElem?
  grind [Kj]
 simp_all
def Eb{b:Nat}(c:t.c b=none)(cs:List O)(lo:Option Lo):∃t',tG ⟨b,t⟩ cs lo=⟨b+1,t'⟩/\xC t' b lo cs/\zB t t'/\nF b t t':=
 ⟨t.d b (.aa (G.ac cs) (wB cs) lo),rfl,⟨G.ac cs,by rw[G.aa,A5 rfl,eD],λj a d=>by grind [G.o]⟩,(bN c _).1,(bN c _).2⟩
def gP{b T:Nat} (f:C.b.c T=some y)(g:t.c b=none):∃t',zL C T ⟨b,t⟩=some (.j b 0,⟨b+1,t'⟩)/\xC t' b none y.c/\zB t t'/\nF b t t':=by
 obtain⟨t',a,c,d,e⟩:=Eb g y.c none;refine⟨t',?_,c,d,e⟩;unfold zL;rw[f,mA,<- a]
def Zo{b:Nat} (a:t.c b=none):∃t',nL v ⟨b,t⟩=some (.j b 0,⟨b+1,t'⟩)/\xC t' b none v.s/\zB t t'/\nF b t t':=by
 simp_all [Eb,nL]
def og (base:Nat)(tf t:G vA)(sz:Nat)(l:List D)(b:Nat)(lo:Option Lo):Prop:=
 base<=b/\tf.c b=none/\∃a,xC t b lo a.flatten/\(∀(i:Nat) cs,a[i]?=some cs->cs.length=sz)/\wD tf l a
def og.read{base n:Nat}{l:List D}(h:og base tf t sz l b lo)(e:lo=none\/∃x,lo=some x/\x.c=sz)(q:zB tf t)(p:l.length=n){cap:Nat}(s:n<=cap):bA t sz l (.m b 0 n cap):=by
 obtain⟨_,_,k,⟨c,f,r⟩,m,g⟩:=h;have d:=g.g;refine⟨k,.inr ⟨b,0,cap,by rw[d,p],by omega,⟨c,_,_,f,e⟩,λi cs o=>⟨m i cs o,c,_,_,f,λj a u=>?_⟩⟩,wD.f q _ _ g⟩
 grind [eY]
def zno  : ∀ {cl:List (List O)},(∀(i:Nat) cs,cl[i]?=some cs->cs.length=sz)->∀ {i o:Nat} {cs l:List O},cl[i]?=some cs->o+l.length<=sz->lJ cl.flatten (i*sz+o) l=(cl.set i (lJ cs o l)).flatten:=by
 intro cl h i o cs l f C;have u:i<cl.length:=(F6.1 f).1;have q:=h i cs f;have s:=Eu h;have B:i*sz+sz<=cl.length*sz:=by
  have:=D3 sz (show i+1<=cl.length by omega)
  grind
 have v:(lJ cs o l).length=sz:=by grind [CY]
 have n:∀(k:Nat) c,(cl.set i (lJ cs o l))[k]?=some c->c.length=sz:=by
  grind
 have a:=Eu n;rw[ydh]at a;have e:∀k,k<cl.length*sz->k / sz<cl.length/\k%sz<sz:=by
  intro k g;have b:0<sz:=by
   grind
  simp_all [P8,E7,G2]
 apply List.ext_getElem?;intro k;rw[Kj (by omega)];by_cases g:k<cl.length*sz
 .obtain⟨y,D⟩:=e k g;have r:=P7 k sz;have t:k=k / sz*sz+k%sz:=by grind
  have w:cl[k / sz]?=some cl[k / sz]:=C6 y;have x:=h _ _ w;have j:cl.flatten[k]?=cl[k / sz][k%sz]?:=by
   grind [eY]
  have m:∀c,(cl.set i (lJ cs o l))[k / sz]?=some c->(cl.set i (lJ cs o l)).flatten[k]?=c[k%sz]?:=by
   grind [eY]
  by_cases d:k / sz=i
  .grind [Kj]
  .have p:(cl.set i (lJ cs o l))[k / sz]?=some cl[k / sz]:=by grind
   rw[m _ p,j,A3];intro⟨z,A⟩;apply d;have b:0<sz:=by omega
   exact Nat.div_eq_of_lt_le (by omega) (by grind)
 grind
end
end
section
variable {k n:Nat}{t':G vA}
structure oF where
 aa:List Nat
 ok:G vA->G vA->Prop
 ac:∀ {tf t tf' t':G vA},ok tf t->zB tf tf'->(∀k∈aa,t'.c k=t.c k/\tf'.c k=none)->ok tf' t'
 ah:∀ {tf t:G vA},ok tf t->∀k∈aa,∃y,t.c k=some y
structure xB (base:Nat) (tf t:G vA) (l:List oF):Prop where
 b:zB tf t
 w:(l.flatMap oF.aa).Nodup
 s:∀o∈l,o.ok tf t
 f:∀k∈l.flatMap oF.aa,base<=k/\tf.c k=none
def zK (v:O):List Nat:=match v with | .m b _ _ _=>[b] | _=>[]
theorem Ks{v:O}{k:Nat}:k∈zK v ↔ oM v k:=by
 unfold zK oM;grind
def oC (b:Nat)(lo:Option Lo)(cs:List O):oF where
 aa:=[b]
 ok:=λ_ t=>xC t b lo cs
 ac:=λh _ k=>h.i (k b (by simp)).1
 ah:=λh k a=>by rw[ydd]at a;subst a;obtain⟨c,d,_⟩:=h;simp_all
def iD(base sz:Nat)(l:List D)(v:O):oF where
 aa:=zK v
 ok:=λe t=>oU base e t sz l v
 ac:=λh c k=>h.d c λb a=>k b (Ks.2 a)
 ah:=λh k d=>(h.o (Ks.1 d)).2.2
section
variable {base:Nat}{tf t:G vA}{l A B:List oF}{o o':oF}
def xB.am(h:xB base tf t l) (a:k∈l.flatMap oF.aa):∃y,t.c k=some y:=by
 obtain⟨o,b,a⟩:=List.mem_flatMap.1 a;exact o.ah (h.s o b) k a
def xB.aa(h:xB base tf t l) (b:t.c n=none):n∉l.flatMap oF.aa:=by
 intro a;obtain⟨y,c⟩:=h.am a
 simp_all
def xB.ak(h:xB base tf t l) (b:t.c n=none):tf.c n=none:=by
 cases a:tf.c n with
 | none=>rfl
 | some y=>have:=h.b _ _ a;simp_all
def xB.ah(h:xB base tf t l){b:G vA}(e:zB tf b)(f:zB b t')(c:∀k∈l.flatMap oF.aa,t'.c k=t.c k/\b.c k=none):xB base b t' l:=
 ⟨f,h.w,λo d=>o.ac (h.s o d) e λk a=>c k (List.mem_flatMap.2 ⟨o,d,a⟩),λk a=>⟨(h.f k a).1,(c k a).2⟩⟩
def xB.z(h:xB base tf t l)  (b:t.c n=none)(c:nF n t t'):xB base tf t' l:=
 h.ah (zB.f _) (h.b.g (h.ak b) c) λk a=>⟨c k (λe:k=n=>h.aa b (e ▸ a)),(h.f k a).2⟩
def xB.aw(h:xB base tf t l)  (d:n∉l.flatMap oF.aa)(c:tf.c n=none)(b:nF n t t'):xB base tf t' l:=
 h.ah (zB.f _) (h.b.g c b) λk a=>⟨b k (λe:k=n=>d (e ▸ a)),(h.f k a).2⟩
def xB.r(h:xB base tf t l) {y:vA}(d:n∉l.flatMap oF.aa)(f:t.c n=some y)(c:tf.c n=none):xB base (tf.d n y) t l/\zB tf (tf.d n y):=by
 have b:=(bN (t:=tf) c y).1;refine⟨h.ah b (λk u a=>?_) λk a=>⟨rfl,?_⟩,b⟩
 .rw[G.aa]at a;split at a
  .simp_all
  .exact h.b _ _ a
 .rw[G.aa,A3 (λe:k=n=>d (e ▸ a))];exact(h.f k a).2
def Yj:(A++o::B).flatMap oF.aa=A.flatMap oF.aa++(o.aa++B.flatMap oF.aa):=by simp
theorem xB.aj(h:xB base tf t (A++o::B)) (q:∀k,k∉o.aa->k∉o'.aa->t'.c k=t.c k)(n:∀k∈o'.aa,k∈o.aa\/(t.c k=none/\base<=k))(s:o'.ok tf t')(r:o'.aa.Nodup)(u:zB tf t'):xB base tf t' (A++o'::B):=by
 have d:=h.w;rw[Yj]at d;rw[List.nodup_append]at d;obtain⟨w,g,x⟩:=d;rw[List.nodup_append]at g;obtain⟨z,C,D⟩:=g;have v:∀k,k∈A.flatMap oF.aa\/k∈B.flatMap oF.aa->k∉o.aa/\k∉o'.aa/\t'.c k=t.c k/\base<=k/\tf.c k=none:=by
  intro k a;have m:k∈(A++o::B).flatMap oF.aa:=by rw[Yj];simp only[F5];rcases a with h | h<;>simp[h]
  have i:k∉o.aa:=λl=>by
   grind
  have j:k∉o'.aa:=λl=>by
   rcases n k l with b | b
   .grind
   .obtain⟨y,F⟩:=h.am m
    simp_all
  exact⟨i,j,q k i j,h.f k m⟩
 have f:∀k,k∈(A++o'::B).flatMap oF.aa->(k∈A.flatMap oF.aa\/k∈B.flatMap oF.aa)\/k∈o'.aa:=by
  grind
 refine⟨u,?_,λp E=>?_,λk a=>?_⟩
 .grind
 .have e:p∈A\/p=o'\/p∈B:=by simp_all
  rcases e with b | b | b
  .exact p.ac (h.s p (by simp[b])) (zB.f _) λk a=>by
    grind
  .simp_all
  .exact p.ac (h.s p (by simp[b])) (zB.f _) λk a=>by
    grind
 .rcases f k a with b | b
  .simp_all
  .rcases n k b with c | c
   .exact h.f k (by simp_all)
   .exact⟨c.2,h.ak c.1⟩
def tw:oF:=⟨[],λ_ _=>True,λ_ _ _=>trivial,λ_ _ h=>by cases h⟩
theorem xB.ac(h:xB base tf t (A++B)) (b:∀k,k∉o'.aa->t'.c k=t.c k)(i:∀k∈o'.aa,t.c k=none/\base<=k)(d:o'.ok tf t')(c:o'.aa.Nodup)(j:zB tf t'):xB base tf t' (A++o'::B):=by
 have e:xB base tf t (A++tw::B):=by
  have g:(A++tw::B).flatMap oF.aa=(A++B).flatMap oF.aa:=by simp[tw]
  refine⟨h.b,by rw[g];exact h.w,λo l=>?_,λk b=>h.f k (by simp_all)⟩;have:o∈A\/o=tw\/o∈B:=by simp_all
  rcases this with a | a | a
  .exact h.s o (by simp[a])
  .subst a;trivial
  .exact h.s o (by simp[a])
 exact e.aj (λk _ f=>b k f) (λk b=>.inr (i k b)) d c j
def xB.i(h:xB base tf t (A++o::B)):xB base tf t (A++B):=by
 have b:=h.w;rw[Yj]at b;refine⟨h.b,?_,λp c=>h.s p (by rcases F5.1 c with h | h<;>simp[h]),λk a=>h.f k (by rw[Yj];rw[List.flatMap_append]at a;rcases F5.1 a with h | h<;>simp[h])⟩
 grind
def xB.x(h:xB base tf t (A++o::B)) (b:k∈o.aa):k∉(A++B).flatMap oF.aa:=by
 have a:=h.w
 grind
def xB.g{sz:Nat}{m:List D}{v:O}(h:xB base tf t (A++iD base sz m v::B)):∃a,zB tf a/\xB base a t (A++B)/\bA a sz m v:=by
 have i:oU base tf t sz m v:=h.s (iD base sz m v) (by simp);obtain⟨a,c,e,f,g⟩:=i.a h.b;refine⟨a,c,h.i.ah c e λk d=>⟨rfl,?_⟩,f⟩;have b:¬ oM v k:=λb=>h.x (o:=iD base sz m v) (Ks.2 b) d;rw[g k b];exact(h.i.f k d).2
end
end
section
variable {b cap el k:Nat}{cs:List O}{lo:Option Lo}
section
variable {t tf:G vA}{C:fA}
def ZQ{T m n:Nat}  {x:O}{cm:List (List O)}(D:Fw C T el 1)(E:xC t b lo cs)(R:C.a<=b)(u:nO t 1 x cm)(q:cm.length=m)(P:0<m)(I:k+m<=cap)(p:cap<=cs.length)(s:∀a∈cm.flatten,O.z a=true) :
  ∃t',mG C T T (.m b 0 k cap) x ⟨n,t⟩=some (.m b 0 (k+m) cap,⟨n,t'⟩)/\xC t' b lo (lJ cs k cm.flatten)/\nF b t t':=by
 obtain⟨⟨y,h,i,l⟩,⟨z,o,f,L,M,N⟩⟩:=D;obtain⟨H,e⟩:=u.a (n:=n);have g:=Eu u.e;rw[Nat.mul_one,q]at g;obtain⟨c,B,Q⟩:=E;have J:cm.flatten≠[]:=by grind
 refine⟨t.d b (.aa (c.am cm.flatten k) cs.length lo),?_,⟨c.am cm.flatten k,by rw[G.aa,A5 rfl,CY (by omega)],λj a S=>?_⟩,λd F=>by rw[G.aa,A3 F]⟩
 .unfold mG Ba;rw[h,mA,mA,l];simp only[K4,xE];rw[i,mA,o,mA,e,mA,f,H,mA];simp only[O.u,q];rw[rF.2 I,cond_true];unfold Cj
  cases K:cm.flatten with
  | nil=>simp_all
  | cons a r=>
   simp only[f,Nat.mul_one,D8];rw[<- K];unfold kK fD;have v:(!Nat.blt b C.a)=true:=by
    grind [gC]
   rw[v,xE,B,mA];simp only[vA.a,mA];have w:Nat.ble (k+wB cm.flatten) cs.length=true:=by grind [eD,rF]
   have A:oD O.z cm.flatten=true:=by grind [gI]
   rw[w,A];rfl
 grind [Kj,G.ap]
def Pd(l:List Nat):List O:=l.map fun(n:Nat)=>O.e .u8 (n:Int)
def zbt{S m:Nat}  {l:List Nat}{o i n:jD}(z:C.b.c S=some o)(w:C.b.c m=some i)(q:i.a.o=none)(r:i.a.c=true)(s:o.a.a=some el)(u:C.b.c el=some n)(v:n.a.o=some .u8)
  (B:xC t b lo cs) (E:l.length=k) (J:∀(j:Nat) x,l[j]?=some x->cs[j]?=some (.e .u8 (x:Int))) (f:pB 256 l):dR C S m ⟨0,t⟩ (.m b 0 k cap)=some (.h l):=by
 obtain⟨c,p,I⟩:=B;unfold dR gV;rw[z,mA,w,mA,q];simp only[];rw[r,xE];have d:Nat.beq (O.m b 0 k cap).aa 2=false:=rfl;rw[d,cond_false,s,mA,u,mA,v,mA,sO.2 rfl,xE];unfold Lm;simp only[O.u];unfold fD;rw[p,mA];simp only[vA.a,mA];have F:∀(l:List Nat) (a:Nat),(∀(j:Nat) x,l[j]?=some x->c.c (a+j)=some (.e .u8 (x:Int)))->c.u l.length a=some (Pd l):=by
  intro l;induction l with
  | nil=>intro a _;rfl
  | cons x l g=>
   intro a h;rw[Do,G.aw];have:=h 0 x rfl;rw[L1]at this;rw[this,mA,g (a+1) (λj y D=>by rw[show a+1+j=a+(j+1) by omega];simp_all),mA];rfl
 subst E;rw[F l 0 (λj x D=>by simp_all),mA];have A:∀(l:List Nat),pB 256 l->kH yZ (Pd l)=some l:=by
  intro l;induction l with
  | nil=>intro _;rfl
  | cons x l g=>
   intro h;have e:yZ (.e .u8 (x:Int))=some x:=by
    unfold yZ;have d:wO (x:Int)=some x:=rfl;simp only[O.ac,mA];rw[sO.2 rfl,xE,d,mA,gC.2 (h x (by simp))];rfl
   show kH yZ (.e .u8 (x:Int)::Pd l)=_;rw[oQ,e,mA,g λy H=>h y (by simp[H]),mA]
 rw[A l f,mA]
def zge{T:Nat}{y z:jD}{k:IntKind}(p:C.b.c T=some y)(e:y.a.a=some el)(s:C.b.c el=some z)(a:z.c=[.e k 0])(r:z.b=1)(d:z.d<=8)(f:cap<1000000) (q:t.c b=none) :
  ∃t',eR C T (.e .i64 0) (.e .i64 (cap:Int)) ⟨b,t⟩=some (.m b 0 0 cap,⟨b+1,t'⟩)/\xC t' b none (List.replicate cap (.e k 0))/\zB t t'/\nF b t t':=by
 have c:∀n,mJ [O.e k 0] n=List.replicate n (.e k 0):=by
  intro n;induction n with
  | zero=>rfl
  | succ n u=>grind [mJ,xI]
 obtain⟨t',j,l,m,o⟩:=Eb q (List.replicate cap (.e k 0)) none;refine⟨t',?_,l,m,o⟩;unfold eR;rw[p,mA,e,mA,s,mA];have h:(O.e .i64 (cap:Int)).aj=some cap:=rfl;have g:(O.e .i64 0).aj=some 0:=rfl;rw[h,g,mA,mA];have i:(Nat.ble 0 cap&&Nat.blt cap 1000000&&Nat.blt (cap*z.d) 1000000000&&Nat.beq (wB z.c) z.b)=true:=by
  rw[a,r,show Nat.ble 0 cap=true from rF.2 (H4 _),gC.2 f];have:cap*z.d<1000000000:=by
   have:=G5 (Nat.le_of_lt f) d;omega
  rw[gC.2 this];rfl
 rw[i,xE,a,c,j]
end
end
end Go.Am
namespace Go.Am
open Go
variable {k:IntKind}{l m:List Nat}{base el n sz:Nat}{v:O}{d:Lo}
section
variable {C:fA}{t tf:G vA}
def B7(k:IntKind)(l:List Nat):List (List O):=l.map fun(x:Nat)=>[O.e k (x:Int)]
theorem Fv{k:IntKind}:∀ {l:List Nat} {cl:List (List O)},wD t (uC k l) cl ↔ cl=B7 k l
 | [],cl=>by
  show wD t [] cl ↔ cl=[];exact pG
 | x::l,cl=>by
  show wD t (.a k (x:Int)::uC k l) cl ↔ cl=[.e k (x:Int)]::B7 k l;rw[kD];constructor
  .rintro⟨c,r,rfl,a,b⟩;rw[wP]at a;rw[a,Fv.1 b]
  .rintro rfl;exact⟨_,_,rfl,wP.2 rfl,Fv.2 rfl⟩
def Zl{k:IntKind}:∀(l:List Nat),(B7 k l).flatten=l.map fun(x:Nat)=>O.e k (x:Int)
 | []=>rfl
 | x::l=>by
  show [O.e k (x:Int)]++(B7 k l).flatten=_;rw[Zl l];rfl
theorem SI   : (B7 k l).length=l.length:=by simp[B7]
def zb1  (i:Nat)(cs:List O)(h:(B7 k l)[i]?=some cs):cs.length=1:=by
 grind [B7]
def ZI(l:List Nat)(h:pB 256 l):kH yZ (Pd l)=some l:=by
 induction l with
 | nil=>rfl
 | cons x l c=>
  have e:yZ (.e .u8 (x:Int))=some x:=by
   unfold yZ;have a:wO (x:Int)=some x:=rfl;simp only[O.ac,mA];rw[sO.2 rfl,xE,a,mA,gC.2 (h x (by simp))];rfl
  show kH yZ (.e .u8 (x:Int)::Pd l)=_;rw[oQ,e,mA,c λy b=>h y (by simp[b]),mA]
def zn7{S j:Nat}  {o i m:jD}(x:C.b.c S=some o)(w:C.b.c j=some i)(p:i.a.o=none)(q:i.a.c=true)(r:o.a.a=some el)(s:C.b.c el=some m)(u:m.a.o=some .u8)
  (z:bA t 1 (uC .u8 l) v) (g:pB 256 l):dR C S j ⟨0,t⟩ v=some (.h l):=by
 obtain⟨A,f,k⟩:=z;rw[Fv]at k;subst k;have a:=(f.a (n:=0)).1;have d:Nat.beq v.aa 2=false:=by
  rcases f with⟨rfl,_⟩ | ⟨b,h,e,rfl,_⟩<;>rfl
 unfold dR gV;rw[x,mA,w,mA,p];simp only[];rw[q,xE,d,cond_false,r,mA,s,mA,u,mA,sO.2 rfl,xE];unfold Lm;rcases f with⟨rfl,B⟩ | ⟨b,h,e,rfl,_⟩
 .have:l=[]:=by
   grind [SI]
  subst this;rfl
 .unfold dY at a;simp only[O.u,Nat.mul_one]at a ⊢;rw[pA]at a;obtain⟨c,y,a⟩:=a;rw[y,mA,a,mA,Zl];have:=ZI l g;unfold Pd at this;rw[this,mA]
theorem zbe{k:Nat} (h:l.length=k):dY ⟨n,t⟩ 1 k (.h l)=some (B7 .u8 l).flatten/\Hp (.h l)=some k:=by
 subst h;constructor
 .unfold dY;simp only[O.u,O.w];rw[Zl,rV,List.take_length];rfl
 grind [Hp,O.u,O.w,eD]
def LQ   : ∀a∈(B7 k l).flatten,O.z a=true:=by
 intro a b;rw[Zl]at b;obtain⟨x,_,rfl⟩:=G6.1 b;rfl
theorem RL   : uC k (l++m)=uC k l++uC k m:=by simp[uC]
def TD{T U:Nat} (f:Fw C T el 1)(g:∃u,C.b.c U=some u/\Nat.beq u.a.l 1=false)(e:∀z,C.b.c el=some z->lN el z=d)  (j:dH d C.a tf t 1 (uC .u8 l) v)(b:m≠[])(s:l.length+m.length<400000) (h:t.c n=none)(a:C.a<=n)(i:zB tf t) :
  ∃t',mG C T U v (.h m) ⟨n,t⟩=some (.m n 0 (l.length+m.length) (l.length+m.length),⟨n+1,t'⟩)/\dH d C.a tf t' 1 (uC .u8 (l++m)) (.m n 0 (l.length+m.length) (l.length+m.length))/\zB tf t'/\(∀c,c≠n->¬ oM v c->t'.c c=t.c c):=by
 have k:0<m.length:=List.length_pos_iff.2 b;obtain⟨t',o,p,q,r⟩:=TE f g e (l:=uC .u8 l) (m:=uC .u8 m) (x:=.h m) (cm:=B7 .u8 m) j zb1 (λn=>by grind [SI,zbe]) (Fv.2 rfl) LQ (by grind [sH]) (by grind [sH]) h a i
 grind [sH,RL]
def TH{T:Nat}  (h:Fw C T el 1)(e:∀z,C.b.c el=some z->lN el z=d) {x:O}(o:dH d C.a tf t 1 (uC k l) v)(p:bA t 1 (uC k m) x)(b:m≠[])(A:l.length+m.length<400000) (i:t.c n=none)(a:C.a<=n)(j:zB tf t) :
  ∃t',mG C T T v x ⟨n,t⟩=some (.m n 0 (l.length+m.length) (l.length+m.length),⟨n+1,t'⟩)/\dH d C.a tf t' 1 (uC k (l++m)) (.m n 0 (l.length+m.length) (l.length+m.length))/\zB tf t'/\(∀c,c≠n->¬ oM v c->t'.c c=t.c c):=by
 have r:0<m.length:=List.length_pos_iff.2 b;obtain⟨q,g,f⟩:=p;rw[Fv]at f;subst f;obtain⟨t',s,u,w,y⟩:=TF h e (l:=uC k l) (m:=uC k m) (x:=x) (cm:=B7 k m) o g (Fv.2 rfl) LQ (by grind [sH]) (by grind [sH]) i a j
 grind [sH,RL]
def MH   : dH d base tf t sz [] .g:=.inl ⟨rfl,rfl⟩
def dH.f  {l:List D} {t':G vA}(h:dH d base tf t sz l v)(k:∀b,oM v b->t'.c b=t.c b):dH d base tf t' sz l v:=by
 rcases h with⟨rfl,rfl⟩ | ⟨b,a,c,rfl,e,f,j,g,i⟩
 .exact .inl ⟨rfl,rfl⟩
 .exact .inr ⟨b,a,c,rfl,e,f,by grind [Cf],g,i⟩
end
end Go.Am
namespace Go.Am
variable {B U V a b d e m f j k i n:Nat}{l:List Nat}
def qd (p:U=(e*B+j)*B^m+k)(o:k<B^m)(l:j<B)(q:V=(f*B+i)*B^m+n)(a:0<f):U / V<=e / f:=by
 have h:0<B^m:=by omega
 rw[Nat.le_div_iff_mul_le a];have b:U / V*V<=U:=Nat.div_mul_le_self U V;have c:f*B*B^m<=V:=by
  grind
 have d:U<(e+1)*B*B^m:=by
  have:e*B+j+1<=(e+1)*B:=by grind
  have:=D3 (B^m) this
  grind
 have g:U / V*f*(B*B^m)<(e+1)*(B*B^m):=by
  calc U / V*f*(B*B^m)=U / V*(f*B*B^m):=by rw[E9,E9]
   _<=U / V*V:=F1 _ c
   _<=U:=b
   _<(e+1)*B*B^m:=d
   _=(e+1)*(B*B^m):=by rw[E9]
 exact Nat.lt_succ_iff.1 (Nat.lt_of_mul_lt_mul_right g)
def qe (p:U=(e*B+j)*B^m+k)(b:k<B^m)(q:V=(f*B+i)*B^m+n)(h:e*B+j<d*(f*B+i)):U / V<d:=by
 rcases P6 (U / V) d with g | g
 .exact g
 .exfalso;have a:U / V*V<=U:=Nat.div_mul_le_self U V;have c:d*V<=U:=Nat.le_trans (D3 _ g) a;have l:d*(f*B+i)*B^m<=d*V:=by simp_all [E9,F1]
  have o:=D3 (B^m) (show e*B+j+1<=d*(f*B+i) from h)
  grind
def W9 (l:0<B)(u:U=(e*B+j)*B^m+k)(o:V=(f*B+i)*B^m+n)(q:n<B^m)(a:0<f)(p:d<=B)(h:d*(f*B+i)<=e*B+j):d<=U / V+1:=by
 have b:0<V:=by
  rw[o];have:0<f*B+i:=by have:=Nat.mul_pos a l;omega
  have:=Nat.mul_pos this (show 0<B^m by omega);omega
 rcases P6 (U / V+1) d with g | g
 .exfalso;have c:(d-1)*V<=U:=by
   have r:d*V<=d*((f*B+i)*B^m)+d*B^m:=by
    simp_all [K3,F1,Nat.le_of_lt]
   have s:d*((f*B+i)*B^m)<=(e*B+j)*B^m:=by rw[<- E9];exact D3 _ h
   have t:d*B^m<=V:=by
    have:d*B^m<=f*B*B^m:=by
     refine D3 _ (Nat.le_trans p ?_);exact T4 _ a
    grind
   grind [Nat.sub_mul]
  have:=(Nat.le_div_iff_mul_le b).2 c;omega
 .exact g
def top2 (i:0<B)  (g:pB B l)(j:l.length=m+2)(e:l[m+1]?=some a)(f:l[m]?=some b):A4 B l=(a*B+b)*B^m+A4 B (l.take m)/\A4 B (l.take m)<B^m:=by
 have d:=Jl B l m;have c:(l.take m).length=m:=by grind
 rw[c]at d;have h:l.drop m=[b,a]:=by
  rw[xU f,xU e,List.drop_of_length_le (by omega)]
 grind [A4,aQ,Im]
def top3 (k:0<B) {c:Nat}(i:pB B l)(n:l.length=m+3)(f:l[m+2]?=some a)(g:l[m+1]?=some b)(h:l[m]?=some c):A4 B l=((a*B+b)*B+c)*B^m+A4 B (l.take m)/\A4 B (l.take m)<B^m:=by
 have e:=Jl B l m;have d:(l.take m).length=m:=by grind
 rw[d]at e;have j:l.drop m=[c,b,a]:=by
  rw[xU h,xU g,xU f,List.drop_of_length_le (by omega)]
 grind [A4,aQ,Im]
end Go.Am
namespace Go.Proofs
open Go Go.Am
variable {b cap d j x:Nat}{A Z lv w:List Nat}{v:O}{t0:G vA}{Q:lB}
variable [fC]
variable {t:G vA}
def BB:Nat:=4294967296
def dQ:BB=4294967296:=rfl
def lK:0<BB:=by decide
def Xy{T el:Nat}(h:gG Y T el 1 false){off n:Nat}(a:j<n):zC Y T (.m b off n cap) (.e .i64 (j:Int))=some (.j b (off+j)):=by
 have:=Gk (b:=b) (off:=off) (cap:=cap) h a
 simp_all
theorem Nt  (h:w[j]?=some x):(A++w++Z)[A.length+j]?=some x:=by
 grind
def Sh  (h:j<w.length):(A++w++Z).set (A.length+j) x=A++w.set j x++Z:=by
 rw[D4,List.set_append_right _ _ (by omega),Nat.add_sub_cancel_left,List.set_append_left _ _ h,D4]
def ZX     (hv:bA t0 1 (uC .u32 lv) v)(hl:lv.length<900000)(R:pB BB lv)(f:Y.a<=b)(hb:t0.c b=none)(hd:0<d)(M:d<=BB)(W:List Nat)(a7:W.length=lv.length)(D:pB BB W)(a:Nat)(P:a<BB)(a6:lv.length+1<=cap)
  (hQ:∀t' r e,nF b t t'->aG t' b .u32 (A++(r++[(a+e)%BB])++Z)->r.length=lv.length->pB BB r->e<2->A4 BB r+BB^lv.length*e=A4 BB W+A4 BB lv->Q (.e .u32 ((d-1:Nat):Int)) t') :
  ∀(k i e:Nat) (t':G vA) (r:List Nat),i+k=lv.length->zB t0 t'->nF b t t'->aG t' b .u32 (A++(r++(W++[a]).drop i)++Z)->r.length=i->pB BB r->e<2->A4 BB r+BB^i*e=A4 BB (W.take i)+A4 BB (lv.take i) →
  jp 310 10 [.m b A.length (lv.length+1) cap,.e .i64 lv.length,.e .u64 d,.e .u32 e,v,.e .i64 lv.length,.e .i64 i] t' Q:=by
 intro k;induction k with
 | zero=>
  intro i e t' r hi S m B H u w p;have N:i=lv.length:=by omega
  subst N;have g:(W++[a]).drop lv.length=[a]:=by simp_all
  rw[g]at B;refine zhg ?_;have K:=Xy bH (b:=b) (off:=A.length) (n:=lv.length+1) (cap:=cap) (j:=lv.length) (by omega);have h:(r++[a])[lv.length]?=some a:=by simp_all
  have L:=B.f (Nt (A:=A) (Z:=Z) h) tI rfl;obtain⟨J,X,z,I⟩:=B.e (C:=Y) f (j:=A.length+lv.length) (by grind) ((a+e)%BB) tI rfl;rw[Sh (by grind)]at z;have o:(r++[a]).set lv.length ((a+e)%BB)=r++[(a+e)%BB]:=by simp_all
  rw[o]at z;have e1:cA .u32 ((a:Int)+(e:Int))=(((a+e)%BB:Nat):Int):=by rw[nX];show _=(((a+e)%4294967296:Nat):Int);omega
  simp only[uL,tC,uX,V,BG,lA,kE,K,L,xA,yC,e1];rw[A3 (by omega)];intro _ _ _;rw[X];simp only[xA];rw[L0 (by omega),L0 (by omega)]at p;have e2:cA .u32 (cA .u64 ((d:Int)-1))=((d-1:Nat):Int):=by
   have:d<=4294967296:=M
   grind [iG,mX]
  rw[e2];exact hQ J r e (m.a I) z H u w p
 | succ k ih=>
  intro i e t' r hi S m B H u w p;obtain⟨x,T⟩:=A6 (l:=lv) (i:=i) (by omega);obtain⟨y,hy⟩:=A6 (l:=W) (i:=i) (by omega);have q:x<BB:=yN R T;have s:y<BB:=yN D hy;obtain⟨c,off,K,L⟩:=(hv.a S).f bH T;have U:(W++[a])[i]?=some y:=by grind
  have g:(W++[a]).drop i=y::(W++[a]).drop (i+1):=xU U;have g3:=Xy bH (b:=b) (off:=A.length) (n:=lv.length+1) (cap:=cap) (j:=i) (by omega);have h:(r++(W++[a]).drop i)[i]?=some y:=by simp_all
  have g4:=B.f (Nt (A:=A) (Z:=Z) h) tI rfl;have F:i<(r++(W++[a]).drop i).length:=by simp_all
  obtain⟨J,X,z,I⟩:=B.e (C:=Y) f (j:=A.length+i) (by grind) ((y+x+e)%BB) tI rfl;rw[Sh F]at z;have o:(r++(W++[a]).drop i).set i ((y+x+e)%BB)=(r++[(y+x+e)%BB])++(W++[a]).drop (i+1):=by
   simp_all
  rw[o]at z;have E:=zou (t:=t') (x:=y) (y:=x) (c:=e) s q w;refine zhg ?_;simp (disch:=omega) only[uL,tC,uX,V,BG,lA,kE,K,L,g3,g4,xA,yC,q317,E,vK,O.ay,mA,yI,If,In,A2];rw[A5 (by omega)];intro _ _ _;have a1:∀n,nC Y 254 (.j b (A.length+i)) (.e .u32 (((y+x+e)%4294967296:Nat):Int)) ⟨n,t'⟩=some (aD,⟨n,J⟩):=X;rw[a1];simp only[xA];refine ih (i+1) ((y+x+e) / BB) J _ (by omega) (S.g hb I) (m.a I) z (by simp[H]) (Cv u (G2 _ (by decide))) ?_ ?_
  .have h1:y<4294967296:=s;have h2:x<4294967296:=q;show(y+x+e) / 4294967296<2;omega
  .rw[zQ,H,yT T,yT hy,zQ,zQ]
   grind [Nat.div_add_mod]
theorem IM{u low bo:Nat}(b:u<BB)(a:low<BB)(c:bo<2):∃w b',w<BB/\b'<2/\u+BB*b'=w+low+bo ∧
  cA .u32 (cA .u64 (cA .u64 ((u:Int)-(low:Int))-(bo:Int)))=(w:Int)/\Int.fdiv (cA .u64 (cA .u64 ((u:Int)-(low:Int))-(bo:Int))) 9223372036854775808=(b':Int):=by
 have b:u<4294967296:=b;have a:low<4294967296:=a;rcases P6 u (low+bo)with g | g
 .refine⟨u+BB-low-bo,1,by omega,by omega,by omega,?_,?_⟩
  .rw[nX,Vd,Vd];show _=((u+4294967296-low-bo:Nat):Int);omega
  grind [Vd]
 .refine⟨u-low-bo,0,by omega,by omega,by omega,?_,?_⟩
  all_goals grind [nX,Vd]
def XT{lu:List Nat}    (hv:bA t0 1 (uC .u32 lv) v)(hl:lv.length<900000)(a6:pB BB lv)(g:Y.a<=b)(hb:t0.c b=none)(hd:d<BB)(ac:lu.length=lv.length+1)(K:pB BB lu)(ab:lv.length+1<=cap)
  (hQ:∀t' (W:List Nat) s bo,zB t0 t'->nF b t t'->aG t' b .u32 (A++(W++[s])++Z)->W.length=lv.length->pB BB W->s<BB->bo<2->A4 BB (W++[s])+d*A4 BB lv=A4 BB lu+BB^(lv.length+1)*bo →
   if bo=0 then Q (.e .u32 (d:Int)) t' else jp 310 10 [.m b A.length (lv.length+1) cap,.e .i64 lv.length,.e .u64 d,.e .u32 0,v,.e .i64 lv.length,.e .i64 (0:Nat)] t' Q) :
  ∀(k i a e:Nat) (t':G vA) (W:List Nat),i+k=lv.length->zB t0 t'->nF b t t'->aG t' b .u32 (A++(W++lu.drop i)++Z)->W.length=i->pB BB W->a<BB->e<2->A4 BB W+d*A4 BB (lv.take i)=A4 BB (lu.take i)+BB^i*(a+e) →
  jp 310 6 [.m b A.length (lv.length+1) cap,v,.e .i64 lv.length,.e .u64 d,.e .u64 a,.e .u64 e,v,.e .i64 lv.length,.e .i64 i] t' Q:=by
 intro k;induction k with
 | zero=>
  intro i a e t' W hi M q E T z hc B N;have a1:i=lv.length:=by omega
  subst a1;obtain⟨x,F⟩:=A6 (l:=lu) (i:=lv.length) (by omega);have f:x<BB:=yN K F;have m:lu.drop lv.length=[x]:=by rw[xU F,List.drop_of_length_le (by omega)]
  rw[m]at E;obtain⟨w,bo,hw,h,L,e1,e2⟩:=IM f hc B;have g1:=Xy bH (b:=b) (off:=A.length) (n:=lv.length+1) (cap:=cap) (j:=lv.length) (by omega);have p:(W++[x])[lv.length]?=some x:=by simp_all
  have g2:=E.f (Nt (A:=A) (Z:=Z) p) tI rfl;obtain⟨t1,s1,D,H⟩:=E.e (C:=Y) g (j:=A.length+lv.length) (by grind) w tI rfl;rw[Sh (by grind)]at D;have r:(W++[x]).set lv.length w=W++[w]:=by simp_all
  rw[r]at D;have R:x<4294967296:=f;have U:cA .u64 (x:Int)=(x:Int):=iG (by omega) (by omega);refine zqf ?_;simp only[uI,uL,tC,V,ym,lA,kE,g1,g2,xA,yC,U,e1,e2,fI];rw[A3 (by omega)];intro _ _ _;rw[s1];simp only[xA];have o:=hQ t1 W w bo (M.g hb H) (q.a H) D T z hw h (by
   grind [zQ,A4,Jl])
  by_cases hz:bo=0
  .rw[A5 (by omega)];rw[A5 hz]at o;have J:d<4294967296:=hd
   grind [mX]
  .rw[A3 (by omega)];rw[A3 hz]at o;simp only[(hv.a (M.g hb H)).c,xA,yC,sH];exact o
 | succ k ih=>
  intro i a e t' W hi M q E T z hc B N;obtain⟨x,F⟩:=A6 (l:=lu) (i:=i) (by omega);obtain⟨y,hy⟩:=A6 (l:=lv) (i:=i) (by omega);have f:x<BB:=yN K F;have S:y<BB:=yN a6 hy;have J:d<4294967296:=hd;have R:x<4294967296:=f;have ad:y<4294967296:=S;have aa:a<4294967296:=hc;have m:lu.drop i=x::lu.drop (i+1):=xU F;obtain⟨c,off,g1,g2⟩:=(hv.a M).f bH hy;have g3:=Xy bH (b:=b) (off:=A.length) (n:=lv.length+1) (cap:=cap) (j:=i) (by omega)
  have p:(W++lu.drop i)[i]?=some x:=by simp_all
  have g4:=E.f (Nt (A:=A) (Z:=Z) p) tI rfl;have a7:d*y<=4294967295*4294967295:=G5 (by omega) (by omega);obtain⟨P,hP⟩:∃P,P=d*y+a:=⟨_,rfl⟩;have a8:P<18446744073709551616:=by omega
  have I:P / 4294967296<4294967296:=by omega
  obtain⟨w,bo,hw,h,L,e1,e2⟩:=IM (u:=x) (low:=P%4294967296) (bo:=e) f (G2 _ (by decide)) B;obtain⟨t1,s1,D,H⟩:=E.e (C:=Y) g (j:=A.length+i) (by simp_all) w tI rfl;rw[Sh (by simp_all)]at D;have r:(W++lu.drop i).set i w=(W++[w])++lu.drop (i+1):=by simp_all
  rw[r]at D;have U:cA .u64 (x:Int)=(x:Int):=iG (by omega) (by omega);have X:cA .u64 (y:Int)=(y:Int):=iG (by omega) (by omega);have e3:(d:Int)*(y:Int)=((d*y:Nat):Int):=(Int.natCast_mul d y).symm;have e4:cA .u64 ((d*y:Nat):Int)=((d*y:Nat):Int):=by
   grind [iG]
  have e5:cA .u64 (((d*y:Nat):Int)+(a:Int))=(P:Int):=by
   rw[hP,<- Int.natCast_add];grind [iG]
  have e6:cA .u64 (cA .u32 (P:Int))=((P%4294967296:Nat):Int):=by
   grind [nX,iG]
  have e7:Int.fdiv (P:Int) 4294967296=((P / 4294967296:Nat):Int):=Ib P 4294967296;refine zqf ?_;simp only[uI,uL,tC,V,ym,lA,kE,g1,g2,g3,g4,xA,yC,U,X,e3,e4,e5,e6,e7,e1,e2];rw[A5 (by omega)];intro _ _ _;rw[s1];simp (disch:=omega) only[xA,A2];refine ih (i+1) (P / 4294967296) bo t1 _ (by omega) (M.g hb H) (q.a H) D (by simp[T]) (Cv z hw) I h ?_;rw[zQ,T,yT F,yT hy,zQ,zQ];have l1:(lu.take i).length=i:=by simp;omega
  have l2:(lv.take i).length=i:=by simp;omega
  grind [Nat.div_add_mod,BB]
attribute [irreducible] BB
end Go.Proofs
