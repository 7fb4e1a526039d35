/- The trees of functions. (Printed by a tool; the kernel agrees.) -/
import Derived.Test.YtefajchlhjcgpaaGreatDoorP17
set_option linter.all false
noncomputable section
set_option maxRecDepth 100000
namespace Go.Proofs
open Go Go.Am
variable [fC]{m:G uA}{Q:mB}
abbrev aM:List O:=[.e .u8 0,.h [],.d false,.e .i64 0,.e .i64 0,.e .i64 0,.e .i64 0,.e .i64 0]
abbrev bM:List O:=[.d false,.g]
abbrev aX:List O:=[.e .u8 0,.h [],.e .u8 0,.d false,.g,.d false,.g,.e .i64 0,.g]
abbrev Dp:List O:=[.e .i64 0,.e .i64 0]
abbrev Jf:List O:=[.e .u8 0,.e .u8 0,.e .u8 0,.e .u8 0,.e .u8 0,.e .u8 0,.e .u8 0,.e .u8 0,.e .u8 0,.e .u8 0]
abbrev N9:List O:=[.d false,.g,.d false,.g]
abbrev On:List O:=[.h [],.h [],.e .i64 0,.e .i64 0,.e .i64 0,.d false,.e .u8 0,.h [],.e .u8 0,.d false,.g,.d false,.g,.e .i64 0,.g,.e .u8 0,.h [],.e .u8 0,.d false,.g,.d false,.g,.e .i64 0,.g]
abbrev OK:List O:=[.h [],.g,.g,.g]
abbrev S3:List O:=[.h [],.e .u8 0,.d false]
abbrev S4:List O:=[.h [],.d false,.g]
abbrev Mh:List O:=[.e .u8 0,.h [],.e .i64 0,.e .i64 0]
abbrev th:List O:=[.e .i64 0,.e .i64 0,.e .i64 0,.d false,.g,.d false,.g]
abbrev zz12z:List O:=[.e .u8 0,.d false,.g,.d false,.g,.e .i64 0]
abbrev zW(f:Nat)(T:T)(x:List O):Prop:=∀ {m Q},wp f T m Q->Wf f x m Q
abbrev zJ(f i:Nat)(T:T)(x:List O):Prop:=∀ {m Q},wp f T m Q->jp f i x m Q
def wA{f:Nat}{x:List O}{T:T}(a:tg f=true:=by kernel_rfl)(b:(Nat.ble (vB x) (ko f)&&Nat.ble (vB x) (fo f).ntmps)=true:=by kernel_rfl)(c:J2 Y (fo f) (ko f) f (ao f) x=T:=by kernel_rfl):zW f T x:=λk=>wq (yG f a) b (by rw[c];exact k)
def jA{f i:Nat}{x:List O}{T:T}(a:tg f=true:=by kernel_rfl)(b:Kk (N6 Y (fo f) (ko f) f (ao f)) i x=[T]:=by kernel_rfl):zJ f i T x:=λk=>il (yG f a) b k
def uI (k:Int->T)(a:O):T:=.r .i64 a k
def uU (k:Int->T)(a:O):T:=.r .u8 a k
def uL (k:Int->T)(a:O):T:=.r .u32 a k
def uE (k:Int->T)(a:O):T:=.r .u64 a k
def uH (k:Int->T)(a:O):T:=.r .u16 a k
def uB (k:Bool->T)(a:O):T:=.q a k
def uS (k:List Nat->T)(a:O):T:=.s a k
def uG (z:List O)(k:yH->T)(a:O):T:=.o z a k
def aB (l:List O):Bool:=nD O.z l
abbrev uC(i:Int):O:=.e .i64 (cA .i64 (i+1))
def rB:T:=.l (.d false)
def xH:T:=.l (.d true)
def rC (v:O):Option O:=nR v
def uX (n:Nat)(v:O):Option O:=tK n v
abbrev V(n:Int):O:=.e .i64 n
abbrev uY(n:Int):O:=.e .u8 n
abbrev uW(n:Int):Int:=cA .i64 n
def oI (X:yH):List O:=[.d (X.b 0),X.v 1]
def dI (X:yH):O:=.i [.d (X.b 0),X.v 1]
def iH (X:yH):List O:=[.e .u8 (X.i 0),.h (X.s 1),.e .u8 (X.i 2),.d (X.b 3),X.v 4,.d (X.b 5),X.v 6,.e .i64 (X.i 7),X.v 8]
def nF (X:yH):O:=.i [.e .u8 (X.i 0),.h (X.s 1),.e .u8 (X.i 2),.d (X.b 3),X.v 4,.d (X.b 5),X.v 6,.e .i64 (X.i 7),X.v 8]
def cr (X:yH):List O:=[.d (X.b 0),X.v 1,.d (X.b 2),X.v 3]
def P9 (X:yH):O:=.i [.d (X.b 0),X.v 1,.d (X.b 2),X.v 3]
def L6 (X:yH):List O:=[.h (X.s 0),X.v 1,X.v 2,X.v 3]
def M6 (X:yH):O:=.i [.h (X.s 0),X.v 1,X.v 2,X.v 3]
def uA4 (X:yH):O:=.i [.e .i64 (X.i 0),.e .i64 (X.i 1)]
def l8 (X:yH):List O:=[.h (X.s 0),.h (X.s 1),.e .i64 (X.i 2),.e .i64 (X.i 3),.e .i64 (X.i 4),.d (X.b 5),.e .u8 (X.i 6),.h (X.s 7),.e .u8 (X.i 8),.d (X.b 9),X.v 10,.d (X.b 11),X.v 12,.e .i64 (X.i 13),X.v 14,.e .u8 (X.i 15),.h (X.s 16),.e .u8 (X.i 17),.d (X.b 18),X.v 19,.d (X.b 20),X.v 21,.e .i64 (X.i 22),X.v 23]
def U6 (X:yH):O:=.i [.h (X.s 0),.h (X.s 1),.e .i64 (X.i 2),.e .i64 (X.i 3),.e .i64 (X.i 4),.d (X.b 5),.e .u8 (X.i 6),.h (X.s 7),.e .u8 (X.i 8),.d (X.b 9),X.v 10,.d (X.b 11),X.v 12,.e .i64 (X.i 13),X.v 14,.e .u8 (X.i 15),.h (X.s 16),.e .u8 (X.i 17),.d (X.b 18),X.v 19,.d (X.b 20),X.v 21,.e .i64 (X.i 22),X.v 23]
def U7 (X:yH):O:=.i [.e .u8 (X.i 0),.e .u8 (X.i 1),.e .u8 (X.i 2),.e .u8 (X.i 3),.e .u8 (X.i 4),.e .u8 (X.i 5),.e .u8 (X.i 6),.e .u8 (X.i 7),.e .u8 (X.i 8),.e .u8 (X.i 9)]
def wy (X:yH):List O:=[.e .i64 (X.i 0),.e .i64 (X.i 1),.e .i64 (X.i 2),.d (X.b 3),X.v 4,.d (X.b 5),X.v 6]
def mu (X:yH):O:=.i [.e .i64 (X.i 0),.e .i64 (X.i 1),.e .i64 (X.i 2),.d (X.b 3),X.v 4,.d (X.b 5),X.v 6]
def uM8 (X:yH):List O:=[.h (X.s 0),.d (X.b 1),X.v 2]
def wz (X:yH):O:=.i [.h (X.s 0),.d (X.b 1),X.v 2]
def mw (X:yH):List O:=[.e .u8 (X.i 0),.d (X.b 1),X.v 2,.d (X.b 3),X.v 4,.e .i64 (X.i 5)]
def w0 (X:yH):O:=.i [.e .u8 (X.i 0),.d (X.b 1),X.v 2,.d (X.b 3),X.v 4,.e .i64 (X.i 5)]
def J5 (X:yH):O:=.i [.h (X.s 0),.e .u8 (X.i 1),.d (X.b 2)]
def S5 (X:yH):O:=.i [.e .u8 (X.i 0),.h (X.s 1),.e .i64 (X.i 2),.e .i64 (X.i 3)]
def my (e:Int)(c:Bool)(f:O)(d:Bool)(g:O)(a:Int)(h:Int)(i:Int)(k:O)(j:List Nat)(l:O):T :=.a (aB [uY e,.d c,f,.d d,g,V a]) (.a (kB h 1) (.c 34 [.i [uY e,.d c,f,.d d,g,V a]]<|uB λb=>.l (.d b)) (.a (kB h 19) (.a (fB a 1) rB (.a (fB 6 a) rB (.a true (.j 33 [V i,k,uY h,.h j,uY e,.d c,f,.d d,g,V a,l,uY e,.d c,f,.d d,g,V 0]) .g))) (.j 33 [V i,k,uY h,.h j,uY e,.d c,f,.d d,g,V a,l,uY e,.d c,f,.d d,g,V a]))) .g
def mz (c:Int)(d:O)(X:yH):T :=.c 169 [uY c]<|uB λb=>.a b (.c 174 [d]<|uS λs=>.c 228 [.h s] λa=>.d (uX 0 a)<|uS λs=>.d (uX 1 a)<|uI λn=>.j 37 [d,uY 2,.h s,V n,uY 0,.h [],V 0,V 0,V (X.i 0),V (X.i 1)]) (.c 229 [.h [40,41,44,43,45,42,47,60,61],uY c]<|uI λn=>.a (vE 0 n) (.c 174 [d]<|uS λs=>.d (aF Y 9 mN (.h s) none (some (V 1)))<|uS λs=>.j 37 [d,uY 4,.h s,V 0,uY 0,.h [],V 0,V 0,V (X.i 0),V (X.i 1)]) (.j 37 [d,uY 0,.h [],V 110,uY 0,.h [],V 0,V 0,V (X.i 0),V (X.i 1)]))
def w7 (c:Int)(d:Bool)(f:O)(e:Bool)(g:O)(a:Int):T :=.a (kB c 1) (.c 70 [.i [.d d,f,.d e,g]]<|uB λb=>.a b (.a (kB a 0) xH (.l (.d (kB a 1)))) rB) (.a (kB c 4) (.c 70 [.i [.d d,f,.d e,g]]<|uB λb=>.a b (.c 71 [V a]<|uB λb=>.l (.d b)) rB) (.a (kB c 5) (.a (kB c 5) (.c 70 [.i [.d d,f,.d e,g]]<|uB λb=>.a b (.a (vE (-1048576) a) (.l (.d (vE a 1048576))) rB) rB) rB) (.a (kB c 6) (.c 70 [.i [.d d,f,.d e,g]]<|uB λb=>.a b (.a (vE (-1048576) a) (.l (.d (vE a 1048576))) rB) rB) rB)))
def U8  : T :=.a true (.a true (.l (.p [.i [.d false,.g],V 10])) .g) .g
def m9 (b:List Nat):T :=.d (aF Y 9 mN (.h b) none (some (V 10)))<|uS λs=>.c 138 [.h s] λa=>.d (uX 0 a)<|uI λn=>.d (uX 1 a)<|uI λn=>.a (!kB n 0) (.l (.p [.h [],V 113])) (.d (aF Y 9 mN (.h b) none (some (V 10)))<|uS λs=>.l (.p [.h s,V 0]))
def w9 (X:yH)(b:List Nat)(c:O):T :=.a (sF (X.s 1) b) (.d (rC c) λa=>.d (jB Y 141 1 a) λa=>.e (λm=>oA Y 3 ⟨0,m⟩ a)<|uI λn=>.d (rC c) λa=>.d (jB Y 141 1 a) λa=>.h (mC Y 3 a (uC n)) λ_=>.l (.d (sF (X.s 1) b))) (.l (.d (sF (X.s 1) b)))
def O0  : T :=.a true (.a true (.l (.p [.i [.d false,.g,.d false,.g],V 2])) .g) .g
def O1 (e:List Nat)(a:List Nat)(d:List Nat)(c:Int):T :=.c 261 [.h e]<|uB λb=>.a b (.l (.p [.h [],V 112])) (.c 261 [.h a]<|uB λb=>.a b (.l (.p [.h [],V 112])) (.a (sF a [48]) (.l (.p [.h [],V 112])) (.d (aF Y 9 mN (.h d) none (some (V c)))<|uS λs=>.l (.p [.h s,V 0]))))
def ff (u:Bool)(f:Int)(l:List Nat)(g:Int)(a:Bool)(o:O)(c:Bool)(p:O)(h:Int)(q:O)(i:Int)(m:List Nat)(j:Int)(d:Bool)(r:O)(e:Bool)(s:O)(k:Int)(t:O)(n:O):T :=.a u (.c 150 [.i [uY f,.h l,uY g,.d a,o,.d c,p,V h,q]]<|uB λb=>.a b (.c 150 [.i [uY i,.h m,uY j,.d d,r,.d e,s,V k,t]]<|uB λb=>.l (.d b)) rB) (.c 27 [.i [n],.i [uY f,.h l,uY g,.d a,o,.d c,p,V h,q],V 1]<|uB λb=>.a b (.c 27 [.i [n],.i [uY i,.h m,uY j,.d d,r,.d e,s,V k,t],V 1]<|uB λb=>.l (.d b)) rB)
def S6 (d:Int)(a:Int)(e:O)(f:O)(b:Int)(c:Int):T :=.a (vE 4294967296 (cA .u64 (d+a))) (.j 19 [e,f,V b,(.e .u64 (cA .u64 (c-1)))]) (.j 2 [e,f,V b,.e .u64 a,(.e .u64 (cA .u64 (c-1))),(.e .u64 (cA .u64 (d+a)))])
def J6 (a:Bool)(d:O)(c:Bool)(e:O):T :=.c 69 [.i [.d a,d,.d c,e]]<|uB λb=>.l (.d b)
def fg (b:O)(s:List Nat):T :=.e (λm=>oA Y 96 ⟨0,m⟩ b) λa=>.h (lG Y 96 9 a (.h s)) λa=>.h (mC Y 96 b a) λ_=>.l (.d true)
def J7 (b:Int):T :=.d (zC Y 304 (.j 3 0) (V (uW (b-1)))) λa=>.e (λm=>oA Y 3 ⟨0,m⟩ a)<|uI λn=>.l (V n)
def fh (b:O):T :=.d (zC Y 22 b (V 0)) λa=>.e (λm=>oA Y 261 ⟨0,m⟩ a)<|uH λn=>.l (.d (kB n 1))
def O2  : T :=.a true (.a true (.l (.p [.i [.d false,.g],V 3])) .g) .g
def J8 (b:List Nat)(a:Int):T :=.d (mJ Y 9 (.h b) (V a))<|uU λn=>.a (!kB n 45) rB (.j 2 [.h b,(uC a)])
variable (d f j o r u v z B F H E J U W Z j6 j7:Int)(g t A I K l5 l6 l7:List Nat)(c e k q w C L x7 x8 x9 y0 y1:O)(i l x y D M N P R S:Bool)
def t6:T:=.c 7 []<|uB λb=>.a (!b) rB (.a (fB 3000 (Int.ofNat (vB g))) xH (.c 19 [.h g] λa=>.d (uX 0 a)<|uG OK λc=>.d (uX 1 a)<|uG Dp λX=>.d (uX 2 a)<|uI λn=>.a (aB (L6 c)) (.a true (.a (!kB n 0) xH (.c 16 [(M6 c),V 2000]<|uI λn=>.a (fB 2000 n) xH (.j 2 [.d true,V 0,.h (c.s 0),c.v 1,c.v 2,c.v 3]))) .g) .g))
def t6_2:T:=.d (vC k)<|uI λn=>.a (fB d n) (.a i (.d (zC Y 50 k (V d)) λa=>.d (jB Y 60 6 a) λa=>.e (λm=>oA Y 31 ⟨0,m⟩ a)<|uG aX λX=>.c 21 [(nF X),V 26]<|uI λn=>.a (vE n 24) (.d (zC Y 50 k (V d)) λa=>.d (jB Y 60 7 a) λa=>.e (λm=>oA Y 31 ⟨0,m⟩ a)<|uG aX λX=>.c 21 [(nF X),V 26]<|uI λn=>.j 2 [(.d (vE n 24)),(uC d),.h g,c,e,k]) (.j 2 [.d false,(uC d),.h g,c,e,k])) (.j 2 [.d false,(uC d),.h g,c,e,k])) (.c 17 [.i [.h g,c,e,k]] λa=>.d (uX 0 a)<|uS λh=>.d (uX 1 a)<|uI λn=>.a (!i) (.a (H7 (kB n 2) (!i)) (.a (kB n 3) xH (.l (.d (!i)))) rB) (.a (!kB n 0) (.a (H7 (kB n 2) (!i)) (.a (kB n 3) xH (.l (.d (!i)))) rB) (.c 19 [.h h] λa=>.d (uX 0 a)<|uG OK λf=>.d (uX 1 a)<|uG Dp λX=>.d (uX 2 a)<|uI λj=>.a (aB (L6 f)) (.a true (.c 17 [(M6 f)] λa=>.d (uX 0 a)<|uS λs=>.d (uX 1 a)<|uI λn=>.a (kB j 0) (.a (kB n 0) (.c 20 [.i [.h g,c,e,k],(M6 f)]<|uB λb=>.a b (.l (.d (sF h s))) rB) rB) rB) .g) .g)))
def t8:T:=.c 25 [.i [.d i,c,.d l,e]]<|uI λn=>.a (A8 10 (.h g) (.h g)) (.a (A8 10 (V (Int.ofNat (vB g))) (V (Int.ofNat (vB g)))) (.j 2 [V o,(V (uW (n+(uW (Int.tdiv (Int.ofNat (vB g)) 30))))),V 0,uY d,.h g,uY f,.d i,c,.d l,e,V j,k]) .g) .g
def t8_2:T:=.d (vC k)<|uI λn=>.a (fB j n) (.a (vE f d) (.d (zC Y 29 k (V j)) λa=>.e (λm=>oA Y 31 ⟨0,m⟩ a)<|uG aX λX=>.c 8 [(nF X),(V (uW (d-f)))]<|uI λn=>.j 2 [V d,(V (uW (f+n))),(uC j),uY o,.h g,uY r,.d i,c,.d l,e,V u,k]) (.l (V f))) (.l (V f))
def t12:T:=.a (kB d o) (.a (sF g t) (.c 15 [.i [uY f,.d i,c,.d l,e,V j],.i [uY r,.d x,q,.d y,w,V u]]<|uB λb=>.a b (.c 33 [k,C]<|uB λb=>.l (.d b)) rB) rB) rB
def t15:T:=.a (kB d j) (.c 40 [.i [.d i,c,.d l,e],.i [.d x,k,.d y,q]]<|uB λb=>.a b (.l (.d (kB f o))) rB) rB
def t16:T:=.d (vC c)<|uI λa=>.d (vC e)<|uI λb=>.d (vC k)<|uI λn=>.j 2 [V d,(V (uW ((uW ((uW ((uW (1+(uW (Int.tdiv (Int.ofNat (vB g)) 30))))+a))+b))+n))),V 0,.h g,c,e,k]
def xa:T:=.d (vC c)<|uI λn=>.a (fB j n) (.a (vE f d) (.d (zC Y 48 c (V j)) λa=>.d (jB Y 89 0 a) λa=>.e (λm=>oA Y 9 ⟨0,m⟩ a)<|uS λs=>.j 2 [V d,(V (uW (f+(uW (Int.tdiv (Int.ofNat (vB s)) 30))))),(uC j),.h g,c,e,k]) (.j 6 [V d,V f,V 0,.h g,c,e,k])) (.j 6 [V d,V f,V 0,.h g,c,e,k])
def xb:T:=.d (vC e)<|uI λn=>.a (fB j n) (.a (vE f d) (.d (zC Y 49 e (V j)) λa=>.d (jB Y 92 0 a) λa=>.e (λm=>oA Y 9 ⟨0,m⟩ a)<|uS λs=>.j 10 [V d,(V (uW (f+(uW (Int.tdiv (Int.ofNat (vB s)) 30))))),V j,V 0,.h g,c,e,k]) (.j 14 [V d,V f,V 0,.h g,c,e,k])) (.j 14 [V d,V f,V 0,.h g,c,e,k])
def xd:T:=.d (zC Y 49 e (V j)) λa=>.d (jB Y 92 2 a) λa=>.e (λm=>oA Y 90 ⟨0,m⟩ a) λa=>.d (vC a)<|uI λn=>.a (fB o n) (.a (vE f d) (.d (zC Y 49 e (V j)) λa=>.d (jB Y 92 2 a) λa=>.e (λm=>oA Y 90 ⟨0,m⟩ a) λa=>.d (zC Y 90 a (V o)) λa=>.d (jB Y 94 3 a) λa=>.e (λm=>oA Y 26 ⟨0,m⟩ a)<|uG N9 λX=>.c 25 [(P9 X)]<|uI λn=>.j 10 [V d,(V (uW (f+n))),V j,(uC o),.h g,c,e,k]) (.j 6 [V d,V f,(uC j),.h g,c,e,k])) (.j 6 [V d,V f,(uC j),.h g,c,e,k])
def xe:T:=.d (vC k)<|uI λn=>.a (fB j n) (.a (vE f d) (.d (zC Y 50 k (V j)) λa=>.e (λm=>oA Y 60 ⟨0,m⟩ a)<|uG On λX=>.a (aB (l8 X)) (.c 8 [(.i [uY (X.i 6),.h (X.s 7),uY (X.i 8),.d (X.b 9),X.v 10,.d (X.b 11),X.v 12,V (X.i 13),X.v 14]),(V (uW (d-f)))]<|uI λb=>.a (A8 10 (.h (X.s 0)) (.h (X.s 0))) (.a (A8 10 (V (Int.ofNat (vB (X.s 0)))) (V (Int.ofNat (vB (X.s 0))))) (.a (A8 10 (.h (X.s 1)) (.h (X.s 1))) (.a (A8 10 (V (Int.ofNat (vB (X.s 1)))) (V (Int.ofNat (vB (X.s 1))))) (.a (vE (uW (f+(uW ((uW ((uW (Int.tdiv (Int.ofNat (vB (X.s 0))) 30))+(uW (Int.tdiv (Int.ofNat (vB (X.s 1))) 30))))+b)))) d) (.c 8 [(.i [uY (X.i 15),.h (X.s 16),uY (X.i 17),.d (X.b 18),X.v 19,.d (X.b 20),X.v 21,V (X.i 22),X.v 23]),(V (uW (d-(uW (f+(uW ((uW ((uW (Int.tdiv (Int.ofNat (vB (X.s 0))) 30))+(uW (Int.tdiv (Int.ofNat (vB (X.s 1))) 30))))+b)))))))]<|uI λn=>.j 14 [V d,(V (uW ((uW (f+(uW ((uW ((uW (Int.tdiv (Int.ofNat (vB (X.s 0))) 30))+(uW (Int.tdiv (Int.ofNat (vB (X.s 1))) 30))))+b))))+n))),(uC j),.h g,c,e,k]) (.j 14 [V d,(V (uW (f+(uW ((uW ((uW (Int.tdiv (Int.ofNat (vB (X.s 0))) 30))+(uW (Int.tdiv (Int.ofNat (vB (X.s 1))) 30))))+b))))),(uC j),.h g,c,e,k])) .g) .g) .g) .g) .g) (.l (V f))) (.l (V f))
def t17:T:=.h (qL Y 9) λd=>.h (qL Y 34) λf=>.c 18 [.i [.h g,c,e,k]]<|uB λb=>.a (!b) (.h (mC Y 9 d (.h [])) λ_=>.h (mC Y 34 f (V 2)) λ_=>.e (λm=>oA Y 9 ⟨0,m⟩ d) λl=>.e (λm=>oA Y 34 ⟨0,m⟩ f) λa=>.l (.p [l,a])) (.h (Js Y 98) λj=>.c 41 [.i [.h g,c,e,k]] λa=>.p (jQ Y) a 2 1 [d,f,j] (.c 44 [j]<|uS λs=>.h (mC Y 9 d (.h s)) λ_=>.h (mC Y 34 f (V 0)) λ_=>.e (λm=>oA Y 9 ⟨0,m⟩ d) λh=>.e (λm=>oA Y 34 ⟨0,m⟩ f) λa=>.l (.p [h,a])) (.e (λm=>oA Y 9 ⟨0,m⟩ d) λi=>.e (λm=>oA Y 34 ⟨0,m⟩ f) λa=>.l (.p [i,a])))
def t17_2:T:=.c 42 [k,.h g] λa=>.c 42 [k,.h [10]] λa=>.c 43 [k]<|uI λn=>.a (fB 65536 n) (.h (mC Y 9 c (.h [])) λ_=>.h (mC Y 34 e (V 3)) λ_=>.l (.d false)) xH
def t18:T:=.c 26 []<|uG [.y] λX=>.a (A8 10 (.i [.h g,c,e,k]) (.i [.h g,c,e,k])) (.c 45 [(.i [X.v 0]),.i [.h g,c,e,k]]<|uB λb=>.l (.d b)) .g
def t19:T:=.c 46 [.h g,(.q (.aa 47) [] [])] λa=>.d (uX 0 a)<|uG OK λb=>.d (uX 1 a)<|uG Dp λX=>.d (uX 2 a)<|uI λn=>.a (aB (L6 b)) (.a true (.l (.p [(M6 b),(uA4 X),V n])) .g) .g
def t20:T:=.a (sF g t) (.c 48 [c,q]<|uB λb=>.a b (.c 49 [e,w]<|uB λb=>.a b (.c 50 [k,C]<|uB λb=>.l (.d b)) rB) rB) rB
def t21:T:=.a (vE o 1) (.l (V 1)) (.j 2 [V o,V 0,V 0,uY d,.h g,uY f,.d i,c,.d l,e,V j,k])
def xg:T:=.d (vC k)<|uI λn=>.a (fB j n) (.d (zC Y 29 k (V j)) λa=>.e (λm=>oA Y 31 ⟨0,m⟩ a)<|uG aX λX=>.c 21 [(nF X),(V (uW (d-1)))]<|uI λn=>.j 2 [V d,(V (bif fB f n then n else f)),(uC j),uY o,.h g,uY r,.d i,c,.d l,e,V u,k]) (.l (V (uW (1+f))))
def t25:T:=.d (vC c)<|uI λa=>.d (vC e)<|uI λn=>.l (V (uW ((uW (1+a))+n)))
def t26:T:=.c 59 [] λa=>.a (aB [a]) (.a (aB [a]) (.l (.i [a])) .g) .g
def t27:T:=.a (fB 24 o) rB (.a (vE 27 (uW d)) rB (.d (rC c) λa=>.d (zC Y 191 a (uY d)) λh=>.d (rC h) λa=>.d (jB Y 131 0 a) λa=>.e (λm=>oA Y 5 ⟨0,m⟩ a)<|uU λn=>.a (kB n 0) rB (.d (vC q)<|uI λr=>.d (rC h) λa=>.d (jB Y 131 3 a) λa=>.e (λm=>oA Y 3 ⟨0,m⟩ a)<|uI λn=>.a (fB r n) rB (.d (vC q)<|uI λp=>.d (rC h) λa=>.d (jB Y 131 4 a) λa=>.e (λm=>oA Y 3 ⟨0,m⟩ a)<|uI λn=>.a (fB n p) rB (.d (rC h) λa=>.d (jB Y 131 2 a) λa=>.e (λm=>oA Y 4 ⟨0,m⟩ a)<|uB λb=>.a b (.c 60 [.h g]<|uB λb=>.a (!b) rB (.d (rC h) λa=>.d (jB Y 131 2 a) λa=>.e (λm=>oA Y 4 ⟨0,m⟩ a)<|uB λb=>.a (!b) (.a (!sF g []) rB (my f i e l k j d o c g q)) (my f i e l k j d o c g q))) (.d (rC h) λa=>.d (jB Y 131 2 a) λa=>.e (λm=>oA Y 4 ⟨0,m⟩ a)<|uB λb=>.a (!b) (.a (!sF g []) rB (my f i e l k j d o c g q)) (my f i e l k j d o c g q)))))))
def zqo:T:=.c 61 [.i [uY r,.d x,w,.d y,C,V u]]<|uB λb=>.a (!b) rB (.d (vC q)<|uI λn=>.j 4 [V d,q,V n,V 0,c])
def xi:T:=.a (fB j f) (.d (zC Y 29 c (V j)) λa=>.e (λm=>oA Y 31 ⟨0,m⟩ a)<|uG aX λX=>.a (aB (iH X)) (.c 27 [.i [e],(nF X),(uC d)]<|uB λb=>.a (!b) rB (.j 4 [V d,c,V f,(uC j),e])) .g) xH
def t28:T:=.c 59 [] λa=>.a (aB [a]) (.h (Mv Y 134 (.i [.y,.g,a])) λb=>.c 62 [b,.i [uY d,.h g,uY f,.d i,c,.d l,e,V j,k]] λa=>.d (rC b) λa=>.d (jB Y 134 0 a) λa=>.c 44 [a]<|uS λs=>.l (.h s)) .g
def t33:T:=.d (vC c)<|uI λa=>.d (vC e)<|uI λn=>.a (!kB a n) rB (.j 2 [c,e,V 0])
def t33_2:T:=.d (vC c)<|uI λn=>.a (fB d n) (.d (zC Y 29 c (V d)) λa=>.e (λm=>oA Y 31 ⟨0,m⟩ a)<|uG aX λf=>.d (zC Y 29 e (V d)) λa=>.e (λm=>oA Y 31 ⟨0,m⟩ a)<|uG aX λX=>.c 12 [(nF f),(nF X)]<|uB λb=>.a (!b) rB (.j 2 [c,e,(uC d)])) xH
def t34:T:=.a (kB d 2) (.a (kB d 2) (.a (kB f 0) (J6 i c l e) rB) (w7 d i c l e f)) (.a (kB d 3) (.a (kB f 0) (J6 i c l e) rB) (w7 d i c l e f))
def t35:T:=.a (kB d 1) (.c 72 [(.d (kB f 1))]<|uS λs=>.l (.h s)) (.a (kB d 2) (.c 73 [.i [.d i,c,.d l,e]]<|uS λs=>.l (.h s)) (.a (kB d 3) (.c 73 [.i [.d i,c,.d l,e]]<|uS λs=>.d (kG [109,111,110,101,121,32] s)<|uS λs=>.l (.h s)) (.a (kB d 4) (.c 74 [V f]<|uS λs=>.l (.h s)) (.a (kB d 5) (.c 75 [V f]<|uS λs=>.d (kG s [32,100,97,121,115])<|uS λs=>.l (.h s)) (.a (kB d 6) (.c 75 [V f]<|uS λs=>.d (kG s [32,109,111,110,116,104,115])<|uS λs=>.l (.h s)) (.l (.h [])))))))
def t40:T:=.c 82 [.i [.d i,c],.i [.d x,k]]<|uB λb=>.a b (.c 82 [.i [.d l,e],.i [.d y,q]]<|uB λb=>.l (.d b)) rB
def t41:T:=.h (dL (.i [.h g,c,e,k])) λa=>.l (.q (.aa 83) [] [a])
def t42:T:=.c 87 [c] λa=>.d (rC c) λa=>.d (jB Y 98 1 a) λa=>.e (λm=>oA Y 96 ⟨0,m⟩ a) λa=>.h (lG Y 96 9 a (.h g)) λb=>.d (rC c) λa=>.d (jB Y 98 1 a) λa=>.h (mC Y 96 a b) λ_=>.l (.p [(V (Int.ofNat (vB g))),.x])
def t43:T:=.d (rC c) λa=>.d (jB Y 98 1 a) λa=>.e (λm=>oA Y 96 ⟨0,m⟩ a) λa=>.d (vC a)<|uI λn=>.l (V n)
def t45:T:=.c 60 [.h g]<|uB λb=>.a b (.c 89 [e,(.q (.aa 88) [] [])]<|uB λb=>.a b (.c 90 [k,(.q (.aa 91) [] [])]<|uB λb=>.a b (.c 92 [q,(.q (.aa 93) [.i [c]] [])]<|uB λb=>.l (.d b)) rB) rB) rB
def t48:T:=.d (vC c)<|uI λa=>.d (vC e)<|uI λn=>.a (!kB a n) rB (.j 2 [c,e,V 0])
def t48_2:T:=.d (vC c)<|uI λn=>.a (fB d n) (.d (zC Y 48 c (V d)) λa=>.e (λm=>oA Y 89 ⟨0,m⟩ a)<|uG S3 λf=>.d (zC Y 48 e (V d)) λa=>.e (λm=>oA Y 89 ⟨0,m⟩ a)<|uG S3 λX=>.d ((dX .neq).f Y 89 (.tmp 20) (.tmp 24) (J5 f) (J5 X))<|uB λb=>.a b rB (.j 2 [c,e,(uC d)])) xH
def t49:T:=.d (vC c)<|uI λa=>.d (vC e)<|uI λn=>.a (!kB a n) rB (.j 2 [c,e,V 0])
def t49_2:T:=.d (vC c)<|uI λn=>.a (fB d n) (.d (zC Y 49 c (V d)) λa=>.e (λm=>oA Y 92 ⟨0,m⟩ a)<|uG S4 λf=>.d (zC Y 49 e (V d)) λa=>.e (λm=>oA Y 92 ⟨0,m⟩ a)<|uG S4 λX=>.c 98 [(wz f),(wz X)]<|uB λb=>.a (!b) rB (.j 2 [c,e,(uC d)])) xH
def t50:T:=.d (vC c)<|uI λa=>.d (vC e)<|uI λn=>.a (!kB a n) rB (.j 2 [c,e,V 0])
def t50_2:T:=.d (vC c)<|uI λn=>.a (fB d n) (.d (zC Y 50 c (V d)) λa=>.e (λm=>oA Y 60 ⟨0,m⟩ a)<|uG On λf=>.d (zC Y 50 e (V d)) λa=>.e (λm=>oA Y 60 ⟨0,m⟩ a)<|uG On λX=>.c 99 [(U6 f),(U6 X)]<|uB λb=>.a (!b) rB (.j 2 [c,e,(uC d)])) xH
def t59:T:=.a true (.a true (.n (.q (.aa 117) [] []) [.h [102,97,99,116,32]]<|uG aM λs=>.n (.q (.aa 117) [] []) [.h [104,97,115,32]]<|uG aM λt=>.n (.q (.aa 117) [] []) [.h []]<|uG aM λu=>.n (.q (.aa 116) [] []) [.h [108,111,111,107],.d true,V 1,V 2]<|uG aM λv=>.n (.q (.aa 118) [] []) [.h [43],V 5,V 5,V 6]<|uG aM λw=>.n (.q (.aa 118) [] []) [.h [45],V 5,V 5,V 6]<|uG aM λb=>.n (.q (.aa 118) [] []) [.h [42],V 6,V 6,V 7]<|uG aM λc=>.n (.q (.aa 118) [] []) [.h [47],V 6,V 6,V 7]<|uG aM λd=>.n (.q (.aa 116) [] []) [.h [109,105,110],.d false,V 2,V 2]<|uG aM λe=>.n (.q (.aa 116) [] []) [.h [109,97,120],.d false,V 2,V 2]<|uG aM λf=>.n (.q (.aa 118) [] []) [.h [60],V 4,V 5,V 5]<|uG aM λg=>.n (.q (.aa 118) [] []) [.h [61],V 4,V 5,V 5]<|uG aM λh=>.n (.q (.aa 118) [] []) [.h [97,110,100],V 2,V 2,V 3]<|uG aM λi=>.n (.q (.aa 118) [] []) [.h [111,114],V 1,V 1,V 2]<|uG aM λj=>.a true (.n (.q (.aa 116) [] []) [.h [105,102],.d false,V 3,V 3]<|uG aM λk=>.n (.q (.aa 116) [] []) [.h [114,111,117,110,100],.d false,V 2,V 2]<|uG aM λl=>.n (.q (.aa 116) [] []) [.h [98,101,116,119,101,101,110],.d false,V 2,V 2]<|uG aM λm=>.n (.q (.aa 116) [] []) [.h [115,101,114,118,105,99,101],.d true,V 2,V 2]<|uG aM λn=>.n (.q (.aa 116) [] []) [.h [98,101,115,116],.d true,V 3,V 3]<|uG aM λo=>.n (.q (.aa 116) [] []) [.h [103,114,111,119],.d true,V 2,V 2]<|uG aM λp=>.n (.q (.aa 116) [] []) [.h [109,111,110,116,104,115],.d false,V 1,V 1]<|uG aM λq=>.n (.q (.aa 116) [] []) [.h [110,117,109,98,101,114],.d false,V 1,V 1]<|uG aM λr=>.n (.q (.aa 116) [] []) [.h [115,116,97,114,116],.d false,V 1,V 1]<|uG aM λX=>.a true (.h (dL (.i [uY 0,.h [],.d false,V 0,V 0,V 0,V 0,V 0,uY 1,.h [],.d false,V 0,V 0,V 7,V 0,V 0,uY 2,.h [116,111,100,97,121],.d false,V 0,V 0,V 7,V 0,V 0,uY (s.i 0),.h (s.s 1),.d (s.b 2),V (s.i 3),V (s.i 4),V (s.i 5),V (s.i 6),V (s.i 7),uY (t.i 0),.h (t.s 1),.d (t.b 2),V (t.i 3),V (t.i 4),V (t.i 5),V (t.i 6),V (t.i 7),uY (u.i 0),.h (u.s 1),.d (u.b 2),V (u.i 3),V (u.i 4),V (u.i 5),V (u.i 6),V (u.i 7),uY (v.i 0),.h (v.s 1),.d (v.b 2),V (v.i 3),V (v.i 4),V (v.i 5),V (v.i 6),V (v.i 7),uY (w.i 0),.h (w.s 1),.d (w.b 2),V (w.i 3),V (w.i 4),V (w.i 5),V (w.i 6),V (w.i 7),uY (b.i 0),.h (b.s 1),.d (b.b 2),V (b.i 3),V (b.i 4),V (b.i 5),V (b.i 6),V (b.i 7),uY (c.i 0),.h (c.s 1),.d (c.b 2),V (c.i 3),V (c.i 4),V (c.i 5),V (c.i 6),V (c.i 7),uY (d.i 0),.h (d.s 1),.d (d.b 2),V (d.i 3),V (d.i 4),V (d.i 5),V (d.i 6),V (d.i 7),uY (e.i 0),.h (e.s 1),.d (e.b 2),V (e.i 3),V (e.i 4),V (e.i 5),V (e.i 6),V (e.i 7),uY (f.i 0),.h (f.s 1),.d (f.b 2),V (f.i 3),V (f.i 4),V (f.i 5),V (f.i 6),V (f.i 7),uY (g.i 0),.h (g.s 1),.d (g.b 2),V (g.i 3),V (g.i 4),V (g.i 5),V (g.i 6),V (g.i 7),uY (h.i 0),.h (h.s 1),.d (h.b 2),V (h.i 3),V (h.i 4),V (h.i 5),V (h.i 6),V (h.i 7),uY (i.i 0),.h (i.s 1),.d (i.b 2),V (i.i 3),V (i.i 4),V (i.i 5),V (i.i 6),V (i.i 7),uY (j.i 0),.h (j.s 1),.d (j.b 2),V (j.i 3),V (j.i 4),V (j.i 5),V (j.i 6),V (j.i 7),uY 5,.h [110,111,116,32],.d false,V 1,V 1,V 3,V 3,V 3,uY (k.i 0),.h (k.s 1),.d (k.b 2),V (k.i 3),V (k.i 4),V (k.i 5),V (k.i 6),V (k.i 7),uY (l.i 0),.h (l.s 1),.d (l.b 2),V (l.i 3),V (l.i 4),V (l.i 5),V (l.i 6),V (l.i 7),uY (m.i 0),.h (m.s 1),.d (m.b 2),V (m.i 3),V (m.i 4),V (m.i 5),V (m.i 6),V (m.i 7),uY (n.i 0),.h (n.s 1),.d (n.b 2),V (n.i 3),V (n.i 4),V (n.i 5),V (n.i 6),V (n.i 7),uY (o.i 0),.h (o.s 1),.d (o.b 2),V (o.i 3),V (o.i 4),V (o.i 5),V (o.i 6),V (o.i 7),uY (p.i 0),.h (p.s 1),.d (p.b 2),V (p.i 3),V (p.i 4),V (p.i 5),V (p.i 6),V (p.i 7),uY (q.i 0),.h (q.s 1),.d (q.b 2),V (q.i 3),V (q.i 4),V (q.i 5),V (q.i 6),V (q.i 7),uY (r.i 0),.h (r.s 1),.d (r.b 2),V (r.i 3),V (r.i 4),V (r.i 5),V (r.i 6),V (r.i 7),uY (X.i 0),.h (X.s 1),.d (X.b 2),V (X.i 3),V (X.i 4),V (X.i 5),V (X.i 6),V (X.i 7)])) λa=>.l a) .g) .g) .g) .g
def t60:T:=.a (sF g []) rB (.a (fB 24 (Int.ofNat (vB g))) rB (.d (mJ Y 9 (.h g) (V 0))<|uU λn=>.c 119 [uY n]<|uB λb=>.a (!b) rB (.c 120 [.h g,(.q (.aa 121) [] [])]<|uS λs=>.a (sF s g) (.c 122 [.h g]<|uB λb=>.l (.d (!b))) rB)))
def t61:T:=.a (kB d 0) (.a (kB f 0) (.c 70 [.i [.d i,c,.d l,e]]<|uB λb=>.l (.d b)) rB) rB
def t62:T:=.d (rC c) λa=>.d (jB Y 134 0 a) λa=>.c 43 [a]<|uI λn=>.a (fB 65536 n) (.l (.p [])) (.d (rC c) λa=>.d (jB Y 134 1 a) λa=>.e (λm=>oA Y 69 ⟨0,m⟩ a) λa=>.d (rC a) λa=>.d (zC Y 191 a (uY d)) λh=>.d (rC h) λa=>.d (jB Y 131 0 a) λa=>.e (λm=>oA Y 5 ⟨0,m⟩ a)<|uU λb=>.a (kB b 1) (.d (rC c) λa=>.d (jB Y 134 0 a) λa=>.c 35 [.i [uY f,.d i,e,.d l,k,V j]]<|uS λs=>.c 42 [a,.h s] λa=>.l (.p [])) (.a (kB b 2) (.d (rC c) λa=>.d (jB Y 134 0 a) λo=>.d (rC h) λa=>.d (jB Y 131 1 a) λa=>.e (λm=>oA Y 9 ⟨0,m⟩ a)<|uS λs=>.c 42 [o,.h s] λa=>.l (.p [])) (.a (kB b 3) (.d (rC c) λa=>.d (jB Y 134 0 a) λp=>.d (rC h) λa=>.d (jB Y 131 1 a) λa=>.e (λm=>oA Y 9 ⟨0,m⟩ a)<|uS λs=>.d (kG s g)<|uS λs=>.d (kG s [32,97,116,32])<|uS λs=>.c 42 [p,.h s] λa=>.d (zC Y 29 q (V 0)) λa=>.e (λm=>oA Y 31 ⟨0,m⟩ a)<|uG aX λX=>.d (rC h) λa=>.d (jB Y 131 6 a) λa=>.e (λm=>oA Y 3 ⟨0,m⟩ a)<|uI λn=>.c 123 [c,(nF X),V n] λa=>.l (.p [])) (.a (kB b 4) (.d (zC Y 29 q (V 0)) λa=>.e (λm=>oA Y 31 ⟨0,m⟩ a)<|uG aX λX=>.d (rC h) λa=>.d (jB Y 131 6 a) λa=>.e (λm=>oA Y 3 ⟨0,m⟩ a)<|uI λn=>.c 123 [c,(nF X),V n] λa=>.d (rC c) λa=>.d (jB Y 134 0 a) λr=>.d (rC h) λa=>.d (jB Y 131 1 a) λa=>.e (λm=>oA Y 9 ⟨0,m⟩ a)<|uS λs=>.d (kG [32] s)<|uS λs=>.d (kG s [32])<|uS λs=>.c 42 [r,.h s] λa=>.d (zC Y 29 q (V 1)) λa=>.e (λm=>oA Y 31 ⟨0,m⟩ a)<|uG aX λX=>.d (rC h) λa=>.d (jB Y 131 7 a) λa=>.e (λm=>oA Y 3 ⟨0,m⟩ a)<|uI λn=>.c 123 [c,(nF X),V n] λa=>.l (.p [])) (.a (kB b 5) (.d (rC c) λa=>.d (jB Y 134 0 a) λt=>.d (rC h) λa=>.d (jB Y 131 1 a) λa=>.e (λm=>oA Y 9 ⟨0,m⟩ a)<|uS λs=>.c 42 [t,.h s] λa=>.d (zC Y 29 q (V 0)) λa=>.e (λm=>oA Y 31 ⟨0,m⟩ a)<|uG aX λX=>.d (rC h) λa=>.d (jB Y 131 6 a) λa=>.e (λm=>oA Y 3 ⟨0,m⟩ a)<|uI λn=>.c 123 [c,(nF X),V n] λa=>.l (.p [])) (.a (kB b 6) (.c 124 [c,.i [uY d,.h g,uY f,.d i,e,.d l,k,V j,q],h] λa=>.l (.p [])) (.l (.p []))))))))
def t63:T:=.h (qL Y 136) λb=>.h (qL Y 39) λc=>.h (qL Y 34) λd=>.a (fB 65536 (Int.ofNat (vB g))) (.a true (.h (mC Y 136 b .g) λ_=>.h (mC Y 39 c (.i [V 0,V 0])) λ_=>.h (mC Y 34 d (V 3)) λ_=>.e (λm=>oA Y 136 ⟨0,m⟩ b) λj=>.e (λm=>oA Y 39 ⟨0,m⟩ c) λk=>.e (λm=>oA Y 34 ⟨0,m⟩ d) λa=>.l (.p [j,k,a])) .g) (.h (qL Y 136) λi=>.c 125 [.h g] λa=>.p (jQ Y) a 2 2 [b,c,d,i] (.e (λm=>oA Y 136 ⟨0,m⟩ i) λa=>.a true (.h (mC Y 136 b a) λ_=>.h (mC Y 39 c (.i [V 0,V 0])) λ_=>.h (mC Y 34 d (V 0)) λ_=>.e (λm=>oA Y 136 ⟨0,m⟩ b) λl=>.e (λm=>oA Y 39 ⟨0,m⟩ c) λe=>.e (λm=>oA Y 34 ⟨0,m⟩ d) λa=>.l (.p [l,e,a])) .g) (.e (λm=>oA Y 136 ⟨0,m⟩ b) λf=>.e (λm=>oA Y 39 ⟨0,m⟩ c) λh=>.e (λm=>oA Y 34 ⟨0,m⟩ d) λa=>.l (.p [f,h,a])))
def xj:T:=.a true (.a (!kB o 0) (.h (mC Y 136 c .g) λ_=>.a (A8 10 (.i [V f,V j]) (.i [V f,V j])) (.h (mC Y 39 e (.i [V f,V j])) λ_=>.h (mC Y 34 k (V o)) λ_=>.l (.d false)) .g) (.e (λm=>oA Y 136 ⟨0,m⟩ q) λb=>.h (rD Y 136 1 [(0,(.i [uY d,.h g,V f,V j]))]) λa=>.h (lG Y 136 136 b a) λa=>.h (mC Y 136 q a) λ_=>.l (.d true))) .g
def t64:T:=.a (fB d 0) (.a true (.a true (.l (.i [V 0,V 0])) .g) .g) (.d (aF Y 9 mN (.h g) none (some (V (bif fB (Int.ofNat (vB g)) d then(Int.ofNat (vB g))else d))))<|uS λs=>.c 126 [.h s,.h [10]]<|uI λa=>.c 127 [.h s,uY 10]<|uI λn=>.a true (.a true (.l (.i [(uC a),(V (uW ((Int.ofNat (vB s))-n)))])) .g) .g)
def t69:T:=.d (vC c)<|uI λn=>.a (fB 42 n) rB (.d (vC e)<|uI λn=>.a (fB 42 n) rB (.c 130 [.i [.d i,c,.d l,e]]<|uB λb=>.a (!b) rB (.c 131 [.i [.d i,c,.d l,e]] λa=>.d (uX 0 a)<|uS λs=>.d (uX 1 a)<|uI λn=>.a (kB n 0) (.c 132 [.h s,.h [45]]<|uS λs=>.l (.d (vE (Int.ofNat (vB s)) 200))) rB)))
def t70:T:=.a (!i) (.a (!l) (.d (vC c)<|uI λa=>.d (vC e)<|uI λn=>.l (.d (kB (uW (a+n)) 0))) rB) rB
def t71:T:=.a (vE 0 d) (.l (.d (fB d 65536))) rB
def t72:T:=.c 133 [.d i]<|uS λs=>.l (.h s)
def t73:T:=.c 131 [.i [.d i,c,.d l,e]] λa=>.d (uX 0 a)<|uS λs=>.d (uX 1 a)<|uI λn=>.c 134 [.h s]<|uS λs=>.l (.h s)
def t74:T:=.c 135 [V d] λa=>.d (uX 0 a)<|uI λb=>.d (uX 1 a)<|uI λc=>.d (uX 2 a)<|uI λe=>.d (uX 3 a)<|uI λn=>.a (!kB n 0) (.l (.h [])) (.a true (.h (qL Y 209) λa=>.h (mC Y 209 a (.i [uY 0,uY 0,uY 0,uY 0,uY 45,uY 0,uY 0,uY 45,uY 0,uY 0])) λ_=>.e (λm=>oA Y 209 ⟨0,m⟩ a)<|uG Jf λX=>.c 136 [(U7 X),V 0,V 4,V b]<|uG Jf λX=>.h (mC Y 209 a (U7 X)) λ_=>.e (λm=>oA Y 209 ⟨0,m⟩ a)<|uG Jf λX=>.c 136 [(U7 X),V 5,V 2,V c]<|uG Jf λX=>.h (mC Y 209 a (U7 X)) λ_=>.e (λm=>oA Y 209 ⟨0,m⟩ a)<|uG Jf λX=>.c 136 [(U7 X),V 8,V 2,V e]<|uG Jf λX=>.h (mC Y 209 a (U7 X)) λ_=>.e (λm=>aF Y 209 ⟨0,m⟩ a none none) λa=>.e (λm=>rS Y 96 9 ⟨0,m⟩ a)<|uS λs=>.l (.h s)) .g)
def t75:T:=.c 137 [V d]<|uS λs=>.c 134 [.h s]<|uS λs=>.l (.h s)
def t77:T:=.d (rC c) λa=>.d (jB Y 141 1 a) λa=>.e (λm=>oA Y 3 ⟨0,m⟩ a)<|uI λd=>.d (rC c) λa=>.d (jB Y 141 0 a) λa=>.e (λm=>oA Y 136 ⟨0,m⟩ a) λa=>.d (vC a)<|uI λn=>.a (fB d n) (.d (rC c) λa=>.d (jB Y 141 0 a) λa=>.e (λm=>oA Y 136 ⟨0,m⟩ a) λb=>.d (rC c) λa=>.d (jB Y 141 1 a) λa=>.e (λm=>oA Y 3 ⟨0,m⟩ a)<|uI λn=>.d (zC Y 136 b (V n)) λa=>.e (λm=>oA Y 149 ⟨0,m⟩ a)<|uG Mh λX=>.a true (.l (S5 X)) .g) (.d (rC c) λa=>.d (jB Y 141 3 a) λa=>.e (λm=>oA Y 39 ⟨0,m⟩ a)<|uG Dp λX=>.a true (.a true (.l (.i [uY 0,.h [],V (X.i 0),V (X.i 1)])) .g) .g)
def t78:T:=.c 77 [c]<|uG Mh λX=>.a true (.a (kB (X.i 0) 1) (w9 X g c) (.a (kB (X.i 0) 4) (w9 X g c) rB)) .g
def t80:T:=.c 139 [.h g,.h [47]] λa=>.d (uX 0 a)<|uS λc=>.d (uX 1 a)<|uS λs=>.d (uX 2 a)<|uB λb=>.a (!b) (.j 9 [.d i,.h c,.h [49],.d false,.g,.d false,.g]) (.j 9 [.d i,.h c,.h s,.d false,.g,.d false,.g])
def t80_9:T:=.c 140 [.h g] λa=>.d (uX 0 a)<|uG bM λc=>.d (uX 1 a)<|uI λn=>.a (aB (oI c)) (.c 140 [.h t] λa=>.d (uX 0 a)<|uG bM λX=>.d (uX 1 a)<|uI λn=>.a (aB (oI X)) (.c 141 [(dI c),(dI X)] λa=>.d (uX 0 a)<|uG N9 λb=>.d (uX 1 a)<|uI λn=>.a (aB (cr b)) (.a i (.c 142 [(P9 b)] λa=>.d (uX 0 a)<|uG N9 λX=>.d (uX 1 a)<|uI λn=>.a (aB (cr X)) (.a (aB (cr X)) (.l (P9 X)) .g) .g) (.a (aB (cr b)) (.l (P9 b)) .g)) .g) .g) .g
def t82:T:=.a (H7 i l) (.c 145 [c,e]<|uB λb=>.l (.d b)) rB
def t83:T:=.d (jB Y 52 0 e) λa=>.e (λm=>oA Y 9 ⟨0,m⟩ a)<|uS λs=>.d (kG [112,108,97,110,32] s)<|uS λs=>.n c [.h s]<|uB λb=>.a (!b) (.l (.p [])) (.d (jB Y 52 1 e) λa=>.e (λm=>oA Y 48 ⟨0,m⟩ a) λa=>.d (vC a)<|uI λn=>.j 2 [c,e,a,V n,V 0])
def xk:T:=.a (fB f d) (.d (zC Y 48 k (V f)) λa=>.e (λm=>oA Y 89 ⟨0,m⟩ a)<|uG S3 λX=>.a true (.a (X.b 2) (.j 15 [c,e,.h [102,97,99,116,32],k,V d,V f,.h (X.s 0),uY (X.i 1),.d (X.b 2)]) (.j 15 [c,e,.h [100,101,102,32],k,V d,V f,.h (X.s 0),uY (X.i 1),.d (X.b 2)])) .g) (.d (jB Y 52 2 e) λa=>.e (λm=>oA Y 49 ⟨0,m⟩ a) λa=>.d (vC a)<|uI λn=>.j 6 [c,e,a,V n,V 0])
def zqf:T:=.d (kG g t)<|uS λs=>.d (kG s [32])<|uS λa=>.c 84 [uY j]<|uS λs=>.a (A8 10 (.h t) (.h t)) (.d (kG a s)<|uS λs=>.n c [.h s]<|uB λb=>.a (!b) (.l (.p [])) (.j 2 [c,e,k,V d,(uC f)])) .g
def xl:T:=.a (fB f d) (.d (zC Y 49 k (V f)) λa=>.e (λm=>oA Y 92 ⟨0,m⟩ a)<|uG S4 λX=>.a (aB (uM8 X)) (.a (X.b 1) (.j 31 [c,e,.h [32,116,119,111],k,V d,V f,.h (X.s 0),.d (X.b 1),X.v 2]) (.j 31 [c,e,.h [32,111,110,101],k,V d,V f,.h (X.s 0),.d (X.b 1),X.v 2])) .g) (.d (jB Y 52 3 e) λa=>.e (λm=>oA Y 50 ⟨0,m⟩ a) λa=>.d (vC a)<|uI λn=>.j 14 [c,a,V n,V 0])
def zqe:T:=.d (kG [116,97,98,108,101,32] t)<|uS λs=>.d (kG s g)<|uS λs=>.n c [.h s]<|uB λb=>.a (!b) (.l (.p [])) (.d (vC q)<|uI λn=>.j 10 [c,e,k,V d,V f,q,V n,V 0,.h t,.d i,q])
def xm:T:=.a (fB o j) (.d (zC Y 90 q (V o)) λa=>.e (λm=>oA Y 94 ⟨0,m⟩ a)<|uG th λX=>.a (aB (wy X)) (.c 85 [(mu X),.d i]<|uS λs=>.n c [.h s]<|uB λb=>.a (!b) (.l (.p [])) (.j 10 [c,e,k,V d,V f,q,V j,(uC o),.h g,.d i,w])) .g) (.j 6 [c,e,k,V d,(uC f)])
def xn:T:=.a (fB f d) (.d (zC Y 50 e (V f)) λa=>.e (λm=>oA Y 60 ⟨0,m⟩ a)<|uG On λX=>.a (aB (l8 X)) (.c 86 [(U6 X)]<|uS λs=>.n c [.h s]<|uB λb=>.a (!b) (.l (.p [])) (.j 14 [c,e,V d,(uC f)])) .g) (.l (.p []))
def t84:T:=.a (fB (uW d) 7) (.d (zC Y 223 (.j 0 0) (uY d)) λa=>.e (λm=>oA Y 9 ⟨0,m⟩ a)<|uS λs=>.l (.h s)) (.l (.h []))
def t85:T:=.c 75 [V d]<|uS λa=>.a x (.c 75 [V f]<|uS λs=>.d (kG [32] s)<|uS λs=>.d (kG a s)<|uS λs=>.j 9 [.h s,V d,V f,V j,.d i,c,.d l,e]) (.j 9 [.h a,V d,V f,V j,.d i,c,.d l,e])
def t85_9:T:=.d (kG [114,111,119,32] g)<|uS λs=>.d (kG s [32,107,110,111,119,110,32])<|uS λa=>.c 74 [V j]<|uS λs=>.a (A8 10 (.i [.d i,c,.d l,e]) (.i [.d i,c,.d l,e])) (.d (kG a s)<|uS λs=>.d (kG s [32,105,115,32])<|uS λb=>.c 73 [.i [.d i,c,.d l,e]]<|uS λs=>.d (kG b s)<|uS λs=>.l (.h s)) .g
def t86:T:=.a (fB f 65536) (.c 74 [V f]<|uS λs=>.j 9 [.h s,.h g,.h t,V d,V f,V j,.d i,uY o,.h A,uY r,.d l,c,.d x,e,V u,k,uY v,.h I,uY z,.d y,q,.d D,w,V B,C]) (.j 9 [.h [101,110,100],.h g,.h t,V d,V f,V j,.d i,uY o,.h A,uY r,.d l,c,.d x,e,V u,k,uY v,.h I,uY z,.d y,q,.d D,w,V B,C])
def t86_9:T:=.d (kG [99,108,97,117,115,101,32] t)<|uS λs=>.d (kG s [32])<|uS λs=>.d (kG s A)<|uS λs=>.d (kG s [32,102,114,111,109,32])<|uS λm=>.c 74 [V d]<|uS λs=>.a (A8 10 (.h t) (.h t)) (.a (A8 10 (.h A) (.h A)) (.a (A8 10 (V j) (V j)) (.d (kG m s)<|uS λs=>.d (kG s [32,116,111,32])<|uS λs=>.d (kG s g)<|uS λs=>.d (kG s [32,107,110,111,119,110,32])<|uS λb=>.c 74 [V j]<|uS λs=>.a (A8 10 (.h t) (.h t)) (.a (A8 10 (.h A) (.h A)) (.d (kG b s)<|uS λa=>.a i (.d (kG a [32,111,102,102])<|uS λs=>.l (.h s)) (.d (kG a [32,119,104,101,110,32])<|uS λf=>.c 28 [.i [uY o,.h I,uY r,.d l,c,.d x,e,V u,k]]<|uS λs=>.a (A8 10 (.i [uY v,.h K,uY z,.d y,q,.d D,w,V B,C]) (.i [uY v,.h K,uY z,.d y,q,.d D,w,V B,C])) (.d (kG f s)<|uS λs=>.d (kG s [32,116,104,101,110,32])<|uS λh=>.c 28 [.i [uY v,.h K,uY z,.d y,q,.d D,w,V B,C]]<|uS λs=>.d (kG h s)<|uS λs=>.l (.h s)) .g)) .g) .g) .g) .g) .g
def t88:T:=.c 60 [.h g]<|uB λb=>.a b (.a (vE 1 d) (.l (.d (vE d 6))) rB) rB
def t89:T:=.d (vC c)<|uI λn=>.j 2 [e,c,V n,V 0]
def t89_2:T:=.a (fB f d) (.d (zC Y 48 e (V f)) λa=>.e (λm=>oA Y 89 ⟨0,m⟩ a)<|uG S3 λX=>.a true (.n c [(J5 X)]<|uB λb=>.a (!b) rB (.j 2 [c,e,V d,(uC f)])) .g) xH
def t90:T:=.d (vC c)<|uI λn=>.j 2 [e,c,V n,V 0]
def t90_2:T:=.a (fB f d) (.d (zC Y 49 e (V f)) λa=>.e (λm=>oA Y 92 ⟨0,m⟩ a)<|uG S4 λX=>.a (aB (uM8 X)) (.n c [(wz X)]<|uB λb=>.a (!b) rB (.j 2 [c,e,V d,(uC f)])) .g) xH
def t91:T:=.h (dL (.i [.h g,.d i,c])) λd=>.h (qL Y 152) λe=>.h (mC Y 152 e (.q (.aa 147) [] [])) λ_=>.d (jB Y 92 0 d) λa=>.e (λm=>oA Y 9 ⟨0,m⟩ a)<|uS λs=>.c 60 [.h s]<|uB λb=>.a b (.d (jB Y 92 2 d) λa=>.e (λm=>oA Y 90 ⟨0,m⟩ a) λa=>.c 149 [a,(.q (.aa 148) [] [e,d])]<|uB λb=>.l (.d b)) rB
def t92:T:=.d (vC c)<|uI λn=>.j 2 [e,c,V n,V 0]
def t92_2:T:=.a (fB f d) (.d (zC Y 50 e (V f)) λa=>.e (λm=>oA Y 60 ⟨0,m⟩ a)<|uG On λX=>.a (aB (l8 X)) (.n c [(U6 X)]<|uB λb=>.a (!b) rB (.j 2 [c,e,V d,(uC f)])) .g) xH
def t93:T:=.c 60 [.h g]<|uB λb=>.a (!b) rB (.c 60 [.h t]<|uB λb=>.a (!b) rB (.c 71 [V d]<|uB λb=>.a (!b) rB (.c 71 [V j]<|uB λb=>.a (!b) rB (.c 71 [V f]<|uB λb=>.a (!b) (.a (!kB f 65536) rB (ff i o A r l e x k u q v I z y w D C B L c)) (ff i o A r l e x k u q v I z y w D C B L c)))))
def t98:T:=.a (sF g t) (.a (H7 i l) (.c 155 [c,e]<|uB λb=>.l (.d b)) rB) rB
def t99:T:=.a (sF g K) (.a (sF t l5) (.a (kB d F) (.a (kB f H) (.a (kB j E) (.a (H7 i M) (.c 12 [.i [uY o,.h A,uY r,.d l,c,.d x,e,V u,k],.i [uY J,.h l6,uY U,.d N,L,.d P,x7,V W,x8]]<|uB λb=>.a b (.c 12 [.i [uY v,.h I,uY z,.d y,q,.d D,w,V B,C],.i [uY Z,.h l7,uY j6,.d R,x9,.d S,y0,V j7,y1]]<|uB λb=>.l (.d b)) rB) rB) rB) rB) rB) rB) rB
def t116:T:=.a true (.a true (.l (.i [uY 6,.h g,.d i,V d,V f,V 7,V 1,V 1])) .g) .g
def t117:T:=.a true (.a true (.l (.i [uY 3,.h g,.d true,V 1,V 1,V 7,V 7,V 7])) .g) .g
def t118:T:=.a true (.a true (.l (.i [uY 4,.h g,.d false,V 2,V 2,V d,V f,V j])) .g) .g
def t119:T:=.a (vE 65 d) (.a (vE d 90) xH (.a (vE 97 d) (.l (.d (vE d 122))) rB)) (.a (vE 97 d) (.l (.d (vE d 122))) rB)
def t120:T:=.j 2 [.h g,c,V 0]
def xo:T:=.a (fB d (Int.ofNat (vB g))) (.d (mJ Y 9 (.h g) (V d))<|uU λn=>.n c [uY n]<|uB λb=>.a b (.j 2 [.h g,c,(uC d)]) (.d (aF Y 9 mN (.h g) none (some (V d)))<|uS λs=>.l (.h s))) (.d (aF Y 9 mN (.h g) none (some (V d)))<|uS λs=>.l (.h s))
def t121:T:=.c 119 [uY d]<|uB λb=>.a b xH (.c 169 [uY d]<|uB λb=>.a b xH (.l (.d (kB d 95))))
def t122:T:=.a (fB (Int.ofNat (vB g)) 2) rB (.a (fB 7 (Int.ofNat (vB g))) rB (.c 120 [.h g,(.q (.aa 119) [] [])]<|uS λs=>.a (!sF s g) rB (.h Vq λa=>.h (bW Y 236 a (V 2) (.h [32,116,111,32,105,115,32,97,116,32,105,102,32,111,114,32,117,112,32])) λ_=>.h (bW Y 236 a (V 3) (.h [32,100,101,102,32,114,111,119,32,111,110,101,32,116,119,111,32,101,110,100,32,111,102,102,32,104,97,115,32,109,105,110,32,109,97,120,32,97,110,100,32,110,111,116,32])) λ_=>.h (bW Y 236 a (V 4) (.h [32,112,108,97,110,32,102,97,99,116,32,102,114,111,109,32,119,104,101,110,32,116,104,101,110,32,100,97,116,101,32,100,97,121,115,32,116,114,117,101,32,108,111,111,107,32,98,101,115,116,32,103,114,111,119,32,100,111,119,110,32,99,101,105,108,32,104,97,108,102,32,101,118,101,110,32])) λ_=>.h (bW Y 236 a (V 5) (.h [32,116,97,98,108,101,32,107,110,111,119,110,32,116,114,117,116,104,32,109,111,110,101,121,32,102,97,108,115,101,32,109,105,110,117,115,32,116,111,100,97,121,32,114,111,117,110,100,32,115,116,97,114,116,32,102,108,111,111,114,32])) λ_=>.h (bW Y 236 a (V 6) (.h [32,99,108,97,117,115,101,32,110,117,109,98,101,114,32,109,111,110,116,104,115,32])) λ_=>.h (bW Y 236 a (V 7) (.h [32,98,101,116,119,101,101,110,32,115,101,114,118,105,99,101,32])) λ_=>.e (λm=>Ci Y 236 ⟨0,m⟩ a (V (Int.ofNat (vB g))) false)<|uS λc=>.d (kG [32] g)<|uS λs=>.d (kG s [32])<|uS λs=>.c 143 [.h c,.h s]<|uB λb=>.l (.d b))))
def t123:T:=.d (rC c) λa=>.d (jB Y 134 1 a) λa=>.e (λm=>oA Y 69 ⟨0,m⟩ a) λa=>.d (rC a) λa=>.d (zC Y 191 a (uY d)) λa=>.d (jB Y 131 5 a) λa=>.e (λm=>oA Y 3 ⟨0,m⟩ a)<|uI λn=>.a (vE o n) (.c 62 [c,.i [uY d,.h g,uY f,.d i,e,.d l,k,V j,q]] λa=>.l (.p [])) (.d (rC c) λa=>.d (jB Y 134 0 a) λa=>.c 42 [a,.h [40]] λa=>.c 62 [c,.i [uY d,.h g,uY f,.d i,e,.d l,k,V j,q]] λa=>.d (rC c) λa=>.d (jB Y 134 0 a) λa=>.c 42 [a,.h [41]] λa=>.l (.p []))
def t124:T:=.d (rC c) λa=>.d (jB Y 134 0 a) λh=>.d (rC w) λa=>.d (jB Y 131 1 a) λa=>.e (λm=>oA Y 9 ⟨0,m⟩ a)<|uS λs=>.d (kG s [40])<|uS λs=>.c 42 [h,.h s] λa=>.d (rC w) λa=>.d (jB Y 131 2 a) λa=>.e (λm=>oA Y 4 ⟨0,m⟩ a)<|uB λb=>.a b (.d (rC c) λa=>.d (jB Y 134 0 a) λa=>.d (kG g [44,32])<|uS λs=>.c 42 [a,.h s] λa=>.j 9 [c,uY d,.h g,uY f,.d i,e,.d l,k,V j,q]) (.j 9 [c,uY d,.h g,uY f,.d i,e,.d l,k,V j,q])
def zqv:T:=.d (vC q)<|uI λn=>.j 2 [c,q,V n,V 0,uY d,.h g,uY f,.d i,e,.d l,k,V j,q]
def xp:T:=.a (fB f d) (.d (zC Y 29 e (V f)) λa=>.e (λm=>oA Y 31 ⟨0,m⟩ a)<|uG aX λX=>.a (aB (iH X)) (.a (fB 0 f) (.d (rC c) λa=>.d (jB Y 134 0 a) λa=>.c 42 [a,.h [44,32]] λa=>.c 62 [c,(nF X)] λa=>.j 2 [c,e,V d,(uC f),uY j,.h g,uY o,.d i,k,.d l,q,V r,w]) (.c 62 [c,(nF X)] λa=>.j 2 [c,e,V d,(uC f),uY j,.h g,uY o,.d i,k,.d l,q,V r,w])) .g) (.a (kB j 19) (.d (rC c) λa=>.d (jB Y 134 0 a) λa=>.c 170 [(uY (cA .u8 r))]<|uS λs=>.d (kG [44,32] s)<|uS λs=>.c 42 [a,.h s] λa=>.d (rC c) λa=>.d (jB Y 134 0 a) λa=>.c 42 [a,.h [41]] λa=>.l (.p [])) (.d (rC c) λa=>.d (jB Y 134 0 a) λa=>.c 42 [a,.h [41]] λa=>.l (.p [])))
def t125:T:=.h (dL (.h g)) λa=>.l (.q (.aa 171) [] [a])
def t127:T:=.c 180 [.h g,uY d]<|uI λn=>.l (V n)
def t128:T:=.d (vC e)<|uI λn=>.j 2 [c,e,V n,V 0]
def xq:T:=.a (fB f d) (.d (zC Y 201 e (V f)) λa=>.e (λm=>oA Y 147 ⟨0,m⟩ a)<|uG [.h [],uY 0] λX=>.a true (.c 78 [c,.h (X.s 0)]<|uB λb=>.a b (.l (.p [uY (X.i 1),.d true])) (.j 2 [c,e,V d,(uC f)])) .g) (.l (.p [uY 0,.d false]))
def t130:T:=.a true (.c 182 [.i [.d i,c,.d l,e]]<|uB λb=>.l (.d b)) .g
def t131:T:=.c 130 [.i [.d i,c,.d l,e]]<|uB λb=>.a (!b) (.l (.p [.h [],V 2])) (.c 183 [.i [.d i,c]] λa=>.d (uX 0 a)<|uS λd=>.d (uX 1 a)<|uI λn=>.a true (.c 184 [.i [.d i,c,.d l,e]]<|uB λb=>.a (!b) (.c 183 [.i [.d l,e]] λa=>.d (uX 0 a)<|uS λs=>.d (uX 1 a)<|uI λn=>.d (kG [47] s)<|uS λs=>.d (kG d s)<|uS λs=>.l (.p [.h s,V 0])) (.l (.p [.h d,V 0]))) .g)
def t132:T:=.c 185 [.h g,.h t]<|uS λs=>.l (.h s)
def t133:T:=.a i (.l (.h [116,114,117,101])) (.l (.h [102,97,108,115,101]))
def t134:T:=.c 186 [.h g,.h [45]] λa=>.d (uX 0 a)<|uS λs=>.d (uX 1 a)<|uB λb=>.a b (.d (kG [109,105,110,117,115,32] s)<|uS λs=>.l (.h s)) (.l (.h g))
def t135:T:=.c 187 [V d]<|uB λb=>.a (!b) (.l (.p [V 0,V 0,V 0,V 2])) (.c 188 [V d]<|uI λa=>.c 189 [V a]<|uI λn=>.l (.p [(V (uW (1900+(uW (Int.tdiv a 12))))),(V (uW ((Int.tmod a 12)+1))),(V (uW ((uW (d-n))+1))),V 0]))
def t136:T:=.h (dL (.i [uY d,uY f,uY j,uY o,uY r,uY u,uY v,uY z,uY B,uY F])) λa=>.j 2 [V H,V J,a,(V (uW ((uW (H+E))-1))),uY 0,uY 0,uY 0,uY 0,uY 0,uY 0,uY 0,uY 0,uY 0,uY 0]
def t136_2:T:=.a (vE d j) (.d (zC Y 209 c (V j)) λa=>.h (mC Y 5 a (uY (cA .u8 (uW (48+(Int.tmod f 10)))))) λ_=>.j 2 [V d,(V (uW (Int.tdiv f 10))),c,(V (uW (j-1))),uY o,uY r,uY u,uY v,uY z,uY B,uY F,uY H,uY E,uY J]) (.e (λm=>oA Y 209 ⟨0,m⟩ c)<|uG Jf λX=>.a true (.l (U7 X)) .g)
def t138:T:=.a (!kB (Int.ofNat (vB g)) 10) (.l (.p [V 0,V 2])) (.d (mJ Y 9 (.h g) (V 4))<|uU λn=>.a (!kB n 45) (.l (.p [V 0,V 2])) (.d (mJ Y 9 (.h g) (V 7))<|uU λn=>.a (!kB n 45) (.l (.p [V 0,V 2])) (.d (aF Y 9 mN (.h g) none (some (V 4)))<|uS λi=>.d (aF Y 9 mN (.h g) (some (V 5)) (some (V 7)))<|uS λj=>.d (aF Y 9 mN (.h g) (some (V 8)) none)<|uS λs=>.h (rD Y 62 3 [(0,(.h i)),(1,(.h j)),(2,(.h s))]) λa=>.c 191 [a] λd=>.d (uX 0 d) λc=>.d (uX 1 d)<|uB λb=>.a (!b) (.l (.p [V 0,V 2])) (.d (zC Y 249 c (V 0)) λa=>.e (λm=>oA Y 3 ⟨0,m⟩ a)<|uI λe=>.d (zC Y 249 c (V 1)) λa=>.e (λm=>oA Y 3 ⟨0,m⟩ a)<|uI λf=>.d (zC Y 249 c (V 2)) λa=>.e (λm=>oA Y 3 ⟨0,m⟩ a)<|uI λn=>.c 192 [V e,V f,V n] λa=>.d (uX 0 a)<|uI λh=>.d (uX 1 a)<|uI λn=>.l (.p [V h,V n])))))
def t140:T:=.a (fB 0 (Int.ofNat (vB g))) (.d (mJ Y 9 (.h g) (V 0))<|uU λn=>.a (kB n 45) (.d (aF Y 9 mN (.h g) (some (V 1)) none)<|uS λs=>.j 11 [.h s,(.d (kB n 45)),.d false,.g]) (.j 11 [.h g,(.d (kB n 45)),.d false,.g])) (.j 11 [.h g,.d false,.d false,.g])
def ze6:T:=.a (kB (Int.ofNat (vB g)) 0) U8 (.d (mJ Y 9 (.h g) (V 0))<|uU λn=>.a (kB n 48) (.a i U8 (.a (fB 1 (Int.ofNat (vB g))) U8 (.j 2 [.h g,.d i,(V (Int.ofNat (vB g))),V 0,.d l,c]))) (.j 2 [.h g,.d i,(V (Int.ofNat (vB g))),V 0,.d l,c]))
def xr:T:=.a (fB f d) (.d (mJ Y 9 (.h g) (V f))<|uU λn=>.a (fB n 48) U8 (.d (mJ Y 9 (.h g) (V f))<|uU λn=>.a (fB 57 n) U8 (.j 2 [.h g,.d i,V d,(uC f),.d l,c]))) (.a (fB 4933 (Int.ofNat (vB g))) O2 (.j 6 [.h g,.d i,.g,.d l,c]))
def xu:T:=.a (fB 0 (Int.ofNat (vB g))) (.j 10 [.h g,.d i,c,(V (bif fB (Int.ofNat (vB g)) 9 then(Int.ofNat (vB g))else 9)),.e .u32 1,.e .u32 0,(V (bif fB (Int.ofNat (vB g)) 9 then(Int.ofNat (vB g))else 9)),V 0,.d l,e]) (.c 195 [.d i,c] λa=>.d (uX 0 a)<|uG bM λX=>.d (uX 1 a)<|uI λn=>.a (aB (oI X)) (.l (.p [(dI X),V n])) .g)
def BE:T:=.a (fB r o) (.d (mJ Y 9 (.h g) (V r))<|uU λn=>.j 10 [.h g,.d i,c,V d,(.e .u32 (cA .u32 (f*10))),(.e .u32 (cA .u32 ((cA .u32 (j*10))+(cA .u32 (cA .u8 (n-48)))))),V o,(uC r),.d l,e]) (.c 194 [c,.e .u32 f,.e .u32 j] λa=>.d (aF Y 9 mN (.h g) (some (V d)) none)<|uS λs=>.j 6 [.h s,.d i,a,.d l,e])
def t141:T:=.c 196 [.i [.d i,c]]<|uB λb=>.a (!b) O0 (.c 196 [.i [.d l,e]]<|uB λb=>.a (!b) O0 (.d (vC e)<|uI λn=>.a (kB n 0) (.a true (.a true (.l (.p [.i [.d false,.g,.d false,.g],V 20])) .g) .g) (.c 197 [.i [.d i,c],.i [.d l,e]]<|uG N9 λX=>.c 198 [(P9 X)] λa=>.d (uX 0 a)<|uG N9 λX=>.d (uX 1 a)<|uI λn=>.a (aB (cr X)) (.l (.p [(P9 X),V n])) .g)))
def t142:T:=.c 130 [.i [.d i,c,.d l,e]]<|uB λb=>.a (!b) O0 (.c 199 [.i [.d i,c]]<|uG bM λa=>.a (A8 10 (.i [.d l,e]) (.i [.d l,e])) (.c 199 [.i [.d l,e]]<|uG bM λX=>.c 199 [(dI X)]<|uG bM λX=>.a true (.a (aB [.d (a.b 0),a.v 1,.d (X.b 0),X.v 1]) (.l (.p [(.i [.d (a.b 0),a.v 1,.d (X.b 0),X.v 1]),V 0])) .g) .g) .g)
def t144:T:=.c 140 [.h g] λa=>.d (uX 0 a)<|uG bM λX=>.d (uX 1 a)<|uI λn=>.a (aB (oI X)) (.c 200 [(dI X)] λa=>.d (uX 0 a)<|uI λb=>.d (uX 1 a)<|uI λn=>.a (!kB n 0) (.l (.p [V 0,.d false])) (.a i (.j 15 [V d,V f,(V (uW (0-b)))]) (.j 15 [V d,V f,V b]))) .g
def ze3:T:=.a (vE d j) (.l (.p [V j,(.d (vE j f))])) (.l (.p [V j,.d false]))
def t145:T:=.d (vC c)<|uI λa=>.d (vC e)<|uI λn=>.a (!kB a n) rB (.j 2 [c,e,V 0])
def xw:T:=.d (vC c)<|uI λn=>.a (fB d n) (.d (zC Y 22 c (V d)) λa=>.e (λm=>oA Y 261 ⟨0,m⟩ a)<|uH λb=>.d (zC Y 22 e (V d)) λa=>.e (λm=>oA Y 261 ⟨0,m⟩ a)<|uH λn=>.a (!kB b n) rB (.j 2 [c,e,(uC d)])) xH
def t147:T:=.a (vE (-2147483648) d) (.l (.d (fB d 2147483648))) rB
def t148:T:=.e (λm=>oA Y 152 ⟨0,m⟩ k) λa=>.n a [V d]<|uB λb=>.a b (.e (λm=>oA Y 152 ⟨0,m⟩ k) λa=>.n a [V f]<|uB λb=>.a b (.d (jB Y 92 1 q) λa=>.e (λm=>oA Y 4 ⟨0,m⟩ a)<|uB λb=>.a b (.c 71 [V j]<|uB λb=>.a b (J6 i c l e) rB) (.a (kB f 0) (.c 71 [V j]<|uB λb=>.a b (J6 i c l e) rB) rB)) rB) rB
def t149:T:=.d (vC c)<|uI λn=>.j 2 [e,c,V n,V 0]
def t149_2:T:=.a (fB f d) (.d (zC Y 90 e (V f)) λa=>.e (λm=>oA Y 94 ⟨0,m⟩ a)<|uG th λX=>.a (aB (wy X)) (.n c [(mu X)]<|uB λb=>.a (!b) rB (.j 2 [c,e,V d,(uC f)])) .g) xH
def t150:T:=.a (kB d 0) (.a (sF g []) (.d (vC k)<|uI λn=>.a (kB n 0) (.c 61 [.i [uY f,.d i,c,.d l,e,V j]]<|uB λb=>.l (.d b)) rB) rB) rB
def t151:T:=.c 77 [c]<|uG Mh λX=>.a true (.a (kB (X.i 0) 1) (.c 60 [.h (X.s 1)]<|uB λb=>.l (.d b)) rB) .g
def t155:T:=.d (vC c)<|uI λa=>.d (vC e)<|uI λn=>.a (!kB a n) rB (.j 2 [c,e,V 0])
def t155_2:T:=.d (vC c)<|uI λn=>.a (fB d n) (.d (zC Y 90 c (V d)) λa=>.e (λm=>oA Y 94 ⟨0,m⟩ a)<|uG th λf=>.d (zC Y 90 e (V d)) λa=>.e (λm=>oA Y 94 ⟨0,m⟩ a)<|uG th λX=>.c 203 [(mu f),(mu X)]<|uB λb=>.a (!b) rB (.j 2 [c,e,(uC d)])) xH
def t169:T:=.a (vE 48 d) (.l (.d (vE d 57))) rB
def t170:T:=.a (fB (uW d) 7) (.d (zC Y 223 (.j 1 0) (uY d)) λa=>.e (λm=>oA Y 9 ⟨0,m⟩ a)<|uS λs=>.l (.h s)) (.l (.h []))
def t171:T:=.a true (.e (λm=>oA Y 9 ⟨0,m⟩ e)<|uS λs=>.a true (.h (qL Y 239) λa=>.h (mC Y 239 a (.i [V 1,V 1,.h s,V 0])) λ_=>.j 2 [c,e,a,.d false,V 0,V 0]) .g) .g
def zqu:T:=.d (jB Y 239 2 k) λa=>.e (λm=>oA Y 3 ⟨0,m⟩ a)<|uI λn=>.e (λm=>oA Y 9 ⟨0,m⟩ e)<|uS λs=>.a (fB n (Int.ofNat (vB s))) (.e (λm=>oA Y 9 ⟨0,m⟩ e)<|uS λs=>.d (jB Y 239 2 k) λa=>.e (λm=>oA Y 3 ⟨0,m⟩ a)<|uI λn=>.d (mJ Y 9 (.h s) (V n))<|uU λn=>.a (kB n 10) (.a i (.a true (.n c [.i [uY 5,.h [],V d,V f],V 0]<|uB λb=>.a (!b) (.l (.p [])) (.c 172 [k] λa=>.j 2 [c,e,k,.d false,V d,V f])) .g) (.c 172 [k] λa=>.j 2 [c,e,k,.d false,V d,V f])) (.a (kB n 32) (.c 173 [k,V 1] λa=>.j 2 [c,e,k,.d i,V d,V f]) (.a (kB n 9) (.c 173 [k,V 1] λa=>.j 2 [c,e,k,.d i,V d,V f]) (.a (kB n 35) (.c 174 [k]<|uS λs=>.c 120 [.h s,(.q (.aa 175) [] [])]<|uS λs=>.c 173 [k,(V (Int.ofNat (vB s)))] λa=>.j 2 [c,e,k,.d i,V d,V f]) (.c 176 [k] λa=>.d (uX 0 a)<|uG Mh λX=>.d (uX 1 a)<|uI λn=>.a true (.n c [(S5 X),V n]<|uB λb=>.a (!b) (.l (.p [])) (.a (!kB n 0) (.l (.p [])) (.d (jB Y 239 0 k) λa=>.e (λm=>oA Y 39 ⟨0,m⟩ a)<|uG Dp λX=>.a true (.j 2 [c,e,k,.d true,V (X.i 0),V (X.i 1)]) .g))) .g))))) (.a i (.a true (.n c [.i [uY 5,.h [],V d,V f],V 0]<|uB λb=>.l (.p [])) .g) (.l (.p [])))
def t172:T:=.d (rC c) λa=>.d (jB Y 239 2 a) λa=>.e (λm=>oA Y 3 ⟨0,m⟩ a)<|uI λn=>.d (rC c) λa=>.d (jB Y 239 2 a) λa=>.h (mC Y 3 a (uC n)) λ_=>.d (rC c) λa=>.d (jB Y 239 0 a) λa=>.d (jB Y 39 0 a) λa=>.e (λm=>oA Y 3 ⟨0,m⟩ a)<|uI λn=>.d (rC c) λa=>.d (jB Y 239 0 a) λa=>.d (jB Y 39 0 a) λa=>.h (mC Y 3 a (uC n)) λ_=>.d (rC c) λa=>.d (jB Y 239 0 a) λa=>.d (jB Y 39 1 a) λa=>.h (mC Y 3 a (V 1)) λ_=>.l (.p [])
def t173:T:=.d (rC c) λa=>.d (jB Y 239 2 a) λa=>.e (λm=>oA Y 3 ⟨0,m⟩ a)<|uI λn=>.d (rC c) λa=>.d (jB Y 239 2 a) λa=>.h (mC Y 3 a (V (uW (n+d)))) λ_=>.d (rC c) λa=>.d (jB Y 239 0 a) λa=>.d (jB Y 39 1 a) λa=>.e (λm=>oA Y 3 ⟨0,m⟩ a)<|uI λn=>.d (rC c) λa=>.d (jB Y 239 0 a) λa=>.d (jB Y 39 1 a) λa=>.h (mC Y 3 a (V (uW (n+d)))) λ_=>.l (.p [])
def t174:T:=.d (rC c) λa=>.d (jB Y 239 1 a) λa=>.e (λm=>oA Y 9 ⟨0,m⟩ a)<|uS λs=>.d (rC c) λa=>.d (jB Y 239 2 a) λa=>.e (λm=>oA Y 3 ⟨0,m⟩ a)<|uI λn=>.d (aF Y 9 mN (.h s) (some (V n)) none)<|uS λs=>.l (.h s)
def t175:T:=.l (.d (!kB d 10))
def t176:T:=.d (rC c) λa=>.d (jB Y 239 0 a) λa=>.e (λm=>oA Y 39 ⟨0,m⟩ a)<|uG Dp λX=>.a true (.d (rC c) λa=>.d (jB Y 239 1 a) λa=>.e (λm=>oA Y 9 ⟨0,m⟩ a)<|uS λs=>.d (rC c) λa=>.d (jB Y 239 2 a) λa=>.e (λm=>oA Y 3 ⟨0,m⟩ a)<|uI λn=>.d (mJ Y 9 (.h s) (V n))<|uU λd=>.c 119 [uY d]<|uB λb=>.a b (.c 174 [c]<|uS λs=>.c 225 [.h s] λa=>.d (uX 0 a)<|uS λs=>.d (uX 1 a)<|uI λn=>.j 37 [c,uY 1,.h s,V n,uY 0,.h [],V 0,V 0,V (X.i 0),V (X.i 1)]) (.c 169 [uY d]<|uB λb=>.a b (.c 174 [c]<|uS λs=>.c 226 [.h s]<|uB λb=>.a b (.c 174 [c]<|uS λs=>.c 227 [.h s] λa=>.d (uX 0 a)<|uS λs=>.d (uX 1 a)<|uI λn=>.j 37 [c,uY 3,.h s,V n,uY 0,.h [],V 0,V 0,V (X.i 0),V (X.i 1)]) (mz d c X)) (mz d c X))) .g
def zex:T:=.a (!kB f 0) (.a true (.a true (.l (.p [.i [uY 0,.h [],V u,V v],V f])) .g) .g) (.c 173 [c,(V (Int.ofNat (vB g)))] λa=>.a true (.a true (.l (.p [.i [uY d,.h g,V u,V v],V 0])) .g) .g)
def t180:T:=.j 2 [.h g,uY d,(V (uW ((Int.ofNat (vB g))-1)))]
def xx:T:=.a (vE 0 f) (.d (mJ Y 9 (.h g) (V f))<|uU λn=>.a (kB n d) (.l (V f)) (.j 2 [.h g,uY d,(V (uW (f-1)))])) (.l (V (-1)))
def t182:T:=.c 232 [.i [.d i,c,.d l,e]]<|uB λb=>.a b rB (.c 196 [.i [.d i,c]]<|uB λb=>.a (!b) rB (.c 196 [.i [.d l,e]]<|uB λb=>.a (!b) rB (.a l rB (.d (vC e)<|uI λn=>.a (kB n 0) rB (.c 184 [.i [.d i,c,.d l,e]]<|uB λb=>.a b xH (.c 234 [.i [.d i,c],.i [.d l,e]]<|uG bM λX=>.c 233 [(dI X)]<|uB λb=>.l (.d b)))))))
def t183:T:=.c 196 [.i [.d i,c]]<|uB λb=>.a (!b) (.l (.p [.h [],V 2])) (.d (vC c)<|uI λn=>.a (kB n 0) (.l (.p [.h [48],V 0])) (.c 235 [c] λa=>.j 2 [.h [],V 0,.g,a,.d i,c]))
def xy:T:=.d (vC e)<|uI λn=>.a (fB 0 n) (.c 236 [e,.e .u32 1000000000] λf=>.d (uX 0 f) λh=>.d (uX 1 f)<|uL λn=>.h (rD Y 253 1 [(0,(.e .u32 n))]) λa=>.h (lG Y 253 253 c a) λa=>.j 2 [.h g,V d,a,h,.d i,k]) (.h (qL Y 96) λb=>.a i (.e (λm=>oA Y 96 ⟨0,m⟩ b) λj=>.h (rD Y 96 1 [(0,(uY 45))]) λa=>.h (lG Y 96 96 j a) λa=>.h (mC Y 96 b a) λ_=>.j 29 [.h g,V d,c,b]) (.j 29 [.h g,V d,c,b]))
def zeu:T:=.c 237 [c] λa=>.p (jQ Y) a 6 1 [e] (.e (λm=>oA Y 96 ⟨0,m⟩ e) λa=>.e (λm=>rS Y 96 9 ⟨0,m⟩ a)<|uS λs=>.l (.p [.h s,V 0])) (.l (.p [.h g,V d]))
def zqt:T:=.c 238 [(.e .u64 (cA .u64 d)),V 10]<|uS λs=>.e (λm=>oA Y 96 ⟨0,m⟩ c) λa=>.d (vC a)<|uI λn=>.a (fB 1 n) (.j 10 [c,.h s,(V (uW (9-(Int.ofNat (vB s))))),V 0]) (.e (λm=>oA Y 96 ⟨0,m⟩ c) λa=>.d (vC a)<|uI λn=>.a (kB n 1) (.e (λm=>oA Y 96 ⟨0,m⟩ c) λa=>.d (zC Y 96 a (V 0)) λa=>.e (λm=>oA Y 5 ⟨0,m⟩ a)<|uU λn=>.a (!kB n 45) (.j 10 [c,.h s,(V (uW (9-(Int.ofNat (vB s))))),V 0]) (fg c s)) (fg c s))
def BD:T:=.a (fB f d) (.e (λm=>oA Y 96 ⟨0,m⟩ c) λb=>.h (rD Y 96 1 [(0,(uY 48))]) λa=>.h (lG Y 96 96 b a) λa=>.h (mC Y 96 c a) λ_=>.j 10 [c,.h g,V d,(uC f)]) (.e (λm=>oA Y 96 ⟨0,m⟩ c) λa=>.h (lG Y 96 9 a (.h g)) λa=>.h (mC Y 96 c a) λ_=>.l (.d true))
def t184:T:=.c 233 [.i [.d l,e]]<|uB λb=>.l (.d b)
def t185:T:=.c 239 [.h g,.h t]<|uB λb=>.a b (.d (aF Y 9 mN (.h g) (some (V (Int.ofNat (vB t)))) none)<|uS λs=>.l (.h s)) (.l (.h g))
def t186:T:=.c 240 [.h g,.h t] λa=>.d (uX 0 a)<|uS λs=>.d (uX 1 a)<|uB λb=>.l (.p [.h s,.d b])
def t187:T:=.a (vE 0 d) (.l (.d (fB d 65536))) rB
def t188:T:=.h (dL (V d)) λa=>.c 241 [V 2154,(.q (.aa 242) [] [a])]<|uI λn=>.l (V n)
def t189:T:=.c 243 [(V (uW ((uW (1900+(uW (Int.tdiv d 12))))-1)))]<|uI λa=>.c 243 [V 1899]<|uI λn=>.j 2 [V d,(V (uW (1900+(uW (Int.tdiv d 12))))),(V (uW ((uW ((uW (365*(uW ((uW (1900+(uW (Int.tdiv d 12))))-1900))))+a))-n))),V 1]
def xz:T:=.a (vE o (Int.tmod d 12)) (.c 244 [V f,V o]<|uI λn=>.j 2 [V d,V f,(V (uW (j+n))),(uC o)]) (.l (V j))
def t191:T:=.d (vC c)<|uI λn=>.h (sS Y 249 (V n) (V n)) λa=>.d (vC c)<|uI λn=>.j 2 [a,c,V n,V 0]
def ya:T:=.a (fB f d) (.d (zC Y 62 e (V f)) λa=>.e (λm=>oA Y 9 ⟨0,m⟩ a)<|uS λs=>.j 6 [c,V f,.h s,e,V d,V f,(V (Int.ofNat (vB s))),V 0]) (.l (.p [c,.d true]))
def yb:T:=.a (fB r o) (.d (mJ Y 9 (.h g) (V r))<|uU λn=>.a (fB n 48) (.l (.p [.g,.d false])) (.d (mJ Y 9 (.h g) (V r))<|uU λn=>.a (fB 57 n) (.l (.p [.g,.d false])) (.d (zC Y 249 c (V d)) λa=>.e (λm=>oA Y 3 ⟨0,m⟩ a)<|uI λb=>.d (mJ Y 9 (.h g) (V r))<|uU λn=>.d (zC Y 249 c (V d)) λa=>.h (mC Y 3 a (V (uW ((uW (10*b))+(uW (cA .u8 (n-48))))))) λ_=>.j 6 [c,V d,.h g,e,V f,V j,V o,(uC r)]))) (.j 2 [c,e,V f,(uC j)])
def t192:T:=.a (fB d 1900) (.l (.p [V 0,V 2])) (.a (fB 2079 d) (.l (.p [V 0,V 2])) (.a (fB j 1) (.l (.p [V 0,V 2])) (.c 244 [V d,V f]<|uI λn=>.a (fB n j) (.l (.p [V 0,V 2])) (.c 189 [(V (uW ((uW ((uW (12*(uW (d-1900))))+f))-1)))]<|uI λn=>.c 187 [(V (uW ((uW (n+j))-1)))]<|uB λb=>.a (!b) (.l (.p [V 0,V 2])) (.l (.p [(V (uW ((uW (n+j))-1))),V 0]))))))
def t194:T:=.d (vC c)<|uI λn=>.h (sS Y 253 (V 0) (uC n)) λe=>.h (qL Y 253) λb=>.h (mC Y 253 b e) λ_=>.c 246 [b] λa=>.d (vC c)<|uI λn=>.j 2 [.e .u32 d,b,a,(.e .u64 (cA .u64 f)),c,V n,V 0]
def yc:T:=.a (fB o j) (.d (zC Y 253 k (V o)) λa=>.e (λm=>oA Y 254 ⟨0,m⟩ a)<|uL λn=>.n e [(.e .u64 (cA .u64 ((cA .u64 ((cA .u64 n)*(cA .u64 d)))+f)))] λa=>.j 2 [.e .u32 d,c,e,.e .u64 0,k,V j,(uC o)]) (.n e [.e .u64 f] λa=>.e (λm=>oA Y 253 ⟨0,m⟩ c) λa=>.c 247 [a] λa=>.l a)
def t195:T:=.c 248 [.d i,c]<|uG bM λX=>.a (aB (oI X)) (.d (vC (X.v 1))<|uI λn=>.a (fB 1024 n) O2 (.a (aB (oI X)) (.l (.p [(dI X),V 0])) .g)) .g
def t196:T:=.d (vC c)<|uI λn=>.a (kB n 0) (.l (.d (!i))) (.a (vE n 1024) (.d (zC Y 22 c (V (uW (n-1)))) λa=>.e (λm=>oA Y 261 ⟨0,m⟩ a)<|uH λn=>.l (.d (!kB n 0))) rB)
def t197:T:=.a l (.c 199 [.i [.d i,c]]<|uG bM λa=>.a (A8 10 (.i [.d l,e]) (.i [.d l,e])) (.c 199 [.i [.d l,e]]<|uG bM λX=>.a (aB (oI a)) (.a (aB (oI X)) (.j 7 [.d (a.b 0),a.v 1,.d (X.b 0),X.v 1,.d false,.g,.d false,.g]) .g) .g) .g) (.j 7 [.d i,c,.d l,e,.d false,.g,.d false,.g])
def zqs:T:=.c 234 [.i [.d i,c],.i [.d l,e]]<|uG bM λf=>.a (aB (oI f)) (.c 249 [.i [.d i,c],(dI f)] λa=>.d (uX 0 a)<|uG bM λb=>.d (uX 1 a)<|uG bM λX=>.a (aB (oI b)) (.c 249 [.i [.d l,e],(dI f)] λa=>.d (uX 0 a)<|uG bM λd=>.d (uX 1 a)<|uG bM λX=>.a (aB (oI d)) (.a true (.a true (.a (aB [.d (b.b 0),b.v 1,.d (d.b 0),d.v 1]) (.l (.i [.d (b.b 0),b.v 1,.d (d.b 0),d.v 1])) .g) .g) .g) .g) .g) .g
def t198:T:=.c 232 [.i [.d i,c,.d l,e]]<|uB λb=>.a b (.a true (.a true (.l (.p [.i [.d false,.g,.d false,.g],V 3])) .g) .g) (.a (aB [.d i,c,.d l,e]) (.l (.p [.i [.d i,c,.d l,e],V 0])) .g)
def t199:T:=.a (!i) (.d (vC c)<|uI λn=>.c 250 [c] λb=>.a (A8 10 c c) (.d (vC c) λa=>.a (A8 10 a (V n)) (.a (aB [(.d (fB 0 n)),b]) (.a (aB [(.d (fB 0 n)),b]) (.l (.i [(.d (fB 0 n)),b])) .g) .g) .g) .g) (.c 250 [c] λa=>.a (aB [.d false,a]) (.a (aB [.d false,a]) (.l (.i [.d false,a])) .g) .g)
def t200:T:=.c 196 [.i [.d i,c]]<|uB λb=>.a (!b) (.l (.p [V 0,V 2])) (.d (vC c)<|uI λn=>.a (fB 4 n) (.l (.p [V 0,V 3])) (.h (qL Y 270) λd=>.h (mC Y 270 d (.e .u64 0)) λ_=>.c 251 [c] λa=>.p (jQ Y) a 2 1 [d] (.a i (.e (λm=>oA Y 270 ⟨0,m⟩ d)<|uE λn=>.a (fB 9223372036854775808 n) (.l (.p [V 0,V 3])) (.e (λm=>oA Y 270 ⟨0,m⟩ d)<|uE λn=>.l (.p [(V (uW (cA .u64 (0-n)))),V 0]))) (.e (λm=>oA Y 270 ⟨0,m⟩ d)<|uE λn=>.a (vE 9223372036854775808 n) (.l (.p [V 0,V 3])) (.e (λm=>oA Y 270 ⟨0,m⟩ d)<|uE λn=>.l (.p [(V (uW n)),V 0])))) (.l (.p [V 0,V 0]))))
def zqq:T:=.e (λm=>oA Y 270 ⟨0,m⟩ c)<|uE λn=>.d (fJ Nat.lor .u64 (cA .u64 (n*65536)) (cA .u64 d))<|uE λn=>.h (mC Y 270 c (.e .u64 n)) λ_=>.l (.d true)
def t203:T:=.a (kB d o) (.a (kB f r) (.a (kB j u) (.c 40 [.i [.d i,c,.d l,e],.i [.d x,k,.d y,q]]<|uB λb=>.l (.d b)) rB) rB) rB
def t225:T:=.c 120 [.h g,(.q (.aa 121) [] [])]<|uS λs=>.a (fB 24 (Int.ofNat (vB s))) (.l (.p [.h [],V 111])) (.l (.p [.h s,V 0]))
def t226:T:=.a (fB (Int.ofNat (vB g)) 10) rB (.j 2 [.h g,V 0])
def yd:T:=.a (fB d 10) (.a (kB d 4) (J8 g d) (.a (kB d 7) (J8 g d) (.d (mJ Y 9 (.h g) (V d))<|uU λn=>.c 169 [uY n]<|uB λb=>.a (!b) rB (.j 2 [.h g,(uC d)])))) xH
def t227:T:=.a (fB 10 (Int.ofNat (vB g))) (.d (mJ Y 9 (.h g) (V 10))<|uU λn=>.c 121 [uY n]<|uB λb=>.a b (.l (.p [.h [],V 113])) (m9 g)) (m9 g)
def t228:T:=.c 120 [.h g,(.q (.aa 169) [] [])]<|uS λa=>.a (fB (Int.ofNat (vB a)) (Int.ofNat (vB g))) (.d (mJ Y 9 (.h g) (V (Int.ofNat (vB a))))<|uU λn=>.a (kB n 47) (.d (aF Y 9 mN (.h g) (some (V (uW ((Int.ofNat (vB a))+1)))) none)<|uS λs=>.c 120 [.h s,(.q (.aa 169) [] [])]<|uS λs=>.j 13 [.h g,.h a,(V (Int.ofNat (vB a))),.h s]) (.j 13 [.h g,.h a,(V (Int.ofNat (vB a))),.h []])) (.j 13 [.h g,.h a,(V (Int.ofNat (vB a))),.h []])
def zel:T:=.a (!sF A []) (.j 17 [.h g,.h t,(V (uW (d+(uW (1+(Int.ofNat (vB A))))))),.h A]) (.j 17 [.h g,.h t,V d,.h A])
def zek:T:=.a (fB d (Int.ofNat (vB g))) (.d (mJ Y 9 (.h g) (V d))<|uU λn=>.c 121 [uY n]<|uB λb=>.a (fB 200 d) (.l (.p [.h [],V 112])) (.a b (.l (.p [.h [],V 112])) (O1 t A g d))) (.a (fB 200 d) (.l (.p [.h [],V 112])) (O1 t A g d))
def t232:T:=.d (vC c)<|uI λn=>.a (fB 256 n) xH (.d (vC e)<|uI λn=>.l (.d (fB 256 n)))
def t233:T:=.a (!i) (.d (vC c)<|uI λn=>.a (kB n 1) (fh c) rB) rB
def t234:T:=.c 267 [.i [.d i,c],.i [.d l,e]] λa=>.d (uX 0 a)<|uG bM λX=>.d (uX 1 a)<|uI λn=>.a (aB (oI X)) (.a (aB (oI X)) (.l (dI X)) .g) .g
def t235:T:=.d (vC c)<|uI λn=>.h (sS Y 253 (V (uW (Int.tdiv (uW (n+1)) 2))) (V (uW (Int.tdiv (uW (n+1)) 2)))) λa=>.d (vC c)<|uI λn=>.j 2 [a,c,V n,V 0]
def ye:T:=.a (fB f d) (.d (zC Y 22 e (V f)) λa=>.e (λm=>oA Y 261 ⟨0,m⟩ a)<|uH λb=>.d (zC Y 253 c (V (uW (Int.tdiv f 2)))) λa=>.e (λm=>oA Y 254 ⟨0,m⟩ a)<|uL λg=>.d (Az .u32 (cA .u32 b) (uW (16*(Int.tmod f 2))))<|uL λn=>.d (fJ Nat.lor .u32 g n)<|uL λn=>.d (zC Y 253 c (V (uW (Int.tdiv f 2)))) λa=>.h (mC Y 254 a (.e .u32 n)) λ_=>.j 2 [c,e,V d,(uC f)]) (.l c)
def t236:T:=.d (vC c)<|uI λn=>.h (sS Y 253 (V n) (V n)) λa=>.d (vC c)<|uI λn=>.j 2 [c,.e .u32 d,a,.e .u32 0,(V (uW (n-1)))]
def yf:T:=.a (vE 0 j) (.d (zC Y 253 c (V j)) λa=>.e (λm=>oA Y 254 ⟨0,m⟩ a)<|uL λn=>.c 268 [.e .u32 f,.e .u32 n,.e .u32 d] λa=>.d (uX 0 a)<|uL λb=>.d (uX 1 a)<|uL λn=>.d (zC Y 253 e (V j)) λa=>.h (mC Y 254 a (.e .u32 b)) λ_=>.j 2 [c,.e .u32 d,e,.e .u32 n,(V (uW (j-1)))]) (.c 247 [e] λa=>.l (.p [a,.e .u32 f]))
def t237:T:=.h (dL c) λa=>.l (.q (.aa 269) [] [a])
def t239:T:=.a (vE (Int.ofNat (vB t)) (Int.ofNat (vB g))) (.d (aF Y 9 mN (.h g) none (some (V (Int.ofNat (vB t)))))<|uS λs=>.l (.d (sF s t))) rB
def t240:T:=.c 239 [.h g,.h t]<|uB λb=>.a (!b) (.l (.p [.h g,.d false])) (.d (aF Y 9 mN (.h g) (some (V (Int.ofNat (vB t)))) none)<|uS λs=>.l (.p [.h s,.d true]))
def t241:T:=.j 2 [c,V 0,V d]
def t241_2:T:=.a (fB d f) (.n c [(V (uW (Int.fdiv (cA .u64 (uW (d+f))) 2)))]<|uB λb=>.a (!b) (.j 2 [c,(V (uW ((uW (Int.fdiv (cA .u64 (uW (d+f))) 2))+1))),V f]) (.j 2 [c,V d,(V (uW (Int.fdiv (cA .u64 (uW (d+f))) 2)))])) (.l (V d))
def t242:T:=.e (λm=>oA Y 3 ⟨0,m⟩ c)<|uI λb=>.c 189 [(uC d)]<|uI λn=>.e (λm=>oA Y 3 ⟨0,m⟩ c) λa=>.a (A8 10 a (V b)) (.l (.d (fB b n))) .g
def t243:T:=.l (V (uW ((uW ((uW (Int.tdiv d 4))-(uW (Int.tdiv d 100))))+(uW (Int.tdiv d 400)))))
def t244:T:=.a (fB f 1) (.l (V 0)) (.a (fB 12 f) (.l (V 0)) (.a (kB f 2) (.c 271 [V d]<|uB λb=>.a b (.l (V 29)) (J7 f)) (J7 f)))
def t246:T:=.h (dL c) λb=>.h (qL Y 270) λa=>.h (mC Y 270 a (.e .u64 0)) λ_=>.l (.q (.aa 276) [] [a,b])
def t247:T:=.j 2 [c]
def Vz:T:=.d (vC c)<|uI λn=>.a (fB 0 n) (.d (vC c)<|uI λn=>.d (zC Y 253 c (V (uW (n-1)))) λa=>.e (λm=>oA Y 254 ⟨0,m⟩ a)<|uL λn=>.a (kB n 0) (.d (vC c)<|uI λn=>.e (λm=>aF Y 253 ⟨0,m⟩ c none (some (V (uW (n-1))))) λa=>.j 2 [a]) (.l c)) (.l c)
def t248:T:=.c 247 [c] λb=>.d (vC b)<|uI λn=>.a (kB n 0) (.a true (.a true (.l (.i [.d false,.g])) .g) .g) (.d (vC b)<|uI λn=>.h (sS Y 22 (V (uW (2*n))) (V (uW (2*n)))) λa=>.d (vC b)<|uI λn=>.j 2 [.d i,a,b,V n,V 0,.d false,.g])
def yg:T:=.a (fB f d) (.d (zC Y 253 e (V f)) λa=>.e (λm=>oA Y 254 ⟨0,m⟩ a)<|uL λn=>.d (zC Y 22 c (V (uW (2*f)))) λa=>.h (mC Y 261 a (.e .u16 (cA .u16 n))) λ_=>.d (zC Y 22 c (V (uW ((uW (2*f))+1)))) λa=>.h (mC Y 261 a (.e .u16 (cA .u16 (Int.fdiv n 65536)))) λ_=>.j 2 [.d i,c,e,V d,(uC f),.d l,k]) (.d (vC c)<|uI λn=>.d (zC Y 22 c (V (uW (n-1)))) λa=>.e (λm=>oA Y 261 ⟨0,m⟩ a)<|uH λn=>.a (kB n 0) (.d (vC c)<|uI λn=>.e (λm=>aF Y 22 ⟨0,m⟩ c none (some (V (uW (n-1))))) λa=>.a (aB [.d i,a]) (.a (aB [.d i,a]) (.l (.i [.d i,a])) .g) .g) (.a (aB [.d i,c]) (.a (aB [.d i,c]) (.l (.i [.d i,c])) .g) .g))
def t249:T:=.c 277 [.i [.d i,c],.i [.d l,e]] λa=>.d (uX 0 a)<|uG bM λb=>.d (uX 1 a)<|uG bM λX=>.d (uX 2 a)<|uI λn=>.a (aB (oI b)) (.a (aB (oI X)) (.a (aB (oI b)) (.a (A8 10 (dI X) (dI X)) (.a (aB (oI X)) (.l (.p [(dI b),(dI X)])) .g) .g) .g) .g) .g
def t250:T:=.d ((dX .eql).f Y 22 (.tmp 3) (.const (.slice none 0 0)) c .g)<|uB λb=>.a b (.l .g) (.h (rD Y 22 0 []) λa=>.h (lG Y 22 22 a c) λa=>.l a)
def t251:T:=.h (dL c) λa=>.l (.q (.aa 278) [] [a])
def t261:T:=.a (fB 1 (Int.ofNat (vB g)))
 (.d (mJ Y 9 (.h g) (.e .i64 0)) λa=>.r .u8 a λb=>.l (.d (kB b 48)))
 (.l (.d false))
def t267:T:=.h (rD Y 323 2 [(0,(.i [.d i,c])),(1,(.i [.d l,e]))]) λa=>.c 288 [a]<|uB λb=>.a (!b) (.a true (.a true (.l (.p [.i [.d false,.g],V 2])) .g) .g) (.c 235 [c] λd=>.a (A8 10 e e) (.c 235 [e] λa=>.c 289 [d,a] λa=>.c 248 [.d false,a]<|uG bM λX=>.a (aB (oI X)) (.l (.p [(dI X),V 0])) .g) .g)
def t268:T:=.a (!kB j 0) (.a (vE j d) (.e (λm=>oA Y 103 ⟨0,m⟩ (.j 4 0)) λa=>kC (O.au a) λp=>.c pn [.aw p.1 p.2] λa=>.j 7 [.e .u32 d,.e .u32 f,.e .u32 j]) (.j 7 [.e .u32 d,.e .u32 f,.e .u32 j])) (.j 7 [.e .u32 d,.e .u32 f,.e .u32 j])
def zqp:T:=.d (fJ Nat.lor .u64 (cA .u64 ((cA .u64 d)*4294967296)) (cA .u64 f))<|uE λa=>.d (F9 .u64 a (cA .u64 j))<|uE λb=>.d (Fc .u64 a (cA .u64 j))<|uE λn=>.l (.p [(.e .u32 (cA .u32 b)),(.e .u32 (cA .u32 n))])
def t269:T:=.e (λm=>oA Y 253 ⟨0,m⟩ e) λa=>.d (vC a)<|uI λn=>.j 2 [c,e,(V (uW (n-1)))]
def yh:T:=.a (vE 0 d) (.e (λm=>oA Y 253 ⟨0,m⟩ e) λa=>.d (zC Y 253 a (V d)) λa=>.e (λm=>oA Y 254 ⟨0,m⟩ a)<|uL λn=>.n c [.e .u32 n]<|uB λb=>.a (!b) (.l (.p [])) (.j 2 [c,e,(V (uW (d-1)))])) (.l (.p []))
def t271:T:=.a (kB (Int.tmod d 4) 0) (.a (!kB (Int.tmod d 100) 0) xH (.l (.d (kB (Int.tmod d 400) 0)))) rB
def t276:T:=.e (λm=>oA Y 270 ⟨0,m⟩ c)<|uE λn=>.e (λm=>oA Y 287 ⟨0,m⟩ e) λf=>.e (λm=>oA Y 287 ⟨0,m⟩ e) λg=>.d (rC g) λh=>.e (λm=>oA Y 253 ⟨0,m⟩ h) λi=>.h (rD Y 253 1 [(0,(.e .u32 (cA .u32 (cA .u64 (d+n)))))]) λj=>.e (λm=>oA Y 287 ⟨0,m⟩ e) λa=>.a (A8 10 a f) (.e (λm=>oA Y 287 ⟨0,m⟩ e) λa=>.a (A8 10 a g) (.e (λm=>oA Y 253 ⟨0,m⟩ h) λa=>.a (A8 10 a i) (.h (lG Y 253 253 i j) λb=>.e (λm=>oA Y 287 ⟨0,m⟩ e) λa=>.a (A8 10 a f) (.d (rC f) λa=>.h (mC Y 253 a b) λ_=>.h (mC Y 270 c (.e .u64 (Int.fdiv (cA .u64 (d+n)) 4294967296))) λ_=>.l (.p [])) .g) .g) .g) .g
def t277:T:=.h (rD Y 323 2 [(0,(.i [.d i,c])),(1,(.i [.d l,e]))]) λa=>.c 288 [a]<|uB λb=>.a (!b) (.a true (.a true (.a true (.a true (.l (.p [.i [.d false,.g],.i [.d false,.g],V 2])) .g) .g) .g) .g) (.d (vC e)<|uI λn=>.a (kB n 0) (.a true (.a true (.a true (.a true (.l (.p [.i [.d false,.g],.i [.d false,.g],V 11])) .g) .g) .g) .g) (.c 235 [e] λh=>.c 235 [c] λa=>.c 295 [a,h] λj=>.d (uX 0 j) λg=>.d (uX 1 j) λd=>.a (!H7 i l) (.d (vC d)<|uI λn=>.a (fB 0 n) (.h (rD Y 253 1 [(0,(.e .u32 1))]) λa=>.c 296 [g,a] λf=>.c 297 [h,d] λa=>.j 21 [f,a,.d i,c,.d l,e,.d false,.g,.d false,.g]) (.j 21 [g,d,.d i,c,.d l,e,.d false,.g,.d false,.g])) (.j 21 [g,d,.d i,c,.d l,e,.d false,.g,.d false,.g])))
def zef:T:=.c 248 [(.d (!H7 i l)),c]<|uG bM λa=>.a (A8 10 (.d l) (.d l)) (.c 248 [.d l,e]<|uG bM λX=>.a (aB (oI a)) (.a (aB (oI X)) (.l (.p [(dI a),(dI X),V 0])) .g) .g) .g
def t278:T:=.e (λm=>oA Y 22 ⟨0,m⟩ e) λa=>.d (vC a)<|uI λn=>.j 2 [c,e,(V (uW (n-1)))]
def yi:T:=.a (vE 0 d) (.e (λm=>oA Y 22 ⟨0,m⟩ e) λa=>.d (zC Y 22 a (V d)) λa=>.e (λm=>oA Y 261 ⟨0,m⟩ a)<|uH λn=>.n c [.e .u16 n]<|uB λb=>.a (!b) (.l (.p [])) (.j 2 [c,e,(V (uW (d-1)))])) (.l (.p []))
def t288:T:=.d (vC c)<|uI λn=>.j 2 [c,V n,V 0]
def yj:T:=.a (fB f d) (.d (zC Y 323 c (V f)) λa=>.e (λm=>oA Y 24 ⟨0,m⟩ a)<|uG bM λX=>.a (aB (oI X)) (.c 196 [(dI X)]<|uB λb=>.a (!b) rB (.j 2 [c,V d,(uC f)])) .g) xH
def t289:T:=.c 300 [c,e]<|uI λn=>.a (fB n 0) (.j 2 [e,c]) (.j 2 [c,e])
def zqm:T:=.d (vC e)<|uI λn=>.a (fB 2 n) (.c 301 [c,e]<|uG [.e .u64 0,.e .u64 0,.e .u64 0,.e .u64 0,.d false] λX=>.a true (.a (kB (X.i 2) 0) (.c 295 [c,e] λd=>.d (uX 0 d) λa=>.d (uX 1 d) λa=>.j 2 [e,a]) (.a (X.b 4) (.c 302 [.e .u64 (X.i 0),c,.e .u64 (X.i 2),e] λf=>.a (A8 10 (.e .u64 (X.i 3)) (.e .u64 (X.i 3))) (.a (A8 10 (.e .u64 (X.i 1)) (.e .u64 (X.i 1))) (.c 302 [.e .u64 (X.i 3),e,.e .u64 (X.i 1),c] λa=>.j 2 [f,a]) .g) .g) (.c 302 [.e .u64 (X.i 2),e,.e .u64 (X.i 0),c] λg=>.a (A8 10 (.e .u64 (X.i 1)) (.e .u64 (X.i 1))) (.a (A8 10 (.e .u64 (X.i 3)) (.e .u64 (X.i 3))) (.c 302 [.e .u64 (X.i 1),c,.e .u64 (X.i 3),e] λa=>.j 2 [g,a]) .g) .g))) .g) (.d (vC e)<|uI λn=>.a (kB n 0) (.l c) (.d (vC c)<|uI λn=>.a (fB 2 n) (.c 295 [c,e] λb=>.d (uX 0 b) λa=>.d (uX 1 b) λa=>.j 33 [e,a]) (.j 33 [c,e])))
def zec:T:=.c 303 [c]<|uE λa=>.c 303 [e]<|uE λn=>.j 6 [.e .u64 a,.e .u64 n]
def zql:T:=.a (!kB f 0) (.d (Fc .u64 d f)<|uE λn=>.j 6 [.e .u64 f,.e .u64 n]) (.c 304 [.e .u64 d] λa=>.l a)
def t295:T:=.c 300 [c,e]<|uI λn=>.a (fB n 0) (.c 307 [c] λa=>.l (.p [.g,a])) (.d (vC e)<|uI λn=>.a (kB n 1) (.d (zC Y 253 e (V 0)) λa=>.e (λm=>oA Y 254 ⟨0,m⟩ a)<|uL λn=>.c 236 [c,.e .u32 n] λh=>.d (uX 0 h) λi=>.d (uX 1 h)<|uL λn=>.h (rD Y 253 1 [(0,(.e .u32 n))]) λa=>.c 247 [a] λa=>.l (.p [i,a])) (.d (vC e)<|uI λb=>.d (zC Y 253 e (V (uW (b-1)))) λa=>.e (λm=>oA Y 254 ⟨0,m⟩ a)<|uL λn=>.c 308 [.e .u32 n]<|uI λd=>.c 309 [e,V d] λa=>.e (λm=>aF Y 253 ⟨0,m⟩ a none (some (V b))) λf=>.c 309 [c,V d] λg=>.d (vC c)<|uI λn=>.h (sS Y 253 (V (uW ((uW (n-b))+1))) (V (uW ((uW (n-b))+1)))) λa=>.d (vC a)<|uI λn=>.j 2 [V b,V d,f,g,a,(V (uW (n-1)))]))
def yk:T:=.a (vE 0 j) (.e (λm=>aF Y 253 ⟨0,m⟩ e (some (V j)) (some (V (uW ((uW (j+d))+1))))) λa=>.c 310 [a,c]<|uL λn=>.d (zC Y 253 k (V j)) λa=>.h (mC Y 254 a (.e .u32 n)) λ_=>.j 2 [V d,V f,c,e,k,(V (uW (j-1)))]) (.j 6 [V d,V f,e,k,V d,V 0])
def yl:T:=.a (fB o j) (.d (zC Y 253 c (uC o)) λa=>.e (λm=>oA Y 254 ⟨0,m⟩ a)<|uL λh=>.d (zC Y 253 c (V o)) λa=>.e (λm=>oA Y 254 ⟨0,m⟩ a)<|uL λn=>.d (fJ Nat.lor .u64 (cA .u64 ((cA .u64 h)*4294967296)) (cA .u64 n))<|uE λn=>.d (ci .u64 n f)<|uE λn=>.d (zC Y 253 c (V o)) λa=>.h (mC Y 254 a (.e .u32 (cA .u32 n))) λ_=>.j 6 [V d,V f,c,e,V j,(uC o)]) (.e (λm=>aF Y 253 ⟨0,m⟩ c none (some (V d))) λb=>.c 247 [e] λg=>.e (λm=>aF Y 253 ⟨0,m⟩ c none (some (V d))) λa=>.a (A8 10 a b) (.c 247 [b] λa=>.l (.p [g,a])) .g)
def t300:T:=.d (vC c)<|uI λa=>.d (vC e)<|uI λn=>.a (!kB a n) (.d (vC c)<|uI λb=>.d (vC e)<|uI λn=>.a (fB b n) (.l (V (-1))) (.l (V 1))) (.d (vC c)<|uI λn=>.j 2 [c,e,(V (uW (n-1)))])
def ym:T:=.a (vE 0 d) (.d (zC Y 253 c (V d)) λa=>.e (λm=>oA Y 254 ⟨0,m⟩ a)<|uL λb=>.d (zC Y 253 e (V d)) λa=>.e (λm=>oA Y 254 ⟨0,m⟩ a)<|uL λn=>.a (!kB b n) (.d (zC Y 253 c (V d)) λa=>.e (λm=>oA Y 254 ⟨0,m⟩ a)<|uL λf=>.d (zC Y 253 e (V d)) λa=>.e (λm=>oA Y 254 ⟨0,m⟩ a)<|uL λn=>.a (fB f n) (.l (V (-1))) (.l (V 1))) (.j 2 [c,e,(V (uW (d-1)))])) (.l (V 0))
def t301:T:=.d (vC c)<|uI λb=>.d (zC Y 253 c (V (uW (b-1)))) λa=>.e (λm=>oA Y 254 ⟨0,m⟩ a)<|uL λn=>.c 308 [.e .u32 n]<|uI λd=>.c 315 [c,V b,V d]<|uE λf=>.c 315 [e,V b,V d]<|uE λn=>.a true (.a true (.j 2 [.e .u64 f,.e .u64 n,.e .u64 0,.e .u64 1,.e .u64 0,.e .u64 0,.e .u64 0,.e .u64 0,.d false,.e .u64 0,.e .u64 1,.e .u64 0,.e .u64 0,.d false]) .g) .g
def zqk:T:=.a (vE o f) (.a (vE (cA .u64 (E+o)) (cA .u64 (d-f))) (.d (F9 .u64 d f)<|uE λa=>.d (Fc .u64 d f)<|uE λn=>.a true (.a true (.a true (.a true (.a true (.j 2 [.e .u64 f,.e .u64 n,(.e .u64 (cA .u64 (F+(cA .u64 (a*j))))),(.e .u64 (cA .u64 (E+(cA .u64 (a*o))))),.e .u64 r,.e .u64 u,.e .u64 v,.e .u64 z,.d i,.e .u64 F,.e .u64 j,.e .u64 E,.e .u64 o,(.d (!l))]) .g) .g) .g) .g) .g) (.a true (.l (.i [.e .u64 B,.e .u64 F,.e .u64 H,.e .u64 E,.d l])) .g)) (.a true (.l (.i [.e .u64 B,.e .u64 F,.e .u64 H,.e .u64 E,.d l])) .g)
def t302:T:=.d (vC c)<|uI λb=>.d (vC e)<|uI λn=>.h (sS Y 253 (V (uW ((bif fB b n then n else b)+1))) (V (uW ((bif fB b n then n else b)+1)))) λa=>.d (vC a)<|uI λn=>.j 2 [.e .u64 d,c,.e .u64 f,e,a,.e .u64 0,.e .u64 0,.e .u32 0,V n,V 0]
def yn:T:=.a (fB v u) (.d (vC c)<|uI λn=>.a (fB v n) (.d (zC Y 253 c (V v)) λa=>.e (λm=>oA Y 254 ⟨0,m⟩ a)<|uL λn=>.j 17 [.e .u64 d,c,.e .u64 f,e,k,(.e .u64 (cA .u64 (j+(cA .u64 (d*(cA .u64 n)))))),.e .u64 o,.e .u32 r,V v,V u,V v]) (.j 17 [.e .u64 d,c,.e .u64 f,e,k,.e .u64 j,.e .u64 o,.e .u32 r,V v,V u,V v])) (.c 247 [k] λa=>.l a)
def zd7:T:=.d (vC e)<|uI λn=>.a (fB u n) (.d (zC Y 253 e (V u)) λa=>.e (λm=>oA Y 254 ⟨0,m⟩ a)<|uL λn=>.j 21 [.e .u64 d,c,.e .u64 f,e,k,.e .u64 j,(.e .u64 (cA .u64 (o+(cA .u64 (f*(cA .u64 n)))))),.e .u32 r,V u,V v,V z]) (.j 21 [.e .u64 d,c,.e .u64 f,e,k,.e .u64 j,.e .u64 o,.e .u32 r,V u,V v,V z])
def zd5:T:=.c 311 [(.e .u32 (cA .u32 j)),(.e .u32 (cA .u32 o)),.e .u32 r] λa=>.d (uX 0 a)<|uL λb=>.d (uX 1 a)<|uL λn=>.d (zC Y 253 k (V u)) λa=>.h (mC Y 254 a (.e .u32 b)) λ_=>.j 2 [.e .u64 d,c,.e .u64 f,e,k,(.e .u64 (Int.fdiv j 4294967296)),(.e .u64 (Int.fdiv o 4294967296)),.e .u32 n,V v,(uC z)]
def t303:T:=.h (qL Y 270) λb=>.h (mC Y 270 b (.e .u64 0)) λ_=>.c 237 [c] λa=>.p (jQ Y) a 2 1 [b] (.e (λm=>oA Y 270 ⟨0,m⟩ b)<|uE λn=>.l (.e .u64 n)) (.l (.e .u64 0))
def zqj:T:=.e (λm=>oA Y 270 ⟨0,m⟩ c)<|uE λn=>.d (fJ Nat.lor .u64 (cA .u64 (n*4294967296)) (cA .u64 d))<|uE λn=>.h (mC Y 270 c (.e .u64 n)) λ_=>.l (.d true)
def t304:T:=.h (rD Y 253 2 [(0,(.e .u32 (cA .u32 d))),(1,(.e .u32 (cA .u32 (Int.fdiv d 4294967296))))]) λa=>.c 247 [a] λa=>.l a
def t307:T:=.d ((dX .eql).f Y 253 (.tmp 3) (.const (.slice none 0 0)) c .g)<|uB λb=>.a b (.l .g) (.h (rD Y 253 0 []) λa=>.h (lG Y 253 253 a c) λa=>.l a)
def t308:T:=.c 316 [.e .u32 d]<|uI λn=>.l (V (uW (32-n)))
def t309:T:=.d (vC c)<|uI λn=>.h (sS Y 253 (uC n) (uC n)) λa=>.d (vC c)<|uI λn=>.j 2 [V d,a,c,V n,V 0]
def yp:T:=.a (fB j f) (.d (zC Y 253 e (V j)) λa=>.e (λm=>oA Y 254 ⟨0,m⟩ a)<|uL λn=>.d (Az .u64 (cA .u64 n) d)<|uE λb=>.d (zC Y 253 c (V j)) λa=>.e (λm=>oA Y 254 ⟨0,m⟩ a)<|uL λn=>.d (fJ Nat.lor .u32 n (cA .u32 b))<|uL λn=>.d (zC Y 253 c (V j)) λa=>.h (mC Y 254 a (.e .u32 n)) λ_=>.d (zC Y 253 c (uC j)) λa=>.h (mC Y 254 a (.e .u32 (cA .u32 (Int.fdiv b 4294967296)))) λ_=>.j 2 [V d,c,e,V f,(uC j)]) (.l c)
def t310:T:=.d (vC e)<|uI λd=>.d (zC Y 253 c (V d)) λa=>.e (λm=>oA Y 254 ⟨0,m⟩ a)<|uL λh=>.d (zC Y 253 c (V (uW (d-1)))) λa=>.e (λm=>oA Y 254 ⟨0,m⟩ a)<|uL λn=>.d (fJ Nat.lor .u64 (cA .u64 ((cA .u64 h)*4294967296)) (cA .u64 n))<|uE λg=>.d (zC Y 253 e (V (uW (d-1)))) λa=>.e (λm=>oA Y 254 ⟨0,m⟩ a)<|uL λb=>.d (F9 .u64 g (cA .u64 b))<|uE λf=>.d (Fc .u64 g (cA .u64 b))<|uE λn=>.j 2 [c,e,V d,(.e .u64 (cA .u64 b)),.e .u64 f,.e .u64 n]
def yq:T:=.a (vE 4294967296 j) (S6 o f c e d j) (.d (zC Y 253 e (V (uW (d-2)))) λa=>.e (λm=>oA Y 254 ⟨0,m⟩ a)<|uL λb=>.d (zC Y 253 c (V (uW (d-2)))) λa=>.e (λm=>oA Y 254 ⟨0,m⟩ a)<|uL λn=>.d (fJ Nat.lor .u64 (cA .u64 (o*4294967296)) (cA .u64 n))<|uE λn=>.a (fB n (cA .u64 (j*(cA .u64 b)))) (S6 o f c e d j) (.j 19 [c,e,V d,.e .u64 j]))
def zd3:T:=.d (vC e)<|uI λn=>.j 6 [c,e,V d,.e .u64 f,.e .u64 0,.e .u64 0,e,V n,V 0]
def yr:T:=.a (fB u r) (.d (zC Y 253 k (V u)) λa=>.e (λm=>oA Y 254 ⟨0,m⟩ a)<|uL λb=>.d (zC Y 253 c (V u)) λa=>.e (λm=>oA Y 254 ⟨0,m⟩ a)<|uL λn=>.d (zC Y 253 c (V u)) λa=>.h (mC Y 254 a (.e .u32 (cA .u32 (cA .u64 ((cA .u64 ((cA .u64 n)-(cA .u64 (cA .u32 (cA .u64 ((cA .u64 (f*(cA .u64 b)))+j))))))-o))))) λ_=>.j 6 [c,e,V d,.e .u64 f,(.e .u64 (Int.fdiv (cA .u64 ((cA .u64 (f*(cA .u64 b)))+j)) 4294967296)),(.e .u64 (Int.fdiv (cA .u64 ((cA .u64 ((cA .u64 n)-(cA .u64 (cA .u32 (cA .u64 ((cA .u64 (f*(cA .u64 b)))+j))))))-o)) 9223372036854775808)),k,V r,(uC u)]) (.d (zC Y 253 c (V d)) λa=>.e (λm=>oA Y 254 ⟨0,m⟩ a)<|uL λn=>.d (zC Y 253 c (V d)) λa=>.h (mC Y 254 a (.e .u32 (cA .u32 (cA .u64 ((cA .u64 ((cA .u64 n)-j))-o))))) λ_=>.a (kB (Int.fdiv (cA .u64 ((cA .u64 ((cA .u64 n)-j))-o)) 9223372036854775808) 0) (.l (.e .u32 (cA .u32 f))) (.d (vC e)<|uI λn=>.j 10 [c,V d,.e .u64 f,.e .u32 0,e,V n,V 0]))
def BC:T:=.a (fB r o) (.d (zC Y 253 e (V r)) λa=>.e (λm=>oA Y 254 ⟨0,m⟩ a)<|uL λb=>.d (zC Y 253 c (V r)) λa=>.e (λm=>oA Y 254 ⟨0,m⟩ a)<|uL λn=>.c 317 [.e .u32 n,.e .u32 b,.e .u32 j] λa=>.d (uX 0 a)<|uL λg=>.d (uX 1 a)<|uL λn=>.d (zC Y 253 c (V r)) λa=>.h (mC Y 254 a (.e .u32 g)) λ_=>.j 10 [c,V d,.e .u64 f,.e .u32 n,e,V o,(uC r)]) (.d (zC Y 253 c (V d)) λa=>.e (λm=>oA Y 254 ⟨0,m⟩ a)<|uL λn=>.d (zC Y 253 c (V d)) λa=>.h (mC Y 254 a (.e .u32 (cA .u32 (n+j)))) λ_=>.l (.e .u32 (cA .u32 (cA .u64 (f-1)))))
def t311:T:=.d (Jt (.e .u32 d))<|uL λn=>.d (No .u32 n f)<|uL λa=>.d (fJ Nat.xor .u32 d f)<|uL λn=>.d (Jt (.e .u32 n))<|uL λn=>.d (No .u32 n (cA .u32 ((cA .u32 (d-f))-j)))<|uL λn=>.d (fJ Nat.lor .u32 a n)<|uL λn=>.l (.p [(.e .u32 (cA .u32 ((cA .u32 (d-f))-j))),(.e .u32 (Int.fdiv n 2147483648))])
def t315:T:=.h (dL c) λa=>.n (.q (.aa 320) [] [a]) [(V (uW (d-1)))]<|uE λb=>.n (.q (.aa 320) [] [a]) [(V (uW (d-2)))]<|uE λn=>.d (fJ Nat.lor .u64 (cA .u64 (b*4294967296)) n)<|uE λn=>.d (Az .u64 n f)<|uE λe=>.n (.q (.aa 320) [] [a]) [(V (uW (d-3)))]<|uE λn=>.d (ci .u64 n (uW (32-f)))<|uE λn=>.d (fJ Nat.lor .u64 e n)<|uE λn=>.l (.e .u64 n)
def t316:T:=.a (vE 65536 d) (.j 9 [(.e .u32 (Int.fdiv d 65536)),V 16]) (.j 9 [.e .u32 d,V 0])
def yu:T:=.a (vE 256 d) (.j 15 [(.e .u32 (Int.fdiv d 256)),(V (uW (f+8)))]) (.j 15 [.e .u32 d,V f])
def zdw:T:=.d (mJ Y 9 (.h [0,1,2,2,3,3,3,3,4,4,4,4,4,4,4,4,5,5,5,5,5,5,5,5,5,5,5,5,5,5,5,5,6,6,6,6,6,6,6,6,6,6,6,6,6,6,6,6,6,6,6,6,6,6,6,6,6,6,6,6,6,6,6,6,7,7,7,7,7,7,7,7,7,7,7,7,7,7,7,7,7,7,7,7,7,7,7,7,7,7,7,7,7,7,7,7,7,7,7,7,7,7,7,7,7,7,7,7,7,7,7,7,7,7,7,7,7,7,7,7,7,7,7,7,7,7,7,7,8,8,8,8,8,8,8,8,8,8,8,8,8,8,8,8,8,8,8,8,8,8,8,8,8,8,8,8,8,8,8,8,8,8,8,8,8,8,8,8,8,8,8,8,8,8,8,8,8,8,8,8,8,8,8,8,8,8,8,8,8,8,8,8,8,8,8,8,8,8,8,8,8,8,8,8,8,8,8,8,8,8,8,8,8,8,8,8,8,8,8,8,8,8,8,8,8,8,8,8,8,8,8,8,8,8,8,8,8,8,8,8,8,8,8,8,8,8,8,8,8,8,8,8,8,8,8,8]) (uY (cA .u8 d)))<|uU λn=>.l (V (uW (f+(uW n))))
def t317:T:=.l (.p [(.e .u32 (cA .u32 (cA .u64 ((cA .u64 ((cA .u64 d)+(cA .u64 f)))+(cA .u64 j))))),(.e .u32 (cA .u32 (Int.fdiv (cA .u64 ((cA .u64 ((cA .u64 d)+(cA .u64 f)))+(cA .u64 j))) 4294967296)))])
def t320:T:=.e (λm=>oA Y 253 ⟨0,m⟩ c) λa=>.d (vC a)<|uI λn=>.a (vE n d) (.l (.e .u64 0)) (.e (λm=>oA Y 253 ⟨0,m⟩ c) λa=>.d (zC Y 253 a (V d)) λa=>.e (λm=>oA Y 254 ⟨0,m⟩ a)<|uL λn=>.l (.e .u64 (cA .u64 n)))
def e307(a:O):J2 Y (fo 307) (ko 307) 307 (ao 307) [a]=t307 a:=by kernel_rfl
def e317(a b c:Int):J2 Y (fo 317) (ko 317) 317 (ao 317) [.e .u32 a,.e .u32 b,.e .u32 c]=t317 a b c:=by kernel_rfl
variable {d f j o r u v z B F H E J U W Z j6 j7}{g t A I K l5 l6 l7}{c e k q w C L x7 x8 x9 y0 y1}{i l x y D M N P R S}
def w6:zW 6 (t6 g) [.h g]:=wA
def j6_2:zJ 6 2 (t6_2 d g c e k i) [.d i,V d,.h g,c,e,k]:=jA
def w8:zW 8 (t8 d f j o g c e k i l) [.i [uY d,.h g,uY f,.d i,c,.d l,e,V j,k],V o]:=wA
def j8_2:zJ 8 2 (t8_2 d f j o r u g c e k i l) [V d,V f,V j,uY o,.h g,uY r,.d i,c,.d l,e,V u,k]:=jA
def w12:zW 12 (t12 d f j o r u g t c e k q w C i l x y) [.i [uY d,.h g,uY f,.d i,c,.d l,e,V j,k],.i [uY o,.h t,uY r,.d x,q,.d y,w,V u,C]]:=wA
def w15:zW 15 (t15 d f j o c e k q i l x y) [.i [uY d,.d i,c,.d l,e,V f],.i [uY j,.d x,k,.d y,q,V o]]:=wA
def w16:zW 16 (t16 d g c e k) [.i [.h g,c,e,k],V d]:=wA
def j16_2:zJ 16 2 (xa d f j g c e k) [V d,V f,V j,.h g,c,e,k]:=jA
def j16_6:zJ 16 6 (xb d f j g c e k) [V d,V f,V j,.h g,c,e,k]:=jA
def zsc:zJ 16 10 (xd d f j o g c e k) [V d,V f,V j,V o,.h g,c,e,k]:=jA
def zsb:zJ 16 14 (xe d f j g c e k) [V d,V f,V j,.h g,c,e,k]:=jA
def w17:zW 17 (t17 g c e k) [.i [.h g,c,e,k]]:=wA
def j17_2:zJ 17 2 (t17_2 g c e k) [c,e,k,.h g]:=jA
def w18:zW 18 (t18 g c e k) [.i [.h g,c,e,k]]:=wA
def w19:zW 19 (t19 g) [.h g]:=wA
def w20:zW 20 (t20 g t c e k q w C) [.i [.h g,c,e,k],.i [.h t,q,w,C]]:=wA
def w21:zW 21 (t21 d f j o g c e k i l) [.i [uY d,.h g,uY f,.d i,c,.d l,e,V j,k],V o]:=wA
def j21_2:zJ 21 2 (xg d f j o r u g c e k i l) [V d,V f,V j,uY o,.h g,uY r,.d i,c,.d l,e,V u,k]:=jA
def w25:zW 25 (t25 c e) [.i [.d i,c,.d l,e]]:=wA
def w26:zW 26 (t26 ) []:=wA
def w27:zW 27 (t27 d f j o g c e k q i l) [.i [c],.i [uY d,.h g,uY f,.d i,e,.d l,k,V j,q],V o]:=wA
def j27_33:zJ 27 33 (zqo d r u c q w C x y) [V d,c,uY f,.h g,uY j,.d i,e,.d l,k,V o,q,uY r,.d x,w,.d y,C,V u]:=jA
def j27_4:zJ 27 4 (xi d f j c e) [V d,c,V f,V j,e]:=jA
def w28:zW 28 (t28 d f j g c e k i l) [.i [uY d,.h g,uY f,.d i,c,.d l,e,V j,k]]:=wA
def w33:zW 33 (t33 c e) [c,e]:=wA
def j33_2:zJ 33 2 (t33_2 d c e) [c,e,V d]:=jA
def w34:zW 34 (t34 d f c e i l) [.i [uY d,.d i,c,.d l,e,V f]]:=wA
def w35:zW 35 (t35 d f c e i l) [.i [uY d,.d i,c,.d l,e,V f]]:=wA
def w40:zW 40 (t40 c e k q i l x y) [.i [.d i,c,.d l,e],.i [.d x,k,.d y,q]]:=wA
def w41:zW 41 (t41 g c e k) [.i [.h g,c,e,k]]:=wA
def w42:zW 42 (t42 g c) [c,.h g]:=wA
def w43:zW 43 (t43 c) [c]:=wA
def w45:zW 45 (t45 g c e k q) [.i [c],.i [.h g,e,k,q]]:=wA
def w48:zW 48 (t48 c e) [c,e]:=wA
def j48_2:zJ 48 2 (t48_2 d c e) [c,e,V d]:=jA
def w49:zW 49 (t49 c e) [c,e]:=wA
def j49_2:zJ 49 2 (t49_2 d c e) [c,e,V d]:=jA
def w50:zW 50 (t50 c e) [c,e]:=wA
def j50_2:zJ 50 2 (t50_2 d c e) [c,e,V d]:=jA
def w59:zW 59 (t59 ) []:=wA
def w60:zW 60 (t60 g) [.h g]:=wA
def w61:zW 61 (t61 d f c e i l) [.i [uY d,.d i,c,.d l,e,V f]]:=wA
def w62:zW 62 (t62 d f j g c e k q i l) [c,.i [uY d,.h g,uY f,.d i,e,.d l,k,V j,q]]:=wA
def w63:zW 63 (t63 g) [.h g]:=wA
def j63_2:zJ 63 2 (xj d f j o g c e k q) [c,e,k,q,.i [uY d,.h g,V f,V j],V o]:=jA
def w64:zW 64 (t64 d g) [.h g,V d]:=wA
def w69:zW 69 (t69 c e i l) [.i [.d i,c,.d l,e]]:=wA
def w70:zW 70 (t70 c e i l) [.i [.d i,c,.d l,e]]:=wA
def w71:zW 71 (t71 d) [V d]:=wA
def w72:zW 72 (t72 i) [.d i]:=wA
def w73:zW 73 (t73 c e i l) [.i [.d i,c,.d l,e]]:=wA
def w74:zW 74 (t74 d) [V d]:=wA
def w75:zW 75 (t75 d) [V d]:=wA
def w77:zW 77 (t77 c) [c]:=wA
def w78:zW 78 (t78 g c) [c,.h g]:=wA
def w80:zW 80 (t80 g i) [.h g,.d i]:=wA
def j80_9:zJ 80 9 (t80_9 g t i) [.d i,.h g,.h t,.d l,c,.d x,e]:=jA
def w82:zW 82 (t82 c e i l) [.i [.d i,c],.i [.d l,e]]:=wA
def w83:zW 83 (t83 c e) [c,e]:=wA
def j83_2:zJ 83 2 (xk d f c e k) [c,e,k,V d,V f]:=jA
def j83_15:zJ 83 15 (zqf d f j g t c e k) [c,e,.h g,k,V d,V f,.h t,uY j,.d i]:=jA
def j83_6:zJ 83 6 (xl d f c e k) [c,e,k,V d,V f]:=jA
def j83_31:zJ 83 31 (zqe d f g t c e k q i) [c,e,.h g,k,V d,V f,.h t,.d i,q]:=jA
def zrm:zJ 83 10 (xm d f j o g c e k q w i) [c,e,k,V d,V f,q,V j,V o,.h g,.d i,w]:=jA
def zrl:zJ 83 14 (xn d f c e) [c,e,V d,V f]:=jA
def w84:zW 84 (t84 d) [uY d]:=wA
def w85:zW 85 (t85 d f j c e i l x) [.i [V d,V f,V j,.d i,c,.d l,e],.d x]:=wA
def j85_9:zJ 85 9 (t85_9 j g c e i l) [.h g,V d,V f,V j,.d i,c,.d l,e]:=jA
def w86:zW 86 (t86 d f j o r u v z B g t A I c e k q w C i l x y D) [.i [.h g,.h t,V d,V f,V j,.d i,uY o,.h A,uY r,.d l,c,.d x,e,V u,k,uY v,.h I,uY z,.d y,q,.d D,w,V B,C]]:=wA
def j86_9:zJ 86 9 (t86_9 d j o r u v z B g t A I K c e k q w C i l x y D) [.h g,.h t,.h A,V d,V f,V j,.d i,uY o,.h I,uY r,.d l,c,.d x,e,V u,k,uY v,.h K,uY z,.d y,q,.d D,w,V B,C]:=jA
def w88:zW 88 (t88 d g) [.i [.h g,uY d,.d i]]:=wA
def w89:zW 89 (t89 c e) [c,e]:=wA
def j89_2:zJ 89 2 (t89_2 d f c e) [c,e,V d,V f]:=jA
def w90:zW 90 (t90 c e) [c,e]:=wA
def j90_2:zJ 90 2 (t90_2 d f c e) [c,e,V d,V f]:=jA
def w91:zW 91 (t91 g c i) [.i [.h g,.d i,c]]:=wA
def w92:zW 92 (t92 c e) [c,e]:=wA
def j92_2:zJ 92 2 (t92_2 d f c e) [c,e,V d,V f]:=jA
def w93:zW 93 (t93 d f j o r u v z B g t A I c e k q w C L i l x y D) [.i [c],.i [.h g,.h t,V d,V f,V j,.d i,uY o,.h A,uY r,.d l,e,.d x,k,V u,q,uY v,.h I,uY z,.d y,w,.d D,C,V B,L]]:=wA
def w98:zW 98 (t98 g t c e i l) [.i [.h g,.d i,c],.i [.h t,.d l,e]]:=wA
def w99:zW 99 (t99 d f j o r u v z B F H E J U W Z j6 j7 g t A I K l5 l6 l7 c e k q w C L x7 x8 x9 y0 y1 i l x y D M N P R S) [.i [.h g,.h t,V d,V f,V j,.d i,uY o,.h A,uY r,.d l,c,.d x,e,V u,k,uY v,.h I,uY z,.d y,q,.d D,w,V B,C],.i [.h K,.h l5,V F,V H,V E,.d M,uY J,.h l6,uY U,.d N,L,.d P,x7,V W,x8,uY Z,.h l7,uY j6,.d R,x9,.d S,y0,V j7,y1]]:=wA
def w116:zW 116 (t116 d f g i) [.h g,.d i,V d,V f]:=wA
def w117:zW 117 (t117 g) [.h g]:=wA
def w118:zW 118 (t118 d f j g) [.h g,V d,V f,V j]:=wA
def w119:zW 119 (t119 d) [uY d]:=wA
def w120:zW 120 (t120 g c) [.h g,c]:=wA
def zsl:zJ 120 2 (xo d g c) [.h g,c,V d]:=jA
def w121:zW 121 (t121 d) [uY d]:=wA
def w122:zW 122 (t122 g) [.h g]:=wA
def w123:zW 123 (t123 d f j o g c e k q i l) [c,.i [uY d,.h g,uY f,.d i,e,.d l,k,V j,q],V o]:=wA
def w124:zW 124 (t124 d f j g c e k q w i l) [c,.i [uY d,.h g,uY f,.d i,e,.d l,k,V j,q],w]:=wA
def j124_9:zJ 124 9 (zqv d f j g c e k q i l) [c,uY d,.h g,uY f,.d i,e,.d l,k,V j,q]:=jA
def zsk:zJ 124 2 (xp d f j o r g c e k q w i l) [c,e,V d,V f,uY j,.h g,uY o,.d i,k,.d l,q,V r,w]:=jA
def w125:zW 125 (t125 g) [.h g]:=wA
def w127:zW 127 (t127 d g) [.h g,uY d]:=wA
def w128:zW 128 (t128 c e) [c,e]:=wA
def zsj:zJ 128 2 (xq d f c e) [c,e,V d,V f]:=jA
def w130:zW 130 (t130 c e i l) [.i [.d i,c,.d l,e]]:=wA
def w131:zW 131 (t131 c e i l) [.i [.d i,c,.d l,e]]:=wA
def w132:zW 132 (t132 g t) [.h g,.h t]:=wA
def w133:zW 133 (t133 i) [.d i]:=wA
def w134:zW 134 (t134 g) [.h g]:=wA
def w135:zW 135 (t135 d) [V d]:=wA
def w136:zW 136 (t136 d f j o r u v z B F H E J) [.i [uY d,uY f,uY j,uY o,uY r,uY u,uY v,uY z,uY B,uY F],V H,V E,V J]:=wA
def zsg:zJ 136 2 (t136_2 d f j o r u v z B F H E J c) [V d,V f,c,V j,uY o,uY r,uY u,uY v,uY z,uY B,uY F,uY H,uY E,uY J]:=jA
def w138:zW 138 (t138 g) [.h g]:=wA
def w140:zW 140 (t140 g) [.h g]:=wA
def zwr:zJ 140 11 (ze6 g c i l) [.h g,.d i,.d l,c]:=jA
def zsf:zJ 140 2 (xr d f g c i l) [.h g,.d i,V d,V f,.d l,c]:=jA
def zse:zJ 140 6 (xu g c e i l) [.h g,.d i,c,.d l,e]:=jA
def zif:zJ 140 10 (BE d f j o r g c e i l) [.h g,.d i,c,V d,.e .u32 f,.e .u32 j,V o,V r,.d l,e]:=jA
def w141:zW 141 (t141 c e i l) [.i [.d i,c],.i [.d l,e]]:=wA
def w142:zW 142 (t142 c e i l) [.i [.d i,c,.d l,e]]:=wA
def w144:zW 144 (t144 d f g i) [.h g,.d i,V d,V f]:=wA
def zwq:zJ 144 15 (ze3 d f j) [V d,V f,V j]:=jA
def w145:zW 145 (t145 c e) [c,e]:=wA
def zsd:zJ 145 2 (xw d c e) [c,e,V d]:=jA
def w147:zW 147 (t147 d) [V d]:=wA
def w148:zW 148 (t148 d f j c e k q i l) [.i [V d,V f,V j,.d i,c,.d l,e],k,q]:=wA
def w149:zW 149 (t149 c e) [c,e]:=wA
def j149_2:zJ 149 2 (t149_2 d f c e) [c,e,V d,V f]:=jA
def w150:zW 150 (t150 d f j g c e k i l) [.i [uY d,.h g,uY f,.d i,c,.d l,e,V j,k]]:=wA
def w151:zW 151 (t151 c) [c]:=wA
def w155:zW 155 (t155 c e) [c,e]:=wA
def j155_2:zJ 155 2 (t155_2 d c e) [c,e,V d]:=jA
def w169:zW 169 (t169 d) [uY d]:=wA
def w170:zW 170 (t170 d) [uY d]:=wA
def w171:zW 171 (t171 c e) [c,e]:=wA
def j171_2:zJ 171 2 (zqu d f c e k i) [c,e,k,.d i,V d,V f]:=jA
def w172:zW 172 (t172 c) [c]:=wA
def w173:zW 173 (t173 d c) [c,V d]:=wA
def w174:zW 174 (t174 c) [c]:=wA
def w175:zW 175 (t175 d) [uY d]:=wA
def w176:zW 176 (t176 c) [c]:=wA
def zwn:zJ 176 37 (zex d f u v g c) [c,uY d,.h g,V f,uY j,.h t,V o,V r,V u,V v]:=jA
def w180:zW 180 (t180 d g) [.h g,uY d]:=wA
def zsa:zJ 180 2 (xx d f g) [.h g,uY d,V f]:=jA
def w182:zW 182 (t182 c e i l) [.i [.d i,c,.d l,e]]:=wA
def w183:zW 183 (t183 c i) [.i [.d i,c]]:=wA
def zr9:zJ 183 2 (xy d g c e k i) [.h g,V d,c,e,.d i,k]:=jA
def zwm:zJ 183 29 (zeu d g c e) [.h g,V d,c,e]:=jA
def j183_6:zJ 183 6 (zqt d c) [c,.e .u32 d]:=jA
def zie:zJ 183 10 (BD d f g c) [c,.h g,V d,V f]:=jA
def w184:zW 184 (t184 e l) [.i [.d i,c,.d l,e]]:=wA
def w185:zW 185 (t185 g t) [.h g,.h t]:=wA
def w186:zW 186 (t186 g t) [.h g,.h t]:=wA
def w187:zW 187 (t187 d) [V d]:=wA
def w188:zW 188 (t188 d) [V d]:=wA
def w189:zW 189 (t189 d) [V d]:=wA
def Tc:zJ 189 2 (xz d f j o) [V d,V f,V j,V o]:=jA
def w191:zW 191 (t191 c) [c]:=wA
def zr8:zJ 191 2 (ya d f c e) [c,e,V d,V f]:=jA
def zr7:zJ 191 6 (yb d f j o r g c e) [c,V d,.h g,e,V f,V j,V o,V r]:=jA
def w192:zW 192 (t192 d f j) [V d,V f,V j]:=wA
def w194:zW 194 (t194 d f c) [c,.e .u32 d,.e .u32 f]:=wA
def zr6:zJ 194 2 (yc d f j o c e k) [.e .u32 d,c,e,.e .u64 f,k,V j,V o]:=jA
def w195:zW 195 (t195 c i) [.d i,c]:=wA
def w196:zW 196 (t196 c i) [.i [.d i,c]]:=wA
def w197:zW 197 (t197 c e i l) [.i [.d i,c],.i [.d l,e]]:=wA
def j197_7:zJ 197 7 (zqs c e i l) [.d i,c,.d l,e,.d x,k,.d y,q]:=jA
def w198:zW 198 (t198 c e i l) [.i [.d i,c,.d l,e]]:=wA
def w199:zW 199 (t199 c i) [.i [.d i,c]]:=wA
def w200:zW 200 (t200 c i) [.i [.d i,c]]:=wA
def j200_2:zJ 200 2 (zqq d c) [c,.e .u16 d]:=jA
def w203:zW 203 (t203 d f j o r u c e k q i l x y) [.i [V d,V f,V j,.d i,c,.d l,e],.i [V o,V r,V u,.d x,k,.d y,q]]:=wA
def w225:zW 225 (t225 g) [.h g]:=wA
def w226:zW 226 (t226 g) [.h g]:=wA
def zr4:zJ 226 2 (yd d g) [.h g,V d]:=jA
def w227:zW 227 (t227 g) [.h g]:=wA
def w228:zW 228 (t228 g) [.h g]:=wA
def zwj:zJ 228 13 (zel d g t A) [.h g,.h t,V d,.h A]:=jA
def zwi:zJ 228 17 (zek d g t A) [.h g,.h t,V d,.h A]:=jA
def w232:zW 232 (t232 c e) [.i [.d i,c,.d l,e]]:=wA
def w233:zW 233 (t233 c i) [.i [.d i,c]]:=wA
def w234:zW 234 (t234 c e i l) [.i [.d i,c],.i [.d l,e]]:=wA
def w235:zW 235 (t235 c) [c]:=wA
def zr3:zJ 235 2 (ye d f c e) [c,e,V d,V f]:=jA
def w236:zW 236 (t236 d c) [c,.e .u32 d]:=wA
def zr2:zJ 236 2 (yf d f j c e) [c,.e .u32 d,e,.e .u32 f,V j]:=jA
def w237:zW 237 (t237 c) [c]:=wA
def w239:zW 239 (t239 g t) [.h g,.h t]:=wA
def w240:zW 240 (t240 g t) [.h g,.h t]:=wA
def w241:zW 241 (t241 d c) [V d,c]:=wA
def yv:zJ 241 2 (t241_2 d f c) [c,V d,V f]:=jA
def w242:zW 242 (t242 d c) [V d,c]:=wA
def w243:zW 243 (t243 d) [V d]:=wA
def w244:zW 244 (t244 d f) [V d,V f]:=wA
def w246:zW 246 (t246 c) [c]:=wA
def w247:zW 247 (t247 c) [c]:=wA
def yx:zJ 247 2 (Vz c) [c]:=jA
def w248:zW 248 (t248 c i) [.d i,c]:=wA
def zr1:zJ 248 2 (yg d f c e k i l) [.d i,c,e,V d,V f,.d l,k]:=jA
def w249:zW 249 (t249 c e i l) [.i [.d i,c],.i [.d l,e]]:=wA
def w250:zW 250 (t250 c) [c]:=wA
def w251:zW 251 (t251 c) [c]:=wA
def w261:zW 261 (t261 g) [.h g]:=wA
def w267:zW 267 (t267 c e i l) [.i [.d i,c],.i [.d l,e]]:=wA
def w268:zW 268 (t268 d f j) [.e .u32 d,.e .u32 f,.e .u32 j]:=wA
def j268_7:zJ 268 7 (zqp d f j) [.e .u32 d,.e .u32 f,.e .u32 j]:=jA
def w269:zW 269 (t269 c e) [c,e]:=wA
def zr0:zJ 269 2 (yh d c e) [c,e,V d]:=jA
def w271:zW 271 (t271 d) [V d]:=wA
def w276:zW 276 (t276 d c e) [.e .u64 d,c,e]:=wA
def w277:zW 277 (t277 c e i l) [.i [.d i,c],.i [.d l,e]]:=wA
def zwh:zJ 277 21 (zef c e i l) [c,e,.d i,k,.d l,q,.d x,w,.d y,C]:=jA
def w278:zW 278 (t278 c e) [c,e]:=wA
def zrz:zJ 278 2 (yi d c e) [c,e,V d]:=jA
def w288:zW 288 (t288 c) [c]:=wA
def zry:zJ 288 2 (yj d f c) [c,V d,V f]:=jA
def w289:zW 289 (t289 c e) [c,e]:=wA
def j289_2:zJ 289 2 (zqm c e) [c,e]:=jA
def zwg:zJ 289 33 (zec c e) [c,e]:=jA
def j289_6:zJ 289 6 (zql d f) [.e .u64 d,.e .u64 f]:=jA
def w295:zW 295 (t295 c e) [c,e]:=wA
def zrx:zJ 295 2 (yk d f j c e k) [V d,V f,c,e,k,V j]:=jA
def zrw:zJ 295 6 (yl d f j o c e) [V d,V f,c,e,V j,V o]:=jA
def w300:zW 300 (t300 c e) [c,e]:=wA
def zrv:zJ 300 2 (ym d c e) [c,e,V d]:=jA
def w301:zW 301 (t301 c e) [c,e]:=wA
def j301_2:zJ 301 2 (zqk d f j o r u v z B F H E i l) [.e .u64 d,.e .u64 f,.e .u64 j,.e .u64 o,.e .u64 r,.e .u64 u,.e .u64 v,.e .u64 z,.d i,.e .u64 B,.e .u64 F,.e .u64 H,.e .u64 E,.d l]:=jA
def w302:zW 302 (t302 d f c e) [.e .u64 d,c,.e .u64 f,e]:=wA
def zru:zJ 302 2 (yn d f j o r u v c e k) [.e .u64 d,c,.e .u64 f,e,k,.e .u64 j,.e .u64 o,.e .u32 r,V u,V v]:=jA
def zwf:zJ 302 17 (zd7 d f j o r u v z c e k) [.e .u64 d,c,.e .u64 f,e,k,.e .u64 j,.e .u64 o,.e .u32 r,V u,V v,V z]:=jA
def zwe:zJ 302 21 (zd5 d f j o r u v z c e k) [.e .u64 d,c,.e .u64 f,e,k,.e .u64 j,.e .u64 o,.e .u32 r,V u,V v,V z]:=jA
def w303:zW 303 (t303 c) [c]:=wA
def j303_2:zJ 303 2 (zqj d c) [c,.e .u32 d]:=jA
def w304:zW 304 (t304 d) [.e .u64 d]:=wA
def w307(h:wp 307 (t307 c) m Q):Wf 307 [c] m Q:=wq (yG 307) (by kernel_rfl) (by rw[e307];exact h)
def w308:zW 308 (t308 d) [.e .u32 d]:=wA
def w309:zW 309 (t309 d c) [c,V d]:=wA
def zrt:zJ 309 2 (yp d f j c e) [V d,c,e,V f,V j]:=jA
def w310:zW 310 (t310 c e) [c,e]:=wA
def zrs:zJ 310 2 (yq d f j o c e) [c,e,V d,.e .u64 f,.e .u64 j,.e .u64 o]:=jA
def zwd:zJ 310 19 (zd3 d f c e) [c,e,V d,.e .u64 f]:=jA
def zrr:zJ 310 6 (yr d f j o r u c e k) [c,e,V d,.e .u64 f,.e .u64 j,.e .u64 o,k,V r,V u]:=jA
def zib:zJ 310 10 (BC d f j o r c e) [c,V d,.e .u64 f,.e .u32 j,e,V o,V r]:=jA
def w311:zW 311 (t311 d f j) [.e .u32 d,.e .u32 f,.e .u32 j]:=wA
def w315:zW 315 (t315 d f c) [c,V d,V f]:=wA
def w316:zW 316 (t316 d) [.e .u32 d]:=wA
def zro:zJ 316 9 (yu d f) [.e .u32 d,V f]:=jA
def zwa:zJ 316 15 (zdw d f) [.e .u32 d,V f]:=jA
def w317(h:wp 317 (t317 d f j) m Q):Wf 317 [.e .u32 d,.e .u32 f,.e .u32 j] m Q:=wq (yG 317) (by kernel_rfl) (by rw[e317];exact h)
def w320:zW 320 (t320 d c) [V d,c]:=wA
end Go.Proofs
