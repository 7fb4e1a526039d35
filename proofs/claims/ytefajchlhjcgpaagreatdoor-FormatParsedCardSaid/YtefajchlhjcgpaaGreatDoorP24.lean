/- Functions that defer: their trees. (Printed by a tool; the kernel agrees.) -/
import Derived.Test.YtefajchlhjcgpaaGreatDoorP23
set_option linter.all false
noncomputable section
set_option maxRecDepth 100000
namespace Go.Proofs
open Go Go.Am
variable {m:G uA}{Q:mB}
variable [fC]
def dq0:oT:=⟨0,#[],0,0,[],0,#[]⟩
def cq0:U1:=⟨0,#[],0,0,.ah⟩
def pcs (f:Nat):List bC:=(gD ([],dq0) (Ab (ao f).a)).1
def R2 (f:Nat):oT:=(gD ([],dq0) (Ab (ao f).a)).2
def cqo (f:Nat):U1:=gD cq0 (co (ao f).a)
def dB (f cl:Nat):Bool := !dE (F.c f) && !dE (L5.c f) && !dE (ks.c f) && !dE (Ab (ao f).a) && !dE (F.c cl) && !dE (L5.c cl) && !dE (ks.c cl) && !dE (co (ao cl).a)&&Nat.beq (R2 f).a cl&&f9 Y F f (fo f) (ko f) (ao f) (pcs f) (R2 f) (fo cl) (ko cl) (ao cl) (cqo cl)
def dA(f cl:Nat)(h:dB f cl=true:=by kernel_rfl):Px Y F f (fo f) (ko f) (ao f) (pcs f) (R2 f) (fo cl) (ko cl) (ao cl) (cqo cl):=by
 unfold dB at h;simp only[B3]at h;obtain⟨⟨⟨⟨⟨⟨⟨⟨⟨b,c⟩,d⟩,g⟩,i⟩,j⟩,k⟩,l⟩,m⟩,a⟩:=h;have e:=zD.1 m;exact .of (gO b) (gO c) (gO d) (gO g) (by rw[e];exact gO i) (by rw[e];exact gO j) (by rw[e];exact gO k) (gO l) a
abbrev R3:xG:=λ_ _ _ _=>False
abbrev pR:PI:=⟨11,[1,4,5,6,8],[]⟩
abbrev pS:PI:=⟨3,[0,1,2,3],[]⟩
abbrev zP:List O:=[.h [],.g,.g,.g]
abbrev cP(X:yH):List O:=[.h (X.s 0),X.v 1,X.v 2,X.v 3]
def T2 (ty:Nat)(z:List O)(C:yH->List O)(v:List Nat)(E:O):T:=
 .h (qL Y ty) λf=>
 .h (qL Y 39) λd=>
 .h (qL Y 34) λb=>
 .c 63 [(.h v)] λt=>
 .d (tK 0 t) λx=>.d (tK 1 t) λy=>.o [(.e .i64 0),(.e .i64 0)] y λw=>
 .d (tK 2 t) λA=>.r .i64 A λD=>.h (mC Y 39 d (.i [(.e .i64 (w.i 0)),(.e .i64 (w.i 1))])) λ_=>
 .h (mC Y 34 b (.e .i64 D)) λ_=>
 .e (λm=>oA Y 34 ⟨0,m⟩ b) λB=>.r .i64 B λu=>.a (!kB u 0)
 (.e (λm=>oA Y ty ⟨0,m⟩ f) λh=>.o z h λg=>
 .e (λm=>oA Y 39 ⟨0,m⟩ d) λi=>.o [(.e .i64 0),(.e .i64 0)] i λa=>
 .e (λm=>oA Y 34 ⟨0,m⟩ b) λj=>.r .i64 j λc=>.h (mC Y ty f (.i (C g))) λ_=>
 .e (λm=>oA Y 39 ⟨0,m⟩ d) λk=>.a (A8 10 k (.i [(.e .i64 (a.i 0)),(.e .i64 (a.i 1))])) (.e (λm=>oA Y 34 ⟨0,m⟩ b) λl=>.a (A8 10 l (.e .i64 c)) (.h (mC Y 39 d (.i [(.e .i64 (a.i 0)),(.e .i64 (a.i 1))])) λ_=>
 .e (λm=>oA Y 34 ⟨0,m⟩ b) λn=>.a (A8 10 n (.e .i64 c)) (.h (mC Y 34 b (.e .i64 c)) λ_=>
 .e (λm=>oA Y ty ⟨0,m⟩ f) λo=>.e (λm=>oA Y 39 ⟨0,m⟩ d) λp=>.e (λm=>oA Y 34 ⟨0,m⟩ b) λq=>.l (.p [o,p,q])) .g) .g) .g)
 (.c 64 [(.h v),(.e .i64 (Int.ofNat (vB v)))] λr=>
 .o [(.e .i64 0),(.e .i64 0)] r λe=>
 .a (nD O.z [x]) (.h (dL (.i [x,(.e .i64 0),(.e .i64 0),(.e .i64 (e.i 0)),(.e .i64 (e.i 1))])) λs=>
 .j 11 [E,f,d,b,s]) .g)
def T3 (ty:Nat)(z:List O)(i:yH->List O)(j a b c k:O):T:=
 .n j [k] λe=>
 .o z e λd=>
 .a true (.h (mC Y ty a (.i (i d))) λ_=>
 .h (mC Y 39 b (.i [(.e .i64 0),(.e .i64 0)])) λ_=>
 .h (mC Y 34 c (.e .i64 0)) λ_=>
 .e (λm=>oA Y ty ⟨0,m⟩ a) λf=>.e (λm=>oA Y 39 ⟨0,m⟩ b) λg=>.e (λm=>oA Y 34 ⟨0,m⟩ c) λh=>.l (.p [f,g,h])) .g
def nd (ty:Nat)(z:List O)(j c k d:O):T:=
 .d ((dX .neq).f Y 20 (.tmp 8) (.const .nilIface) d .x) λe=>.q e λh=>.a h
 (.h (mC Y ty j (.i z)) λ_=>
 .h (mC Y 34 c (.e .i64 120)) λ_=>
 .d (Vr Y 143 true d) λb=>.d (tK 0 b) λf=>.o [(.e .i64 0),(.e .i64 0),(.e .i64 0)] f λa=>
 .d (tK 1 b) λg=>.q g λi=>.a true (.a i
 (.h (mC Y 39 k (.i [(.e .i64 (a.i 0)),(.e .i64 (a.i 1))])) λ_=>
 .a (A8 10 (.e .i64 (a.i 2)) (.e .i64 (a.i 2))) (.h (mC Y 34 c (.e .i64 (a.i 2))) λ_=>
 .l (.p [])) .g)
 (.l (.p []))) .g)
 (.l (.p []))
def nf (ty:Nat)(d e f:O):T:=.e (λm=>oA Y ty ⟨0,m⟩ d) λa=>.e (λm=>oA Y 39 ⟨0,m⟩ e) λb=>.e (λm=>oA Y 34 ⟨0,m⟩ f) λc=>.l (.p [a,b,c])
def t46:List Nat->O->T:=T2 52 zP cP
def zdt:O->O->O->O->O->T:=T3 52 zP cP
def ue:O->O->O->O->T:=nd 52 zP
def uf:O->O->O->T:=nf 52
def e46(a:List Nat)(b:O):rO Y (ao 46).b 46 (fo 46).ntmps (Co (pcs 46)) ⟨Cw pR,λ_ _=>.g,Am.E0 Y (fo 46)⟩ ⟨⟨ko 46,G.ac [(.h a),b],[]⟩,[],.aj,[]⟩=t46 a b:=by kernel_rfl
def e46_13(a b c d e:O):rO Y (ao 46).b 46 (fo 46).ntmps (.aa (R2 46).i6 (R2 46).b false) ⟨Am.E0 Y (fo 46),λ_ _=>.g,λ_=>.g⟩ (qO (ko 46) pR [a,b,c,d,e])=zdt a b c d e:=by kernel_rfl
def e46_e(d a b c e:O):Am.E0 Y (fo 46) (qO (ko 46) pR [d,a,b,c,e]).e=uf a b c:=by kernel_rfl
def e94_3(a b c d:O):rO Y (ao 94).b (R2 46).a (fo 94).ntmps (cqo 94).c (Gy Y (fo 94)) (qO (ko 94) pS [a,b,c,d])=ue a b c d:=by kernel_rfl
def qu(a b c:O)(HA:sA):qW Y (zF F) (sD Y (zF F)) (R2 46).a [a,b,c] .x HA=some (⟨.p [],false⟩,HA):=by kernel_rfl
def tl46(e a b c f:O)  (h:iA Y.a (lF Y F dC zG λv t'=>iA Y.a (Wq Y F dC) R3 (ue a c b v) t' λ_ d=>iA Y.a (Wq Y F dC) R3 (uf a b c) d Q) R3 (zdt e a b c f) m Q) :
  Uw Y F dC zG 46 (fo 46) (ko 46) (ao 46) (R2 46) pR [e,a,b,c,f] m Q:=by
 refine⟨[a,c,b],(λv t'=>iA Y.a (Wq Y F dC) R3 (ue a c b v) t' λ_ d=>iA Y.a (Wq Y F dC) R3 (uf a b c) d Q),by kernel_rfl,qu _ _ _,λv t' g=>?_,by rw[e46_13];exact h⟩;refine zxx (dA 46 94) (p:=pS) (W:=Wq Y F dC) (tc (by kernel_rfl)) AI (by intro i;kernel_rfl) (by kernel_rfl) (vals:=[a,c,b,v]) (by kernel_rfl) (J:=R3) ?_;rw[e94_3,e46_e];exact g
def w46(a:List Nat)(b:O)  (h:iA Y.a (Wq Y F dC) (λi vals t Q=>i=11/\Uw Y F dC zG 46 (fo 46) (ko 46) (ao 46) (R2 46) pR vals t Q) (t46 a b) m Q):Wf 46 [(.h a),b] m Q:=
 js (pan:=zG) (dA 46 94) (p:=pR) rfl (by kernel_rfl) (by kernel_rfl) (by intro c;kernel_rfl) (by rw[e46];exact h)
end Go.Proofs
namespace Go.Proofs
open Go Go.Am
section
variable [fC]
section
variable {t:G uA}{Q:mB}{s:List Nat}
theorem gQ(s:List Nat):(Int.ofNat (vB s))=(s.length:Int):=by rw[dD];rfl
def zfr(b:s.length<4000000000000000000):oB Y F 120 [.h s,.q (.aa 169) [] []] t=some (.h (eE fD s)):=by
 refine lC.2 (w120 ?_);simp only[V,t120,iA];exact Wj (λn=>Te) (fun {a m R}=>by rw[q169]) rfl b s.length 0 (by omega) (λj x c=>by omega)
def zna{n:Nat}:oB Y F 175 [.e .u8 (n:Int)] t=some (.d (decide (n≠10))):=by
 refine lC.2 (w175 ?_);unfold t175;refine⟨?_,rfl⟩;rw[uF];congr 1
 grind
def zmi(b:s.length<4000000000000000000):oB Y F 120 [.h s,.q (.aa 175) [] []] t=some (.h (eE (λx=>decide (x≠10)) s)):=by
 refine lC.2 (w120 ?_);simp only[V,t120,iA];exact Wj (λn=>zna) (fun {a m R}=>by rw[q175]) rfl b s.length 0 (by omega) (λj x c=>by omega)
theorem CG(p:Nat->Bool)(s:List Nat):(eE p s).length<=s.length:=(List.takeWhile_sublist _).length_le
theorem zft(p:Nat->Bool)(s:List Nat):eE p s=s.take (eE p s).length:=by
 unfold eE;induction s with
 | nil=>rfl
 | cons a s b=>
  grind [List.takeWhile_cons]
def zab(a:s.length<4000000000000000000):oB Y F 225 [.h s] t=some (.p [.h (if 24<(eE lL s).length then []else eE lL s),.e .i64 (if 24<(eE lL s).length then 111 else 0)]):=by
 refine lC.2 (w225 ?_);unfold t225 uS;refine aA ?_;rw[q120,JV a,xA];refine gC ?_;rw[gQ];by_cases h:24<(eE lL s).length
 .rw[A5 h,A5 h];exact tA (by grind [wD]) ⟨rfl,rfl⟩
 .rw[A3 h,A3 h];exact wB (by grind [wD]) ⟨rfl,rfl⟩
def LO:oB Y F 261 [.h s] t=some (.d (fP s)):=by
 refine lC.2 (w261 ?_);unfold t261;rw[gQ];unfold fP;by_cases h:1<s.length
 .cases s with
  | nil=>simp at h
  | cons x r=>
   have a:=rP (s:=x::r) (i:=0) (x:=x) rfl;refine tA (by grind [wD]) (vA a (tB ⟨?_,rfl⟩));rw[uF,decide_eq_true h];congr 1
   grind
 .refine wB (by grind [wD]) ⟨?_,rfl⟩;simp[h]
def zo2:oB Y F 226 [.h s] t=some (.d (wK s)):=by
 have a:10<=s.length->∀(k i:Nat),i+k=10->jp 226 2 [.h s,.e .i64 (i:Int)] t (λv c=>v=.d (((List.range 10).drop i).all λi=>vM i (s.getD i 0))/\c=t):=by
  intro r k;induction k with
  | zero=>
   intro i o;refine zr4 ?_;unfold yd J8 xH;refine wB (by grind [wD]) ⟨?_,rfl⟩
   grind [List.drop_eq_nil_of_le]
  | succ k u=>
   intro i o;have g:s[i]?=some s[i]:=D0 (by omega);have q:s.getD i 0=s[i]:=by grind
   have e:((List.range 10).drop i).all (λi=>vM i (s.getD i 0))=(vM i s[i]&&((List.range 10).drop (i+1)).all λi=>vM i (s.getD i 0)):=by
    grind [List.drop_eq_getElem_cons]
   have j:uC (i:Int)=.e .i64 ((i+1:Nat):Int):=by
    show O.e .i64 (cA .i64 ((i:Int)+1))=_;rw[A2 (by omega) (by omega)];rfl
   have next:vM i s[i]=true->jp 226 2 [.h s,uC (i:Int)] t (λv c=>v=.d (((List.range 10).drop i).all λi=>vM i (s.getD i 0))/\c=t):=λh=>by
    rw[e,h,E5,j];grind
   have b:(i=4\/i=7)->wp 226 (J8 s (i:Int)) t (λv c=>v=.d (((List.range 10).drop i).all λi=>vM i (s.getD i 0))/\c=t):=λd=>by
    unfold J8 uU rB;refine vA (rP g) (tB ?_);have f:vM i s[i]=decide (s[i]=45):=by unfold vM;rw[A5 d]
    by_cases m:s[i]=45
    .grind [wB,uF,sC]
    .refine tA (by grind [uF]) ⟨?_,rfl⟩
     simp_all
   refine zr4 ?_;unfold yd J8 uU uB rB;refine tA (by grind [wD]) ?_;by_cases l:i=4
   .exact tA (by grind [uF]) (b (.inl l))
   refine wB (by grind [uF]) ?_;by_cases n:i=7
   .exact tA (by grind [uF]) (b (.inr n))
   refine wB (by grind [uF]) (vA (rP g) (tB (aA ?_)));rw[q169];show oD (oB Y F 169 [.e .u8 (s[i]:Int)] t) _;rw[Te,xA];have f:vM i s[i]=fD s[i]:=by unfold vM;rw[A3 (by omega)]
   refine cC ?_
   cases p:fD s[i]with
   | true=>grind [wB,sC]
   | false=>
    refine tA rfl ⟨?_,rfl⟩
    simp_all
 refine lC.2 (w226 ?_);unfold t226 rB;rw[gQ];unfold wK;by_cases h:10<=s.length
 .refine wB (by grind [wD]) (sC ?_);rw[decide_eq_true h,E5];exact a h 10 0 rfl
 .refine tA (by grind [wD]) ⟨?_,rfl⟩
  grind
theorem zb4(h:wK s=true):wK (s.take 10)=true/\(s.take 10).length=10:=by
 grind [wK]
def zb7(l:sL t)(j:wK s=true):oB Y F 227 [.h s] t=some (.p [.h (if zT s then []else s.take 10),.e .i64 (if zT s then 113 else 0)]):=by
 obtain⟨g,i⟩:=zb4 j;have p:10<=s.length:=by grind
 have a:(decide (10<s.length)&&mU s 10)=false->wp 227 (m9 s) t λo m=>o=.p [.h (if zT s then []else s.take 10),.e .i64 (if zT s then 113 else 0)]/\m=t:=by
  intro d;have c:zT s=decide (gU (s.take 10)=none):=by unfold zT;rw[d,Bool.false_or]
  unfold m9 uS uI;have f:=He (s:=s) (k:=10) (by omega);refine vA f (gC (aA ?_));rw[q138,zjw l i g,xA];refine vA rfl (tB (vA rfl (tB ?_)));rw[c]
  cases e:gU (s.take 10)with
  | none=>exact tA (by decide) ⟨rfl,rfl⟩
  | some n=>exact wB (λh=>by cases h) (vA f (gC ⟨rfl,rfl⟩))
 refine lC.2 (w227 ?_);unfold t227 m9 uU uB;rw[gQ];by_cases b:10<s.length
 .have e:s[10]?=some s[10]:=D0 b;refine tA (by grind [wD]) (vA (rP e) (tB (aA ?_)));rw[q121];show oD (oB Y F 121 [.e .u8 (s[10]:Int)] t) _;rw[EK,xA];refine cC ?_;have d:mU s 10=lL s[10]:=by unfold mU;rw[e]
  cases c:lL s[10]with
  | true=>
   refine tA rfl ⟨?_,rfl⟩
   grind [zT]
  | false=>
   refine wB (by simp) (a ?_);rw[d,c,E9]
 .exact wB (by grind [wD]) (a (by grind))
def zgt(w:s.length<1000000):oB Y F 228 [.h s] t=some (.p [.h (if mM s then []else s.take (vH s)),.e .i64 (if mM s then 112 else 0)]):=by
 have n:=CG fD s;have k:(nE s).length<=s.length:=n;have f:(nE s).length+1+(sH s).length<=s.length\/sH s=[]:=by
  grind [sH,CG]
 have o:vH s<=s.length:=by
  grind [vH]
 have b:decide (200<vH s)=false->mU s (vH s)=false->wp 228 (O1 (nE s) (sH s) s (vH s:Int)) t λj i=>j=.p [.h (if mM s then []else s.take (vH s)),.e .i64 (if mM s then 112 else 0)]/\i=t:=by
  intro r a;have d:mM s=(fP (nE s)||fP (sH s)||decide (sH s=[48])):=by unfold mM;rw[r,a,Bool.false_or,Bool.false_or]
  unfold O1 uB uS;refine aA ?_;rw[q261,LO,xA];refine cC ?_
  cases p:fP (nE s)with
  | true=>rw[d,p];exact tA rfl ⟨rfl,rfl⟩
  | false=>
   refine wB (by simp) (aA ?_);rw[q261,LO,xA];refine cC ?_
   cases q:fP (sH s)with
   | true=>rw[d,p,q];exact tA rfl ⟨rfl,rfl⟩
   | false=>
    refine wB (by simp) ?_;rw[d,p,q]
    cases v:sF (sH s) [48]with
    | true=>
     rw[decide_eq_true ((eJ _ _).1 v)];exact tA rfl ⟨rfl,rfl⟩
    | false=>
     rw[decide_eq_false λe=>by grind [eJ]];exact wB (by simp) (vA (He o) (gC ⟨rfl,rfl⟩))
 have u:jp 228 17 [.h s,.h (nE s),.e .i64 (vH s:Int),.h (sH s)] t λj i=>j=.p [.h (if mM s then []else s.take (vH s)),.e .i64 (if mM s then 112 else 0)]/\i=t:=by
  refine zwi ?_;unfold zek O1 uU uB;rw[gQ];by_cases h:vH s<s.length
  .have g:s[vH s]?=some s[vH s]:=D0 h;refine tA (by grind [wD]) (vA (rP g) (tB (aA ?_)));rw[q121];show oD (oB Y F 121 [.e .u8 (s[vH s]:Int)] t) _;rw[EK,xA];refine cC ?_;have m:mU s (vH s)=lL s[vH s]:=by unfold mU;rw[g]
   by_cases a:200<vH s
   .refine tA (by grind [wD]) ⟨?_,rfl⟩
    grind [mM]
   .refine wB (by grind [wD]) ?_
    cases d:lL s[vH s]with
    | true=>
     refine tA rfl ⟨?_,rfl⟩
     grind [mM]
    | false=>exact wB (by simp) (b (decide_eq_false a) (by rw[m,d]))
  .have m:mU s (vH s)=false:=by unfold mU;rw[List.getElem?_eq_none (by omega)]
   refine wB (by grind [wD]) ?_;by_cases a:200<vH s
   .refine tA (by grind [wD]) ⟨?_,rfl⟩
    grind [mM]
   .exact wB (by grind [wD]) (b (decide_eq_false a) m)
 have c:jp 228 13 [.h s,.h (nE s),.e .i64 ((nE s).length:Int),.h (sH s)] t λj i=>j=.p [.h (if mM s then []else s.take (vH s)),.e .i64 (if mM s then 112 else 0)]/\i=t:=by
  refine zwj ?_;unfold zel;grind [eJ,wB,sC,vH,tA,gQ,A2]
 refine lC.2 (w228 ?_);unfold t228 uU uS;refine aA ?_;rw[q120,zfr (by omega),xA];refine gC ?_;rw[gQ,gQ];show wp 228 (.a (fB ((nE s).length:Int) (s.length:Int)) _ (.j 13 [.h s,.h (nE s),V ((nE s).length:Int),.h []])) t _;by_cases h:(nE s).length<s.length
 .have g:s[(nE s).length]?=some s[(nE s).length]:=D0 h;refine tA (by grind [wD]) (vA (rP g) (tB ?_));by_cases l:s[(nE s).length]=47
  .have e:uW (((eE fD s).length:Int)+1)=(((nE s).length+1:Nat):Int):=by
    grind [nE,A2]
   have a:sH s=eE fD (s.drop ((nE s).length+1)):=by unfold sH;rw[A5 (by rw[g,l])]
   refine tA (by grind [uF]) ?_;rw[e];refine vA (Nb (by omega)) (gC (aA ?_));rw[q120,zfr (by grind),xA,<- a];exact gC (sC c)
  .have a:sH s=[]:=by unfold sH;rw[A3 (by simp_all)]
   refine wB (by grind [uF]) (sC ?_);rw[a]at c;exact c
 grind [wB,wD,sC]
end
end
section
variable {b:Nat}
variable [fC]
theorem zoa(c:Nat):∀s:List Nat,(xZ c s).isSome=s.contains c:=by
 intro s;induction s with
 | nil=>rfl
 | cons x r b=>
  rw[List.contains_cons,<- b];have e:xZ c (x::r)=bif Nat.beq x c then some 0 else ob (xZ c r) λn=>some (n+1):=rfl;rw[e]
  cases h:Nat.beq x c with
  | true=>simp_all
  | false=>
   have:¬ c=x:=λe=>by simp_all
   have a:(c == x)=false:=by grind
   rw[cond_false,a,Bool.false_or];cases xZ c r<;>rfl
abbrev tJ(c:Nat)(a:List Nat)(b cl off:Nat):kF:=oC c none [.e .i64 (b:Int),.e .i64 (cl:Int),.h a,.e .i64 (off:Int)]
section
variable {tf t:G uA}{A B:List kF}{Q:mB}{d c cl off:Nat}{a:List Nat}
def g0  : jB Y 239 0 (.j b 0)=some (.j b 0):=by kernel_rfl
def g1  : jB Y 239 1 (.j b 0)=some (.j b 2):=by kernel_rfl
def g2  : jB Y 239 2 (.j b 0)=some (.j b 3):=by kernel_rfl
def p0  : jB Y 39 0 (.j b 0)=some (.j b 0):=by kernel_rfl
def p1  : jB Y 39 1 (.j b 0)=some (.j b 1):=by kernel_rfl
def zqz(h:xB Y.a tf t (A++tJ d a c cl off::B)):oA Y 9 ⟨0,t⟩ (.j d 2)=some (.h a):=(xB.d h).f iI rfl rfl
def Rl(h:xB Y.a tf t (A++tJ d a c cl off::B)):oA Y 3 ⟨0,t⟩ (.j d 3)=some (.e .i64 (off:Int)):=(xB.d h).f cL rfl rfl
def qw(h:xB Y.a tf t (A++tJ d a c cl off::B)):oA Y 3 ⟨0,t⟩ (.j d 0)=some (.e .i64 (c:Int)):=(xB.d h).f cL rfl rfl
def qx(h:xB Y.a tf t (A++tJ d a c cl off::B)):oA Y 3 ⟨0,t⟩ (.j d 1)=some (.e .i64 (cl:Int)):=(xB.d h).f cL rfl rfl
def Y9(h:xB Y.a tf t (A++tJ d a c cl off::B)):oA Y 39 ⟨0,t⟩ (.j d 0)=some (.i [.e .i64 (c:Int),.e .i64 (cl:Int)]):=by
 have:=(xB.d h).p.e (j:=0) (n:=2) cZ rfl rfl (by simp)
 simp_all
def Rk{ln' cl' off' j:Nat}{x:Nat}(h:xB Y.a tf t (A++tJ d a c cl off::B))(g:j<4)(f:jJ [.e .i64 (c:Int),.e .i64 (cl:Int),.h a,.e .i64 (off:Int)] j [.e .i64 (x:Int)]=[.e .i64 (ln':Int),.e .i64 (cl':Int),.h a,.e .i64 (off':Int)]) :
  ∃t',(∀q,mC Y 3 (.j d j) (.e .i64 (x:Int)) ⟨q,t⟩=some (aD,⟨q,t'⟩))/\xB Y.a tf t' (A++tJ d a ln' cl' off'::B):=by
 obtain⟨t',b,e⟩:=xB.a (j:=j) (v:=.e .i64 (x:Int)) h cL rfl (by show j+1<=4;omega) rfl;refine⟨t',b,?_⟩;have:(O.e .i64 (x:Int)).s=[.e .i64 (x:Int)]:=rfl
 simp_all
def Ng(h:xB Y.a tf t (A++tJ d a c cl off::B))(b:off<=a.length):oB Y F 174 [.j d 0] t=some (.h (a.drop off)):=by
 refine lC.2 (w174 ?_);unfold t174 uI uS rC;exact vA nl (vA g1 (iB (zqz h) (gC (vA nl (vA g2 (iB (Rl h) (tB (vA (Nb b) (gC ⟨rfl,rfl⟩)))))))))
def zfl{n:Nat}(h:xB Y.a tf t (A++tJ d a c cl off::B))(p:off+n<1000000)(q:cl+n<1000000)(i:∀t',xB Y.a tf t' (A++tJ d a c (cl+n) (off+n)::B)->Q (.p []) t'):Wc Y F 173 [.j d 0,.e .i64 (n:Int)] t Q:=by
 refine w173 ?_;unfold t173 uI rC;have f:uW ((off:Int)+(n:Int))=((off+n:Nat):Int):=by grind [A2]
 have g:uW ((cl:Int)+(n:Int))=((cl+n:Nat):Int):=by grind [A2]
 refine vA nl (vA g2 (iB (Rl h) (tB (vA nl (vA g2 (jC λb _ _=>?_))))));rw[f];obtain⟨r,k,e⟩:=Rk (j:=3) (x:=off+n) (ln':=c) (cl':=cl) (off':=off+n) h (by omega) rfl;refine⟨_,_,k b,vA nl (vA g0 (vA p1 (iB (qx e) (tB (vA nl (vA g0 (vA p1 (jC λb _ _=>?_))))))))⟩;rw[g];obtain⟨o,l,m⟩:=Rk (j:=1) (x:=cl+n) (ln':=c) (cl':=cl+n) (off':=off+n) e (by omega) rfl;exact⟨_,_,l b,i o m⟩
def zbd(h:xB Y.a tf t (A++tJ d a c cl off::B))(g:off<900000)(i:c<900000)(k:∀t',xB Y.a tf t' (A++tJ d a (c+1) 1 (off+1)::B)->Q (.p []) t'):Wc Y F 172 [.j d 0] t Q:=by
 refine w172 ?_;unfold t172 uI rC;have e:∀n:Nat,n<900000->uC (n:Int)=.e .i64 ((n+1:Nat):Int):=λn s=>by
  grind [A2]
 refine vA nl (vA g2 (iB (Rl h) (tB (vA nl (vA g2 (jC λb _ _=>?_))))));rw[e off g];obtain⟨u,l,f⟩:=Rk (j:=3) (x:=off+1) (ln':=c) (cl':=cl) (off':=off+1) h (by omega) rfl;refine⟨_,_,l b,vA nl (vA g0 (vA p0 (iB (qw f) (tB (vA nl (vA g0 (vA p0 (jC λb _ _=>?_))))))))⟩;rw[e c i];obtain⟨v,m,o⟩:=Rk (j:=0) (x:=c+1) (ln':=c+1) (cl':=cl) (off':=off+1) f (by omega) rfl;refine⟨_,_,m b,vA nl (vA g0 (vA p1 (jC λb _ _=>?_)))⟩
 obtain⟨r,p,q⟩:=Rk (j:=1) (x:=1) (ln':=c+1) (cl':=1) (off':=off+1) o (by omega) rfl;exact⟨_,_,p b,k r q⟩
def IC{s w:List Nat}{k:Nat}(h:fE s=.aa k w):w.length<=s.length/\w=s.take w.length:=by
 cases s with
 | nil=>cases h
 | cons b r=>
  grind [fE,zft]
def zlj(R:sL tf)(h:xB Y.a tf t (A++tJ d a c cl off::B))(j:off<a.length)(E:a.length<=65536)(M:cl<200000)(r:∀b∈a,b<256)
  (D:∀t',match fE (a.drop off)with
   | .ac e=>xB Y.a tf t' (A++tJ d a c cl off::B)->Q (.p [.i [.e .u8 0,.h [],.e .i64 (c:Int),.e .i64 (cl:Int)],.e .i64 (e:Int)]) t'
   | .aa k w=>xB Y.a tf t' (A++tJ d a c (cl+w.length) (off+w.length)::B)->Q (.p [.i [.e .u8 (k:Int),.h w,.e .i64 (c:Int),.e .i64 (cl:Int)],.e .i64 0]) t'):Wc Y F 176 [.j d 0] t Q:=by
 have x:=R.a h.b;have T:a[off]?=some a[off]:=D0 j;have u:a.drop off=a[off]::a.drop (off+1):=F8 j;have l:=r a[off] (F2 _);have P:(a.drop off).length<=65536:=by grind
 have f:∀(k e:Nat) (w:List Nat),(e≠0->fE (a.drop off)=.ac e)->(e=0->fE (a.drop off)=.aa k w)->jp 176 37 [.j d 0,.e .u8 (k:Int),.h w,.e .i64 (e:Int),.e .u8 0,.h [],.e .i64 0,.e .i64 0,.e .i64 (c:Int),.e .i64 (cl:Int)] t Q:=by
  intro k e w J K;refine zwn ?_;unfold zex;by_cases q:e=0
  .have i:=K q;subst q;refine wB (by decide) (aA ?_);rw[q173,gQ];obtain⟨U,_⟩:=IC i;rw[mm]at U;refine zfl h (by omega) (by omega) λt' I=>tA rfl (tA rfl ?_);have:=D t';rw[i]at this;exact this I
  .have i:=J q;refine tA (by grind [uF]) (tA rfl (tA rfl ?_));have:=D t;rw[i]at this;exact this h
 have p:bN a[off]=false->(fD a[off]=true->wK (a.drop off)=false)->wp 176 (mz (a[off]:Int) (.j d 0) (AN [.e .i64 (c:Int),.e .i64 (cl:Int)])) t Q:=by
  intro z N;unfold mz uB uS uI;refine aA ?_;rw[q169];show oD (oB Y F 169 [.e .u8 (a[off]:Int)] t) _;rw[Te,xA];refine cC ?_
  cases o:fD a[off]with
  | true=>
   have m:=N o;refine tA rfl (aA ?_);rw[q174,Ng h (by omega),xA];refine gC (aA ?_);rw[q228,zgt (by omega),xA];have i:fE (a.drop off)=if mM (a.drop off)then .ac 112 else .aa 2 ((a.drop off).take (vH (a.drop off))):=by
    grind [fE]
   refine vA rfl (gC (vA rfl (tB (sC ?_))))
   cases L:mM (a.drop off)with
   | true=>exact f 2 112 [] (λ_=>by grind) (λe=>by cases e)
   | false=>exact f 2 0 _ (λe=>absurd rfl e) (λ_=>by grind)
  | false=>
   refine wB (by simp) (aA ?_);have v:Y.c.c 229=some (jN Sa):=by kernel_rfl
   have y:oB Y F 229 [.h [40,41,44,43,45,42,47,60,61],.e .u8 (a[off]:Int)] t=some (.e .i64 (match xZ a[off] [40,41,44,43,45,42,47,60,61]with | some n=>.ofNat n | none=>.negSucc 0)):=by
    refine Ki v λH=>?_;show sB (Nat.blt a[off] 256) _=_;rw[eC.2 l];rfl
   rw[q229];show oD (oB Y F 229 [.h [40,41,44,43,45,42,47,60,61],.e .u8 (a[off]:Int)] t) _;rw[y,xA];refine tB ?_;have S:Ie a[off]=(xZ a[off] [40,41,44,43,45,42,47,60,61]).isSome:=by rw[zoa];rfl
   have i:fE (a.drop off)=if Ie a[off]then .aa 4 [a[off]]else .ac 110:=by
    grind [fE]
   cases W:xZ a[off] [40,41,44,43,45,42,47,60,61]with
   | some n=>
    refine tA (by grind [oU]) (aA ?_);rw[q174,Ng h (by omega),xA];have C:=He (s:=a.drop off) (k:=1) (by grind);refine gC (vA C (gC (sC ?_)));have:(a.drop off).take 1=[a[off]]:=by grind
    rw[this];exact f 4 0 _ (λe=>absurd rfl e) (λ_=>by grind)
   | none=>
    refine wB (by decide) (sC ?_);exact f 0 110 _ (λ_=>by grind) (λe=>by cases e)
 refine w176 ?_;unfold t176 mz uI uU uB uS uG rC;refine vA nl (vA g0 (iB (Y9 h) (aC (X:=AN [.e .i64 (c:Int),.e .i64 (cl:Int)]) (aQ rfl) (tA rfl (vA nl (vA g1 (iB (zqz h) (gC (vA nl (vA g2 (iB (Rl h) (tB (vA (rP T) (tB (aA ?_)))))))))))))));rw[q119];show oD (oB Y F 119 [.e .u8 (a[off]:Int)] t) _;rw[Xz,xA];refine cC ?_
 cases z:bN a[off]with
 | true=>
  refine tA rfl (aA ?_);rw[q174,Ng h (by omega),xA];refine gC (aA ?_);rw[q225,zab (by omega),xA];have i:fE (a.drop off)=if 24<(eE lL (a.drop off)).length then .ac 111 else .aa 1 (eE lL (a.drop off)):=by
   grind [fE]
  refine vA rfl (gC (vA rfl (tB (sC ?_))));by_cases g:24<(eE lL (a.drop off)).length
  .rw[A5 g,A5 g];exact f 1 111 [] (λ_=>by rw[i,A5 g]) (λe=>by cases e)
  .rw[A3 g,A3 g];exact f 1 0 _ (λe=>absurd rfl e) (λ_=>by rw[i,A3 g])
 | false=>
  refine wB (by simp) (aA ?_);rw[q169];show oD (oB Y F 169 [.e .u8 (a[off]:Int)] t) _;rw[Te,xA];refine cC ?_
  cases o:fD a[off]with
  | false=>exact wB (by simp) (p z (λh=>by grind))
  | true=>
   refine tA rfl (aA ?_);rw[q174,Ng h (by omega),xA];refine gC (aA ?_);rw[q226,zo2,xA];refine cC ?_
   cases m:wK (a.drop off)with
   | false=>exact wB (by simp) (p z (λ_=>m))
   | true=>
    refine tA rfl (aA ?_);rw[q174,Ng h (by omega),xA];refine gC (aA ?_);rw[q227,zb7 x m,xA];have i:fE (a.drop off)=if zT (a.drop off)then .ac 113 else .aa 3 ((a.drop off).take 10):=by
     grind [fE]
    refine vA rfl (gC (vA rfl (tB (sC ?_))))
    cases L:zT (a.drop off)with
    | true=>exact f 3 113 [] (λ_=>by grind) (λe=>by cases e)
    | false=>exact f 3 0 _ (λe=>absurd rfl e) (λ_=>by grind)
end
end
section
variable {acc:List xD}{v:O}
variable [fC]
def nI (l:Nat)(r:yP):kF where
 aa:=[l]
 ok:=λ_ t=>t.c l=some (.ac r)
 ac:=λh _ k=>by simp_all
 ah:=λh k a=>by simp_all
def qy:rT Y 136 149 4:=⟨⟨_,aW,rfl,rfl⟩,⟨_,ti,rfl,rfl,by decide,by decide⟩,λy h=>by rw[ti]at h;cases h;rfl⟩
theorem jt{t:G uA}(x:xD):RD t x.d x.f:=by
 simp_all [xD.d,xD.f,lK,kD,pG]
abbrev dR(a b c d:Nat)(pl pc e:Nat)(acc:List xD)(v:O):List kF:=
 [oC a none [.g],oC b none [.e .i64 (pl:Int),.e .i64 (pc:Int)],oC c none [.e .i64 (e:Int)],oC d none [v],iD Y.a 4 (acc.map xD.d) v]
section
variable {tf t:G uA}{Q:mB}{J u cl off D E H I l:Nat}{s:List Nat}{r:yP}{L:List kF}
def xB.p(h:xB Y.a tf t (L++[nI l r])):xB Y.a tf (t.q l) L:=by
 have b:=h.f l (by simp[nI]);have d:l∉L.flatMap kF.aa:=by
  have:=xB.x (A:=L) (B:=[]) (o:=nI l r) h (k:=l) (by simp[nI])
  rwa [Do]at this
 have a:=xB.i (A:=L) (B:=[]) (o:=nI l r) h;rw[Do]at a;exact a.aw d b.2 λc e=>by rw[G.e,A3 e]
def xB.y(h:xB Y.a tf t L)(b:t.c l=none)(c:Y.a<=l):xB Y.a tf (t.d l (.ac r)) (L++[nI l r]):=by
 have:=xB.ac (A:=L) (B:=[]) (o':=nI l r) (t':=t.d l (.ac r)) (by rwa [Do]) (λk a=>by rw[G.aa,A3 (λe=>a (by simp[nI,e]))]) (λk a=>by grind [nI]) (by show(t.d l (.ac r)).c l=_;rw[G.aa,A5 rfl]) (by simp[nI]) (h.b.d (oO b _).1);exact this
def T4 (l:Nat)(r:yP)(D E H I:Nat):Prop:=∀a c d,a.length=2->c.c l=some (.ac r)->Jq Y F 63 2 ([.j D 0,.j E 0,.j H 0,.j I 0]++a) (c.q l) (λv e=>e.c l=none->∃b,v=.d b/\d v (e.d l (.ac (eP b r))))->Wq Y F dC (yo+l) a c d
def zng(j:r.e=.ready)(k:r.a=none):eP true r=r:=by
 obtain⟨a,b,c,d,e,f,g,h,i⟩:=r;have j:a=.ready:=j;have k:b=none:=k;subst j;subst k;rfl
def AL  {x:xD}(S:T4 l r D E H I)(m:r.e=.ready)(o:r.a=none)(u:acc.length<300000)
  (h:xB Y.a tf t (dR D E H I 0 0 0 acc v++L++[nI l r])) (J:∀f t' v',zB tf f->xB Y.a f t' (dR D E H I 0 0 0 (acc++[x]) v'++L++[nI l r])->Q (.d true) t') :
  Wq Y F dC (yo+l) [.i x.f,.e .i64 0] t Q:=by
 have P:t.c l=some (.ac r):=h.s (nI l r) (by simp);have k:=(h.f l (by simp[nI])).1;refine S _ _ _ rfl P ?_;have s:=xB.p h;refine j63_2 ?_;unfold xj;refine tA rfl (wB (by decide) ?_);have lv:oA Y 136 ⟨0,t.q l⟩ (.j I 0)=some v:=(xB.d (A:=[_,_,_]) s).f aW rfl rfl;refine iB lv (jC λb K _=>?_);have N:yO (λi=>some (i*4,4)) [(0,.i x.f)] (kJ [.e .u8 0,.h [],.e .i64 0,.e .i64 0] 1)=some [x.f].flatten:=by
  rw[Oo (sz:=4) (z:=[.e .u8 0,.h [],.e .i64 0,.e .i64 0]) (v:=.i x.f) rfl rfl];rfl
 obtain⟨p,t1,U,W,X,Z⟩:=og (C:=Y) (T:=136) (el:=149) (sz:=4) (n:=1) (ds:=[x.d]) (cl:=[x.f]) (ps:=[(0,.i x.f)]) aW rfl ti rfl rfl (by decide) N (Kp rfl) rfl (kD.2 ⟨_,_,rfl,jt x,pG.2 rfl⟩) s K;refine⟨_,_,U,jC λc M g=>?_⟩;obtain⟨t2,d,m1,w,m3⟩:=xB.q (A:=[oC D none [.g],oC E none [.e .i64 0,.e .i64 0],oC H none [.e .i64 0],oC I none [v]]) (B:=L) (cs:=[]) qy X Z (by grind) M g;refine⟨_,_,m1,jC λq _ _=>?_⟩
 have a:d.s=[d]:=by
  have:=w.s (iD Y.a 4 (acc.map xD.d++[x.d]) d) (by simp);rcases this with⟨e,_⟩ | ⟨b,cl,c,e,_⟩ <;> (subst e;rfl)
 obtain⟨t3,n1,y⟩:=xB.a (A:=[oC D none [.g],oC E none [.e .i64 0,.e .i64 0],oC H none [.e .i64 0]]) (j:=0) (v:=d) w aW (by simp_all) (by simp_all) (by grind [gI]);refine⟨_,_,n1 q,λR=>⟨true,rfl,?_⟩⟩;rw[zng m o];have e:jJ [v] 0 d.s=[d]:=by rw[a];rfl
 rw[e]at y;refine J p _ d W ?_;have hs:=xB.y (r:=r) y R k
 simp_all
def zk7  {e pl pc:Nat}(i:T4 l r D E H I)(u:e≠0)
  (h:xB Y.a tf t (dR D E H I 0 0 0 acc v++L++[nI l r])) (c:∀t',xB Y.a tf t' (dR D E H I pl pc e acc v++L++[nI l (eP false r)])->Q (.d false) t') :
  Wq Y F dC (yo+l) [.i [.e .u8 0,.h [],.e .i64 (pl:Int),.e .i64 (pc:Int)],.e .i64 (e:Int)] t Q:=by
 have d:t.c l=some (.ac r):=h.s (nI l r) (by simp);have a:=(h.f l (by simp[nI])).1;refine i _ _ _ rfl d ?_;have b:=xB.p h;refine j63_2 ?_;unfold xj;refine tA rfl (tA (by grind [uF]) (jC λq _ _=>?_));obtain⟨w,n,o⟩:=xB.a (A:=[]) (j:=0) (v:=.g) b aW rfl (by show 0+1<=1;omega) rfl;have g:A8 10 (.i [.e .i64 (pl:Int),.e .i64 (pc:Int)]) (.i [.e .i64 (pl:Int),.e .i64 (pc:Int)])=true:=by
  show(A8 9 (.e .i64 (pl:Int)) (.e .i64 (pl:Int))&&(A8 9 (.e .i64 (pc:Int)) (.e .i64 (pc:Int))&&true))=true
  grind [Hh]
 refine⟨_,_,n q,tA g (jC λq _ _=>?_)⟩;obtain⟨x,k,m⟩:=xB.a (A:=[_]) (j:=0) (v:=.i [.e .i64 (pl:Int),.e .i64 (pc:Int)]) o cZ rfl (by show 0+2<=2;omega) rfl;refine⟨_,_,k q,jC λq _ _=>?_⟩;obtain⟨y,p,s⟩:=xB.a (A:=[_,_]) (j:=0) (v:=.e .i64 (e:Int)) m qS rfl (by show 0+1<=1;omega) rfl;exact⟨_,_,p q,λf=>⟨false,rfl,c _ (xB.y s f a)⟩⟩
def Vg{args:List O}:eM (.q (.ac l) [] []) args=some (yo+l,args):=rfl
abbrev opB(op:Option (Nat × Nat)):Bool:=op.isSome
def zll{bx:Nat}(hy:T4 l r D E H I)(S:r.e=.ready)(T:r.a=none)(ad:s.length<=65536)(ah:∀b∈s,b<256) :
  ∀(k off u cl:Nat) (op:Option (Nat × Nat)) (U W:Int) (acc:List xD) (v:O) (tf t:G uA),s.length-off<k->off<=s.length->u<=off+1->cl<=off+1->acc.length<=2*off->(op.isSome=true->acc.length+1<=2*off)->(∀p,op=some p->U=(p.1:Int)/\W=(p.2:Int)) →
   sL tf->xC tf bx none [.h s]->xB Y.a tf t (dR D E H I 0 0 0 acc v++[tJ J s u cl off]++[nI l r]) →
   (match uP k (s.drop off) u cl op with
    | .ok m=>∀c t' v' ln' cl' off',zB tf c->xB Y.a c t' (dR D E H I 0 0 0 (acc++m) v'++[tJ J s ln' cl' off']++[nI l r])->Q (.p []) t'
    | .er e pl pc=>∀c t' v' d ln' cl' off',zB tf c->xB Y.a c t' (dR D E H I pl pc e d v'++[tJ J s ln' cl' off']++[nI l (eP false r)])->Q (.p []) t') →
   jp 171 2 [.q (.ac l) [] [],.j bx 0,.j J 0,.d op.isSome,.e .i64 U,.e .i64 W] t Q:=by
 intro k;induction k with
 | zero=>intro off;omega
 | succ k ih=>
  intro off u cl op U W acc v tf t hk am ap ao al o R hg z h g;have ho:=Rl (A:=dR D E H I 0 0 0 acc v) (B:=[nI l r]) (by simpa using h);have hA:xB Y.a tf t (dR D E H I 0 0 0 acc v++tJ J s u cl off::[nI l r]):=by simpa using h
  have a8:∀ {t},zB tf t->oA Y 9 ⟨0,t⟩ (.j bx 0)=some (.h s):=λhl=>(xC.d z hl).f iI rfl rfl;refine j171_2 ?_;unfold zqu uI uU uB uS uG S5;refine vA g2 (iB ho (tB (iB (a8 h.b) (gC ?_))));rw[gQ];by_cases P:off<s.length
  .have hx:s[off]?=some s[off]:=D0 P;have f:s.drop off=s[off]::s.drop (off+1):=F8 P;rw[f]at g;unfold uP at g;refine tA (by rw[wD];exact decide_eq_true (by omega)) (iB (a8 h.b) (gC (vA g2 (iB ho (tB (vA (rP hx) (tB ?_)))))));by_cases y:s[off]=10
   .rw[A5 y]at g;refine tA (by rw[uF,y];rfl) ?_;have ae:∀(d:List xD) (v':O) (i C:G uA),d.length<=2*(off+1)->zB tf i->xB Y.a i C (dR D E H I 0 0 0 d v'++[tJ J s u cl off]++[nI l r]) →
      (match uP k (s.drop (off+1)) (u+1) 1 none with
       | .ok m=>∀c t' v' ln' cl' off',zB i c->xB Y.a c t' (dR D E H I 0 0 0 (d++m) v'++[tJ J s ln' cl' off']++[nI l r])->Q (.p []) t'
       | .er e pl pc=>∀c t' v' d ln' cl' off',zB i c->xB Y.a c t' (dR D E H I pl pc e d v'++[tJ J s ln' cl' off']++[nI l (eP false r)])->Q (.p []) t') →
      wp 171 (.c 172 [.j J 0] λ_=>.j 2 [.q (.ac l) [] [],.j bx 0,.j J 0,.d false,V U,V W]) C Q:=by
     intro d v' i C ha ab h1 N;refine aA ?_;rw[q172];refine zbd (A:=dR D E H I 0 0 0 d v') (B:=[nI l r]) (by simpa using h1) (by omega) (by omega) λF h2=>?_;exact sC (ih (off+1) (u+1) 1 none U W d v' i F (by omega) (by omega) (by omega) (by omega) ha (λh=>by cases h) (λp hp=>by cases hp) (hg.a ab) (xC.d z ab) (by simpa using h2) N)
    cases op with
    | some p=>
     obtain⟨e0,e1⟩:=R p rfl;subst e0 e1;refine tA rfl (tA rfl (aZ Vg ?_));refine AL (x:=O8 p) (L:=[tJ J s u cl off]) hy S T (by omega) h λi C v1 q k2=>?_;refine cC (wB (by simp) (ae (acc++[O8 p]) v1 i C (by have:=o rfl;simp;omega) q k2 ?_));unfold LR.c at g;revert g;generalize uP k (s.drop (off+1)) (u+1) 1 none=a7;intro g
     cases a7 with
     | ok m=>exact λc t' v' ln' cl' off' Z q2=>g c t' v' ln' cl' off' (q.d Z) (by simpa using q2)
     | er e pl pc=>exact λc t' v' d ln' cl' off' Z q2=>g c t' v' d ln' cl' off' (q.d Z) q2
    | none=>
     refine wB (by simp) (ae acc v tf t (by omega) (zB.f _) h ?_);exact g
   rw[A3 y]at g;refine wB (by rw[uF];simp;omega) ?_
   have j:∀n:Nat,off+n<=s.length->0<n->(match uP k (s.drop (off+n)) u (cl+n) op with
     | .ok m=>∀c t' v' ln' cl' off',zB tf c->xB Y.a c t' (dR D E H I 0 0 0 (acc++m) v'++[tJ J s ln' cl' off']++[nI l r])->Q (.p []) t'
     | .er e pl pc=>∀c t' v' d ln' cl' off',zB tf c->xB Y.a c t' (dR D E H I pl pc e d v'++[tJ J s ln' cl' off']++[nI l (eP false r)])->Q (.p []) t') →
     wp 171 (.c 173 [.j J 0,.e .i64 (n:Int)] λ_=>.j 2 [.q (.ac l) [] [],.j bx 0,.j J 0,.d op.isSome,V U,V W]) t Q:=by
    intro n hn aq N;refine aA ?_;rw[q173];refine zfl hA (by omega) (by omega) λF h2=>?_;exact sC (ih (off+n) u (cl+n) op U W acc v tf F (by omega) hn (by omega) (by omega) (by omega) (λh=>by have:=o h;omega) R hg z (by simpa using h2) N)
   by_cases K:s[off]=32
   .rw[A5 (.inl K)]at g;exact tA (by rw[uF,K];rfl) (j 1 (by omega) (by omega) g)
   refine wB (by rw[uF];simp;omega) ?_;by_cases h9:s[off]=9
   .rw[A5 (.inr h9)]at g;exact tA (by rw[uF,h9];rfl) (j 1 (by omega) (by omega) g)
   rw[A3 (by simp[K,h9])]at g;refine wB (by rw[uF];simp;omega) ?_;by_cases M:s[off]=35
   .rw[A5 M]at g;have ak:=CG (λx=>decide (x≠10)) (s.drop off);rw[mm]at ak;have aj:0<(eE (λx=>decide (x≠10)) (s.drop off)).length:=by
     rw[f];unfold eE;rw[List.takeWhile_cons,A5 (by simp[y])];simp
    refine tA (by rw[uF,M];rfl) (aA ?_);rw[q174,Ng hA (by omega),xA];refine gC (aA ?_);rw[q120,zmi (by rw[mm];omega),xA];refine gC ?_;rw[gQ];rw[<- f]at g;rw[List.drop_drop]at g;exact j _ (by omega) aj g
   rw[A3 M]at g;refine wB (by rw[uF];simp;omega) (aA ?_);rw[<- f]at g;rw[q176];refine zlj hg hA P ad (by omega) ah λC=>?_
   cases a:fE (s.drop off)with
   | ac e=>
    rw[a]at g;intro h1;have he:e≠0:=by
     intro e0;subst e0;rw[f]at a;unfold fE at a;simp only at a
     repeat (split at a<;>try (cases a;done))
    refine vA rfl (aC (X:=AN [.e .u8 0,.h [],.e .i64 (u:Int),.e .i64 (cl:Int)]) (aQ rfl) (vA rfl (tB (tA rfl (aZ Vg ?_)))));refine zk7 (pl:=u) (pc:=cl) (L:=[tJ J s u cl off]) hy he (by simpa using h1) λF h2=>?_;exact cC (tA rfl (g tf F v acc u cl off (zB.f _) h2))
   | aa kd w=>
    rw[a]at g;intro h1;obtain⟨lw,_⟩:=IC a;rw[mm]at lw;have ar:0<w.length:=by
     rw[f]at a;unfold fE at a;simp only at a;split at a
     .rename_i hl;split at a
      .cases a
      .cases a;unfold eE;rw[List.takeWhile_cons,A5 (by unfold lL;rw[hl];rfl)];simp
     split at a
     .rename_i hd;split at a
      .cases a
      .cases a;rw[mj,D6];omega
     split at a
     .rename_i hd _;split at a
      .cases a
      .cases a;have:0<vH (s[off]::s.drop (off+1)):=by
        have:0<(nE (s[off]::s.drop (off+1))).length:=by
         unfold nE eE;rw[List.takeWhile_cons,A5 (by assumption)];simp
        unfold vH;split<;>omega
       rw[mj,D6];omega
     split at a
     .cases a;simp
     .cases a
    refine vA rfl (aC (X:=AN [.e .u8 (kd:Int),.h w,.e .i64 (u:Int),.e .i64 (cl:Int)]) (aQ rfl) (vA rfl (tB (tA rfl (aZ Vg ?_)))));refine AL (acc:=acc) (v:=v) (x:=⟨kd,w,u,cl⟩) (L:=[tJ J s u (cl+w.length) (off+w.length)]) hy S T (by omega) (by simpa using h1) λaf F v2 q k2=>?_;have ag:xB Y.a af F (dR D E H I 0 0 0 (acc++[⟨kd,w,u,cl⟩]) v2++tJ J s u (cl+w.length) (off+w.length)::[nI l r]):=by simpa using k2
    refine cC (wB (by simp) (wB (by decide) (vA g0 (iB (Y9 ag) (aC (X:=AN [.e .i64 (u:Int),.e .i64 ((cl+w.length:Nat):Int)]) (aQ rfl) (tA rfl (sC ?_)))))));refine ih (off+w.length) u (cl+w.length) (some (u,cl+w.length)) _ _ (acc++[⟨kd,w,u,cl⟩]) v2 af F (by omega) (by omega) (by omega) (by omega) (by simp;omega) (λ_=>by simp;omega) (λp hp=>by cases hp;exact⟨rfl,rfl⟩) (hg.a q) (xC.d z q) k2 ?_
    have ai:(s.drop off).drop w.length=s.drop (off+w.length):=by rw[List.drop_drop]
    simp only[ai]at g;unfold LR.d at g;revert g;generalize uP k (s.drop (off+w.length)) u (cl+w.length) (some (u,cl+w.length))=a7;intro g
    cases a7 with
    | ok m=>exact λc t' v' ln' cl' off' Z q2=>g c t' v' ln' cl' off' (q.d Z) (by simpa using q2)
    | er e pl pc=>exact λc t' v' d ln' cl' off' Z q2=>g c t' v' d ln' cl' off' (q.d Z) q2
  .have f:s.drop off=[]:=F1 (by omega);rw[f]at g;unfold uP at g;refine wB (by rw[wD];simp;omega) ?_
   cases op with
   | some p=>
    obtain⟨e0,e1⟩:=R p rfl;subst e0 e1;refine tA rfl (tA rfl (aZ Vg ?_));refine AL (x:=O8 p) (L:=[tJ J s u cl off]) hy S T (by omega) h λi C v1 q k2=>?_;exact cC (g i C v1 u cl off q k2)
   | none=>
    refine wB (by simp) ?_;have:=g tf t v u cl off (zB.f _) (by simpa using h);exact this
end
end
section
variable [fC]
def vP (s:List Nat):LR:=if 65536<s.length then .er 3 0 0 else Hy s
section
variable {t:G uA}{Q:mB}{s:List Nat}
def ju(hg:sL t)(a8:∀b∈s,b<256)
  (i:match vP s with
   | .ok m=>∀t' v,zB t t'->bA t' 4 (m.map xD.d) v->Q (.p [v,.i [.e .i64 0,.e .i64 0],.e .i64 0]) t'
   | .er e a b=>∀t',zB t t'->Q (.p [.g,.i [.e .i64 (a:Int),.e .i64 (b:Int)],.e .i64 (e:Int)]) t'):Wc Y F 63 [.h s] t Q:=by
 have ho:xB Y.a t t []:=⟨zB.f _,by simp,by simp,by simp⟩;refine w63 ?_;unfold t63;refine jC λy h0 b0=>?_;obtain⟨t1,e1,e2,e3,e4⟩:=yQ (C:=Y) aW h0;have o1:=xB.c (A:=[]) (B:=[]) ho h0 b0 e2 e3 e4;refine⟨_,_,e1,jC λz h1 b1=>?_⟩;obtain⟨t2,f1,f2,f3,f4⟩:=yQ (C:=Y) cZ h1;have o2:=xB.c (A:=[_]) (B:=[]) o1 h1 b1 f2 f3 f4;refine⟨_,_,f1,jC λD h2 b2=>?_⟩;obtain⟨t3,k1,k2,k3,k4⟩:=yQ (C:=Y) qS h2;have o3:=xB.c (A:=[_,_]) (B:=[]) o2 h2 b2 k2 k3 k4
 refine⟨_,_,k1,?_⟩;rw[gQ];have d:∀ {tf t':G uA} {L:List kF} {v:O} {a b e:Nat},O.z v=true->xB Y.a tf t' ([oC y none [v],oC z none [.e .i64 (a:Int),.e .i64 (b:Int)],oC D none [.e .i64 (e:Int)]]++L) →
   oA Y 136 ⟨0,t'⟩ (.j y 0)=some v/\oA Y 39 ⟨0,t'⟩ (.j z 0)=some (.i [.e .i64 (a:Int),.e .i64 (b:Int)])/\oA Y 34 ⟨0,t'⟩ (.j D 0)=some (.e .i64 (e:Int)):=by
  intro tf t' L v a b e _ h;refine⟨(xB.d (A:=[]) h).f aW rfl rfl,?_,(xB.d (A:=[_,_]) h).f qS rfl rfl⟩;have:=(xB.d (A:=[_]) h).p.e (j:=0) (n:=2) cZ rfl rfl (by simp)
  simp_all
 by_cases hl:65536<s.length
 .have hx:vP s=.er 3 0 0:=by unfold vP;rw[A5 hl]
  rw[hx]at i;refine tA (by grind [wD]) (tA rfl (jC λq _ _=>?_));obtain⟨t4,n1,n2⟩:=xB.a (A:=[]) (j:=0) (v:=.g) o3 aW rfl (by show 0+1<=1;omega) rfl;refine⟨_,_,n1 q,jC λq _ _=>?_⟩;obtain⟨t5,m1,m2⟩:=xB.a (A:=[_]) (j:=0) (v:=.i [.e .i64 0,.e .i64 0]) n2 cZ rfl (by show 0+2<=2;omega) rfl;refine⟨_,_,m1 q,jC λq _ _=>?_⟩;obtain⟨t6,p1,w⟩:=xB.a (A:=[_,_]) (j:=0) (v:=.e .i64 3) m2 qS rfl (by show 0+1<=1;omega) rfl
  obtain⟨S,T,U⟩:=d (L:=[]) (a:=0) (b:=0) (e:=3) (v:=.g) rfl w;exact⟨_,_,p1 q,iB S (iB T (iB U (i t6 w.b)))⟩
 .have hx:vP s=Hy s:=by unfold vP;rw[A3 hl]
  rw[hx]at i;refine wB (by grind [wD]) (jC λJ h6 b6=>?_);obtain⟨t4,n1,n2,n3,n4⟩:=yQ (C:=Y) aW h6;have o4:=xB.c (A:=[_,_,_]) (B:=[]) o3 h6 b6 n2 n3 n4;refine⟨_,_,n1,aA ?_⟩;rw[q125];refine w125 ?_;unfold t125;refine jC λE g al=>?_;obtain⟨t5,m1,⟨cc,m2,ai⟩,m3,m4⟩:=Zv (v:=.h s) g;have o5:=o4.z g m4;have aa:=o4.ak g;obtain⟨p1,w⟩:=o5.r (λhm=>o4.aa g hm) m2 aa;generalize ag:t.d E (uA.aa cc (O.h s).s.length none)=x at p1 w
  have N:xC x E none [.h s]:=⟨cc,by rw[<- ag,G.aa,A5 rfl];rfl,ai⟩;refine⟨_,_,m1,?_⟩;show iA _ _ _ (.p (jQ Y) (.q (.aa 171) [] [.j E 0]) 2 2 [.j y 0,.j z 0,.j D 0,.j J 0] _ _) _ _;refine⟨Nat.le_add_right _ _,λl r ab ac ad ae hy=>?_⟩;have af:Cn (jQ Y) (.q (.aa 171) [] [.j E 0]) l=some (171,[.q (.ac l) [] [],.j E 0]):=by
   unfold Cn;simp only[O.am,lA];have:jQ Y 171=true:=by kernel_rfl
   rw[this];rfl
  rw[af,xA];show Wq Y F dC 171 _ _ _;rw[q171];have o6:=xB.y (r:=r) p1 ab ac;have ah:T4 l r y z D J:=λK t1 Q1 h1 h2 h3=>hy K t1 Q1 h1 h2 h3;refine w171 ?_;unfold t171 uS;have lb:oA Y 9 ⟨0,t5.d l (.ac r)⟩ (.j E 0)=some (.h s):=(xC.d N o6.b).f iI rfl rfl;refine tA rfl (iB lb (gC (tA rfl (jC λsp R a7=>?_))));obtain⟨t7,r1,r2,r3,r4⟩:=yQ (C:=Y) W5 R;have o7:=xB.c (A:=[_,_,_,_]) (B:=[nI l r]) o6 R a7 r2 r3 r4
  refine⟨_,_,r1,jC λq _ _=>?_⟩;obtain⟨t8,s1,s2⟩:=xB.a (A:=[_,_,_,_]) (j:=0) (v:=.i [.e .i64 1,.e .i64 1,.h s,.e .i64 0]) o7 W5 rfl (by show 0+4<=4;omega) rfl;refine⟨_,_,s1 q,sC ?_⟩;have o8:xB Y.a x t8 (dR y z D J 0 0 0 [] .g++[tJ sp s 1 1 0]++[nI l r]):=
   xB.ac (A:=[oC y none [.g],oC z none [.e .i64 0,.e .i64 0],oC D none [.e .i64 0],oC J none [.g]]) (B:=[tJ sp s 1 1 0,nI l r]) (o':=iD Y.a 4 (([]:List xD).map xD.d) .g) s2 (λ_ _=>rfl) (λk hk=>by simp[iD,vK]at hk) (.inl ⟨rfl,rfl⟩) (by simp[iD,vK]) s2.b
  refine zll ah ad ae (by omega) a8 (s.length+1) 0 1 1 none 0 0 [] .g x t8 (by omega) (by omega) (by omega) (by omega) (by simp) (λh=>by cases h) (λp hp=>by cases hp) (hg.a w) N o8 ?_;rw[H6];unfold Hy at i;revert i;generalize uP (s.length+1) s 1 1 none=aj;intro i
  cases aj with
  | ok m=>
   intro Z t' f W M o u1 H;rw[F3]at H;refine .inl ⟨H.s (nI l r) (by simp),?_⟩;have I:=xB.p H;have lv:oA Y 136 ⟨0,t'.q l⟩ (.j J 0)=some f:=(xB.d (A:=[_,_,_]) I).f aW rfl rfl;have hv:bU Y.a Z (t'.q l) 4 (m.map xD.d) f:=I.s (iD Y.a 4 (m.map xD.d) f) (by simp);have P:O.z f=true:=hv.s;have u:f.s=[f]:=by
    rcases hv with⟨e,_⟩ | ⟨b,cl,c,e,_⟩ <;> (subst e;rfl)
   refine iB lv (tA rfl (jC λq _ _=>?_));obtain⟨t9,x1,x2⟩:=xB.a (A:=[]) (j:=0) (v:=f) I aW (by simp_all) (by simp_all) (by grind [gI]);have e9:jJ [O.g] 0 f.s=[f]:=by rw[u];rfl
   rw[e9]at x2;refine⟨_,_,x1 q,jC λq _ _=>?_⟩;obtain⟨am,y1,y2⟩:=xB.a (A:=[_]) (j:=0) (v:=.i [.e .i64 0,.e .i64 0]) x2 cZ rfl (by show 0+2<=2;omega) rfl;refine⟨_,_,y1 q,jC λq _ _=>?_⟩;obtain⟨X,z1,z2⟩:=xB.a (A:=[_,_]) (j:=0) (v:=.e .i64 0) y2 qS rfl (by show 0+1<=1;omega) rfl;obtain⟨S,T,U⟩:=d (L:=[_,_,_]) (a:=0) (b:=0) (e:=0) P z2;refine⟨_,_,z1 q,iB S (iB T (iB U ?_))⟩;obtain⟨ao,w1,w2,w3⟩:=xB.g (A:=[_,_,_,_]) (B:=[tJ sp s W M o]) z2
   exact i X f (w.d (u1.d z2.b)) (w3.a w2.b)
  | er e pl pc=>
   intro Z t' f ak W M o u1 H;refine .inr ⟨H.s (nI l (eP false r)) (by simp),?_⟩;have I:=xB.p H;obtain⟨S,T,U⟩:=d (L:=[_,_,_]) (v:=.g) rfl I;exact iB S (iB T (iB U (i _ (w.d (u1.d I.b)))))
def mX(s:List Nat):Nat:=(s.reverse.takeWhile λb=>decide (b≠10)).length
def zv4(l:s.length<1000000):oB Y F 127 [.h s,.e .u8 10] t=some (.e .i64 ((s.length:Int)-1-(mX s:Int))):=by
 have e:∀(k:Nat),k<=s.length->mX s=(s.length-k)+mX (s.take k)->jp 180 2 [.h s,.e .u8 10,.e .i64 ((k:Int)-1)] t λv i=>v=.e .i64 ((s.length:Int)-1-(mX s:Int))/\i=t:=by
  intro k;induction k with
  | zero=>
   intro h c;refine zsa ?_;unfold xx;refine wB (by rw[oU];simp) ⟨?_,rfl⟩;rw[List.take_zero]at c;have:mX []=0:=rfl
   grind
  | succ k m=>
   intro h c;have d:s[k]?=some s[k]:=D0 (by omega);have f:((k+1:Nat):Int)-1=(k:Int):=by omega
   refine zsa ?_;unfold xx uU;rw[f];refine tA (by grind [oU]) (vA (rP d) (tB ?_));have g:mX (s.take (k+1))=if s[k]=10 then 0 else mX (s.take k)+1:=by
    unfold mX;rw[kT d,List.reverse_append,List.reverse_singleton,List.singleton_append,List.takeWhile_cons];grind
   by_cases a:s[k]=10
   .rw[A5 a]at g;refine tA (by grind [uF]) ⟨?_,rfl⟩
    grind
   grind [wB,uF,sC,A2]
 refine lC.2 (w127 ?_);unfold t127 uI;refine aA ?_;have b:oB Y F 180 [.h s,.e .u8 10] t=some (.e .i64 ((s.length:Int)-1-(mX s:Int))):=by
  refine lC.2 (w180 ?_);unfold t180;rw[gQ];have j:uW ((s.length:Int)-1)=(s.length:Int)-1:=A2 (by omega) (by omega)
  grind [sC]
 rw[q180,b,xA];exact tB ⟨rfl,rfl⟩
def mb (s:List Nat):Nat:=Bj 10 s+1
def dq (s:List Nat):Nat:=mX s+1
theorem zo6(s:List Nat):Bj 10 s<=s.length:=by
 induction s with
 | nil=>exact B4 _
 | cons b s a=>
  grind [Bj]
def zbj(s:List Nat):mX s<=s.length:=by
 unfold mX;have:=(List.takeWhile_sublist (λb=>decide (b≠10)) (l:=s.reverse)).length_le
 rwa [List.length_reverse]at this
def qz(j:s.length<900000){n:Nat}(g:n<=s.length):oB Y F 64 [.h s,.e .i64 (n:Int)] t=some (.i [.e .i64 (mb (s.take n):Int),.e .i64 (dq (s.take n):Int)]):=by
 refine lC.2 (w64 ?_);unfold t64 uI uS;have d:(bif fB (Int.ofNat (vB s)) (n:Int)then Int.ofNat (vB s)else(n:Int))=(n:Int):=by
  grind [gQ,wD]
 rw[d];have c:(s.take n).length=n:=by simp_all
 refine wB (by rw[wD];simp) (vA (He g) (gC (aA ?_)));have b:Y.c.c 126=some (jN Wz):=by kernel_rfl
 have a:oB Y F 126 [.h (s.take n),.h [10]] t=some (.e .i64 (Bj 10 (s.take n):Int)):=Ki b λH=>rfl;rw[q126,a,xA];refine tB (aA ?_);rw[q127];show oD (oB Y F 127 [.h (s.take n),.e .u8 10] t) _;rw[zv4 (by omega),xA];have h:=zo6 (s.take n);have i:=zbj (s.take n);have e:uC (Bj 10 (s.take n):Int)=.e .i64 (mb (s.take n):Int):=by
  show O.e .i64 (cA .i64 ((Bj 10 (s.take n):Int)+1))=_;rw[A2 (by omega) (by omega)];rfl
 have f:uW (Int.ofNat (vB (s.take n))-(((s.take n).length:Int)-1-(mX (s.take n):Int)))=(dq (s.take n):Int):=by
  grind [dq,gQ,A2]
 refine tB (tA rfl (tA rfl ?_));rw[e,f];exact⟨rfl,rfl⟩
end
end
section
variable {y:jD}{cs':List O}{e k':Int}
variable [fC]
def L3 (b0 c d:Nat)(z:List O)(a b k:Int):List kF:=[oC b0 none z,oC c none [.e .i64 a,.e .i64 b],oC d none [.e .i64 k]]
structure RT (T:Nat) (z:List O) (cf:yH->List O):Prop where
 b:∃y,Y.b.c T=some y/\y.a.h=true/\y.c=z/\y.b=z.length
 a:nD O.z z=true
 ag:mK z (.i z)=some (AN z)
 cf:cf (AN z)=z
section
variable {t tf:G uA}{Q:mB}{s:List Nat}{T:Nat}{z:List O}{f:yH->List O}{J:xG}{A B:List kF}{b0 d c:Nat}{cs:List O}{a b k:Int}{W:xG}
def ug (h:xB Y.a tf t (A++oC b0 none cs::B))(a:Y.b.c T=some y)(b:y.a.h=true)(c:y.b=cs.length):oA Y T ⟨0,t⟩ (.j b0 0)=some (.i cs):=by
 have:=h.d.p.e (j:=0) (n:=cs.length) a b c (by omega)
 simp_all
def stS  (h:xB Y.a tf t (A++oC b0 none cs::B))(e:Y.b.c T=some y)(g:y.b=cs.length)(f:cs'.length=cs.length)(a:nD O.z cs'=true):∃t',(∀q,mC Y T (.j b0 0) (.i cs') ⟨q,t⟩=some (aD,⟨q,t'⟩))/\xB Y.a tf t' (A++oC b0 none cs'::B):=by
 obtain⟨t',d,b⟩:=xB.a (j:=0) (v:=.i cs') h e (by show cs'.length=_;omega) (by show 0+cs'.length<=_;omega) a;refine⟨t',d,?_⟩;have c:jJ cs 0 cs'=cs':=by
  unfold jJ;rw[List.take_zero,F3,F1 (by omega),Do]
 have b:xB Y.a tf t' (A++oC b0 none (jJ cs 0 cs')::B):=b
 rwa [c]at b
def stI (h:xB Y.a tf t (A++oC b0 none [.e .i64 k]::B)):∃t',(∀q,mC Y 34 (.j b0 0) (.e .i64 k') ⟨q,t⟩=some (aD,⟨q,t'⟩))/\xB Y.a tf t' (A++oC b0 none [.e .i64 k']::B):=by
 obtain⟨t',a,b⟩:=xB.a (j:=0) (v:=.e .i64 k') h qS rfl (by show 0+1<=1;omega) rfl;exact⟨t',a,b⟩
def mc{a b:Int}:mK [.e .i64 0,.e .i64 0] (.i [.e .i64 a,.e .i64 b])=some (AN [.e .i64 a,.e .i64 b]):=aQ rfl
def zu1(l:RT T z f)(o:cs.length=z.length)(h:xB Y.a tf t (A++L3 b0 d c cs a b k))(j:Q (.p [.i cs,.i [.e .i64 a,.e .i64 b],.e .i64 k]) t):iA Y.a W J (nf T (.j b0 0) (.j d 0) (.j c 0)) t Q:=by
 obtain⟨y,g,i,m,n⟩:=l.b;unfold nf;refine iB (ug h g i (by omega)) (iB (v:=.i [.e .i64 a,.e .i64 b]) ?_ (iB (v:=.e .i64 k) ?_ j))
 .exact ug (A:=A++[oC b0 none cs]) (B:=[oC c none [.e .i64 k]]) (by simpa[L3]using h) cZ rfl rfl
 .have e:xB Y.a tf t ((A++[oC b0 none cs,oC d none [.e .i64 a,.e .i64 b]])++oC c none [.e .i64 k]::[]):=by grind [L3]
  exact e.d.f qS rfl rfl
def gc(i:RT T z f) (o:cs.length=z.length)(j:cs'.length=z.length)(e:nD O.z cs'=true)(h:xB Y.a tf t (A++L3 b0 d c cs a b k)):∃t',(∀q,mC Y T (.j b0 0) (.i cs') ⟨q,t⟩=some (aD,⟨q,t'⟩))/\xB Y.a tf t' (A++L3 b0 d c cs' a b k):=by
 obtain⟨y,g,l,m,n⟩:=i.b;exact stS h g (by omega) (by omega) e
def P1{a' b':Int}(h:xB Y.a tf t (A++L3 b0 d c cs a b k)):∃t',(∀q,mC Y 39 (.j d 0) (.i [.e .i64 a',.e .i64 b']) ⟨q,t⟩=some (aD,⟨q,t'⟩))/\xB Y.a tf t' (A++L3 b0 d c cs a' b' k):=by
 obtain⟨t',e,f⟩:=stS (A:=A++[oC b0 none cs]) (B:=[oC c none [.e .i64 k]]) (cs:=[.e .i64 a,.e .i64 b]) (b0:=d) (cs':=[.e .i64 a',.e .i64 b']) (by simpa[L3]using h) cZ rfl rfl rfl
 grind [L3]
def K3 (h:xB Y.a tf t (A++L3 b0 d c cs a b k)):∃t',(∀q,mC Y 34 (.j c 0) (.e .i64 k') ⟨q,t⟩=some (aD,⟨q,t'⟩))/\xB Y.a tf t' (A++L3 b0 d c cs a b k'):=by
 obtain⟨t',e,f⟩:=stI (A:=A++[oC b0 none cs,oC d none [.e .i64 a,.e .i64 b]]) (B:=[]) (k':=k') (by simpa[L3]using h)
 grind [L3]
def ld1(h:xB Y.a tf t (A++L3 b0 d c cs a b k)):oA Y 39 ⟨0,t⟩ (.j d 0)=some (.i [.e .i64 a,.e .i64 b]):=
 ug (A:=A++[oC b0 none cs]) (B:=[oC c none [.e .i64 k]]) (by simpa[L3]using h) cZ rfl rfl
def ng(h:xB Y.a tf t (A++L3 b0 d c cs a b k)):oA Y 34 ⟨0,t⟩ (.j c 0)=some (.e .i64 k):=by
 have e:xB Y.a tf t ((A++[oC b0 none cs,oC d none [.e .i64 a,.e .i64 b]])++oC c none [.e .i64 k]::[]):=by grind [L3]
 exact e.d.f qS rfl rfl
def jv(g:RT T z f){x y:Int}(u:cs.length=z.length)(h:xB Y.a tf t (A++L3 b0 d c cs a b k))(s:∀t',xB Y.a tf t' (A++L3 b0 d c z x y e)->Q (.p []) t') :
  iA Y.a W J (nd T z (.j b0 0) (.j c 0) (.j d 0) (.aw 143 (.i [.e .i64 x,.e .i64 y,.e .i64 e]))) t Q:=by
 unfold nd;refine vA (v:=.d true) (by kernel_rfl) (cC (tA rfl ?_));obtain⟨w,i,j⟩:=gc g (cs':=z) u rfl g.a h;refine jC λq _ _=>⟨_,_,i q,?_⟩;obtain⟨B,l,m⟩:=K3 (k':=120) j;refine jC λq _ _=>⟨_,_,l q,?_⟩;refine vA (v:=.p [.i [.e .i64 x,.e .i64 y,.e .i64 e],.d true]) (by kernel_rfl) (vA (v:=.i [.e .i64 x,.e .i64 y,.e .i64 e]) rfl (aC (X:=AN [.e .i64 x,.e .i64 y,.e .i64 e]) (aQ rfl) (vA (v:=.d true) rfl (cC (tA rfl (tA rfl ?_))))))
 obtain⟨C,n,o⟩:=P1 (a':=x) (b':=y) m;refine jC λq _ _=>⟨_,_,n q,?_⟩;refine tA (by simp_all [A8,dP,uF]) ?_;obtain⟨D,p,r⟩:=K3 (k':=e) o;refine jC λq _ _=>⟨_,_,p q,?_⟩;exact s _ r
def zq0  : A8 10 (.e .i64 e) (.e .i64 e)=true:=by simp[A8,dP,uF]
def jx{a b:Int}:A8 10 (.i [.e .i64 a,.e .i64 b]) (.i [.e .i64 a,.e .i64 b])=true:=by simp[A8,A8.sames,dP,uF]
def jy{u:Type}{rd:G uA->u->O->Prop}{good:G uA->u->List O->Prop}{P:uK}{r:PR u}{g:Nat}(m:RT T z f)(y:P.L=L3 b0 d c z 0 0 0)(h:St P tf t 0 0)
  (A:match r with
   | .ok x _=>∀a t' cs,zB tf a->zB a t'->good a x cs->Q (.p [.i cs,.i [.e .i64 0,.e .i64 0],.e .i64 0]) t'
   | .er e i=>∀t',zB tf t'->Q (.p [.i z,.i [.e .i64 ((lH P i).c:Int),.e .i64 ((lH P i).e:Int)],.e .i64 (e:Int)]) t')
  (b:∀Q E,Ok P rd 0 tf r Q E->lF Y F dC zG E g [.j P.b 0] t Q) (M:Nat.blt g pn=true)
  (p:∀a x v,rd a x v->∃cs,v=.i cs/\cs.length=z.length/\mK z (.i cs)=some (AN cs)/\f (AN cs)=cs/\nD O.z cs=true/\good a x cs) :
  iA Y.a (lF Y F dC zG λv t'=>iA Y.a (Wq Y F dC) R3 (nd T z (.j b0 0) (.j c 0) (.j d 0) v) t' λ_ s=>iA Y.a (Wq Y F dC) R3 (nf T (.j b0 0) (.j d 0) (.j c 0)) s Q) R3
   (T3 T z f (.q (.aa g) [] []) (.j b0 0) (.j d 0) (.j c 0) (.j P.b 0)) t Q:=by
 unfold T3;have L:eM (.q (.aa g) [] []) [.j P.b 0]=some (g,[.j P.b 0]):=by
  unfold eM;simp only[O.am,lA,M,xE];rfl
 refine aZ L (b _ _ ?_)
 cases r with
 | er e i=>
  intro a t' Z D j k;have o:xB Y.a a t' ([nH P Z D]++L3 b0 d c z 0 0 0):=by rw[<- y];exact k.g
  refine jv m rfl o λC l=>?_;refine zu1 m rfl l ?_;exact A C (j.d l.b)
 | ok x n=>
  intro a t' v j k N;obtain⟨cs,rfl,w,H,I,J,K⟩:=p _ _ _ N;have o:xB Y.a a t' ([nH P n 0]++L3 b0 d c z 0 0 0):=by rw[<- y];exact k.g
  refine aC H (tA rfl ?_);rw[I];obtain⟨t1,R,S⟩:=gc m (cs':=cs) rfl w J o;refine jC λq _ _=>⟨_,_,R q,?_⟩;obtain⟨C,U,W⟩:=P1 (a':=0) (b':=0) S;refine jC λq _ _=>⟨_,_,U q,?_⟩;obtain⟨t3,X,B⟩:=K3 (k':=0) W;refine jC λq _ _=>⟨_,_,X q,?_⟩;exact zu1 m w B (A a t3 cs j B.b K)
def zus{p1:O}(l:RT T z f)(hg:sL t)(ab:∀b∈s,b<256)(i:∀m,vP s=.ok m->s.length<900000/\m.length<300000/\∀x∈m,qY x)
  (hE:∀e a b,vP s=.er e a b->e≠0/\∀t',zB t t'->Q (.p [.i z,.i [.e .i64 (a:Int),.e .i64 (b:Int)],.e .i64 (e:Int)]) t')
  (hT:∀m,vP s=.ok m->∀g t1 P b0 d c,P.a=m->P.e=mb s->P.f=dq s->P.L=L3 b0 d c z 0 0 0->zB t g->St P g t1 0 0->J 11 [p1,.j b0 0,.j d 0,.j c 0,.j P.b 0] t1 Q) :
  iA Y.a (Wq Y F dC) J (T2 T z f s p1) t Q:=by
 obtain⟨y,y1,y2,y3,y4⟩:=l.b;unfold T2;refine jC λk r U=>?_;obtain⟨u0,a1,a2,a3,a4⟩:=yQ (C:=Y) y1 r;refine⟨_,_,a1,?_⟩;have o0:xB Y.a t t []:=⟨zB.f _,by simp,by simp,by simp⟩;have o1:=xB.c (A:=[]) (B:=[]) o0 r U a2 a3 a4;refine jC λp u X=>?_;obtain⟨u1,a5,a6,a7,a8⟩:=yQ (C:=Y) cZ u;refine⟨_,_,a5,?_⟩;have o2:=xB.c (A:=[oC k none y.c]) (B:=[]) o1 u X a6 a7 a8;refine jC λK w Z=>?_;obtain⟨u2,a9,M,N,S⟩:=yQ (C:=Y) qS w
 refine⟨_,_,a9,?_⟩;have L:=xB.c (A:=[oC k none y.c,oC p none [.e .i64 0,.e .i64 0]]) (B:=[]) o2 w Z M N S;rw[y3]at L;have L:xB Y.a t u2 (L3 k p K z 0 0 0):=L;refine aA ?_
 rw[q63];refine Wc.c (R:=λv t'=>match vP s with
   | .ok m=>∃o,v=.p [o,.i [.e .i64 0,.e .i64 0],.e .i64 0]/\bA t' 4 (m.map xD.d) o
   | .er e a b=>v=.p [.g,.i [.e .i64 (a:Int),.e .i64 (b:Int)],.e .i64 (e:Int)]) (ju hg ab ?_) L λv g t1 j ho n=>?_
 .grind
 cases H:vP s with
 | er e a b=>
  rw[H]at n;have n:v=.p [.g,.i [.e .i64 (a:Int),.e .i64 (b:Int)],.e .i64 (e:Int)]:=n;subst n;obtain⟨ad,hQ⟩:=hE e a b H;refine vA (v:=.g) rfl (vA (v:=.i [.e .i64 (a:Int),.e .i64 (b:Int)]) rfl (aC mc (vA (v:=.e .i64 (e:Int)) rfl (tB ?_))));obtain⟨t2,k1,k2⟩:=P1 (A:=[]) (a':=(a:Int)) (b':=(b:Int)) ho;refine jC λq _ _=>⟨_,_,k1 q,?_⟩;obtain⟨t3,k3,h⟩:=K3 (k':=(e:Int)) k2;refine jC λq _ _=>⟨_,_,k3 q,?_⟩
  refine iB (ng h) (tB (tA (by grind [uF]) ?_));refine iB (ug (A:=[]) h y1 y2 y4) (aC l.ag (iB (ld1 h) (aC mc (iB (ng h) (tB ?_)))));rw[l.cf];obtain⟨t4,k5,k6⟩:=gc l (cs':=z) rfl rfl l.a h;refine jC λq _ _=>⟨_,_,k5 q,?_⟩;refine iB (ld1 k6) (tA jx (iB (ng k6) (tA zq0 ?_)));obtain⟨t5,k7,k8⟩:=P1 (a':=(a:Int)) (b':=(b:Int)) k6;refine jC λq _ _=>⟨_,_,k7 q,?_⟩;refine iB (ng k8) (tA zq0 ?_);obtain⟨t6,k9,I⟩:=K3 (k':=(e:Int)) k8
  refine jC λq _ _=>⟨_,_,k9 q,?_⟩;refine zu1 (W:=Wq Y F dC) (J:=J) l rfl I (hQ t6 (j.d I.b))
 | ok m=>
  rw[H]at n;obtain⟨o,rfl,E⟩:=n;obtain⟨g0,g1,g2⟩:=i m H;refine vA (v:=o) rfl (vA (v:=.i [.e .i64 0,.e .i64 0]) rfl (aC mc (vA (v:=.e .i64 0) rfl (tB ?_))));obtain⟨t2,k1,k2⟩:=P1 (A:=[]) (a':=0) (b':=0) ho;refine jC λq _ _=>⟨_,_,k1 q,?_⟩;obtain⟨t3,k3,h⟩:=K3 (k':=0) k2;refine jC λq _ _=>⟨_,_,k3 q,?_⟩;refine iB (ng h) (tB (wB (by simp[uF]) (aA ?_)));rw[q64,gQ,qz g0 (B4 _),xA,List.take_length];refine aC mc (tA (by
   obtain⟨cl,he,_⟩:=E;rcases he with⟨rfl,_⟩ | ⟨b,ae,ac,rfl,_⟩<;>rfl) ?_)
  refine jC λc8 D aa=>?_;obtain⟨u8,m1,m2,m3,m4⟩:=Zv (v:=.i [o,.e .i64 0,.e .i64 0,.e .i64 (mb s:Int),.e .i64 (dq s:Int)]) D;refine⟨_,_,m1,sC ?_⟩;have o8:=xB.c (A:=[]) (B:=L3 k p K z 0 0 0) h D aa m2 m3 m4;exact hT m H g u8 ⟨m,c8,o,mb s,dq s,L3 k p K z 0 0 0⟩ k p K rfl rfl rfl rfl j ⟨E,o8,g1,I1 _,g2,hg.a j⟩
end
end
section
variable {m:List xD}{a b e:Nat}{d:Type}
variable [fC]
def K4 (m:List xD)(s:List Nat)(i:Nat):xD:=(m[i]?).getD ⟨0,[],mb s,dq s⟩
theorem zhj{s:List Nat} (h:vP s=.ok m):s.length<900000/\m.length<300000/\∀x∈m,qY x:=by
 unfold vP at h;split at h
 .cases h
 .obtain⟨a,b⟩:=znn _ _ _ _ _ _ h
  grind
theorem NA{s:List Nat} (h:vP s=.er e a b):e≠0:=by
 unfold vP at h;split at h
 .grind
 .exact zvv _ _ _ _ _ _ _ _ h
inductive RP (d:Type) where
 | ok (x:d)
 | er (e l c:Nat)
def wN {d:Type}(c:List xD->PR d)(s:List Nat):RP d:=
 match vP s with
 | .er e a b=>.er e a b
 | .ok m=>match c m with
  | .ok x _=>.ok x
  | .er e i=>.er e (K4 m s i).c (K4 m s i).e
def CE {a:List xD->PR d}{s:List Nat} (h:vP s=.ok m):wN a s=match a m with | .ok x _=>.ok x | .er e i=>.er e (K4 m s i).c (K4 m s i).e:=by unfold wN;rw[h]
def JZ {c:List xD->PR d}{s:List Nat} (h:vP s=.er e a b):wN c s=.er e a b:=by unfold wN;rw[h]
end
section
variable [fC]
def Z0(tf:G uA)(x:pF)(v:O):Prop:=∃a,v=.i a/\RD tf x.d a
def Z1(tf:G uA)(x:oG)(v:O):Prop:=∃a,v=.i a/\RD tf x.d a
def gd (tf:G uA)(x:qD)(v:O):Prop:=∃a,v=.i a/\RD tf x.d a
def jz{t:G uA}(x:pF):RD t x.d [.h x.a,.e .u8 (x.b:Int),.d x.c]:=
 lK.2 ⟨[[.h x.a],[.e .u8 (x.b:Int)],[.d x.c]],rfl,kD.2 ⟨_,_,rfl,mP.2 rfl,kD.2 ⟨_,_,rfl,lP.2 rfl,kD.2 ⟨_,_,rfl,Dl.2 rfl,pG.2 rfl⟩⟩⟩⟩
def zq4{t:G uA}{a b k:Int}{f:qF}{cs:List O}(h:RD t f.b cs):RD t (oG.d ⟨a,b,k,f⟩) ([.e .i64 a,.e .i64 b,.e .i64 k]++cs):=
 lK.2 ⟨[[.e .i64 a],[.e .i64 b],[.e .i64 k],cs],by simp,kD.2 ⟨_,_,rfl,lP.2 rfl,kD.2 ⟨_,_,rfl,lP.2 rfl,kD.2 ⟨_,_,rfl,lP.2 rfl,kD.2 ⟨_,_,rfl,h,pG.2 rfl⟩⟩⟩⟩⟩
def SQ{t:G uA}{a b:List Nat}{f u k:Int}{o:Bool}{x y:pA}{c d:List O}(e:RD t x.d c)(g:RD t y.d d):RD t (qD.d ⟨a,b,f,u,k,o,x,y⟩) ([.h a,.h b,.e .i64 f,.e .i64 u,.e .i64 k,.d o]++(c++d)):=
 lK.2 ⟨[[.h a],[.h b],[.e .i64 f],[.e .i64 u],[.e .i64 k],[.d o],c,d],by simp,kD.2 ⟨_,_,rfl,mP.2 rfl,kD.2 ⟨_,_,rfl,mP.2 rfl,kD.2 ⟨_,_,rfl,lP.2 rfl,kD.2 ⟨_,_,rfl,lP.2 rfl,kD.2 ⟨_,_,rfl,lP.2 rfl,kD.2 ⟨_,_,rfl,Dl.2 rfl,kD.2 ⟨_,_,rfl,e,kD.2 ⟨_,_,rfl,g,pG.2 rfl⟩⟩⟩⟩⟩⟩⟩⟩⟩
def HI{t:G uA}:RD t zY.d zE:=Nw (op:=0) (name:=[]) (v:=qR) (args:=[]) lS lS lS
section
variable {P:uK}{tf t:G uA}{n d:Nat}{Q E:mB}{J:xG}{o:PM pA}
def j8{a:Bool}(h:St P tf t n d)(o:Ok P Z0 d tf (mZ P.a a n) Q E):vL Y F E 152 [.j P.b 0,.d a] t Q:=by
 refine w152 ?_;unfold t152 uU uS uY;refine aA ?_;rw[pE 96];unfold mZ at o;refine Kv h (o.c λw A x C v z s m l e=>?_);cases l;refine gC (aA ?_);rw[pE 201];refine SS (f:=xJ) (g:=84) (most:=6) (λt q i r=>zh4 q r) (by kernel_rfl) (by kernel_rfl) (by omega) m (e.c λk B y D H u p c b j=>?_);cases b;exact tB (tA rfl (tA rfl (Ok.j j c ⟨_,rfl,jz ⟨w,k,a⟩⟩)))
def zrk(h:St P tf t n d)(a:Ok P Y2 d tf (yW P.a n) Q E):vL Y F E 202 [.j P.b 0] t Q:=by
 refine w202 ?_;unfold t202 zm uB uG V uY;refine aA ?_;rw[pW 78];refine Iy h λo c=>cC (aA ?_);unfold yW at a;generalize B0 P.a pJ n=neg at a c;change St P tf o (if neg=true then n+1 else n) d at c;generalize (if neg=true then n+1 else n)=m at a c;rw[pQ 77,Nr c,xA];refine aC (H9 _) (tA rfl ?_);have g:cK P.a 2 m=decide ((lH P m).b=2):=Sz (by omega);have l:yN P.a m=(lH P m).a:=AZ;dsimp only at a
 cases f:decide ((lH P m).b=2)with
 | false=>
  have p:¬ (lH P m).b=2:=of_decide_eq_false f;rw[g,f]at a;simp only[L0,Bool.true_or,if_true]at a;refine tA ?_ (aA (Ok.l c a));show(!kB ((lH P m).b:Int) 2)=true;rw[uF,decide_eq_false (by omega)];rfl
 | true=>
  have p:(lH P m).b=2:=of_decide_eq_true f;have k:bT (lH P m).a:=by
   have:=c.ak (n:=m) (by rw[g,f])
   rwa [l]at this
  refine wB ?_ ?_
  .show ¬ (!kB ((lH P m).b:Int) 2)=true;rw[uF,decide_eq_true (by omega)];simp
  refine aA ?_;show lF Y F dC zG E 143 [.h (lH P m).a,.h [47]] o _;rw[pQ 143,GJ (by have:=k.1;omega),xA,SI];refine cC ?_;rw[g,l,f]at a;simp only[Bool.not_true,Bool.false_or]at a
  cases q:xK (lH P m).a with
  | true=>
   rw[q,A5 rfl]at a;exact tA rfl (aA (Ok.l c a))
  | false=>
   rw[q,A3 (by simp)]at a;refine wB (by simp) (sC (zwl ?_));unfold zeo uI uB uX V;obtain⟨i,hi,w⟩:=Hx.ah (s:=(lH P m).a) (neg:=neg) (lo := -2147483648) (hi:=2147483647) (t:=o) k q (by omega) (by omega);refine aA ?_;show lF Y F dC zG E 144 [.h (lH P m).a,.d neg,.e .i64 (-2147483648),.e .i64 2147483647] o _;rw[pQ 144,hi,xA];refine vA rfl (tB (vA rfl (cC ?_)))
   cases r:sP (lH P m).a neg (-2147483648) 2147483647 with
   | none=>
    rw[r]at a;exact tA rfl (aA (Ok.l c a))
   | some j=>
    rw[r]at a;have:=w j r;subst this;refine wB (by simp) (sC (zwk ?_));unfold zen uI uC rC V;have y:m<P.a.length:=by
     rw[<- g]at f;unfold cK at f
     cases v:P.a[m]? with
     | none=>rw[v]at f;cases f
     | some x=>exact(G1.1 v).1
    have u:=c.f;refine vA nl (vA f1 (iB c.l1 (tB (vA nl (vA f1 (jC λb _ _=>?_))))));obtain⟨B,z,A⟩:=c.r (n':=m+1) (by omega);have e:cA .i64 ((m:Int)+1)=((m+1:Nat):Int):=by rw[A2 (by omega) (by omega)];rfl
    rw[e];exact⟨_,_,z b,Ok.j a A rfl⟩
def j9{o:Bool}(h:St P tf t n d)(U:Ok P Z1 d tf (Cm P.a o n) Q E):vL Y F E 153 [.j P.b 0,.d o] t Q:=by
 refine w153 ?_;unfold t153 uI V;refine aA ?_;rw[pE 202];unfold Cm at U;have i:∀(a b:Int) (z0 z1 z2:Int) (D:Nat) (c H:G uA),St P c H D d->Ok P Z1 d c ((mE P.a tS D).c λ_ n3=>(eO P.a n3).c λd n4=>(mE P.a l9 n4).c λ_ m=>
   (fun(g:Bool)=>(yK P.a 2 (if g then m+1 else m)).c λs n6=>.ok ⟨a,b,d,kL s g⟩ n6) (B0 P.a pJ m)) Q E →
   sI E 153 11 [.j P.b 0,.e .i64 z0,.e .i64 z1,.e .i64 z2,.d false,.g,.d false,.g,.e .i64 a,.e .i64 b,.e .i64 0,.d false,.g,.d false,.g] H Q:=by
  intro a b z0 z1 z2 D c H h2 j;refine zwp ?_;unfold ze1 uI uB uG aB V uY;refine Fo h2 j λn3 ab t3 X z K=>?_;refine aA ?_;rw[pE 79];refine Ui Hx z (K.c λdd n4 ac t4 v4 aa Z A q L=>?_);cases q;refine tB (tA rfl (Fo A L λm T t5 a1 B l=>?_));refine aA ?_;rw[pW 78];refine Iy B λt6 I=>cC (aA ?_);dsimp only at l;generalize B0 P.a pJ m=g at l I;change St P T t6 (if g=true then m+1 else m) d at I
  rw[pE 68];refine Jy (k:=2) (by omega) I (l.c λs n7 ad t7 v7 N a6 C r M=>?_);obtain⟨x,_,e,rfl⟩:=r;obtain⟨g1,g2,_⟩:=Vx N;have hn:=I.ak g1;rw[<- g2]at hn;subst e;refine aC (H9 _) (EO Hx C hn λae t8 cs k1 k2 J=>?_);obtain⟨u,v,rfl,hz,_⟩:=EP J;refine aC hz (tA J.e (tA (zq4 (a:=a) (b:=b) (k:=dd) J).e ?_));exact Ok.j (Ok.g M k1) k2 ⟨_,rfl,zq4 J⟩
 refine zrk h (U.c λa n1 S t1 v hr a7 w R f=>?_);cases R;refine tB (tA rfl ?_)
 cases o with
 | true=>
  rw[A5 rfl]at f;refine tA rfl (aA ?_);rw[pE 202];refine zrk w (f.c λb D c H v2 a8 W y p j=>?_);cases p;exact tB (tA rfl (sC (i a b 0 0 0 D c H y j)))
 | false=>
  rw[A3 (by simp)]at f;exact wB (by simp) (sC (i a 0 0 0 0 n1 S t1 w f))
def zka(h:St P tf t n 0)(hk:Ok P gd 0 tf (Bk P.a n) Q E):vL Y F E 154 [.j P.b 0] t Q:=by
 refine w154 ?_;unfold t154 uI uB uS V uY;refine tA rfl (tA rfl (aA ?_));rw[pE 96];unfold Bk at hk;refine Kv h (hk.c λa n1 bb t1 v1 b3 am S K ae=>?_);cases K;refine gC (tA rfl (aA ?_));rw[pE 96];refine Kv S (ae.c λb n2 bc t2 v2 b4 ao T L af=>?_);cases L;refine gC (tA rfl (Fo T af λn3 bd t3 ap U ag=>aA ?_));rw[pE 79];refine Ui Hx U (ag.c λf n4 be t4 v4 b5 aq W M ah=>?_);cases M;refine tB (tA rfl (Fo W ah λn5 al t5 ar X j=>aA ?_))
 rw[pW 78];have p:∀(u:Int) (n6:Nat) (i t6:G uA),St P i t6 n6 0->Ok P gd 0 i ((mE P.a tS n6).c λ_ n7=>(eO P.a n7).c λk n8=>
   if B0 P.a dj n8 then .ok ⟨a,b,f,u,k,true,zY,zY⟩ (n8+1)else
   (mE P.a Mk n8).c λ_ n9=>(oZ P.a n9).c λx a8=>(mE P.a Jl a8).c λ_ aa=>(oZ P.a aa).c λy ab=>.ok ⟨a,b,f,u,k,false,x,y⟩ ab) Q E →
   sI E 154 19 ([.j P.b 0]++([.h [],.h [],.e .i64 0,.e .i64 0,.e .i64 0,.d false]++(zE++zE))++([.h a,.h b,.e .i64 f,.e .i64 u,.e .i64 0,.d false]++(zE++zE))) t6 Q:=by
  intro u n6 i t6 D q;refine zwo ?_;unfold ze0 uI uB uG aB V uY iH;refine Fo D q λn7 bf t7 av a1 ai=>aA ?_;rw[pE 79];refine Ui Hx a1 (ai.c λk n8 C t8 v8 b7 aw a6 R l=>?_);cases R;refine tB (tA rfl (zS a6 (λm t9 h9=>?_) λm t9 h9=>?_))
  .rw[m,A5 rfl]at l;have g:=SQ (t:=C) (a:=a) (b:=b) (f:=f) (u:=u) (k:=k) (o:=true) (HI (t:=C)) (HI (t:=C));exact tA rfl (tA g.e (Ok.j l h9 ⟨_,rfl,g⟩))
  .rw[m,A3 (by simp)]at l;refine Fo h9 l λn9 bg ba ax a7 aj=>aA ?_;rw[pE 31];refine RH Hx _ _ _ _ _ a7 (aj.c λx a8 b1 b8 bh ay ak z v H=>?_);obtain⟨d,rfl,hx⟩:=v;refine aC (H3 hx) ?_;have ex:[O.e .u8 ((AN d).i 0),.h ((AN d).s 1),.e .u8 ((AN d).i 2),.d ((AN d).b 3),(AN d).v 4,.d ((AN d).b 5),(AN d).v 6,.e .i64 ((AN d).i 7),(AN d).v 8]=d:=ub hx;refine tA (by rw[ex];obtain⟨a,b,c,rfl,_⟩:=bI hx;exact hx.e) ?_
   refine Fo z H λaa b2 b0 r A I=>aA ?_;rw[pE 31];refine RH Hx _ _ _ _ _ A (I.c λy ab ac b9 bi az s B w J=>?_);obtain⟨e,rfl,hy⟩:=w;refine aC (H3 hy) ?_;have ey:[O.e .u8 ((AN e).i 0),.h ((AN e).s 1),.e .u8 ((AN e).i 2),.d ((AN e).b 3),(AN e).v 4,.d ((AN e).b 5),(AN e).v 6,.e .i64 ((AN e).i 7),(AN e).v 8]=e:=ub hy;refine tA (by rw[ey];obtain⟨a,b,c,rfl,_⟩:=bI hy;exact hy.e) ?_;have g:=SQ (t:=ac) (a:=a) (b:=b) (f:=f) (u:=u) (k:=k) (o:=false) (hx.f (r.d s)) hy
   have ad:[O.h a,.h b,.e .i64 f,.e .i64 u,.e .i64 k,.d false,.e .u8 ((AN d).i 0),.h ((AN d).s 1),.e .u8 ((AN d).i 2),.d ((AN d).b 3),(AN d).v 4,.d ((AN d).b 5),(AN d).v 6,.e .i64 ((AN d).i 7),(AN d).v 8,.e .u8 ((AN e).i 0),.h ((AN e).s 1),.e .u8 ((AN e).i 2),.d ((AN e).b 3),(AN e).v 4,.d ((AN e).b 5),(AN e).v 6,.e .i64 ((AN e).i 7),(AN e).v 8]=[.h a,.h b,.e .i64 f,.e .i64 u,.e .i64 k,.d false]++(d++e):=by
    rw[<- ex,<- ey];rfl
   rw[ad];exact tA g.e (Ok.j J B ⟨_,rfl,g⟩)
 refine Iy X λt6 D=>cC ?_
 cases m:B0 P.a Gq n5 with
 | true=>
  rw[m,A5 rfl]at j;rw[m,A5 rfl]at D;exact wB (by simp) (sC (p 65536 (n5+1) al t6 D j))
 | false=>
  rw[m,A3 (by simp)]at j;rw[m,A3 (by simp)]at D;refine tA rfl (aA ?_);rw[pE 79];refine Ui Hx D (j.c λu n6 i t7 v6 b6 au Z N q=>?_);cases N;exact tB (tA rfl (sC (p u n6 i t7 Z q)))
end
end
end Go.Proofs
namespace Go.Am
open Go Go.RowKit
variable {sz:Nat}{cl:List (List O)}{v:O}{f:Lo}
section
variable {t tf:G uA}{C:fA}{base:Nat}
def LK (f:Lo)(base:Nat)(t:G uA)(sz:Nat)(cl:List (List O))(v:O):Prop:=
 (v=.g/\cl=[])\/∃b c,v=.m b 0 cl.length cl.length/\base<=b/\t.c b=some (.aa c (cl.length*sz) (some f)) ∧
  ∀(i:Nat) d,cl[i]?=some d->d.length=sz/\∀(j:Nat) a,d[j]?=some a->c.c (i*sz+j)=some a
def ZR{T el:Nat}(hT:rT C T el sz){cm:List (List O)}{x:O}(hv:LK (.b sz) C.a t sz cl v)(W:dQ t sz x cm)(B:∀a∈cm.flatten,O.z a=true)(U:0<cm.length)(hl:cl.length+cm.length<400000){n:Nat}(S:t.c n=none)(g:C.a<=n) :
  ∃t',lG C T T v x ⟨n,t⟩=some (.m n 0 (cl.length+cm.length) (cl.length+cm.length),⟨n+1,t'⟩)/\LK (.b sz) C.a t' sz (cl++cm) (.m n 0 (cl.length+cm.length) (cl.length+cm.length))/\(∀c,c≠n->¬ iM v c->t'.c c=t.c c):=by
 obtain⟨⟨y,M,N,P⟩,⟨z,D,d,Q,R,aa⟩,L⟩:=hT;have h:wO el z=.b sz:=by rw[NB.a L D,d]
 have f:=W.e;obtain⟨hf,A⟩:=W.a (n:=n);have o:=Fj f;have w:vB cm.flatten=cm.length*sz:=by rw[dD];exact o
 have base:lG C T T v x ⟨n,t⟩=(match v.u with
  | some s=>bif Nat.ble (s.2.2.1+cm.length) s.2.2.2 then Cz C ⟨n,t⟩ z cm.length cm.flatten s else Bb C ⟨n,t⟩ el z cm.length cm.flatten s
  | none=>sB (Nat.beq v.aa 5) (jX ⟨n,t⟩ el z cm.length cm.flatten)):=by
  unfold lG Br;rw[M,lA,lA,P];simp only[L0,xE];rw[N,lA,D,lA,A,lA,d,hf,lA];rfl
 have F:sZ z cl.length cl.length cm.length cm.flatten=true:=by
  unfold sZ;have h1:Nat.blt (cl.length+cm.length+cl.length) 1000000000=true:=eC.2 (by omega);have h2:Nat.blt ((cl.length+cm.length+cl.length)*z.d) 1000000000=true:=eC.2 (by
   have:=G5 (show cl.length+cm.length+cl.length<=800000 by omega) R;omega)
  have h3:Nat.blt z.d 1000000000=true:=eC.2 (by omega);have h4:(!Nat.beq z.b 0)=true:=by
   cases p:Nat.beq z.b 0 with
   | true=>have:=zD.1 p;omega
   | false=>rfl
  have h5:Nat.beq (vB cm.flatten) (cm.length*z.b)=true:=by rw[w,d];exact zD.2 rfl
  have h6:Nat.beq (vB z.c) z.b=true:=by rw[Q,d];exact zD.2 rfl
  rw[h1,h2,h3,h4,h5,h6];rfl
 rcases hv with⟨rfl,rfl⟩ | ⟨b,c,rfl,a1,m,H⟩
 .refine⟨t.d n (.aa (G.ac cm.flatten) (vB cm.flatten) (some (.b sz))),?_,.inr ⟨n,G.ac cm.flatten,by simp,g,?_,λi q l=>⟨f i q l,λj a r=>?_⟩⟩,λc hc _=>(oO S _).2 c hc⟩
  .rw[base];simp only[O.u];show sB true (jX ⟨n,t⟩ el z cm.length cm.flatten)=_;rw[xE];unfold jX;have:Nat.beq cm.length 0=false:=by
    cases p:Nat.beq cm.length 0 with
    | true=>have:=zD.1 p;omega
    | false=>rfl
   have F:sZ z 0 0 cm.length cm.flatten=true:=F;rw[this,cond_false,F,xE,h];simp only[G2,D8];rfl
  .rw[G.aa,A5 rfl,w];simp
  .rw[G.o];exact rZ f i j q a l r
 .have a6:b≠n:=by intro e;rw[e,S]at m;cases m
  refine⟨(t.q b).d n (.aa (c.am cm.flatten (cl.length*z.b)) ((cl.length+cm.length)*z.b) (some (.b sz))),?_,.inr ⟨n,c.am cm.flatten (cl.length*z.b),by simp,g,?_,λi q l=>?_⟩,λk I J=>?_⟩
  .rw[base];simp only[O.u];have:Nat.ble (cl.length+cm.length) cl.length=false:=by
    cases p:Nat.ble (cl.length+cm.length) cl.length with
    | true=>have:=mF.1 p;omega
    | false=>rfl
   rw[this,cond_false];unfold Bb;simp only[];rw[show ∀x,(!(Nat.beq 0 1&&x))=true from λ_=>rfl,xE,F,xE];unfold eD;rw[m,lA];simp only[uA.a,lA];unfold Lj;simp only[];have X:M8 (.b sz) (wO el z)=true:=by rw[h];exact DN.2 rfl
   have Z:Nat.ble (cl.length*z.b) (cl.length*sz)=true:=mF.2 (by rw[d];exact B4 _);have g3:Nat.ble (cl.length*sz) ((cl.length+cm.length)*z.b)=true:=mF.2 (by rw[d];exact D4 _ (by omega));have g4:nD O.z cm.flatten=true:=by rw[gI];exact C8.2 B
   have g5:(!Nat.blt b C.a)=true:=by
    cases p:Nat.blt b C.a with
    | true=>have:=eC.1 p;omega
    | false=>rfl
   rw[X,Z,g3,g4,g5];simp only[d];rfl
  .rw[G.aa,A5 rfl,d,E1]
  .rw[List.getElem?_append]at l;split at l
   .rename_i K;obtain⟨E,k2⟩:=H i q l;refine⟨E,λj a r=>?_⟩;have a8:j<sz:=by rw[<- E];exact(G1.1 r).1
    have:i*sz+j<cl.length*sz:=by
     have:=D4 sz (show i+1<=cl.length by omega);rw[D7]at this;omega
    rw[G.ap,d,A3 (by omega)];exact k2 j a r
   .rename_i a7;have E:=f _ q l;refine⟨E,λj a r=>?_⟩;have u:=rZ f _ j q a l r;have K:=(G1.1 u).1;have e:i*sz=cl.length*sz+(i-cl.length)*sz:=by rw[<- D7];congr 1;omega
    rw[G.ap,d,A5 (by omega),show i*sz+j-cl.length*sz=(i-cl.length)*sz+j by omega];exact u
  .rw[G.aa,A3 I,G.e,A3 (λe=>J (Cx.2 e))]
def LK.e    (h:LK f base t sz cl v){t':G uA}(g:∀k∈vK v,t'.c k=t.c k):LK f base t' sz cl v:=by
 rcases h with h | ⟨b,c,rfl,a,d,e⟩
 .exact .inl h
 .exact .inr ⟨b,c,rfl,a,by rw[g b (by simp[vK])];exact d,e⟩
def LK.d    (h:LK f base t sz cl v):∀k∈vK v,∃y,t.c k=some y:=by
 intro k a;rcases h with⟨rfl,_⟩ | ⟨b,c,rfl,e,d,g⟩
 .cases a
 .have:k=b:=by simpa[vK]using a
  subst this;exact⟨_,d⟩
end
end Go.Am
namespace Go.Proofs
open Go Go.Am
variable {b el j sz:Nat}{cl:List (List O)}{cs:List O}{v:O}
variable [fC]
def sJ (base sz:Nat)(cl:List (List O))(v:O):kF where
 aa:=vK v
 ok:=λ_ t=>LK (.b sz) base t sz cl v
 ac:=λh _ k=>h.e λb a=>(k b a).1
 ah:=λh k c=>h.d k c
section
variable {base:Nat}{tf t:G uA}{C:fA}{A B:List kF}
theorem xB.ap{T n:Nat}  {x:O}(q:rT C T el sz)(h:xB C.a tf t (A++sJ C.a sz cl v::B))(w:dQ t sz x [cs])(c:∀a∈cs,O.z a=true)(r:cl.length+1<400000)(i:t.c n=none)(b:C.a<=n) :
  ∃t' v',lG C T T v x ⟨n,t⟩=some (v',⟨n+1,t'⟩)/\xB C.a tf t' (A++sJ C.a sz (cl++[cs]) v'::B)/\O.z v'=true/\v'.s=[v']:=by
 have s:LK (.b sz) C.a t sz cl v:=h.s (sJ C.a sz cl v) (by simp);obtain⟨t',y,z,j⟩:=ZR q s w (by simpa using c) (by simp) (by simpa using r) i b;refine⟨t',_,y,xB.aj (o:=sJ C.a sz cl v) h (λk p D=>j k ?_ (λe=>p (Kz.2 e))) (λk g=>?_) z (by simp[sJ,vK]) (λk u d=>?_),rfl,rfl⟩
 .grind [sJ,vK]
 .grind [sJ,vK]
 .have f:∀k∈vK v,tf.c k=none:=λk g=>(h.f k (by simp[sJ,g])).2;have l:k≠n:=λe=>by rw[e,h.ak i]at d;cases d
  have m:¬ iM v k:=λe=>by rw[f k (Kz.2 e)]at d;cases d
  rw[j k l m];exact h.b _ _ d
def LK.a{T i:Nat}{a:Bool}   (f:mG C T el sz a)(h:LK (.b sz) base t sz cl v)(hi:cl[i]?=some cs) :
  ∃b,v=.m b 0 cl.length cl.length/\zC C T v (.e .i64 (i:Int))=some (.j b (i*sz))/\At t b (i*sz) cs:=by
 rcases h with⟨rfl,rfl⟩ | ⟨b,c,rfl,g,d,e⟩
 .simp at hi
 .have:=Gu (off:=0) (n:=cl.length) (cap:=cl.length) (b:=b) f (G1.1 hi).1;rw[D8]at this;exact⟨b,rfl,this,_,_,_,d,(e i cs hi).2⟩
theorem xB.au{n:Nat} (h:xB base tf t (A++sJ base sz cl (.m b 0 n n)::B)) :
  n=cl.length/\(∀(i:Nat) cs,cl[i]?=some cs->cs.length=sz)/\xB base tf t (A++oC b (some (.b sz)) cl.flatten::B):=by
 have g:LK (.b sz) base t sz cl (.m b 0 n n):=h.s (sJ base sz cl (.m b 0 n n)) (by simp);rcases g with⟨g,_⟩ | ⟨w,c,g,x,u,q⟩
 .cases g
 .cases g;have d:∀(i:Nat) cs,cl[i]?=some cs->cs.length=sz:=λi cs l=>(q i cs l).1;refine⟨rfl,d,xB.aj (o:=sJ base sz cl (.m b 0 cl.length cl.length)) (o':=oC b (some (.b sz)) cl.flatten) h (λ_ _ _=>rfl) (λk y=>.inl ?_) ?_ (by simp[oC]) h.b⟩
  .grind [oC,sJ,vK]
  .refine⟨c,by rw[u,Fj d],λj a m=>?_⟩;have r:=Fj d;have p:=(G1.1 m).1;have f:0<sz:=by
    rcases Z9 sz with e | e
    .subst e;simp at r;simp[r]at p
    .exact e
   have l:j / sz<cl.length:=by rw[Nat.div_lt_iff_lt_mul f];omega
   obtain⟨C,v⟩:=q (j / sz) cl[j / sz] (D0 l);have z:=G3 j f;have s:=rZ d (j / sz) (j%sz) cl[j / sz] cl[j / sz][j%sz] (D0 l) (D0 (by omega));have e:j / sz*sz+j%sz=j:=by rw[F0];exact Q3 j sz
   rw[e]at s;rw[s]at m;cases m;have:=v (j%sz) _ (D0 (by omega))
   rwa [e]at this
theorem xB.ax  (d:∀(i:Nat) cs,cl[i]?=some cs->cs.length=sz)(h:xB base tf t (A++oC b (some (.b sz)) cl.flatten::B)) :
  xB base tf t (A++sJ base sz cl (.m b 0 cl.length cl.length)::B):=by
 obtain⟨c,g,l⟩:xC t b (some (.b sz)) cl.flatten:=h.s (oC b (some (.b sz)) cl.flatten) (by simp);have e:=h.f b (by simp[oC]);refine xB.aj (o:=oC b (some (.b sz)) cl.flatten) (o':=sJ base sz cl (.m b 0 cl.length cl.length)) h (λ_ _ _=>rfl) (λk n=>.inl ?_) (.inr ⟨b,c,rfl,e.1,by rw[g,Fj d],λi cs f=>⟨d i cs f,λj a m=>l _ _ (rZ d i j cs a f m)⟩⟩) (by simp[sJ,vK]) h.b
 grind [oC,sJ,vK]
end
def el48:rT Y 48 89 3:=⟨⟨_,S8,rfl,rfl⟩,⟨_,fm,rfl,rfl,by decide,by decide⟩,λy h=>by rw[fm]at h;cases h;rfl⟩
def oq:rT Y 49 92 3:=⟨⟨_,cz,rfl,rfl⟩,⟨_,fp,rfl,rfl,by decide,by decide⟩,λy h=>by rw[fp]at h;cases h;rfl⟩
def el50:rT Y 50 60 24:=⟨⟨_,S9,rfl,rfl⟩,⟨_,fk,rfl,rfl,by decide,by decide⟩,λy h=>by rw[fk]at h;cases h;rfl⟩
def el90:rT Y 90 94 7:=⟨⟨_,dc,rfl,rfl⟩,⟨_,fq,rfl,rfl,by decide,by decide⟩,λy h=>by rw[fq]at h;cases h;rfl⟩
section
variable {P:uK}{tf t:G uA}{n d:Nat}{Q E:mB}{J W:xG}
def St.u:∀ {X:List kF},St (P.c (X++P.L)) tf t n d->St P tf t n d:=by
 intro X h;refine⟨h.p,?_,h.f,h.m,h.a,h.e⟩;have:=h.g;change xB Y.a tf t (nH P n d::(X++P.L))at this;clear h
 induction X with
 | nil=>exact this
 | cons x X a=>exact a (xB.i (A:=[nH P n d]) (o:=x) this)
def Np(S:Nat)(h:O)(g:O->Option O)(f v:O)(cs:List O):T:=
 .h (rD Y S 1 [(0,.i cs)]) λa=>.e (λm=>oA Y S ⟨0,m⟩ f) λb=>.a (A8 10 b v) (.h (lG Y S S v a) λc=>
  .d (nR h) λd=>.d (g d) λe=>.h (mC Y S e c) λ_=>.l (.p [])) .g
def LU   (h:j<cs.length):jJ cs j [v]=cs.set j v:=by
 refine List.ext_getElem? λk=>?_;rw[Kn (by show j+1<=cs.length;omega),ycw];show(if j<=k/\k<j+1 then [v][k-j]? else _)=_;split
 .have:k=j:=by omega
  subst this;simp[h]
 .rw[A3 (by omega)]
def MC{T:Nat} {t:G uA}(h:rT Y T el sz)(a:cs.length=sz)(j:sz<1000)(i:t.c b=none):∃t',rD Y T 1 [(0,.i cs)] ⟨b,t⟩=some (.m b 0 1 1,⟨b+1,t'⟩)/\dQ t' sz (.m b 0 1 1) [cs]/\zB t t'/\jF b t t':=by
 obtain⟨⟨y,d,e,_⟩,⟨z,f,g,c,_⟩,_⟩:=h;exact Oa (n:=1) d e f g c (by omega) ((Oo (sz:=sz) (z:=z.c) (v:=.i cs) (by rw[<- dD,c]) a).trans (by show some cs=_;simp)) (Kp a) rfl i
def zga{T c:Nat}{y:jD}{d A B:List kF}{l:List D}{dd:D}{pc:List O}{p:O}{g:O->Option O}{lo:Option Lo}(F:rT Y T el sz)(L:Y.b.c T=some y)(Z:y.a.h=false)(z:y.b=1)(u:cs.length=sz)(hs:sz<1000)
  (x:nR p=some p) (hg:g p=some (.j c j))
  (h:xB Y.a tf t (d++oC c lo pc::(A++iD Y.a sz l v::B))) (I:pc[j]?=some v) (f:RD tf dd cs) (hl:l.length+1<400000)
  (X:∀t' v',xB Y.a tf t' (d++oC c lo (pc.set j v')::(A++iD Y.a sz (l++[dd]) v'::B))->Q (.p []) t') :
  iA Y.a W J (Np T p g (.j c j) v cs) t Q:=by
 refine jC λb H s=>?_;obtain⟨P,q,E,h3,U⟩:=MC F u hs H;have i:=h.z H U;have hc:xC P c lo pc:=i.d;have e:∀(o C:kF),d++o::(A++C::B)=(d++o::A)++C::B:=λo C=>by simp
 rw[e]at i;have K:bU Y.a tf P sz l v:=i.s (iD Y.a sz l v) (by simp);refine⟨_,_,q,iB (hc.f L Z I) (tA K.g (jC λn r a=>?_))⟩;obtain⟨t2,k1,k2,k3,k4⟩:=UA F (m:=[dd]) K E (kD.2 ⟨cs,[],rfl,f,pG.2 rfl⟩) (by
  have:=f.e;rw[gI,C8]at this;simpa using this) (by simp) (by simpa using hl) r a i.b
 refine⟨_,_,k1,vA x (vA hg (jC λR _ _=>?_))⟩;have N:xB Y.a tf t2 ((d++oC c lo pc::A)++iD Y.a sz (l++[dd]) (.m n 0 (l.length+[dd].length) (l.length+[dd].length))::B):=by
  refine xB.aj (o:=iD Y.a sz l v) i (λk q E=>k4 k ?_ (λe=>q (Kz.2 e))) (λk hk=>?_) k2 (by simp[iD,vK]) k3
  all_goals grind [iD,vK]
 rw[<- e]at N;have w:=(G1.1 I).1;obtain⟨t3,m1,M⟩:=xB.a (j:=j) (v:=.m n 0 (l.length+[dd].length) (l.length+[dd].length)) N L (by rw[z];rfl) (by
  show j+1<=pc.length;omega) rfl
 refine⟨_,_,m1 R,?_⟩;have S:jJ pc j (O.s (.m n 0 (l.length+[dd].length) (l.length+[dd].length)))=pc.set j (.m n 0 (l.length+[dd].length) (l.length+[dd].length)):=LU w;rw[S]at M;exact X t3 _ M
end
end Go.Proofs
namespace Go.Proofs
open Go Go.Am
section
variable {q:G uA}{z:List (List O)}{R:List D}{H:O}{X:List kF}{L:Type}{w:List Nat}{K:O->T}{I:mB}{b:Nat}
variable [fC]
section
variable {tk:List xD}
def XJ:∀k,Up (A9 tk k):=by
 intro k;induction k with
 | zero=>intro n a c h;cases h
 | succ k b=>exact PC b
def RC:Up (oZ tk):=RI (XJ 101)
def Ue{f:Bool}:Up (mZ tk f):=dF Kx λ_=>dF (om _ _) λ_=>gN
def zh6:Up (yW tk):=by
 intro n a c h;unfold yW at h;have b:∀m,n<=m->(if (!cK tk 2 m||xK (yN tk m))=true then(.er 120 m:PR Int)else match sP (yN tk m) (B0 tk pJ n) (-2147483648) 2147483647 with | none=>.er 121 m | some i=>.ok i (m+1))=.ok a c->n<=c:=by
  intro m d h;split at h
  .cases h
  .split at h<;>cases h;omega
 refine b _ ?_ h;split<;>omega
def CH{e:Bool}:Up (Cm tk e):=by
 have g:∀a b d,Up (λf=>(fun(c:Bool)=>(yK tk 2 (if c then f+1 else f)).c λs k=>(.ok (⟨a,b,d,kL s c⟩:oG) k:PR oG)) (B0 tk pJ f)):=by
  intro a b d n x l h;obtain⟨s,m,i,j⟩:=PR.k h;have:=Vw _ _ _ i;cases j;split at this<;>omega
 refine dF zh6 λa=>?_
 cases e with
 | true=>exact dF zh6 λb=>dF fQ λ_=>dF Oz λd=>dF fQ λ_=>g a b d
 | false=>exact dF gN λb=>dF fQ λ_=>dF Oz λd=>dF fQ λ_=>g a b d
def GL:Up (Bk tk):=by
 refine dF Kx λa=>dF Kx λb=>dF fQ λ_=>dF Oz λf=>dF fQ λ_=>?_;have d:Up (λc=>(if B0 tk Gq c then .ok 65536 (c+1)else eO tk c:PR Int)):=by
  intro n a e h;dsimp only at h;split at h
  .cases h;omega
  .exact Oz _ _ _ h
 refine dF d λu=>dF fQ λ_=>dF Oz λk=>?_;intro n x e h;dsimp only at h;split at h
 .cases h;omega
 .exact dF fQ (λ_=>dF RC λx=>dF fQ λ_=>dF RC λy=>gN (a:=(⟨a,b,f,u,k,false,x,y⟩:qD))) _ _ _ h
def zdq:Up (Jz tk):=by
 refine dF Kx λw n a b h=>?_;split at h
 .cases h;omega
 .exact dF fQ (λ_=>gN (a:=(⟨w,false,[]⟩:aE))) _ _ _ h
end
def Me(tf:G uA)(T:List aE)(z:List (List O))(R:List D)(H:O):Prop:=
 (T=[]/\z=[]/\R=[]/\H=.g)\/∃A x a,T=A++[x]/\z=a++[[.h x.b,.d x.c,H]]/\tD tf (A.map aE.d) a/\R=x.a.map oG.d
theorem Me.a{tf:G uA}{T:List aE}   (h:Me tf T z R H)(f:zB tf q):Me q T z R H:=by
 rcases h with h | ⟨A,x,a,b,c,d,e⟩
 .exact .inl h
 .exact .inr ⟨A,x,a,b,c,tD.f f _ _ d,e⟩
theorem Me.c{tf:G uA}{T:List aE}   (h:Me tf T z R H):z.length=T.length:=by
 rcases h with⟨rfl,rfl,_⟩ | ⟨A,x,a,rfl,rfl,b,c⟩
 .rfl
 .have:=b.g
  simp_all
def mO(e:Nat)(d b c H a:O)(D:List D)(z:List (List O))(R C:List Am.D):List kF:=
 [oC e none [d,b,c,a],iD Y.a 3 D b,sJ Y.a 3 z c,iD Y.a 7 R H,iD Y.a 24 C a]
def Bu(P:uK)(c:Nat)(p:uD)(tf t:G uA)(n:Nat):Prop:=
 ∃b d H a z R,Me tf p.a z R H/\St (P.c (mO c (.h p.e) b d H a (p.c.map pF.d) z R (p.b.map qD.d)++P.L)) tf t n 0/\p.c.length<=n/\p.a.length<=n/\R.length<=n/\p.b.length<=n
def nN (P:uK)(d:Nat)(tf:G uA)(r:PR uD)(Q E:mB):Prop:=
 match r with
 | .ok p n=>∀q a,zB tf q->Bu P d p q a n->Q (.p []) a
 | .er e i=>∀q a c b,zB tf q->St P q a c b->E (tz P e i) a
section
variable {P:uK}{tf t:G uA}{n d p:Nat}{Q E:mB}{J W:xG}
theorem nN.g{r:PR uD}(h:nN P p tf r Q E) (g:zB tf q):nN P p q r Q E:=by
 cases r with
 | ok a n=>exact λb f c d=>h b f (g.d c) d
 | er e i=>exact λb f k j c d=>h b f k j (g.d c) d
theorem nN.c  {c:G uA->L->O->Prop}{r:PR L}{f:L->Nat->PR uD}{m:mB}(h:nN P p tf (r.c f) Q E)
  (k:∀a j b t1 v,r=.ok a j->zB tf b->St (P.c (X++P.L)) b t1 j 0->c b a v->nN P p b (f a j) Q E->m v t1):Ok (P.c (X++P.L)) c 0 tf r m E:=by
 cases r with
 | ok a n=>exact λq l v d g s=>k a n q l v rfl d g s (nN.g h d)
 | er e i=>exact λq l t o d g=>h q l t o d g.u
def nN.l   {f:Unit->Nat->PR uD} (i:St (P.c (X++P.L)) tf t n 0)(h:nN P p tf ((mE P.a w n).c f) I E)
  (k:∀d b t1,n<=d->zB tf b->St (P.c (X++P.L)) b t1 d 0->nN P p b (f () d) I E->iA Y.a (lF Y F dC zG E) J (K (.p [])) t1 Q) :
  iA Y.a (lF Y F dC zG E) J (.h (rD Y 62 1 [(0,.h w)]) λa=>.c 95 [.j P.b 0,a] K) t Q:=by
 refine Lp (P:=P.c (X++P.L)) i ?_;refine h.c λa d b t1 v l e c g j=>?_;cases g;exact k d b t1 (fQ _ _ _ l) e c j
def Uu  {c Z:T}(h:St (P.c (X++P.L)) tf t n d)(e:B0 P.a w n=true->∀t',St (P.c (X++P.L)) tf t' (n+1) d->iA Y.a (lF Y F dC zG E) J c t' Q)(f:B0 P.a w n=false->∀t',St (P.c (X++P.L)) tf t' n d->iA Y.a (lF Y F dC zG E) J Z t' Q) :
  iA Y.a (lF Y F dC zG E) J (.c 78 [.j P.b 0,.h w] λa=>.q a λb=>.a b c Z) t Q:=zS (P:=P.c (X++P.L)) h e f
def nN.j  {f:List Nat->Nat->PR uD} (i:St (P.c (X++P.L)) tf t n 0)(h:nN P p tf ((mL P.a n).c f) I E)
  (k:∀w d b t1,n<=d->zB tf b->St (P.c (X++P.L)) b t1 d 0->nN P p b (f w d) I E->iA Y.a (lF Y F dC zG E) J (K (.h w)) t1 Q) :
  iA Y.a (lF Y F dC zG E) J (.c 96 [.j P.b 0] K) t Q:=by
 refine aA ?_;rw[pE 96];refine Kv (P:=P.c (X++P.L)) i (h.c λa d b t1 v l e c g j=>?_);cases g;exact k a d b t1 (Kx _ _ _ l) e c j
def gF(k:Nat)(a:k=0\/k=1\/k=2\/k=3)  : jB Y 52 k (.j b 0)=some (.j b k):=by
 rcases a with rfl | rfl | rfl | rfl<;>kernel_rfl
def gT(k:Nat)(a:k=1\/k=2){o:Nat}:jB Y 92 k (.j b o)=some (.j b (o+k)):=by
 rcases a with rfl | rfl<;>kernel_rfl
def KW{T el sz j g:Nat}{y:jD}{A B:List kF}{l:List D}{pc zs:List O}{v:O} {rd:G uA->L->O->Prop}{r:PR L}{k:L->Nat->PR uD}{dd:L->D}{fc:yH->List O}{args:List O}
  (hT:rT Y T el sz) (U:Y.b.c T=some y) (x:y.a.h=false) (N:y.b=1) (hs:sz<1000) (f:j=0\/j=1\/j=2\/j=3)
  (M:∀tf a w,rd tf a w->∃cs,w=.i cs/\RD tf (dd a) cs/\mK zs (.i cs)=some (AN cs)/\fc (AN cs)=cs/\cs.length=sz)
  (S:St (P.c ((oC p none pc::(A++iD Y.a sz l v::B))++P.L)) tf t n 0) (C:pc[j]?=some v) (hl:l.length+1<400000)
  (hW:∀a m R,lF Y F dC zG E g a m R=vL Y F E g a m R)
  (e:∀I,Ok (P.c ((oC p none pc::(A++iD Y.a sz l v::B))++P.L)) rd 0 tf r I E->vL Y F E g args t I)
  (hk:nN P p tf (r.c k) Q E)
  (hQ:∀a d q t' v',r=.ok a d->zB tf q->St (P.c ((oC p none (pc.set j v')::(A++iD Y.a sz (l++[dd a]) v'::B))++P.L)) q t' d 0->nN P p q (k a d) Q E->Q (.p []) t') :
  iA Y.a (lF Y F dC zG E) J (.d (nR (.j p 0)) λa7=>.d (jB Y 52 j a7) λu=>.e (λm=>oA Y T ⟨0,m⟩ u) λW=>.c g args λo=>.o zs o λX=>
   .e (λm=>oA Y T ⟨0,m⟩ u) λs=>.a (A8 10 s W) (Np T (.j p 0) (jB Y 52 j) u W (fc X)) .g) t Q:=by
 have hc:xC t p none pc:=S.g.d (A:=[nH P n 0]);refine vA nl (vA (gF j f) (iB (hc.f U x C) (aA ?_)));rw[hW];refine e _ (hk.c λa d c i w hr K b h H=>?_);obtain⟨cs,rfl,c1,c2,c3,c4⟩:=M _ _ _ h;have z:xC i p none pc:=b.g.d (A:=[nH P d 0]);have Z:xB Y.a c i ([nH P d 0]++oC p none pc::(A++iD Y.a sz l v::(B++P.L))):=by
  have:=b.g;change xB Y.a c i (nH P d 0::((oC p none pc::(A++iD Y.a sz l v::B))++P.L))at this;simpa using this
 have hv:bU Y.a c i sz l v:=Z.s (iD Y.a sz l v) (by simp);refine aC c2 (iB (z.f U x C) (tA hv.g ?_));rw[c3];refine zga hT U x N c4 hs nl (gF j f) Z C c1 hl λt2 v' o2=>?_;refine hQ a d c t2 v' hr K ⟨b.p,?_,b.f,b.m,b.a,b.e⟩ H;show xB Y.a c t2 (nH P d 0::((oC p none (pc.set j v')::(A++iD Y.a sz (l++[dd a]) v'::B))++P.L));simpa using o2
end
end
section
variable {p:uD}{x:aE}{g:O}
variable [fC]
section
variable {P:uK}{tf t:G uA}{n d f:Nat}{Q E:mB}{J W:xG}
def RY{b:Bool} (W:Bu P f p tf t n)(N:∀a k,mZ P.a b n=.ok a k->p.c.length+1<=k)
  (T:nN P f tf ((mZ P.a b n).c λd k=>.ok ⟨p.e,p.c++[d],p.a,p.b⟩ k) Q E) :
  iA Y.a (lF Y F dC zG E) J (.d (nR (.j f 0)) λH=>.d (jB Y 52 1 H) λq=>.e (λm=>oA Y 48 ⟨0,m⟩ q) λB=>.c 152 [.j P.b 0,.d b] λl=>.o [.h [],.e .u8 0,.d false] l λX=>
   .e (λm=>oA Y 48 ⟨0,m⟩ q) λo=>.a (A8 10 o B) (Np 48 (.j f 0) (jB Y 52 1) q B [.h (X.s 0),.e .u8 (X.i 1),.d (X.b 2)]) .g) t Q:=by
 obtain⟨C,z,g,r,e,R,S,c,b1,I,K,L⟩:=W;have U:=c.f;have x:=c.m;refine KW (A:=[]) (fc:=λX=>[.h (X.s 0),.e .u8 (X.i 1),.d (X.b 2)]) el48 S8 rfl rfl (by omega) (by omega) (dd:=pF.d) (rd:=Z0) ?_ c rfl (by rw[C5];have:(P.c (mO f (.h p.e) C z g r (p.c.map pF.d) e R (p.b.map qD.d)++P.L)).a=P.a:=rfl;rw[this]at U x;omega) (λ_ _ _=>by rw[pE 152]) (λQ' s=>j8 (P:=P.c (mO f (.h p.e) C z g r (p.c.map pF.d) e R (p.b.map qD.d)++P.L)) c s) T ?_
 .rintro tf a w ⟨M,rfl,h⟩;have:=Nk h;exact⟨M,rfl,h,vO h rfl,by rw[this];rfl,by rw[this];rfl⟩
 .intro a k y Z v' D i j v;have u:=Ue _ _ _ D;refine v y Z (zB.f _) ⟨v',z,g,r,e,R,S.a i,?_,by simpa using N _ _ D,Nat.le_trans I u,Nat.le_trans K u,Nat.le_trans L u⟩;simpa[mO]using j
def zxy (U:Bu P f p tf t n)(M:∀a j,Bk P.a n=.ok a j->p.b.length+1<=j)
  (S:nN P f tf ((Bk P.a n).c λc j=>.ok ⟨p.e,p.c,p.a,p.b++[c]⟩ j) Q E) :
  iA Y.a (lF Y F dC zG E) J (.d (nR (.j f 0)) λH=>.d (jB Y 52 3 H) λr=>.e (λm=>oA Y 50 ⟨0,m⟩ r) λz=>.c 154 [.j P.b 0] λo=>.o [(.h []),(.h []),(.e .i64 0),(.e .i64 0),(.e .i64 0),(.d false),(.e .u8 0),(.h []),(.e .u8 0),(.d false),.g,(.d false),.g,(.e .i64 0),.g,(.e .u8 0),(.h []),(.e .u8 0),(.d false),.g,(.d false),.g,(.e .i64 0),.g] o λX=>
   .e (λm=>oA Y 50 ⟨0,m⟩ r) λq=>.a (A8 10 q z) (Np 50 (.j f 0) (jB Y 52 3) r z [(.h (X.s 0)),(.h (X.s 1)),(.e .i64 (X.i 2)),(.e .i64 (X.i 3)),(.e .i64 (X.i 4)),(.d (X.b 5)),(.e .u8 (X.i 6)),(.h (X.s 7)),(.e .u8 (X.i 8)),(.d (X.b 9)),(X.v 10),(.d (X.b 11)),(X.v 12),(.e .i64 (X.i 13)),(X.v 14),(.e .u8 (X.i 15)),(.h (X.s 16)),(.e .u8 (X.i 17)),(.d (X.b 18)),(X.v 19),(.d (X.b 20)),(X.v 21),(.e .i64 (X.i 22)),(X.v 23)]) .g) t Q:=by
 obtain⟨k,l,g,C,d,R,N,b,I,K,L,b4⟩:=U;have T:=b.f;have x:=b.m;refine KW (A:=[iD Y.a 3 (p.c.map pF.d) k,sJ Y.a 3 d l,iD Y.a 7 R g]) (B:=[]) (fc:=λX=>[(.h (X.s 0)),(.h (X.s 1)),(.e .i64 (X.i 2)),(.e .i64 (X.i 3)),(.e .i64 (X.i 4)),(.d (X.b 5)),(.e .u8 (X.i 6)),(.h (X.s 7)),(.e .u8 (X.i 8)),(.d (X.b 9)),(X.v 10),(.d (X.b 11)),(X.v 12),(.e .i64 (X.i 13)),(X.v 14),(.e .u8 (X.i 15)),(.h (X.s 16)),(.e .u8 (X.i 17)),(.d (X.b 18)),(X.v 19),(.d (X.b 20)),(X.v 21),(.e .i64 (X.i 22)),(X.v 23)]) el50 S9 rfl rfl (by omega) (by omega) (dd:=qD.d) (rd:=gd) ?_ b rfl (by rw[C5];have:(P.c (mO f (.h p.e) k l g C (p.c.map pF.d) d R (p.b.map qD.d)++P.L)).a=P.a:=rfl;rw[this]at T x;omega) (λ_ _ _=>by rw[pE 154]) (λQ' s=>zka (P:=P.c (mO f (.h p.e) k l g C (p.c.map pF.d) d R (p.b.map qD.d)++P.L)) b s) S ?_
 .rintro tf a w ⟨cs,rfl,h⟩;obtain⟨a1,a2,a3,a4,a5,a6,rfl,_⟩:=Kh h;exact⟨_,rfl,h,vO h (qD.k _),rfl,rfl⟩
 .intro a j y W Z D e i v;have u:=GL _ _ _ D;refine v y W (zB.f _) ⟨k,l,g,Z,d,R,N.a e,?_,Nat.le_trans I u,Nat.le_trans K u,Nat.le_trans L u,by simpa using M _ _ D⟩;simpa[mO]using i
def zmk {A:List aE} {n4:Int}(hp:Bu P f p tf t n)(D:p.a=A++[x])(au:n4=((A.length+1:Nat):Int))(h0:∀a K,Cm P.a x.c n=.ok a K->x.a.length+1<=K)
  (hk:nN P f tf ((Cm P.a x.c n).c λr K=>.ok ⟨p.e,p.c,nP p.a r,p.b⟩ K) Q E) :
  iA Y.a (lF Y F dC zG E) J (.d (nR (.j f 0)) λab=>.d (jB Y 52 2 ab) λac=>.e (λm=>oA Y 49 ⟨0,m⟩ ac) λad=>.d (zC Y 49 ad (.e .i64 (cA .i64 (n4-1)))) λB=>.d (nR B) λae=>.d (jB Y 92 2 ae) λC=>.e (λm=>oA Y 90 ⟨0,m⟩ C) λN=>.d (nR B) λaf=>.d (jB Y 92 1 af) λag=>.e (λm=>oA Y 4 ⟨0,m⟩ ag) λah=>.q ah λak=>.c 153 [.j P.b 0,.d ak] λai=>
   .o [(.e .i64 0),(.e .i64 0),(.e .i64 0),(.d false),.g,(.d false),.g] ai λj=>
   .e (λm=>oA Y 90 ⟨0,m⟩ C) λaj=>.a (A8 10 aj N) (Np 90 B (jB Y 92 2) C N [(.e .i64 (j.i 0)),(.e .i64 (j.i 1)),(.e .i64 (j.i 2)),(.d (j.b 3)),(j.v 4),(.d (j.b 5)),(j.v 6)]) .g) t Q:=by
 obtain⟨q,tv,g,s,c,R,U,d,b1,b2,b3,b4⟩:=hp;rcases U with⟨U,_⟩ | ⟨A',x',o,U,l,a7,hR⟩
 .rw[U]at D;simp at D
 obtain⟨rfl,e⟩:=List.append_inj' (D.symm.trans U) rfl;cases e;have hl:=d.f;have a1:=d.m;have Z:o.length=A.length:=by simpa using a7.g
 have am:LK (.b 3) Y.a t 3 c tv:=d.g.s (sJ Y.a 3 c tv) (by simp[mO,uK.c]);have y:c[A.length]?=some [.h x.b,.d x.c,g]:=by rw[l,<- Z];simp
 obtain⟨b,al,X,aw⟩:=LK.a O4 am y;subst al;have av:A.length<100000000:=by
  have:A.length<p.a.length:=by rw[D];simp
  change n<=P.a.length at a1;change P.a.length<300000 at hl;omega
 have hc:xC t f none [.h p.e,q,.m b 0 c.length c.length,s]:=d.g.d (A:=[nH P n 0]);obtain⟨_,k,z⟩:=xB.au (A:=[nH P n 0,oC f none [.h p.e,q,.m b 0 c.length c.length,s],iD Y.a 3 (p.c.map pF.d) q]) d.g;have aa:St (P.c ([oC f none [.h p.e,q,.m b 0 c.length c.length,s],iD Y.a 3 (p.c.map pF.d) q,oC b (some (.b 3)) c.flatten,iD Y.a 7 R g,iD Y.a 24 (p.b.map qD.d) s]++P.L)) tf t n 0:=⟨d.p,z,d.f,d.m,d.a,d.e⟩;have W:xC t b (some (.b 3)) c.flatten:=z.d
 have g1:=rZ k A.length 1 _ (.d x.c) y rfl;have g2:=rZ k A.length 2 _ g y rfl;have e4:cA .i64 (n4-1)=(A.length:Int):=by rw[au,A2 (by omega) (by omega)];omega
 refine vA nl (vA (gF 2 (by omega)) (iB (hc.f cz rfl rfl) (vA (by rw[e4];exact X) (vA nl (vA (gT 2 (by omega)) (iB (W.f dc rfl g2) (vA nl (vA (gT 1 (by omega)) (iB (W.f yy rfl g1) (cC (aA ?_)))))))))));rw[pE 153];refine j9 (P:=P.c ([oC f none [.h p.e,q,.m b 0 c.length c.length,s],iD Y.a 3 (p.c.map pF.d) q,oC b (some (.b 3)) c.flatten,iD Y.a 7 R g,iD Y.a 24 (p.b.map qD.d) s]++P.L)) aa (hk.c λr K L t1 w hr a6 h a8 aq=>?_)
 obtain⟨S,rfl,I⟩:=a8;obtain⟨u,v,rfl,_⟩:=Nj I;have o1:xB Y.a L t1 ([nH P K 0,oC f none [.h p.e,q,.m b 0 c.length c.length,s],iD Y.a 3 (p.c.map pF.d) q]++oC b (some (.b 3)) c.flatten::([]++iD Y.a 7 R g::(iD Y.a 24 (p.b.map qD.d) s::P.L))):=h.g;have ap:xC t1 b (some (.b 3)) c.flatten:=o1.d;have hv:bU Y.a L t1 7 R g:=o1.s (iD Y.a 7 R g) (by simp);refine aC (vO I (oG.g _)) (iB (ap.f dc rfl g2) (tA hv.g ?_))
 have ao:R.length=x.a.length:=by rw[hR,C5]
 refine zga el90 dc rfl rfl rfl (by omega) nl (gT 2 (by omega)) o1 g2 I (by
  change n<=P.a.length at a1;change P.a.length<300000 at hl;omega) λt2 M o2=>?_
 have ef:c.flatten.set (A.length*3+2) M=(o++[[.h x.b,.d x.c,M]]).flatten:=by
  have hj:=(G1.1 g2).1;rw[<- LU hj,zon k y (by show 2+1<=3;omega)];congr 1;rw[l,zmg Z];rfl
 rw[ef]at o2;have H:∀(i:Nat) S,(o++[[.h x.b,.d x.c,M]])[i]?=some S->S.length=3:=by
  intro i S y;rw[List.getElem?_append]at y;split at y
  .rename_i ar;exact k i S (by rw[l,mg ar];exact y)
  .exact Kp (sz:=3) rfl _ _ y
 have o3:=xB.ax H o2;have T:(o++[[O.h x.b,.d x.c,M]]).length=c.length:=by rw[l];simp
 rw[T]at o3;have hd:=CH _ _ _ hr;refine aq L t2 (zB.f _) ⟨q,_,M,s,o++[[.h x.b,.d x.c,M]],R++[r.d],.inr ⟨A,⟨x.b,x.c,x.a++[r]⟩,o,?_,rfl,tD.f a6 _ _ a7,by rw[hR];simp⟩,⟨h.p,o3,h.f,h.m,h.a,h.e⟩,Nat.le_trans b1 hd,?_,by have:=h0 _ _ hr;simpa[ao]using this,Nat.le_trans b4 hd⟩
 .show nP p.a r=_;rw[D];simp[nP]
 .show(nP p.a r).length<=K;rw[D];simp[nP];rw[D]at b2;simp at b2;omega
def zls{t:G uA}  (h:bA t 7 (x.a.map oG.d) g):RD t x.d [.h x.b,.d x.c,g]:=
 lK.2 ⟨[[.h x.b],[.d x.c],[g]],rfl,kD.2 ⟨_,_,rfl,mP.2 rfl,kD.2 ⟨_,_,rfl,Dl.2 rfl,kD.2 ⟨_,_,rfl,xR.2 ⟨_,rfl,h⟩,pG.2 rfl⟩⟩⟩⟩
def zdp{T:List aE}{b:List (List O)}{R:List D} {a:G uA}(h:Me tf T b R g)(c:zB tf a)(f:bA a 7 R g):tD a (T.map aE.d) b:=by
 rcases h with⟨rfl,rfl,_⟩ | ⟨A,x,d,rfl,rfl,e,rfl⟩
 .exact pG.2 rfl
 .rw[List.map_append];exact tD.q (tD.f c _ _ e) (kD.2 ⟨_,_,rfl,zls f,pG.2 rfl⟩)
def IL {w:List Nat}{e:Bool}(Z:Bu P f p tf t n)(N:p.a.length+1<=n)
  (x:nN P f tf (.ok ⟨p.e,p.c,p.a++[⟨w,e,[]⟩],p.b⟩ n) Q E):sI E 97 23 [.j f 0,.h w,.d e] t Q:=by
 obtain⟨m,q,g,l,i,R,H,c,K,L,F,M⟩:=Z;refine j97_23 ?_;unfold zqd rC;have X:=c.f;have y:=c.m;change n<=P.a.length at y;change P.a.length<300000 at X;have W:xC t f none [.h p.e,m,q,l]:=c.g.d (A:=[nH P n 0]);obtain⟨D,d,o1,z⟩:=xB.g (A:=[nH P n 0,oC f none [.h p.e,m,q,l],iD Y.a 3 (p.c.map pF.d) m,sJ Y.a 3 i q]) (B:=iD Y.a 24 (p.b.map qD.d) l::P.L) c.g;refine vA nl (vA (gF 2 (by omega)) (iB (W.f cz rfl rfl) (tA rfl (jC λb J u=>?_))))
 obtain⟨t1,S,T,h3,U⟩:=MC (cs:=[.h w,.d e,.g]) oq rfl (by omega) J;refine⟨_,_,S,jC λL s h=>?_⟩;have o2:=o1.z J U;obtain⟨t2,r,k1,k2,k3,o⟩:=xB.ap (A:=[nH P n 0,oC f none [.h p.e,m,q,l],iD Y.a 3 (p.c.map pF.d) m]) (B:=iD Y.a 24 (p.b.map qD.d) l::P.L) oq o2 T (by intro a I;simp at I;rcases I with rfl | rfl | rfl<;>rfl) (by rw[H.c];omega) s h;refine⟨_,_,k1,vA nl (vA (gF 2 (by omega)) (jC λF _ _=>?_))⟩
 obtain⟨t3,m1,C⟩:=xB.a (A:=[nH P n 0]) (j:=2) (v:=r) k2 cz (by rw[o];rfl) (by rw[o];show 2+1<=4;omega) (by rw[o];simpa[nD]using k3);rw[o]at C;refine⟨_,_,m1 F,?_⟩;have o4:=xB.ac (A:=[nH P n 0,oC f none [.h p.e,m,r,l],iD Y.a 3 (p.c.map pF.d) m,sJ Y.a 3 (i++[[.h w,.d e,.g]]) r]) (B:=iD Y.a 24 (p.b.map qD.d) l::P.L) (o':=iD Y.a 7 [] .g) C (λk _=>rfl) (λk x=>by cases x) (.inl ⟨rfl,rfl⟩) (by simp[iD,vK]) C.b
 refine x D t3 d ⟨m,r,.g,l,i++[[.h w,.d e,.g]],[],.inr ⟨p.a,⟨w,e,[]⟩,i,rfl,rfl,zdp H d z,rfl⟩,?_,K,by simpa using N,by simp,M⟩;exact⟨c.p.a d,o4,c.f,c.m,c.a,c.e.a d⟩
def zvt (hp:Bu P f p tf t n)(d:nN P f tf (iO P.a p n) Q E):vL Y F E 97 [.j P.b 0,.j f 0] t Q:=by
 have ai:=hp;obtain⟨z,l,g,y,j,R,C,I,b1,b2,b3,b4⟩:=hp;refine w97 ?_;unfold t97 zn uI uB uS uG rC V uY uW J5 U6;have hc:xC t f none [.h p.e,z,l,y]:=I.g.d (A:=[nH P n 0]);have ac:LK (.b 3) Y.a t 3 j l:=I.g.s (sJ Y.a 3 j l) (by simp[mO,uK.c]);have T:vC l=some (.e .i64 (p.a.length:Int)):=by
  rw[<- C.c];rcases ac with⟨rfl,rfl⟩ | ⟨b,c,rfl,_⟩<;>rfl
 unfold iO at d;have q:∀(a:Nat) (u:G uA),n<=a->St (P.c (mO f (.h p.e) z l g y (p.c.map pF.d) j R (p.b.map qD.d)++P.L)) tf u a 0->Bu P f p tf u a:=λa u i h=>⟨z,l,g,y,j,R,C,h,by omega,by omega,by omega,by omega⟩;refine vA nl (vA (gF 2 (by omega)) (iB (hc.f cz rfl rfl) (vA T (tB ?_))));refine Uu I (λi u h1=>?_) (λi u h1=>?_)
 .rw[A5 i]at d;exact RY (q _ _ (by omega) h1) (λa k H=>by have:=Ue _ _ _ H;omega) d
 rw[i,A3 (by simp)]at d;refine Uu h1 (λi t2 r=>?_) (λi t2 r=>?_)
 .rw[A5 i]at d;exact RY (q _ _ (by omega) r) (λa k H=>by have:=Ue _ _ _ H;omega) d
 rw[i,A3 (by simp)]at d;refine Uu r (λi t3 Z=>?_) (λi t3 Z=>?_)
 .rw[A5 i]at d;unfold Jz at d;rw[PR.j]at d;refine nN.j Z d λw k ae J ak N U s=>?_;have K:∀(a:Nat) (v u:G uA),zB tf v->n<=a->St (P.c (mO f (.h p.e) z l g y (p.c.map pF.d) j R (p.b.map qD.d)++P.L)) v u a 0->Bu P f p v u a:=λa v u hl i h=>⟨z,l,g,y,j,R,C.a hl,h,by omega,by omega,by omega,by omega⟩;refine gC (aA ?_);rw[pW 78];refine Iy (P:=P.c (mO f (.h p.e) z l g y (p.c.map pF.d) j R (p.b.map qD.d)++P.L)) U λt5 o=>cC ?_
  change St _ ae t5 (if B0 P.a Cd k=true then k+1 else k) 0 at o;change iA _ _ _ (.a (!B0 P.a Cd k) _ (.j 23 [.j f 0,.h w,.d (B0 P.a Cd k)])) _ _
  cases r:B0 P.a Cd k with
  | true=>
   rw[r,A5 rfl]at o;rw[r,A5 rfl]at s;exact wB (by simp) (sC (IL (K _ _ _ N (by omega) o) (by omega) s))
  | false=>
   rw[r,A3 (by simp)]at o;rw[r,A3 (by simp),PR.j]at s;exact tA rfl (nN.l o s λn6 am t6 ag S W ad=>sC (by
    have e2:sI E 97 23 [.j f 0,.h w,.d false] t6 Q:=IL (K _ _ _ (N.d S) (by omega) W) (by omega) ad;rw[<- r]at e2;exact e2))
 rw[i,A3 (by simp)]at d;have D:∀J,St (P.c (mO f (.h p.e) z l g y (p.c.map pF.d) j R (p.b.map qD.d)++P.L)) tf J n 0->nN P f tf (if B0 P.a Gr n=true then(Bk P.a (n+1)).c λc k=>.ok ⟨p.e,p.c,p.a,p.b++[c]⟩ k else .er 120 n) Q E →
   iA Y.a (lF Y F dC zG E) (M3 Y F E 97) (.c 78 [.j P.b 0,.h Gr] λaa=>.q aa λab=>.a ab (.d (nR (.j f 0)) λa7=>.d (jB Y 52 3 a7) λa8=>.e (λm=>oA Y 50 ⟨0,m⟩ a8) λa9=>.c 154 [.j P.b 0] λa1=>.o [(.h []),(.h []),(.e .i64 0),(.e .i64 0),(.e .i64 0),(.d false),(.e .u8 0),(.h []),(.e .u8 0),(.d false),.g,(.d false),.g,(.e .i64 0),.g,(.e .u8 0),(.h []),(.e .u8 0),(.d false),.g,(.d false),.g,(.e .i64 0),.g] a1 λX=>
   .e (λm=>oA Y 50 ⟨0,m⟩ a8) λa6=>.a (A8 10 a6 a9) (Np 50 (.j f 0) (jB Y 52 3) a8 a9 [(.h (X.s 0)),(.h (X.s 1)),(.e .i64 (X.i 2)),(.e .i64 (X.i 3)),(.e .i64 (X.i 4)),(.d (X.b 5)),(.e .u8 (X.i 6)),(.h (X.s 7)),(.e .u8 (X.i 8)),(.d (X.b 9)),(X.v 10),(.d (X.b 11)),(X.v 12),(.e .i64 (X.i 13)),(X.v 14),(.e .u8 (X.i 15)),(.h (X.s 16)),(.e .u8 (X.i 17)),(.d (X.b 18)),(X.v 19),(.d (X.b 20)),(X.v 21),(.e .i64 (X.i 22)),(X.v 23)]) .g)
   (.c 39 [.j P.b 0,.e .i64 120] λ_=>.l (.p []))) J Q:=by
  intro J M d;refine Uu M (λi t5 o=>?_) (λi t5 o=>?_)
  .rw[A5 i]at d;exact zxy (q _ _ (by omega) o) (λa k H=>by have:=GL _ _ _ H;omega) d
  .rw[i,A3 (by simp)]at d;refine aA ?_;rw[pE 39];exact zi5 (P:=P.c (mO f (.h p.e) z l g y (p.c.map pF.d) j R (p.b.map qD.d)++P.L)) o (d tf t5 n 0 (zB.f _) o.u)
 by_cases L:p.a=[]
 .rw[L]at d;refine wB (by rw[L];simp[wD]) (D t3 Z ?_);rw[L];simpa using d
 .obtain⟨A,x,B⟩:∃A x,p.a=A++[x]:=⟨p.a.dropLast,p.a.getLast L,(List.dropLast_concat_getLast L).symm⟩;refine tA (by rw[B];simp[wD]) (Uu Z (λi J M=>?_) (λi J M=>D J M ?_))
  .have hx:Ld p.a=x.c:=by rw[B];simp[Ld]
   rw[A5 (by rw[i,B];simp),hx]at d;have al:x.a.length<=n:=by
    rcases C with⟨C,_⟩ | ⟨A',x',ah,C,af,aj,hR⟩
    .rw[C]at B;simp at B
    obtain⟨rfl,e⟩:=List.append_inj' (B.symm.trans C) rfl;cases e;rw[hR,C5]at b3;exact b3
   exact zmk (q _ _ (by omega) M) B (by rw[B];simp) (λa k H=>by have:=CH _ _ _ H;omega) d
  .rw[i]at d;simpa using d
end
end
end Go.Proofs
