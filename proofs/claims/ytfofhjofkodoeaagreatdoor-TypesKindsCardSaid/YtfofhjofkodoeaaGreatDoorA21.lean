/- Names: lex.Name as a function of the text. -/
import Derived.Carry
import Derived.ChangeArms
import Derived.HandedShaped
import Derived.JoinedOf
import Derived.LaidMore
import Derived.OpenShut
import Derived.ProofKit
import Derived.Stop.Joined
import Derived.Test.YtfofhjofkodoeaaGreatDoorRows
import GoSem.ClaimJoined
import Derived.Test.YtfofhjofkodoeaaGreatDoorA20
set_option linter.all false
noncomputable section
set_option maxRecDepth 100000
namespace Go.Proofs
open Go Go.Am
variable [lC]
variable {t:Tr qA}
def pM(n:Nat):Bool:=(decide (65<=n)&&decide (n<=90))||(decide (97<=n)&&decide (n<=122))
def Ft(n:Nat):Bool:=decide (48<=n)&&decide (n<=57)
def lN(n:Nat):Bool:=pM n||Ft n||decide (n=95)
theorem zid{a b:Int}:xC a b=decide (a<=b):=by
 grind [iD]
theorem Xn{n:Nat}:rB yA F 183 [.int .u8 (n:Int)] t=some (.bool (pM n)):=by
 refine dB.2 (w183 ?_);simp only[aA,zF,t183,iA,zid,decide_eq_true_eq];grind [pM]
theorem VR{n:Nat}:rB yA F 218 [.int .u8 (n:Int)] t=some (.bool (Ft n)):=by
 refine dB.2 (w218 ?_);simp only[aA,t218,iA,zid,decide_eq_true_eq];grind [Ft]
theorem VU{n:Nat}:rB yA F 185 [.int .u8 (n:Int)] t=some (.bool (lN n)):=by
 refine dB.2 (w185 ?_);simp only[uB,zF,uY,t185,iA,q183,Xn,xA,zA.asBool];unfold lN
 cases h:pM n with
 | true=>simp
 | false=>
  simp only[ybq,if_false,q218,VR,xA,zA.asBool];grind [bM,decide]
def Ko{s:List Nat}{i x:Nat}(h:s[i]?=some x):yL yA 9 (.str s) (.int .i64 (i:Int))=some (.int .u8 (x:Int)):=by
 unfold yL;rw[vL,pA];simp only[zA.asNat,zA.asInt,zA.asStr];have e:ob (some (i:Int)) sL=some i:=rfl;rw[e,pA,show jD.isString .string=true from rfl,vE,dG,h,pA];rfl
def sM (p:Nat->Bool)(s:List Nat):List Nat:=s.takeWhile p
theorem CY{p:Nat->Bool}{g:Nat}(hg:∀n:Nat,rB yA F g [.int .u8 (n:Int)] t=some (.bool (p n)))(hq:∀ {a:List zA} {m:Tr qA} {R:aB},Wq yA F rF g a m R=oF (rB yA F g a m) (fun v=>R v m))(hy:Nat.blt g yo=true){s:List Nat}(hs:s.length<4000000000000000000) :
  ∀(k i:Nat),i+k=s.length->(∀j x,j<i->s[j]?=some x->p x=true)->jp 184 2 [.str s,.func (.func g) [] [],.int .i64 (i:Int)] t (fun v t'=>v=.str (sM p s)/\t'=t):=by
 have key:∀i,i<=s.length->(∀j x,j<i->s[j]?=some x->p x=true)->(∀x,s[i]?=some x->p x=false)->sM p s=s.take i:=by
  intro i hi h1 h2;unfold sM;induction s generalizing i with
  | nil=>simp
  | cons a s ih=>
   cases i with
   | zero=>simp_all
   | succ i=>
    rw[List.takeWhile_cons,h1 0 a (by omega) rfl,yab rfl,List.take_succ_cons];rw[ih (by grind) i (by simp_all) (fun j x hj hx=>h1 (j+1) x (by omega) (by simp_all)) (fun x hx=>h2 x (by simp_all))]
 intro k;induction k with
 | zero=>
  intro i hi hp;refine ze9 ?_;simp only[uU,uB,uS,sB,uZ,uY,Tt,iA,wC,qJ];grind [Uj,xA,zA.asStr]
 | succ k ih=>
  intro i hi hp;have hx:s[i]?=some s[i]:=ybd (by omega);refine ze9 ?_;simp only[uU,uB,uS,sB,uZ,uY,Tt,iA,wC,qJ];rw[yab (by omega),Ko hx,xA,fB,xA];have e:qU (.func (.func g) [] []) [.int .u8 (s[i]:Int)]=some (g,[.int .u8 (s[i]:Int)]):=by
   unfold qU;simp only[zA.asFunc,pA,hy,vE];rfl
  rw[e,xA];simp only[];rw[hq,hg,xA];simp only[zA.asBool,xA]
  cases hb:p s[i]with
  | true=>
   rw[yab rfl,wrap_i64 (by omega) (by omega),show(i:Int)+1=((i+1:Nat):Int) by omega];refine ih (i+1) (by omega) fun j x hj hjx=>?_
   grind
  | false=>
   rw[yaa (by simp),Uj (by omega),xA];simp only[zA.asStr,xA];rw[key i (by omega) hp (fun x hx'=>by simp_all)]
   simp_all
def zbe{s:List Nat}(hs:s.length<4000000000000000000):rB yA F 184 [.str s,.func (.func 185) [] []] t=some (.str (sM lN s)):=by
 refine dB.2 (w184 ?_);simp only[uZ,t184,iA];exact CY (fun n=>VU) (fun {a m R}=>by rw[q185]) rfl hs s.length 0 (by omega) (fun j x hj=>by omega)
def zgt{s:List Nat}(hs:s.length<4000000000000000000):rB yA F 184 [.str s,.func (.func 183) [] []] t=some (.str (sM pM s)):=by
 refine dB.2 (w184 ?_);simp only[uZ,t184,iA];exact CY (fun n=>Xn) (fun {a m R}=>by rw[q183]) rfl hs s.length 0 (by omega) (fun j x hj=>by omega)
def aR:Nat->List Nat
 | 2=>[32,116,111,32,105,115,32,97,116,32,105,102,32,111,114,32,117,112,32]
 | 3=>[32,100,101,102,32,114,111,119,32,111,110,101,32,116,119,111,32,101,110,100,32,111,102,102,32,104,97,115,32,109,105,110,32,109,97,120,32,97,110,100,32,110,111,116,32]
 | 4=>[32,112,108,97,110,32,102,97,99,116,32,102,114,111,109,32,119,104,101,110,32,116,104,101,110,32,100,97,116,101,32,100,97,121,115,32,116,114,117,101,32,108,111,111,107,32,98,101,115,116,32,103,114,111,119,32,100,111,119,110,32,99,101,105,108,32,104,97,108,102,32,101,118,101,110,32]
 | 5=>[32,116,97,98,108,101,32,107,110,111,119,110,32,116,114,117,116,104,32,109,111,110,101,121,32,102,97,108,115,101,32,109,105,110,117,115,32,116,111,100,97,121,32,114,111,117,110,100,32,115,116,97,114,116,32,102,108,111,111,114,32]
 | 6=>[32,99,108,97,117,115,101,32,110,117,109,98,101,114,32,109,111,110,116,104,115,32]
 | 7=>[32,98,101,116,119,101,101,110,32,115,101,114,118,105,99,101,32]
 | _=>[]
def fW(s:List Nat):Bool:=decide (2<=s.length)&&decide (s.length<=7)&&fC (sM pM s) s&&wY ([32]++s++[32]) (aR s.length)
def zJ (n:Nat):zA × zA:=(.int .i64 (n:Int),.str (aR n))
def YK{a b:List Nat}(h:a.length<4294967281):rB yA F 219 [.str a,.str b] t=some (.bool (wY b a)):=by
 have hg:yA.prims.get 219=some (gM Fg):=by kernel_rfl
 refine Nu hg fun H=>?_;unfold Fg;simp only[];rw[pD,pC.2 h];rfl
theorem SC{s:List Nat}(hs:s.length<4000000000000000000):rB yA F 186 [.str s] t=some (.bool (fW s)):=by
 refine lL (w186 ?_);simp only[uB,uS,aA,uZ,t186,iA,wC,qJ];unfold fW;by_cases h1:2<=s.length
 ·rw[yaa (by omega)];by_cases h2:s.length<=7
  ·rw[yaa (by omega)];simp only[q184,zgt hs,xA,zA.asStr]
   cases h3:fC (sM pM s) s with
   | false=>simp
   | true=>
    simp only[Bool.not_true,ybq,if_false];intro b hb hbase;have hmk:Hz ⟨b,t⟩=some (.map b,⟨b+1,t.set b (.map [])⟩):=rfl;rw[hmk,xA];simp only[];have h0:(t.set b (.map [])).get b=some (.map []):=by rw[Tr.get_set,yab rfl]
    have ho:sE b t (t.set b (.map [])):=fun c hc=>by rw[Tr.get_set,yaa hc]
    generalize t.set b (.map [])=t1 at h0 ho;have hstep:∀(l:List (zA × zA)) (k:Nat) (s':List Nat) (l':List (zA × zA)) (Q:(zA × wA)->Prop) (t1:Tr qA),t1.get b=some (.map l)->sE b t t1->fH (.int .i64 (k:Int)) (.str s') l=some l'->uR yA 251 (.int .i64 (k:Int))=true →
      (∀n t2,t2.get b=some (.map l')->sE b t t2->Q (xE,⟨n,t2⟩))->∀n,t1.get n=none->yA.base<=n->oF (vK yA 251 (.map b) (.int .i64 (k:Int)) (.str s') ⟨n,t1⟩) Q:=by
     intro l k s' l' Q t1 g1 g2 h1 h2 h3 n _ _;rw[AD h2 hbase g1 h1,xA];exact h3 n _ (by rw[Tr.get_set,yab rfl]) fun c hc=>by rw[Tr.get_set,yaa hc];exact g2 c hc
    refine hstep [] 2 _ [zJ 2] _ t1 h0 ho rfl (by kernel_rfl) fun n t2 g o=>?_;refine hstep _ 3 _ [zJ 2,zJ 3] _ t2 g o rfl (by kernel_rfl) fun n t2 g o=>?_;refine hstep _ 4 _ [zJ 2,zJ 3,zJ 4] _ t2 g o rfl (by kernel_rfl) fun n t2 g o=>?_;refine hstep _ 5 _ [zJ 2,zJ 3,zJ 4,zJ 5] _ t2 g o rfl (by kernel_rfl) fun n t2 g o=>?_;refine hstep _ 6 _ [zJ 2,zJ 3,zJ 4,zJ 5,zJ 6] _ t2 g o rfl (by kernel_rfl) fun n t2 g o=>?_
    refine hstep _ 7 _ [zJ 2,zJ 3,zJ 4,zJ 5,zJ 6,zJ 7] _ t2 g o rfl (by kernel_rfl) fun n t2 g o=>?_;have hle:xB t t2:=fun c u hc=>by
     have:c≠b:=fun e=>by simp_all
     rw[o c this];exact hc
    have hl:uK yA 251 ⟨0,t2⟩ (.map b) (.int .i64 (s.length:Int)) false=some (.str (aR s.length)):=by
     have hk:uR yA 251 (.int .i64 (s.length:Int))=true/\uJ (.int .i64 (s.length:Int)) [zJ 2,zJ 3,zJ 4,zJ 5,zJ 6,zJ 7]=some (some (.str (aR s.length))):=by
      have:s.length=2\/s.length=3\/s.length=4\/s.length=5\/s.length=6\/s.length=7:=by omega
      rcases this with e | e | e | e | e | e<;>rw[e]<;>exact⟨by kernel_rfl,rfl⟩
     exact GF hk.1 g hk.2 ty251 rfl vL false
    rw[hl,xA];simp only[zA.asStr,xA];rw[nI (by grind),xA];simp only[zA.asStr,xA];rw[nI (by grind),xA];simp only[zA.asStr,xA];have hr:(aR s.length).length<4294967281:=by
     have:s.length=2\/s.length=3\/s.length=4\/s.length=5\/s.length=6\/s.length=7:=by omega
     rcases this with e | e | e | e | e | e<;>rw[e]<;>decide
    rw[q219,YK hr,xA];simp only[zA.asBool,xA];refine⟨?_,hle⟩
    grind
  grind
 grind
def rT(s:List Nat):Bool:=match s with
 | []=>false
 | x::r=>decide ((x::r).length<=24)&&pM x&&fC (sM lN (x::r)) (x::r) && !fW (x::r)
theorem zg8{s:List Nat}:rB yA F 145 [.str s] t=some (.bool (rT s)):=by
 refine dB.2 (w145 ?_);simp only[uU,uB,uS,aA,uZ,uY,t145,iA,wC,qJ]
 cases s with
 | nil=>simp[rT,aI]
 | cons x r=>
  have h0:fC (x::r) []=false:=by
   grind [aI]
  rw[h0];simp only[ybq,if_false];unfold rT;by_cases h1:(x::r).length<=24
  ·rw[yaa (by omega)];have hx:=Ko (s:=x::r) (i:=0) (x:=x) rfl;rw[show((0:Nat):Int)=0 from rfl]at hx;rw[hx,xA,fB,xA,q183,Xn,xA];simp only[zA.asBool,xA]
   cases h2:pM x with
   | false=>simp
   | true=>
    simp only[Bool.not_true,ybq,if_false];rw[q184,zbe (by omega),xA];simp only[zA.asStr,xA]
    cases h3:fC (sM lN (x::r)) (x::r)with
    | false=>simp
    | true=>
     simp only[if_true,q186,SC (s:=x::r) (by omega),xA,zA.asBool]
     simp_all
  grind
end Go.Proofs
namespace Go.Am
open Go Go.RowKit
section
variable {base:Nat}{W J:kI}{t:Tr qA}{Q:aB}
theorem oA{b:Bool}{x y:T}(h:b=true)(k:iA base W J x t Q):iA base W J (.ite b x y) t Q:=by
 show if b=true then _ else _;simp_all
theorem bA{b:Bool}{x y:T}(h:b≠true)(k:iA base W J y t Q):iA base W J (.ite b x y) t Q:=by
 show if b=true then _ else _;simp_all
theorem uA{x:Option zA}{K:zA->T}{v:zA}(h:x=some v)(k:iA base W J (K v) t Q):iA base W J (.opt x K) t Q:=by
 show oF x _;simp_all
theorem yC{x:Tr qA->Option zA}{K:zA->T}{v:zA}(h:x t=some v)(k:iA base W J (K v) t Q):iA base W J (.light x K) t Q:=by
 show oF (x t) _;simp_all
theorem yB{f:Nat}{a:List zA}{K:zA->T}(k:W f a t (fun v t'=>iA base W J (K v) t' Q)):iA base W J (.call f a K) t Q:=k
theorem zB{n:Int}{i:IntKind}{K:Int->T}(k:iA base W J (K n) t Q):iA base W J (.asI i (.int i n) K) t Q:=by
 show oF (jZ i (.int i n)) _;rw[fB];exact k
theorem rC{b:Bool}{K:Bool->T}(k:iA base W J (K b) t Q):iA base W J (.asB (.bool b) K) t Q:=k
def sD{s:List Nat}{K:List Nat->T}(k:iA base W J (K s) t Q):iA base W J (.asS (.str s) K) t Q:=k
theorem fE{zs:List zA}{a:zA}{K:xJ->T}{X:xJ}(h:yN zs a=some X)(k:iA base W J (K X) t Q):iA base W J (.asG zs a K) t Q:=by
 show oF (yN zs a) _;simp_all
theorem tG{x:wA->Option (zA × wA)}{K:zA->T}(k:∀b,t.get b=none->base<=b->∃v H,x ⟨b,t⟩=some (v,H)/\iA base W J (K v) H.t Q):iA base W J (.heavy x K) t Q:=by
 intro b h1 h2;obtain⟨v,H,h3,h4⟩:=k b h1 h2
 simp_all
theorem zC{i:Nat}{a:List zA}(k:J i a t Q):iA base W J (.jump i a) t Q:=k
end
section
variable {t:Tr qA}{C:dA}
end
end Go.Am
namespace Go.Proofs
open Go Go.Am
variable [lC]
variable {t:Tr qA}
def Dj(v:lE):Bool:=decide (v.kind=0)&&decide (v.i=0)&&aO v.f
theorem NT{a:lE}{u v:zA}(hu:lA t 1 (cC a.f.n.limbs) u)(hv:lA t 1 (cC a.f.d.limbs) v)(hf:a.f.ok):rB yA F 147 [.agg [.int .u8 a.kind,.bool a.f.n.neg,u,.bool a.f.d.neg,v,.int .i64 a.i]] t=some (.bool (Dj a)):=by
 refine dB.2 (w147 ?_);simp only[uB,aA,t147,iA,wE];unfold Dj;by_cases h1:a.kind=0
 ·rw[yab (by omega)];by_cases h2:a.i=0
  ·rw[yab h2,q188,Zq hu hv hf,xA]
   grind [zA.asBool,xA]
  simp_all
 simp_all
structure FM where
 style:Nat
 word:List Nat
 named:Bool
 least:Nat
 most:Nat
 level:Nat
 left:Nat
 right:Nat
def FM.cs(f:FM):List zA:=[.int .u8 f.style,.str f.word,.bool f.named,.int .i64 f.least,.int .i64 f.most,.int .i64 f.level,.int .i64 f.left,.int .i64 f.right]
def atF (w:List Nat):FM:=⟨3,w,true,1,1,7,7,7⟩
def yQ(w:List Nat)(n:Bool)(a b:Nat):FM:=⟨6,w,n,a,b,7,1,1⟩
def xV(w:List Nat)(a b c:Nat):FM:=⟨4,w,false,2,2,a,b,c⟩
def zik:List FM:=[⟨0,[],false,0,0,0,0,0⟩,⟨1,[],false,0,0,7,0,0⟩,⟨2,[116,111,100,97,121],false,0,0,7,0,0⟩,atF [102,97,99,116,32],atF [104,97,115,32],atF [],yQ [108,111,111,107] true 1 2,xV [43] 5 5 6,xV [45] 5 5 6,xV [42] 6 6 7,xV [47] 6 6 7,
 yQ [109,105,110] false 2 2,yQ [109,97,120] false 2 2,xV [60] 4 5 5,xV [61] 4 5 5,xV [97,110,100] 2 2 3,xV [111,114] 1 1 2,⟨5,[110,111,116,32],false,1,1,3,3,3⟩,yQ [105,102] false 3 3,yQ [114,111,117,110,100] false 2 2,yQ [98,101,116,119,101,101,110] false 2 2,
 yQ [115,101,114,118,105,99,101] true 2 2,yQ [98,101,115,116] true 3 3,yQ [103,114,111,119] true 2 2,yQ [109,111,110,116,104,115] false 1 1,yQ [110,117,109,98,101,114] false 1 1,yQ [115,116,97,114,116] false 1 1]
def rR:List zA:=(zik.map FM.cs).flatten
abbrev z8:List zA:=[.int .u8 0,.str [],.bool false,.int .i64 0,.int .i64 0,.int .i64 0,.int .i64 0,.int .i64 0]
def cv76{w:List Nat}{n:Bool}{a b:Nat}{K:xJ->T}{Q:aB}(h:wp 144 (K (cellsOf (yQ w n a b).cs)) t Q):wp 144 (.callv (.func (.func 180) [] []) [.str w,.bool n,.int .i64 (a:Int),.int .i64 (b:Int)] fun a=>.asG z8 a K) t Q:=by
 have e:rB yA F 180 [.str w,.bool n,.int .i64 (a:Int),.int .i64 (b:Int)] t=some (.agg (yQ w n a b).cs):=by
  refine dB.2 (w180 ?_);simp only[uZ,uY,t180,iA,if_true];constructor<;>trivial
 show oF (some (180,[zA.str w,.bool n,.int .i64 (a:Int),.int .i64 (b:Int)])) _;rw[xA];simp only[];rw[q180,e,xA];exact h
def cv77{w:List Nat}{K:xJ->T}{Q:aB}(h:wp 144 (K (cellsOf (atF w).cs)) t Q):wp 144 (.callv (.func (.func 181) [] []) [.str w] fun a=>.asG z8 a K) t Q:=by
 have e:rB yA F 181 [.str w] t=some (.agg (atF w).cs):=by
  refine dB.2 (w181 ?_);simp only[uZ,uY,t181,iA,if_true];constructor<;>trivial
 show oF (some (181,[zA.str w])) _;rw[xA];simp only[];rw[q181,e,xA];exact h
def cv78{w:List Nat}{a b c:Nat}{K:xJ->T}{Q:aB}(h:wp 144 (K (cellsOf (xV w a b c).cs)) t Q):wp 144 (.callv (.func (.func 182) [] []) [.str w,.int .i64 (a:Int),.int .i64 (b:Int),.int .i64 (c:Int)] fun a=>.asG z8 a K) t Q:=by
 have e:rB yA F 182 [.str w,.int .i64 (a:Int),.int .i64 (b:Int),.int .i64 (c:Int)] t=some (.agg (xV w a b c).cs):=by
  refine dB.2 (w182 ?_);simp only[uZ,uY,t182,iA,if_true];constructor<;>trivial
 show oF (some (182,[zA.str w,.int .i64 (a:Int),.int .i64 (b:Int),.int .i64 (c:Int)])) _;rw[xA];simp only[];rw[q182,e,xA];exact h
def FS{Q:aB}(h:∀b t',t.get b=none->yA.base<=b->kE t' b none rR->xB t t'->sE b t t'->Q (.ptr b 0) t'):Wc yA F 144 [] t Q:=by
 refine w144 ?_;unfold t144 uG uZ uY;repeat (first | refine cv76 ?_ | refine cv77 ?_ | refine cv78 ?_ | refine oA rfl ?_)
 intro b hb hbase;obtain⟨t',h1,h2,h3,h4⟩:=vZ hb rR none;have e:∀l:List zA,l=rR->yP (.agg l) ⟨b,t⟩=some (.ptr b 0,⟨b+1,t'⟩):=by
  intro l hl;show some (zA.ptr b 0,yF ⟨b,t⟩ l none)=_;rw[hl,h1]
 rw[e _ (by rfl),xA];exact h b t' hb hbase h2 h3 h4
def UL{Q:aB}(h:∀b t',t.get b=none->yA.base<=b->kE t' b none rR->xB t t'->sE b t t'->Q (.agg [.ptr b 0]) t'):Wc yA F 116 [] t Q:=by
 refine w116 ?_;unfold t116 gC;refine yB ?_;rw[q144];refine FS fun b t' h1 h2 h3 h4 h5=>?_;refine oA rfl (oA rfl ?_);exact h b t' h1 h2 h3 h4 h5
end Go.Proofs
namespace Go.Proofs
open Go Go.Am
section
variable [lC]
variable {t:Tr qA}
def iC(op:Nat):FM:=zik.getD op ⟨0,[],false,0,0,0,0,0⟩
theorem Cq{f:FM->List zA}(hf:∀x,(f x).length=8):∀(l:List FM) (i k:Nat),i<l.length->k<8->(l.map f).flatten[i*8+k]?=(f (l.getD i ⟨0,[],false,0,0,0,0,0⟩))[k]?
 | [],i,k,h,_=>by simp at h
 | x::l,0,k,h,hk=>by
  grind
 | x::l,i+1,k,h,hk=>by
  rw[ycm,yas,ybp (by grind),hf,show(i+1)*8+k-8=i*8+k by omega];rw[Cq hf l i k (by grind) hk];simp
def fZ{op k:Nat}(h:op<27)(hk:k<8):rR[op*8+k]?=(iC op).cs[k]?:=Cq (f:=FM.cs) (fun _=>rfl) zik op k h hk
theorem Xs{b op:Nat}(h:op<27):bC yA 229 (.ptr b 0) (.int .u8 (op:Int))=some (.ptr b (op*8)):=by
 have hA:ob (yA.tys.get 229) (fun y=>y.desc.asArr)=some (27,191):=by kernel_rfl
 rw[mA]at hA;obtain⟨y,hy,hd⟩:=hA;unfold bC;rw[hy,pA];have e:(zA.int .u8 (op:Int)).asNat=some op:=rfl
 grind [pA,zA.asSlice,zA.asPtr,ty191,pC,vE]
def kO{b o k:Nat}(hk:k<8):aF yA 191 k (.ptr b o)=some (.ptr b (o+k)):=by
 have h:Bf yA 191 k=some k:=by
  unfold Bf;rw[ty191,pA];simp only[jD.asStruct,pA];have:k=0\/k=1\/k=2\/k=3\/k=4\/k=5\/k=6\/k=7:=by omega
  rcases this with e | e | e | e | e | e | e | e<;>rw[e]<;>rfl
 unfold aF;rw[h];rfl
section
variable {b op:Nat}(hF:kE t b none rR)(h:op<27)
include hF h
def GY:vC yA 5 ⟨0,t⟩ (.ptr b (op*8+0))=some (.int .u8 (iC op).style):=hF.load1 xI rfl (by rw[fZ h (by decide)];rfl)
def GX:vC yA 9 ⟨0,t⟩ (.ptr b (op*8+1))=some (.str (iC op).word):=hF.load1 vL rfl (by rw[fZ h (by decide)];rfl)
def GZ:vC yA 4 ⟨0,t⟩ (.ptr b (op*8+2))=some (.bool (iC op).named):=hF.load1 ty4 rfl (by rw[fZ h (by decide)];rfl)
def zcd:vC yA 3 ⟨0,t⟩ (.ptr b (op*8+3))=some (.int .i64 (iC op).least):=hF.load1 ty3 rfl (by rw[fZ h (by decide)];rfl)
def zhp:vC yA 3 ⟨0,t⟩ (.ptr b (op*8+4))=some (.int .i64 (iC op).most):=hF.load1 ty3 rfl (by rw[fZ h (by decide)];rfl)
def zcc:vC yA 3 ⟨0,t⟩ (.ptr b (op*8+5))=some (.int .i64 (iC op).level):=hF.load1 ty3 rfl (by rw[fZ h (by decide)];rfl)
def Wu:vC yA 3 ⟨0,t⟩ (.ptr b (op*8+6))=some (.int .i64 (iC op).left):=hF.load1 ty3 rfl (by rw[fZ h (by decide)];rfl)
def zcb:vC yA 3 ⟨0,t⟩ (.ptr b (op*8+7))=some (.int .i64 (iC op).right):=hF.load1 ty3 rfl (by rw[fZ h (by decide)];rfl)
end
theorem uF{a b:Int}(h:a≠b):tA a b≠true:=fun e=>h (wE.1 e)
theorem jF{a b:Int}(h:¬ a<b):kB a b≠true:=fun e=>h (wC.1 e)
theorem nLe{a b:Int}(h:¬ a<=b):xC a b≠true:=fun e=>h (iD.1 e)
theorem bF{a b:Int}(h:a=b):tA a b=true:=wE.2 h
theorem pF{a b:Int}(h:a<b):kB a b=true:=wC.2 h
theorem yLe{a b:Int}(h:a<=b):xC a b=true:=iD.2 h
def yG{b o:Nat}:zP (.ptr b o)=some (.ptr b o):=rfl
def bK(op:Nat)(name:List Nat)(n:Nat):Bool:=
 decide (op<27) && !decide ((iC op).style=0)&&decide ((iC op).least<=n)&&decide (n<=(iC op).most)&&(if (iC op).named=true then rT name else fC name [])
def vY(op:Nat)(v:lE):Bool:=if op=19 then decide (1<=v.i)&&decide (v.i<=6)&&Dj { v with i:=0 } else Dj v
mutual
/-- is an expression printable at a depth? -/
def pG:sA->Nat->Bool
 | .mk op name v args,d=>decide (d<=24)&&bK op name args.length&&(if op=1 then eH v else vY op v&&hO args (d+1))
def hO:List sA->Nat->Bool
 | [],_=>true
 | x::l,d=>pG x d&&hO l d
end
theorem Ro:∀ {l:List sA} {d:Nat},hO l d=l.all fun x=>pG x d
 | [],d=>by rw[hO];rfl
 | x::l,d=>by rw[hO,Ro];rfl
def zdp(p0_0:zA)(p1_0:Int)(p1_1:List Nat)(p1_2:Int)(p1_3:Bool)(p1_4:zA)(p1_5:Bool)(p1_6:zA)(p1_7:Int)(p1_8:zA)(p2:Int):T:=
 .ite (eE zA.one [(.int .u8 p1_2),(.bool p1_3),p1_4,(.bool p1_5),p1_6,(.int .i64 p1_7)]) (.ite (tA p1_0 1)
 (.call 146 [(.agg [(.int .u8 p1_2),(.bool p1_3),p1_4,(.bool p1_5),p1_6,(.int .i64 p1_7)])] fun a28=>
 .asB a28 fun b29=>.ret (.bool b29))
 (.ite (tA p1_0 19)
 (.ite (kB p1_7 1)
 (.ret (.bool false))
 (.ite (kB 6 p1_7)
 (.ret (.bool false))
 (.ite true (.jump 33 [(.int .i64 p2),p0_0,(.int .u8 p1_0),(.str p1_1),(.int .u8 p1_2),(.bool p1_3),p1_4,(.bool p1_5),p1_6,(.int .i64 p1_7),p1_8,(.int .u8 p1_2),(.bool p1_3),p1_4,(.bool p1_5),p1_6,(.int .i64 0)]) .fail)))
 (.jump 33 [(.int .i64 p2),p0_0,(.int .u8 p1_0),(.str p1_1),(.int .u8 p1_2),(.bool p1_3),p1_4,(.bool p1_5),p1_6,(.int .i64 p1_7),p1_8,(.int .u8 p1_2),(.bool p1_3),p1_4,(.bool p1_5),p1_6,(.int .i64 p1_7)]))) .fail
section
variable {op:Nat}{name:List Nat}{v:lE}{a b c:zA}{bf d:Nat}
theorem LQ{v2:Int}{v':lE}{R:Bool}{n:Nat}{c3:zA}(ha:lA t 1 (cC v'.f.n.limbs) a)(hb:lA t 1 (cC v'.f.d.limbs) b)(hf:v'.f.ok)(hc:cA c=some (.int .i64 (n:Int)))
  (hargs:jp 117 4 [.int .i64 v2,c,.int .i64 (n:Int),.int .i64 0,c3] t (fun x t'=>x=.bool R/\t'=t)) (p3:Bool) (p5:Bool) (p2 p7:Int) (p4 p6:zA) :
  jp 117 33 [.int .i64 v2,c3,.int .u8 (op:Int),.str name,.int .u8 p2,.bool p3,p4,.bool p5,p6,.int .i64 p7,c,.int .u8 v'.kind,.bool v'.f.n.neg,a,.bool v'.f.d.neg,b,.int .i64 v'.i] t (fun x t'=>x=.bool (Dj v'&&R)/\t'=t):=by
 refine zh9 ?_;simp only[uI,uB,aA,uZ,uY,BM,iA,q147,NT ha hb hf,xA,zA.asBool];grind [xA,fB]
theorem zf9{n:Nat}{R:Bool}(ha:lA t 1 (cC v.f.n.limbs) a)(hb:lA t 1 (cC v.f.d.limbs) b)(hf:dC.fit v.f)(hc:cA c=some (.int .i64 (n:Int)))
  (hargs:jp 117 4 [.int .i64 (d:Int),c,.int .i64 (n:Int),.int .i64 0,.ptr bf 0] t (fun x t'=>x=.bool R/\t'=t)) :
  wp 117 (zdp (.ptr bf 0) (op:Int) name (v.kind:Int) v.f.n.neg a v.f.d.neg b v.i c (d:Int)) t (fun x t'=>x=.bool (if op=1 then eH v else vY op v&&R)/\t'=t):=by
 unfold zdp;refine oA ?_ ?_
 ·rw[mI];simp only[ycg,yck,ha.one,hb.one];rfl
 by_cases h1:op=1
 ·refine oA (bF (by omega)) ?_;simp only[iA,q146,SW ha hb hf,xA,zA.asBool,yab h1];constructor<;>trivial
 ·refine bA (uF (by omega)) ?_;simp only[yaa h1];unfold vY;by_cases h2:op=19
  ·refine oA (bF (by omega)) ?_;simp only[yab h2];by_cases h3:1<=v.i
   ·refine bA (jF (by omega)) ?_;by_cases h4:v.i<=6
    ·refine bA (jF (by omega)) (oA rfl ?_);have:=LQ (op:=op) (name:=name) (v':={ v with i:=0 }) ha hb hf.1 hc hargs v.f.n.neg v.f.d.neg v.kind v.i a b;simp only[decide_eq_true h3,decide_eq_true h4,ycn];exact this
    grind [pF,iA]
   grind [pF,iA]
  ·refine bA (uF (by omega)) ?_;simp only[yaa h2];exact LQ (op:=op) (name:=name) (v':=v) ha hb hf.1 hc hargs v.f.n.neg v.f.d.neg v.kind v.i a b
theorem zcn{n:Nat}{R:Bool}(hF:kE t bf none rR)(hop:op<256)(hn:n<pE)(hnl:name.length<pE)(ha:lA t 1 (cC v.f.n.limbs) a)(hb:lA t 1 (cC v.f.d.limbs) b)(hf:dC.fit v.f)(hc:cA c=some (.int .i64 (n:Int)))
  (hargs:d<=24->jp 117 4 [.int .i64 (d:Int),c,.int .i64 (n:Int),.int .i64 0,.ptr bf 0] t (fun x t'=>x=.bool R/\t'=t)) :
  rB yA F 117 [.agg [.ptr bf 0],.agg [.int .u8 op,.str name,.int .u8 v.kind,.bool v.f.n.neg,a,.bool v.f.d.neg,b,.int .i64 v.i,c],.int .i64 (d:Int)] t=some (.bool (decide (d<=24)&&bK op name n&&(if op=1 then eH v else vY op v&&R))):=by
 refine dB.2 (w117 ?_);unfold t117 bK uQ4 uI uU uB rA bB gC aA uD uZ uY uW;by_cases hd:d<=24
 case neg=>
  grind [pF,iA]
 refine bA (jF (by omega)) ?_;have htail:=zf9 (op:=op) (name:=name) (d:=d) (bf:=bf) ha hb hf hc (hargs hd);by_cases h27:op<27
 case neg=>
  grind [wrap_i64,yLe,iA]
 refine bA (by grind [wrap_i64,nLe]) ?_;refine uA yG (uA (Xs h27) (uA yG (uA (kO (by decide)) (yC (GY hF h27) (zB ?_)))));by_cases hs:(iC op).style=0
 ·grind [bF,iA]
 refine bA (uF (by omega)) ?_;refine uA hc (zB (uA yG (uA (kO (by decide)) (yC (zcd hF h27) (zB ?_)))));by_cases hl:(iC op).least<=n
 case neg=>
  grind [pF,iA]
 refine bA (jF (by omega)) ?_;refine uA hc (zB (uA yG (uA (kO (by decide)) (yC (zhp hF h27) (zB ?_)))));by_cases hm:n<=(iC op).most
 case neg=>
  grind [pF,iA]
 refine bA (jF (by omega)) ?_;have hld:=GZ hF h27;refine uA yG (uA (kO (by decide)) (yC hld (rC ?_)));simp only[decide_eq_true hd,decide_eq_true h27,decide_eq_false hs,decide_eq_true hl,decide_eq_true hm,ycn,ycl]
 cases hnm:(iC op).named with
 | true=>
  rw[hnm]at hld;simp only[if_true];refine oA rfl (yB ?_);rw[q145,zg8,xA];refine rC ?_
  cases hN:rT name with
  | false=>
   grind [iA]
  | true=>
   refine bA (by simp) (uA yG (uA (kO (by decide)) (yC hld (rC (bA (by simp) ?_)))));simp only[ycn];exact htail
 | false=>
  rw[hnm]at hld;simp only[ybq,if_false];refine bA (by simp) (uA yG (uA (kO (by decide)) (yC hld (rC (oA rfl ?_)))))
  cases hN:fC name []with
  | false=>
   grind [iA]
  | true=>
   refine bA (by simp) ?_;simp only[ycn];exact htail
end
mutual
theorem KO{bf:Nat}(hF:kE t bf none rR):∀(x:sA) (d:Nat) (cs:List zA),x.fit->d<1000->RD t x.d cs->rB yA F 117 [.agg [.ptr bf 0],.agg cs,.int .i64 (d:Int)] t=some (.bool (pG x d))
 | .mk op name v args,d,cs,hx,hd,h=>by
  obtain⟨a,b,c,rfl,ha,hb,hc⟩:=vI h;simp only[sA.op,sA.name,sA.v,sA.args]at ha hb hc ⊢;have hx':=hx;unfold sA.fit at hx';unfold pG;refine zcn hF hx'.1 (n:=args.length) hx'.2.2.2.2.1 hx'.2.1 ha hb hx'.2.2.2.1.2.1 (by rw[hc.len,ybf]) fun hd'=>?_;have:=MW hF args args d c 0 hc rfl hx'.2.2.2.2.2 hx'.2.2.2.2.1 hd';exact this
theorem MW{bf:Nat}(hF:kE t bf none rR):∀(l args:List sA) (d:Nat) (c:zA) (i:Nat),lA t 9 (args.map sA.d) c->args.drop i=l->sA.fits l->args.length<pE->d<=24 →
  jp 117 4 [.int .i64 (d:Int),c,.int .i64 (args.length:Int),.int .i64 (i:Int),.ptr bf 0] t (fun x t'=>x=.bool (hO l (d+1))/\t'=t)
 | [],args,d,c,i,hc,hl,hok,hsz,hd=>by
  have:=Ld hl;refine zfh ?_;unfold Uc uB uG wB rA gC sB aA zF uZ tN gE;grind [jF,hO,iA]
 | x::l,args,d,c,i,hc,hl,hok,hsz,hd=>by
  obtain⟨h1,h2,h3⟩:=Cs hl;unfold pE at hsz;have hok':=hok;unfold sA.fits at hok';refine zfh ?_;obtain⟨pb,po,cs,g1,g2,g3,g4,g5⟩:=lD.at sP (by simp) hc (i:=i) (d:=x.d) (by simp[h1]);unfold Uc uB uG wB rA gC sB aA zF uZ tN gE;refine oA (pF (by omega)) (uA g1 (yC g2 ?_));rw[mQ];refine fE (rG g5 x.zs) ?_;have hmk:=g5.mk x.zs;have hcs:[zA.int .u8 ((cellsOf cs).i 0),.str ((cellsOf cs).s 1),.int .u8 ((cellsOf cs).i 2),.bool ((cellsOf cs).b 3),(cellsOf cs).v 4,.bool ((cellsOf cs).b 5),(cellsOf cs).v 6,.int .i64 ((cellsOf cs).i 7),(cellsOf cs).v 8]=cs:=hmk
  rw[hcs];refine oA g5.all (yB ?_);rw[wrap_i64 (by omega) (by omega),show(d:Int)+1=((d+1:Nat):Int) by omega,q117,KO hF x (d+1) cs hok'.1 (by omega) g5,xA];refine rC ?_;unfold hO
  cases hE:pG x (d+1)with
  | false=>
   grind [iA]
  | true=>
   refine bA (by simp) (zC ?_);rw[wrap_i64 (by omega) (by omega),show(i:Int)+1=((i+1:Nat):Int) by omega];have:=MW hF l args d c (i+1) hc h2 hok'.2 hsz hd
   simp_all
end
end
section
variable [lC]
variable {t:Tr qA}
def Ch:List Int:=[31,28,31,30,31,30,31,31,30,31,30,31]
def pL(t:Tr qA):Prop:=At t 3 0 (Ch.map fun n=>zA.int .i64 n)
theorem pL.mono{t':Tr qA}(h:pL t)(k:xB t t'):pL t':=At.mono k h
def PN(x:Int){k:Nat}(hk:0<k) : -(k:Int)<Int.tmod x k/\Int.tmod x k<k:=by
 have h:=Int.natAbs_tmod x k;have h2:=ycy x.natAbs (show 0<(k:Int).natAbs by omega);omega
def Pm(y:Int):Bool:=decide (Int.tmod y 4=0)&&(!decide (Int.tmod y 100=0)||decide (Int.tmod y 400=0))
def lenD (y m:Int):Int:=if m<1 then 0 else if 12<m then 0 else if m=2/\Pm y=true then 29 else Ch.getD (m-1).toNat 0
def Ws(y:Int):Int:=jA .i64 ((jA .i64 ((jA .i64 (Int.tdiv y 4))-(jA .i64 (Int.tdiv y 100))))+(jA .i64 (Int.tdiv y 400)))
def Nb(v0 v3:Int):Nat->Int->Int->Int
 | 0,_,v4=>v4
 | k+1,v5,v4=>if v5<=Int.tmod v0 12 then Nb v0 v3 k (v5+1) (jA .i64 (v4+lenD v3 v5))else v4
def Ef(m:Int):Int:=Nb m (jA .i64 (1900+(jA .i64 (Int.tdiv m 12)))) 11 1 (jA .i64 ((jA .i64 ((jA .i64 (365*(jA .i64 ((jA .i64 (1900+(jA .i64 (Int.tdiv m 12))))-1900))))+Ws (jA .i64 ((jA .i64 (1900+(jA .i64 (Int.tdiv m 12))))-1))))-Ws 1899))
def Iw(P:Int->Bool):Nat->Nat->Nat->Int
 | 0,i,_=>(i:Int)
 | k+1,i,j=>if i<j then(if P (((i+j) / 2:Nat):Int)=true then Iw P k i ((i+j) / 2)else Iw P k ((i+j) / 2+1) j)else(i:Int)
theorem zho(y:Int):rB yA F 292 [.int .i64 y] t=some (.bool (Pm y)):=by
 refine dB.2 (w292 ?_);unfold t292 Pm aA zF;grind [iA,bM]
theorem len_at(hG:pL t){m:Int}(h1:1<=m)(h2:m<=12):∃b o,bC yA 300 (.ptr 3 0) (.int .i64 (jA .i64 (m-1)))=some (.ptr b o)/\vC yA 3 ⟨0,t⟩ (.ptr b o)=some (.int .i64 (Ch.getD (m-1).toNat 0)):=by
 obtain⟨k,rfl⟩:∃k:Nat,m=(k:Int)+1:=⟨(m-1).toNat,by omega⟩;have hk:k<12:=by omega
 have e0:((k:Int)+1-1).toNat=k:=by omega
 rw[wrap_i64 (by omega) (by omega),e0,show(k:Int)+1-1=(k:Int) by omega];have hx:(Ch.map fun n=>zA.int .i64 n)[k]?=some (.int .i64 (Ch.getD k 0)):=by
  have:k<Ch.length:=hk
  simp_all
 refine⟨3,0+k,?_,hG.load1 ty3 rfl hx⟩;unfold bC;rw[ty300,pA];have e:(zA.int .i64 (k:Int)).asNat=some k:=rfl;rw[e,pA];grind [zA.asSlice,zA.asPtr,pA,jD.asArr,ty3,pC,vE]
def UR(hG:pL t)(y m:Int):rB yA F 277 [.int .i64 y,.int .i64 m] t=some (.int .i64 (lenD y m)):=by
 refine dB.2 (w277 ?_);unfold t277 lenD uQ35 uI uB rA uZ uW;by_cases h1:m<1
 ·rw[yab h1];exact oA (pF h1) ⟨rfl,rfl⟩
 rw[yaa h1];refine bA (jF h1) ?_;by_cases h2:12<m
 ·rw[yab h2];exact oA (pF h2) ⟨rfl,rfl⟩
 rw[yaa h2];refine bA (jF h2) ?_;obtain⟨b,o,g1,g2⟩:=len_at hG (m:=m) (by omega) (by omega);by_cases h3:m=2
 ·refine oA (bF h3) (yB ?_);rw[q292,zho,xA];refine rC ?_
  cases hl:Pm y with
  | true=>rw[yab ⟨h3,rfl⟩];exact oA rfl ⟨rfl,rfl⟩
  | false=>rw[yaa (by simp)];exact bA (by simp) (uA g1 (yC g2 (zB ⟨rfl,rfl⟩)))
 ·rw[yaa (by simp[h3])];exact bA (uF h3) (uA g1 (yC g2 (zB ⟨rfl,rfl⟩)))
theorem QH(hG:pL t)(v0 v3:Int):∀(k:Nat) (v5 v4:Int),v5+k=12->1<=v5->jp 261 2 [.int .i64 v0,.int .i64 v3,.int .i64 v4,.int .i64 v5] t (fun v t'=>v=.int .i64 (Nb v0 v3 k v5 v4)/\t'=t):=by
 have hb:=PN v0 (k:=12) (by omega);rw[show((12:Nat):Int)=12 from rfl]at hb
 intro k;induction k with
 | zero=>
  intro v5 v4 h1 h2;exact Xf (bA (nLe (by omega)) ⟨rfl,rfl⟩)
 | succ k ih=>
  intro v5 v4 h1 h2;unfold Nb;by_cases h3:v5<=Int.tmod v0 12
  ·rw[yab h3];refine Xf (oA (yLe h3) (yB ?_));rw[q277,UR hG,xA];refine zB (zC ?_)
   grind [wrap_i64]
  ·rw[yaa h3];exact Xf (bA (nLe h3) ⟨rfl,rfl⟩)
def GS(y:Int):rB yA F 276 [.int .i64 y] t=some (.int .i64 (Ws y)):=dB.2 (w276 ⟨rfl,rfl⟩)
def Na(hG:pL t)(m:Int):rB yA F 261 [.int .i64 m] t=some (.int .i64 (Ef m)):=by
 refine dB.2 (w261 (yB ?_));rw[q276,GS,xA];refine zB (yB ?_);rw[q276,GS,xA];exact zB (zC (QH hG m _ 11 1 _ (by omega) (by omega)))
theorem RB{v1:zA}{P:Int->Bool}(hcall:∀n:Int,∀(R:aB),R (.bool (P n)) t->oF (qU v1 [.int .i64 n]) fun p=>Wq yA F rF p.1 p.2 t R) :
  ∀(k i j:Nat),j-i<=k->j<=100000->jp 274 2 [v1,.int .i64 (i:Int),.int .i64 (j:Int)] t (fun v t'=>v=.int .i64 (Iw P k i j)/\t'=t):=by
 intro k;induction k with
 | zero=>
  intro i j h1 h2;exact Xd (bA (jF (by omega)) ⟨rfl,rfl⟩)
 | succ k ih=>
  intro i j h1 h2;unfold Iw;by_cases h3:i<j
  ·have e1:jA .i64 (Int.fdiv (jA .u64 (jA .i64 ((i:Int)+(j:Int)))) 2)=(((i+j) / 2:Nat):Int):=by
    grind [wrap_i64,vG]
   rw[yab h3];refine Xd (oA (pF (by omega)) ?_);show oF _ _;unfold uZ uW;rw[e1];refine hcall _ _ (rC ?_)
   cases hP:P (((i+j) / 2:Nat):Int)with
   | false=>
    rw[yaa (by simp)];refine oA rfl (zC ?_);rw[wrap_i64 (by omega) (by omega),show(((i+j) / 2:Nat):Int)+1=(((i+j) / 2+1:Nat):Int) by omega];exact ih _ _ (by omega) h2
   | true=>
    rw[yab rfl];exact bA (by simp) (zC (ih _ _ (by omega) (by omega)))
  ·rw[yaa h3];exact Xd (bA (jF (by omega)) ⟨rfl,rfl⟩)
def cQ(d:Int):Int:=Iw (fun n=>kB d (Ef (jA .i64 (n+1)))) 2154 0 2154
def UQ(hG:pL t)(d:Int):rB yA F 260 [.int .i64 d] t=some (.int .i64 (cQ d)):=by
 refine lL (w260 ?_);unfold t260 uI uZ;refine tG fun b hb hbase=>?_;obtain⟨t',e,hc,hle,_⟩:=vZ hb [.int .i64 d] none;refine⟨.ptr b 0,⟨b+1,t'⟩,by show some (zA.ptr b 0,yF ⟨b,t⟩ [.int .i64 d] none)=_;rw[e],yB ?_⟩;have hld:vC yA 3 ⟨0,t'⟩ (.ptr b 0)=some (.int .i64 d):=hc.load1 (j:=0) ty3 rfl rfl;have:rB yA F 274 [.int .i64 2154,.func (.func 275) [] [.ptr b 0]] t'=some (.int .i64 (cQ d)):=by
  refine dB.2 (w274 (zC ?_));refine RB (fun n R hR=>?_) 2154 0 2154 (by omega) (by omega);show oF (some (275,[zA.int .i64 n,.ptr b 0])) _;rw[xA];simp only[];have:rB yA F 275 [zA.int .i64 n,.ptr b 0] t'=some (.bool (kB d (Ef (jA .i64 (n+1))))):=by
   refine dB.2 (w275 (yC hld (zB (yB ?_))));unfold sB;rw[q261,Na (hG.mono hle),xA];exact zB (yC hld (oA El ⟨rfl,rfl⟩))
  rw[q275,this,xA];exact hR
 rw[q274];exact Wc_pv this (zB ⟨rfl,hle⟩)
def ymdD (d:Int):zA:=.tup [.int .i64 (jA .i64 (1900+(jA .i64 (Int.tdiv (cQ d) 12)))),.int .i64 (jA .i64 ((Int.tmod (cQ d) 12)+1)),.int .i64 (jA .i64 ((jA .i64 (d-Ef (cQ d)))+1)),.int .i64 0]
def ymd_ok(hG:pL t){d:Int}(h0:0<=d)(h1:d<65536):rB yA F 241 [.int .i64 d] t=some (ymdD d):=by
 have hd:rB yA F 259 [.int .i64 d] t=some (.bool true):=by
  refine dB.2 (w259 (oA (yLe h0) ?_));rw[pF h1];exact⟨rfl,rfl⟩
 refine dB.2 (w241 (yB ?_));rw[q259,hd,xA];refine rC (bA (by simp) (yB ?_));rw[q260,UQ hG,xA];refine zB (yB ?_);rw[q261,Na hG,xA];exact zB ⟨rfl,rfl⟩
def cB (l:List Nat):List zA:=l.map fun(n:Nat)=>zA.int .u8 (n:Int)
theorem ten{l:List Nat}(h:l.length=10):∃a b c d e f g h i j,l=[a,b,c,d,e,f,g,h,i,j]:=by
 match l,h with
 | [a,b,c,d,e,f,g,h,i,j],_=>simp_all
theorem Gt{l:List Nat}:(cB l).length=l.length:=by simp[cB]
def cB_set{l:List Nat}{i x:Nat}:(cB l).set i (.int .u8 (x:Int))=cB (l.set i x):=by simp[cB,List.map_set]
theorem idx164{b i:Nat}(h:i<10):bC yA 264 (.ptr b 0) (.int .i64 (i:Int))=some (.ptr b i):=by
 unfold bC;rw[Ii,pA];have e:(zA.int .i64 (i:Int)).asNat=some i:=rfl;rw[e,pA];grind [zA.asSlice,zA.asPtr,pA,jD.asArr,xI,pC,vE]
def Rc{b:Nat}{l:List Nat}(h:kE t b none (cB l))(hl:l.length=10):vC yA 264 ⟨0,t⟩ (.ptr b 0)=some (.agg (cB l)):=by
 have:=h.at.load (C:=yA) (ty:=264) Ii rfl (n:=10) rfl (j:=0) (by rw[Gt];omega);rw[ybw]at this;rw[this];congr 2;rw[ycr,yca (by rw[Gt];omega)]
theorem MA{b:Nat}{l m:List Nat}(h:kE t b none (cB l))(hb:yA.base<=b)(hl:l.length=10)(hm:m.length=10):∃t',(∀n,tD yA 264 (.ptr b 0) (.agg (cB m)) ⟨n,t⟩=some (xE,⟨n,t'⟩))/\kE t' b none (cB m)/\sE b t t':=by
 obtain⟨t',h1,h2,h3⟩:=h.store (C:=yA) hb (T:=264) (v:=.agg (cB m)) (j:=0) Ii (by show(cB m).length=10;rw[Gt,hm]) (by show 0+(cB m).length<=_;grind [Gt]) (by
  show eE zA.one (cB m)=true;rw[mI,ycb];intro a ha;unfold cB at ha;obtain⟨n,_,rfl⟩:=yaq.1 ha;rfl)
 refine⟨t',h1,?_,h3⟩;have e:lP (cB l) 0 (zA.agg (cB m)).cells=cB m:=by
  show lP (cB l) 0 (cB m)=cB m;unfold lP;rw[List.take_zero,yah,ybt (by grind [Gt]),ycd]
 simp_all
abbrev z10:List zA:=[.int .u8 0,.int .u8 0,.int .u8 0,.int .u8 0,.int .u8 0,.int .u8 0,.int .u8 0,.int .u8 0,.int .u8 0,.int .u8 0]
def Lg{l:List Nat}(hl:l.length=10):yN z10 (.agg (cB l))=some (cellsOf (cB l)):=by
 obtain⟨a,b,c,d,e,f,g,h,i,j,rfl⟩:=ten hl;exact zW rfl
def Za{l:List Nat}(hl:l.length=10):[zA.int .u8 ((cellsOf (cB l)).i 0),.int .u8 ((cellsOf (cB l)).i 1),.int .u8 ((cellsOf (cB l)).i 2),.int .u8 ((cellsOf (cB l)).i 3),.int .u8 ((cellsOf (cB l)).i 4),.int .u8 ((cellsOf (cB l)).i 5),.int .u8 ((cellsOf (cB l)).i 6),.int .u8 ((cellsOf (cB l)).i 7),.int .u8 ((cellsOf (cB l)).i 8),.int .u8 ((cellsOf (cB l)).i 9)]=cB l:=by
 obtain⟨a,b,c,d,e,f,g,h,i,j,rfl⟩:=ten hl;rfl
def Ct (x:Int):Nat:=(48+Int.tmod x 10).toNat
theorem LC(x:Int):jA .u8 (jA .i64 (48+Int.tmod x 10))=((Ct x:Nat):Int)/\Ct x<256:=by
 grind [Ct,wrap_i64,Dk]
def wrL:Nat->Int->Nat->List Nat->List Nat
 | 0,_,_,l=>l
 | k+1,x,i,l=>wrL k (jA .i64 (Int.tdiv x 10)) (i-1) (l.set i (Ct x))
theorem Ba:∀(k:Nat) (x:Int) (i:Nat) (l:List Nat),qB 256 l->(wrL k x i l).length=l.length/\qB 256 (wrL k x i l)
 | 0,x,i,l,h=>⟨rfl,h⟩
 | k+1,x,i,l,h=>by
  unfold wrL;have:=Ba k (jA .i64 (Int.tdiv x 10)) (i-1) (l.set i (Ct x)) (fun y hy=>by
   rcases List.mem_or_eq_of_mem_set hy with h1 | h1
   ·exact h y h1
   simp_all [LC])
  simp_all
theorem NV{b:Nat}(hb:yA.base<=b){c0 c1 c2 c3 c4 c5 c6 c7 c8 c9:Int}:∀(k:Nat) (from_:Nat) (x:Int) (i:Int) (l:List Nat) (t:Tr qA),i+1=(from_:Int)+k->from_+k<=10->l.length=10->kE t b none (cB l) →
  jp 242 2 [.int .i64 (from_:Int),.int .i64 x,.ptr b 0,.int .i64 i,.int .u8 c0,.int .u8 c1,.int .u8 c2,.int .u8 c3,.int .u8 c4,.int .u8 c5,.int .u8 c6,.int .u8 c7,.int .u8 c8,.int .u8 c9] t (fun v t'=>v=.agg (cB (wrL k x i.toNat l))/\sE b t t'):=by
 intro k;induction k with
 | zero=>
  intro from_ x i l t h1 h2 h3 h4;refine ze1 (bA (nLe (by omega)) (yC (Rc h4 h3) (fE (Lg h3) (oA rfl ?_))));show zA.agg _=_/\_;rw[Za h3];exact⟨rfl,fun _ _=>rfl⟩
 | succ k ih=>
  intro from_ x i l t h1 h2 h3 h4;obtain⟨n,rfl⟩:∃n:Nat,i=(n:Int):=⟨i.toNat,by omega⟩;refine ze1 (oA (yLe (by omega)) (uA (idx164 (by omega)) (tG fun m _ _=>?_)));rw[(LC x).1];obtain⟨t',g1,g2,g3⟩:=h4.store1 (v:=.int .u8 ((Ct x:Nat):Int)) hb xI rfl rfl rfl (j:=n) (by rw[Gt];omega);refine⟨_,_,g1 m,zC ?_⟩;rw[cB_set]at g2;unfold uW;rw[wrap_i64 (n:=(n:Int)-1) (by omega) (by omega)]
  have:=ih from_ (jA .i64 (Int.tdiv x 10)) ((n:Int)-1) (l.set n (Ct x)) t' (by omega) (by omega) (by simp_all) g2;refine Jq.mono this fun v t2 hh=>⟨?_,fun c hc=>by rw[hh.2 c hc,g3 c hc]⟩;rw[hh.1];have e1:((n:Int)-1).toNat=n-1:=by omega
  have e2:((n:Int)).toNat=n:=by omega
  rw[e1,e2];rfl
theorem NU{l:List Nat}(hl:l.length=10){from_ k:Nat}(hk:from_+k<=10)(h1:1<=from_+k)(x:Int):rB yA F 242 [.agg (cB l),.int .i64 (from_:Int),.int .i64 (k:Int),.int .i64 x] t=some (.agg (cB (wrL k x (from_+k-1) l))):=by
 obtain⟨a,b,c,d,e,f,g,h,i,j,rfl⟩:=ten hl;refine lL ?_;show Wf 242 [.agg [.int .u8 a,.int .u8 b,.int .u8 c,.int .u8 d,.int .u8 e,.int .u8 f,.int .u8 g,.int .u8 h,.int .u8 i,.int .u8 j],.int .i64 (from_:Int),.int .i64 (k:Int),.int .i64 x] t _;refine w242 ?_;unfold t242 uZ uY uW;refine tG fun n hn hbase=>?_;obtain⟨t',e1,hc,hle,ho⟩:=vZ hn (cB [a,b,c,d,e,f,g,h,i,j]) none;refine⟨.ptr n 0,⟨n+1,t'⟩,by show some (zA.ptr n 0,yF ⟨n,t⟩ (cB [a,b,c,d,e,f,g,h,i,j]) none)=_;rw[e1],zC ?_⟩
 rw[wrap_i64 (n:=(from_:Int)+(k:Int)) (by omega) (by omega),wrap_i64 (by omega) (by omega)];have:=NV (c0:=0) (c1:=0) (c2:=0) (c3:=0) (c4:=0) (c5:=0) (c6:=0) (c7:=0) (c8:=0) (c9:=0) hbase k from_ x ((from_:Int)+(k:Int)-1) _ t' (by omega) hk hl hc;refine Jq.mono this fun v t2 hh=>⟨?_,fun b' y hy=>?_⟩
 ·rw[hh.1,show((from_:Int)+(k:Int)-1).toNat=from_+k-1 by omega]
 ·have:b'≠n:=fun e=>by simp_all
  rw[hh.2 b' this];exact hle _ _ hy
def tU (d:Int):List Nat:=
 wrL 2 (jA .i64 ((jA .i64 (d-Ef (cQ d)))+1)) 9 (wrL 2 (jA .i64 ((Int.tmod (cQ d) 12)+1)) 6 (wrL 4 (jA .i64 (1900+(jA .i64 (Int.tdiv (cQ d) 12)))) 3 [0,0,0,0,45,0,0,45,0,0]))
theorem MH(d:Int):(tU d).length=10/\qB 256 (tU d):=by
 have h0:qB 256 [0,0,0,0,45,0,0,45,0,0]:=by intro x hx;simp at hx;omega
 have h1:=Ba 4 (jA .i64 (1900+(jA .i64 (Int.tdiv (cQ d) 12)))) 3 _ h0;have h2:=Ba 2 (jA .i64 ((Int.tmod (cQ d) 12)+1)) 6 _ h1.2;have h3:=Ba 2 (jA .i64 ((jA .i64 (d-Ef (cQ d)))+1)) 9 _ h2.2
 simp_all [tU]
def zgp{K:zA->T}{Q:aB}{l:List Nat}{p from_ k:Nat}{x:Int}(hl:l.length=10)(hlt:qB 256 l)(hp:yA.base<=p)(hc:kE t p none (cB l))(hk:from_+k<=10)(h1:1<=from_+k)
  (h:∀t',kE t' p none (cB (wrL k x (from_+k-1) l))->sE p t t'->∀u,wp 226 (K u) t' Q) :
  wp 226 (.call 242 [.agg [(.int .u8 ((cellsOf (cB l)).i 0)),(.int .u8 ((cellsOf (cB l)).i 1)),(.int .u8 ((cellsOf (cB l)).i 2)),(.int .u8 ((cellsOf (cB l)).i 3)),(.int .u8 ((cellsOf (cB l)).i 4)),(.int .u8 ((cellsOf (cB l)).i 5)),(.int .u8 ((cellsOf (cB l)).i 6)),(.int .u8 ((cellsOf (cB l)).i 7)),(.int .u8 ((cellsOf (cB l)).i 8)),(.int .u8 ((cellsOf (cB l)).i 9))],.int .i64 (from_:Int),.int .i64 (k:Int),.int .i64 x] fun a=>.asG z10 a fun X=>
   .heavy (tD yA 264 (.ptr p 0) (.agg [(.int .u8 (X.i 0)),(.int .u8 (X.i 1)),(.int .u8 (X.i 2)),(.int .u8 (X.i 3)),(.int .u8 (X.i 4)),(.int .u8 (X.i 5)),(.int .u8 (X.i 6)),(.int .u8 (X.i 7)),(.int .u8 (X.i 8)),(.int .u8 (X.i 9))])) K) t Q:=by
 have hw:=Ba k x (from_+k-1) l hlt;refine yB ?_;rw[Za hl,q242,NU hl hk h1,xA];refine fE (Lg (by rw[hw.1,hl])) (tG fun n _ _=>?_);rw[Za (by rw[hw.1,hl])];obtain⟨t',g1,g2,g3⟩:=MA hc hp hl (m:=wrL k x (from_+k-1) l) (by rw[hw.1,hl]);exact⟨_,_,g1 n,h t' g2 g3 _⟩
theorem cal_ok(hG:pL t){d:Int}(h0:0<=d)(h1:d<65536):rB yA F 226 [.int .i64 d] t=some (.str (tU d)):=by
 refine lL (w226 ?_);unfold t226 uI uS uG rA uX uZ uY uA7;refine yB ?_;rw[q241,ymd_ok hG h0 h1,xA];unfold ymdD;refine uA rfl (zB (uA rfl (zB (uA rfl (zB (uA rfl (zB (bA (by grind [bF]) (oA rfl ?_)))))))));refine tG fun p hp hbase=>?_;obtain⟨t1,e1,c1,l1,o1⟩:=Ag (C:=yA) Ii hp;refine⟨_,_,e1,?_⟩;have c1':kE t1 p none (cB [0,0,0,0,0,0,0,0,0,0]):=c1
 refine tG fun n _ _=>?_;obtain⟨t2,e2,c2,o2⟩:=MA c1' hbase rfl (m:=[0,0,0,0,45,0,0,45,0,0]) rfl;refine⟨_,_,e2 n,?_⟩;have h0':qB 256 [0,0,0,0,45,0,0,45,0,0]:=by intro x hx;simp at hx;omega
 refine yC (Rc c2 rfl) (fE (Lg rfl) ?_);refine zgp (from_:=0) (k:=4) rfl h0' hbase c2 (by omega) (by omega) fun t3 c3 o3 _=>?_;have w3:=Ba 4 (jA .i64 (1900+(jA .i64 (Int.tdiv (cQ d) 12)))) 3 _ h0';refine yC (Rc c3 w3.1) (fE (Lg w3.1) ?_);refine zgp (from_:=5) (k:=2) w3.1 w3.2 hbase c3 (by omega) (by omega) fun t4 c4 o4 _=>?_;have w4:=Ba 2 (jA .i64 ((Int.tmod (cQ d) 12)+1)) 6 _ w3.2
 rw[w3.1]at w4;refine yC (Rc c4 w4.1) (fE (Lg w4.1) ?_);refine zgp (from_:=8) (k:=2) w4.1 w4.2 hbase c4 (by omega) (by omega) fun t5 c5 o5 _=>?_;have hL:=MH d;have c5':kE t5 p none (cB (tU d)):=c5;have hs:qE yA 264 ⟨0,t5⟩ (.ptr p 0) none none=some (.slice p 0 10 10):=by
  obtain⟨c,g,_⟩:=c5';have hk:mD ⟨0,t5⟩ p=some (c,(cB (tU d)).length,none):=by unfold mD;rw[g];rfl
  unfold qE;rw[Ii,pA];unfold vM;simp only[zA.asStr,zA.asSlice,zA.asPtr,jD.asArr,pA];unfold sN;rw[xI,pA];have hb2:iO 10 10 none none=some (0,10):=rfl;rw[hb2,pA];unfold nL wM;rw[hk];rfl
 have hv:kK yA 59 9 ⟨0,t5⟩ (.slice p 0 10 10)=some (.str (tU d)):=LN xM vL rfl rfl rfl xI rfl c5' hL.1 (fun j x hj=>by
  grind [cB]) hL.2
 refine yC hs (yC hv (sD ⟨rfl,fun b y hy=>?_⟩));have:b≠p:=fun e=>by simp_all
 rw[o5 b this,o4 b this,o3 b this,o2 b this];exact l1 _ _ hy
end
end Go.Proofs
namespace Go.Am
open Go Go.RowKit
def NQ{C:dA}{F:Tr cF}{f:Nat}{args:List zA}{t:Tr qA}{Q:aB}{g:List zA->wA->Option (zA × wA)}(hg:C.prims.get f=some g)(h:∀X HA,Ov C.base t X HA->∃v t' HA',g args HA=some (v,HA')/\Ov C.base t' X HA'/\Q v t')(hf:Nat.blt f yo=true:=by rfl):Wc C F f args t Q:=by
 intro X HA ho;rw[Gr hf,hg];obtain⟨v,t',HA',h1,h2,h3⟩:=h X HA ho;exact⟨v,t',HA',X,h1,h2,oJ.refl _,h3⟩
end Go.Am
namespace Go.Proofs
open Go Go.Am
variable [lC]
variable {t tf:Tr qA}{bx T:Nat}{s m:List Nat}{ex:List zA}
def BX (T:Nat)(ex:List zA)(tf t:Tr qA)(bx:Nat)(s:List Nat):Prop:=
 yA.base<=bx/\tf.get bx=none/\xB tf t/\qB 256 s/\Jx Jw T (ex.length+2)=true/\∃p tv,(p=zA.nilptr\/p=.ptr bx 0)/\kE t bx (some (.ty T)) (p::tv::ex)/\vH (.ty 5) yA.base tf t 1 (vB .u8 s) tv/\¬ oO tv bx
def BX.le(h:BX T ex tf t bx s):xB tf t:=h.2.2.1
theorem BX.check{Q:aB}(h:BX T ex tf t bx s)(hQ:∀t',BX T ex tf t' bx s->Q (.tup []) t'):Wc yA F 223 [.ptr bx 0] t Q:=by
 have h0:=h;obtain⟨h1,h2,h3,ha,hM,p,tv,hp,⟨c,h4,h4'⟩,h5,h6⟩:=h;have hg:yA.prims.get 223=some pChk:=by kernel_rfl
 refine NQ hg fun X HA ho=>?_;have hk:mD HA bx=some (c,(p::tv::ex).length,some (.ty T)):=by unfold mD;rw[ho.up h4];rfl
 have hc0:c.get 0=some p:=h4' 0 p rfl;rcases hp with rfl | rfl
 ·refine⟨.tup [],t.set bx (.cells (c.set 0 (.ptr bx 0)) (zA.nilptr::tv::ex).length (some (.ty T))),setBlk HA bx (.cells (c.set 0 (.ptr bx 0)) (zA.nilptr::tv::ex).length (some (.ty T))),?_,ho.setBlk h4 _,hQ _ ?_⟩
  ·unfold pChk Bw;simp only[];rw[hk,pA,hc0,pA];simp only[];have e1:(!Nat.blt bx (256+lC.n))=true:=by
    cases hq:Nat.blt bx (256+lC.n)with
    | true=>
     have h3:=pC.1 hq;have h1':256+lC.n<=bx:=h1;omega
    | false=>rfl
   simp_all
  ·refine⟨h1,h2,fun b u hb=>?_,ha,hM,.ptr bx 0,tv,.inr rfl,⟨_,by rw[Tr.get_set,yab rfl];rfl,fun j a hj=>?_⟩,h5.keep' fun b hb=>?_,h6⟩
   ·have:b≠bx:=fun e=>by simp_all
    rw[Tr.get_set,yaa this];exact h3 _ _ hb
   all_goals grind [Tr.get_set]
 ·refine⟨.tup [],t,HA,?_,ho,hQ _ h0⟩
  simp_all [pChk,Bw]
def fa77{b:Nat}:aF yA 196 1 (.ptr b 0)=some (.ptr b 1):=by kernel_rfl
theorem BX.write{Q:aB}(h:BX T ex tf t bx s)(hm:m≠[])(hlt:qB 256 m)(hl:s.length+m.length<400000)(hQ:∀v t',BX T ex tf t' bx (s++m)->Q v t'):Wc yA F 191 [.ptr bx 0,.str m] t Q:=by
 refine w191 ?_;unfold t191 rA bB uD uZ;refine yB ?_;rw[q223];refine h.check fun t' h'=>?_;obtain⟨h1,h2,h3,ha,hM,p,tv,hp,h4,h5,h6⟩:=h';refine uA yG (uA fa77 (yC (h4.load1 (j:=1) xM rfl rfl) (tG fun n hn hbase=>?_)));have hbn:n≠bx:=by intro e;obtain⟨c,hh,_⟩:=h4;simp_all
 obtain⟨t1,g1,g2,g3,g4⟩:=MZ el32 ⟨_,vL,rfl⟩ co5 h5 hm hl hn hbase h3;refine⟨_,_,g1,uA yG (uA fa77 (tG fun n2 _ _=>?_))⟩;have h4':kE t1 bx (some (.ty T)) (p::tv::ex):=h4.off (g4 bx hbn.symm h6);obtain⟨t2,e1,e2,e3⟩:=h4'.store1 (v:=.slice n 0 (s.length+m.length) (s.length+m.length)) h1 xM rfl rfl rfl (j:=1) (by simp);refine⟨_,_,e1 n2,hQ _ _ ⟨h1,h2,g3.off h2 e3,fun x hx=>?_,hM,p,_,hp,e2,g2.keep' fun b hb=>e3 b fun e=>?_,fun e=>?_⟩⟩
 ·rcases yaf.1 hx with hx | hx
  ·exact ha x hx
  ·exact hlt x hx
 all_goals grind [Ck]
theorem BX.len(h:BX T ex tf t bx s):rB yA F 190 [.ptr bx 0] t=some (.int .i64 (s.length:Int)):=by
 obtain⟨h1,h2,h3,ha,hM,p,tv,hp,h4,h5,h6⟩:=h;refine dB.2 (w190 ?_);unfold t190 uI rA bB uD uZ;have hlen:=h5.len;rw[nD]at hlen;exact uA yG (uA fa77 (yC (h4.load1 (j:=1) xM rfl rfl) (uA hlen (zB ⟨rfl,rfl⟩))))
def GJ:∀ {l:List Nat},qB 256 l->fG Go.Am.byteOf (l.map fun(n:Nat)=>zA.int .u8 (n:Int))=some l
 | [],_=>rfl
 | x::l,h=>by
  have hx:Go.Am.byteOf (.int .u8 (x:Int))=some x:=by
   show pB (Nat.blt x 256) (some x)=_;rw[pC.2 (h x (.head _))];rfl
  rw[ycm,dM,hx,pA,GJ fun y hy=>h y (.tail _ hy)];rfl
theorem BX.string{Q:aB}(h:BX T ex tf t bx s)(hs:s≠[])(hl:s.length<400000)(hQ:∀t',xB tf t'->Q (.str s) t'):Wc yA F 149 [.ptr bx 0] t Q:=by
 obtain⟨h1,h2,h3,ha,hM,p,tv,hp,⟨c,h4,h4'⟩,h5,h6⟩:=h;have hg:yA.prims.get 149=some pStr:=by kernel_rfl
 rcases h5 with⟨rfl,h5⟩ | ⟨b,cl,d,rfl,k0,k1,k2,k3,k4⟩
 ·grind [nD]
 have hpos:0<s.length:=List.length_pos_iff.2 hs;rw[nD,Nat.mul_one]at k2;rw[Al]at k4;subst k4;have hbytes:∀j a,(s.map fun(n:Nat)=>zA.int .u8 (n:Int))[j]?=some a->d.get j=some a:=by
  intro j a hj;have hj':(zQ .u8 s)[j]?=some [a]:=by
   grind [zQ]
  have:=(k3 j _ hj').2 0 a rfl
  simp_all
 refine NQ hg fun X HA ho=>?_;have hk:mD HA bx=some (c,(p::zA.slice b 0 (vB .u8 s).length (vB .u8 s).length::ex).length,some (.ty T)):=by unfold mD;rw[ho.up h4];rfl
 have hk2:mD HA b=some (d,s.length,some (.ty 5)):=by unfold mD;rw[ho.up k2];rfl
 have hc1:=h4' 1 _ rfl;refine⟨.str s,t.del b,⟨HA.next,HA.t.del b⟩,?_,ho.delBlk k2,hQ _ fun e u he=>?_⟩
 ·unfold pStr Fe;simp only[];rw[hk,pA,hc1,pA];simp only[zA.asSlice,pA,nD];rw[hk2,pA];simp only[];have hm:=FX hbytes s.length 0 (by simp);rw[ycr,yca (by simp)]at hm;rw[hm,pA,GJ ha,pA];have e1:(!Nat.blt b (256+lC.n))=true:=by
   cases hq:Nat.blt b (256+lC.n)with
   | true=>
    have h3:=pC.1 hq;have h1':256+lC.n<=b:=k0;omega
   | false=>rfl
  rw[e1,oC.2 rfl,pC.2 hpos,mE.2 (ybk _),pC.2 (show s.length<1000000000 by omega),oC.2 rfl];rfl
 ·have:e≠b:=fun h=>by simp_all
  rw[Tr.get_del,yaa this];exact h3 _ _ he
end Go.Proofs
namespace Go.Proofs
open Go Go.Am
section
variable [lC]
variable {t:Tr qA}
def Dn(date:List Nat)(v:lE):List Nat:=
 if v.kind=1 then(if v.i=1 then [116,114,117,101]else [102,97,108,115,101])
 else if v.kind=2 then tK (jG v.f)
 else if v.kind=3 then [109,111,110,101,121,32]++tK (jG v.f)
 else if v.kind=4 then date
 else if v.kind=5 then tK (kL v.i)++[32,100,97,121,115]
 else if v.kind=6 then tK (kL v.i)++[32,109,111,110,116,104,115]
 else []
theorem Nh(s:List Nat):(tK s).length<=s.length+6:=by
 grind [tK]
theorem Ny{v:lE}(h:eH v=true)(hk:v.kind=2\/v.kind=3):oI v.f=true:=by
 grind [eH,yV]
theorem NZ{a:lE}{u v:zA}{date:List Nat}(hu:lA t 1 (cC a.f.n.limbs) u)(hv:lA t 1 (cC a.f.d.limbs) v)(hf:lE.fit a)(hp:eH a=true)(hd:a.kind=4->rB yA F 226 [.int .i64 a.i] t=some (.str date)):rB yA F 192 [.agg [.int .u8 a.kind,.bool a.f.n.neg,u,.bool a.f.d.neg,v,.int .i64 a.i]] t=some (.str (Dn date a)):=by
 obtain⟨_,hff,hi1,hi2⟩:=hf;have hil:=Xi hi1 hi2;have hsl:=Nh (kL a.i);have kk:∀j:Int,tA (a.kind:Int) j=decide ((a.kind:Int)=j):=fun j=>bM;refine dB.2 (w192 ?_);simp only[uS,uZ,t192,iA,kk];unfold Dn;by_cases k1:a.kind=1
 ·have e:(a.kind:Int)=1:=by omega
  have hb:rB yA F 224 [.bool (tA a.i 1)] t=some (.str (if a.i=1 then [116,114,117,101]else [102,97,108,115,101])):=by
   refine dB.2 (w224 ?_);have h94:rB yA F 239 [.bool (tA a.i 1)] t=some (.str (if a.i=1 then [116,114,117,101]else [102,97,108,115,101])):=by
    refine dB.2 (w239 ?_);by_cases h:a.i=1<;>simp[t239,iA,bM,h]
   simp only[uS,t224,iA,q239,h94,xA,zA.asStr];simp_all
  simp[e,k1,q224,hb,zA.asStr]
 have e1:¬ (a.kind:Int)=1:=by omega
 by_cases k2:a.kind=2
 ·have e:(a.kind:Int)=2:=by omega
  simp[e,k2,q225,JM hu hv hff (Ny hp (.inl k2)),zA.asStr]
 have e2:¬ (a.kind:Int)=2:=by omega
 by_cases k3:a.kind=3
 ·have e:(a.kind:Int)=3:=by omega
  have hl:=Qf hff (Ny hp (.inr k3));have hl2:=Nh (jG a.f);have:=nI (a:=[109,111,110,101,121,32]) (b:=tK (jG a.f)) (by grind);simp[e,k3,q225,JM hu hv hff (Ny hp (.inr k3)),zA.asStr,this]
 have e3:¬ (a.kind:Int)=3:=by omega
 by_cases k4:a.kind=4
 ·have e:(a.kind:Int)=4:=by omega
  simp[e,k4,q226,hd k4,zA.asStr]
 have e4:¬ (a.kind:Int)=4:=by omega
 by_cases k5:a.kind=5
 ·have e:(a.kind:Int)=5:=by omega
  have:=nI (a:=tK (kL a.i)) (b:=[32,100,97,121,115]) (by simp;omega);simp[e,k5,q227,IY hi1 hi2,zA.asStr,this]
 have e5:¬ (a.kind:Int)=5:=by omega
 by_cases k6:a.kind=6
 ·have e:(a.kind:Int)=6:=by omega
  have:=nI (a:=tK (kL a.i)) (b:=[32,109,111,110,116,104,115]) (by simp;omega);simp[e,k6,q227,IY hi1 hi2,zA.asStr,this]
 grind
end
section
variable [lC]
variable {t tf:Tr qA}
def vV:List (List Nat):=[[],[100,111,119,110],[117,112],[102,108,111,111,114],[99,101,105,108],[104,97,108,102],[101,118,101,110]]
def sQ(t:Tr qA):Prop:=At t 0 0 (vV.map zA.str)
theorem sQ.mono{t':Tr qA}(h:sQ t)(k:xB t t'):sQ t':=At.mono k h
theorem US(hG:sQ t){n:Nat}(hn:n<256):∃s,rB yA F 228 [.int .u8 (n:Int)] t=some (.str s)/\s.length<=10/\qB 256 s:=by
 by_cases h:n<7
 ·have hx:(vV.map zA.str)[n]?=some (.str (vV.getD n [])):=by
   have:n<vV.length:=h
   simp_all
  refine⟨vV.getD n [],dB.2 (w228 (oA (by grind [wrap_i64,pF]) (uA (v:=.ptr 0 n) ?_ (yC (v:=.str (vV.getD n [])) ?_ (sD ⟨rfl,rfl⟩))))),?_,?_⟩
  ·unfold bC;rw[ty266,pA];have e:(zA.int .u8 (n:Int)).asNat=some n:=rfl;rw[e,pA];grind [zA.asSlice,zA.asPtr,pA,jD.asArr,vL,pC,vE]
  ·have:=hG.load1 vL rfl hx;rw[ybw]at this;exact this
  ·have:∀k,k<7->(vV.getD k []).length<=10:=by decide
   grind
  ·have:∀k,k<7->∀x∈vV.getD k [],x<256:=by decide
   exact this n h
 ·exact⟨[],dB.2 (w228 (bA (by grind [wrap_i64,jF]) ⟨rfl,rfl⟩)),by simp,fun x hx=>by cases hx⟩
theorem Wh{s:List Nat}(h:∀x∈s,48<=x/\x<58):qB 256 s:=fun x hx=>by grind
def aQ{a b:List Nat}(ha:qB 256 a)(hb:qB 256 b):qB 256 (a++b):=fun x hx=>by
 rcases yaf.1 hx with h | h
 ·exact ha x h
 ·exact hb x h
theorem Wg{neg:Bool}{n:Nat}:qB 256 (aT neg n)/\aT neg n≠[]:=by
 have h:=xY n;refine⟨aQ ?_ (Wh (Lf n)),fun e=>?_⟩
 ·cases neg
  ·intro x hx;cases hx
  ·intro x hx;simp_all
 grind [aT]
def GC{f:dC}:qB 256 (jG f)/\jG f≠[]:=by
 unfold jG uN;refine⟨aQ Wg.1 ?_,fun e=>Wg.2 (List.append_eq_nil_iff.1 e).1⟩;split
 ·intro x hx;cases hx
 ·intro x hx;rcases ybs.1 hx with rfl | hx
  ·decide
  ·exact Wg.1 x hx
theorem GA{n:Int}:qB 256 (kL n)/\kL n≠[]:=by
 by_cases h:n<0
 ·obtain⟨u,rfl⟩:∃u:Nat,n = -(u:Int):=⟨n.natAbs,by omega⟩;rw[IR (by omega)];refine⟨fun x hx=>?_,by simp⟩;rcases ybs.1 hx with rfl | hx
  ·decide
  ·exact Wh (Lf u) x hx
 ·obtain⟨u,rfl⟩:∃u:Nat,n=(u:Int):=⟨n.toNat,by omega⟩;rw[Xj];exact⟨Wh (Lf u),fun e=>by grind [xY]⟩
theorem FZ{s:List Nat}(h:qB 256 s)(hn:s≠[]):qB 256 (tK s)/\tK s≠[]:=by
 unfold tK;split
 ·exact⟨aQ (by intro x hx;grind) fun x hx=>h x (List.mem_of_mem_drop hx),by simp⟩
 simp_all
theorem NY{v:lE}(hv:v.fit)(hp:eH v=true):Dn (tU v.i) v≠[]/\(Dn (tU v.i) v).length<=20100/\qB 256 (Dn (tU v.i) v):=by
 obtain⟨_,hff,hi1,hi2⟩:=hv;have hil:=Xi hi1 hi2;have hsl:=Nh (kL v.i);have hsi:=FZ (GA (n:=v.i)).1 GA.2;have hsf:=FZ (GC (f:=v.f)).1 GC.2;have hc:=MH v.i;have hF:∀k,(k=2\/k=3)->v.kind=k->(tK (jG v.f)).length<=20010:=by
  grind [Qf,Ny,Nh]
 unfold Dn;split
 ·split
  ·exact⟨by simp,by simp,by intro x hx;grind⟩
  ·exact⟨by simp,by simp,by intro x hx;grind⟩
 ·split
  ·grind
  ·split
   ·rename_i e;have:=hF 3 (.inr rfl) e;exact⟨by simp,by simp;omega,aQ (by intro x hx;grind) hsf.1⟩
   ·split
    ·grind
    ·split
     ·exact⟨by simp,by simp;omega,aQ hsi.1 (by intro x hx;grind)⟩
     ·split
      ·exact⟨by simp,by simp;omega,aQ hsi.1 (by intro x hx;grind)⟩
      grind [eH]
theorem JO{op:Nat}(h:op<27):(iC op).word.length<=10/\∀x∈(iC op).word,x<256:=by
 have:∀k,k<27->(iC k).word.length<=10/\∀x∈(iC k).word,x<256:=by decide +kernel
 grind
theorem Ya{op:Nat}(h:op<27):((iC op).style=1->op=1)/\((iC op).style=2->(iC op).word≠[])/\((iC op).style=3->1<=(iC op).least)/\((iC op).style=4->2<=(iC op).least)/\((iC op).style=5->1<=(iC op).least/\(iC op).word≠[])/\(iC op).style<=6/\(iC op).most<=3/\(op=1->(iC op).style=1):=by
 have:∀k,k<27->((iC k).style=1->k=1)/\((iC k).style=2->(iC k).word≠[])/\((iC k).style=3->1<=(iC k).least)/\((iC k).style=4->2<=(iC k).least)/\((iC k).style=5->1<=(iC k).least/\(iC k).word≠[])/\(iC k).style<=6/\(iC k).most<=3/\(k=1->(iC k).style=1):=by decide +kernel
 grind
theorem FU{s:List Nat}(h:rT s=true):s.length<=24:=by
 unfold rT at h;grind
def bJ (h:Nat):Nat:=86000+200*h
def WOk (bf:Nat)(x:sA):Prop:=∀(d:Nat) (cs:List zA) (tf t:Tr qA) (bx:Nat) (s:List Nat) (Q:aB),x.fit->pG x d=true->kE tf bf none rR->pL tf->sQ tf->RD tf x.d cs->BX 198 [.ptr bf 0] tf t bx s->s.length<=95000 →
 (∀t' s',BX 198 [.ptr bf 0] tf t' bx s'->s'≠[]->s'.length<=max s.length (bJ (25-d))->Q (.tup []) t')->Wc yA F 148 [.ptr bx 0,.agg cs] t Q
def lO{b:Nat}:aF yA 198 0 (.ptr b 0)=some (.ptr b 0):=by kernel_rfl
def KM{b:Nat}:aF yA 198 1 (.ptr b 0)=some (.ptr b 2):=by kernel_rfl
def BX.forms{bf bx:Nat}{s:List Nat}(h:BX 198 [.ptr bf 0] tf t bx s):vC yA 165 ⟨0,t⟩ (.ptr bx 2)=some (.ptr bf 0):=by
 obtain⟨_,_,_,_,_,p,tv,_,h4,_,_⟩:=h;exact h4.load1 (j:=2) ty165 rfl rfl
section
variable {bf bx:Nat}{s:List Nat}{Q:aB}
theorem ZM{y:sA}{d:Nat}{cs:List zA}{lev:Int}(hy:WOk bf y)(hfit:y.fit)(hP:pG y d=true)(hF:kE tf bf none rR)(hM:pL tf)(hW:sQ tf)(hr:RD tf y.d cs)(hB:BX 198 [.ptr bf 0] tf t bx s)(hs:s.length<=94000)(hd1:1<=d)
  (hQ:∀t' s',BX 198 [.ptr bf 0] tf t' bx s'->s'≠[]->s'.length<=max s.length (bJ (25-d))+2->Q (.tup []) t'):Wc yA F 193 [.ptr bx 0,.agg cs,.int .i64 lev] t Q:=by
 obtain⟨a,b,c,rfl,ha,hb,hc⟩:=vI hr;have hop:y.op<27:=by
  obtain⟨op,name,v,args⟩:=y;unfold pG bK at hP;simp only[ybb,decide_eq_true_eq]at hP;exact hP.1.2.1.1.1.1
 have hbm:bJ (25-d)<=91000:=by grind [bJ]
 refine w193 ?_;unfold t193 uI rA bB uD uZ uY;refine uA yG (uA KM (yC hB.forms (uA yG (uA (Xs hop) (uA (kO (by decide)) (yC (zcc (hF.up hB.le) hop) (zB ?_)))))));by_cases hl:lev<=((iC y.op).level:Int)
 ·refine oA (yLe hl) (yB ?_);rw[q148];exact hy d _ tf t bx s _ hfit hP hF hM hW hr hB (by omega) fun t' s' h1 h2 h3=>hQ t' s' h1 h2 (by omega)
 ·refine bA (nLe hl) (uA yG (uA lO (yB ?_)));rw[eQ];refine hB.write (by simp) (by intro x hx;simp_all) (by grind) fun _ t1 h1=>yB ?_;rw[q148];refine hy d _ tf t1 bx _ _ hfit hP hF hM hW hr h1 (by grind) fun t2 s2 h2 h2n h2l=>uA yG (uA lO (yB ?_));rw[eQ];simp only[ybg,List.length_singleton]at h2l;refine h2.write (by simp) (by intro x hx;simp_all) (by grind) fun _ t3 h3=>?_
  exact hQ _ _ h3 (by simp) (by grind)
theorem YX{args:List sA}{d:Nat}{c:zA}(hall:∀y∈args,WOk bf y)(hfits:∀y∈args,y.fit)(hP:∀y∈args,pG y (d+1)=true)(hF:kE tf bf none rR)(hM:pL tf)(hW:sQ tf)(hc:lA tf 9 (args.map sA.d) c)(hlen:args.length<=3)(hd:d<=24)
  {c0 c2 c7:Int} {c1:List Nat} {c3 c5:Bool} {c4 c6 c8:zA} (h19c:c0=19->0<=c7/\c7<256):∀(k i:Nat) (t:Tr qA) (s:List Nat),i+k=args.length->BX 198 [.ptr bf 0] tf t bx s->s≠[]->s.length<=bJ (24-d)+100+2*i →
  (∀t' s',BX 198 [.ptr bf 0] tf t' bx s'->s'≠[]->s'.length<=bJ (24-d)+130->Q (.tup []) t') →
  jp 194 2 [.ptr bx 0,c,.int .i64 (args.length:Int),.int .i64 (i:Int),.int .u8 c0,.str c1,.int .u8 c2,.bool c3,c4,.bool c5,c6,.int .i64 c7,c8] t Q:=by
 have hbm:bJ (24-d)<=91000:=by grind [bJ]
 intro k;induction k with
 | zero=>
  intro i t s hi hB hn hs hQ;refine ze8 ?_;unfold Tq uS uG wB rA bB gC sB uD uZ uY tN gE;refine bA (jF (by omega)) ?_;by_cases h19:c0=19
  ·refine oA (bF h19) (uA yG (uA lO (yB ?_)));obtain⟨n,hn1,hn2⟩:∃n:Nat,jA .u8 c7=(n:Int)/\n<256:=⟨c7.toNat,by grind [Dk],by omega⟩;obtain⟨w,hw1,hw2,hw3⟩:=US (hW.mono hB.le) hn2;rw[hn1,q228,hw1,xA];refine sD (uA (nI (by grind)) (sD (yB ?_)));rw[eQ];refine hB.write (by simp) (aQ (by intro x hx;grind) hw3) (by grind) fun _ t1 h1=>uA yG (uA lO (yB ?_))
   rw[eQ];refine h1.write (by simp) (by intro x hx;simp_all) (by grind) fun _ t2 h2=>?_;exact hQ _ _ h2 (by simp) (by grind)
  ·refine bA (uF h19) (uA yG (uA lO (yB ?_)));rw[eQ];refine hB.write (by simp) (by intro x hx;simp_all) (by grind) fun _ t2 h2=>?_;exact hQ _ _ h2 (by simp) (by grind)
 | succ k ih=>
  intro i t s hi hB hn hs hQ;have hlt:i<args.length:=by omega
  have hm:args[i]∈args:=ycj hlt;refine ze8 ?_;unfold Tq uS uG wB rA bB gC sB uD uZ uY tN gE;obtain⟨b0,off0,cs,g1,g2,_,_,g5⟩:=lD.at sP (by simp) hc (i:=i) (d:=args[i].d) (by simp[hlt]);have ld:vC yA 36 ⟨0,t⟩ (.ptr b0 off0)=some (Md true cs):=Me (H:=⟨0,tf⟩) (HA:=⟨0,t⟩) hB.le g2;refine oA (pF (by omega)) (uA g1 (yC ld ?_));rw[mQ];refine fE (rG g5 (sA.zs _)) ?_
  have hmk:=g5.mk (sA.zs args[i]);have hcs:[zA.int .u8 ((cellsOf cs).i 0),.str ((cellsOf cs).s 1),.int .u8 ((cellsOf cs).i 2),.bool ((cellsOf cs).b 3),(cellsOf cs).v 4,.bool ((cellsOf cs).b 5),(cellsOf cs).v 6,.int .i64 ((cellsOf cs).i 7),(cellsOf cs).v 8]=cs:=hmk;rw[hcs];refine oA g5.all ?_;have next:∀t' s',BX 198 [.ptr bf 0] tf t' bx s'->s'≠[]->s'.length<=bJ (24-d)+100+2*(i+1)->jp 194 2 [.ptr bx 0,c,.int .i64 (args.length:Int),.int .i64 (jA .i64 ((i:Int)+1)),.int .u8 c0,.str c1,.int .u8 c2,.bool c3,c4,.bool c5,c6,.int .i64 c7,c8] t' Q:=by
   intro t' s' h1 h2 h3;rw[wrap_i64 (by omega) (by omega),show(i:Int)+1=((i+1:Nat):Int) by omega];exact ih (i+1) t' s' (by omega) h1 h2 h3 hQ
  have e25:25-(d+1)=24-d:=by omega
  by_cases h0:0<i
  ·refine oA (pF (by omega)) (uA yG (uA lO (yB ?_)));rw[eQ];refine hB.write (by simp) (by intro x hx;grind) (by grind) fun _ t1 h1=>yB ?_;rw[q148];refine hall _ hm (d+1) _ tf t1 bx _ _ (hfits _ hm) (hP _ hm) hF hM hW g5 h1 (by grind) fun t2 s2 h2 h2n h2l=>zC ?_
   grind
  ·refine bA (jF (by omega)) (yB ?_);rw[q148];refine hall _ hm (d+1) _ tf t bx _ _ (hfits _ hm) (hP _ hm) hF hM hW g5 hB (by omega) fun t2 s2 h2 h2n h2l=>zC ?_
   grind
theorem Yz{op:Nat}{name:List Nat}{v:lE}{args:List sA}{d:Nat}{a b c:zA}(hall:∀y∈args,WOk bf y)(hfit:sA.fit (.mk op name v args))(hP:pG (.mk op name v args) d=true)(hs6:(iC op).style=6)(hF:kE tf bf none rR)(hM:pL tf)(hW:sQ tf)
  (hc:lA tf 9 (args.map sA.d) c) (hB:BX 198 [.ptr bf 0] tf t bx s) (hs:s.length<=65536)
  (hQ:∀t' s',BX 198 [.ptr bf 0] tf t' bx s'->s'≠[]->s'.length<=bJ (25-d)->Q (.tup []) t') :
  Wc yA F 194 [.ptr bx 0,.agg [.int .u8 op,.str name,.int .u8 v.kind,.bool v.f.n.neg,a,.bool v.f.d.neg,b,.int .i64 v.i,c],.ptr bf (op*8)] t Q:=by
 unfold pG bK at hP;simp only[ybb,decide_eq_true_eq]at hP;obtain⟨⟨hd,⟨⟨⟨h27,_⟩,hl⟩,hm⟩,hnm⟩,hrest⟩:=hP;obtain⟨f1,f2,f3,f4,f5,f6,f7,f8⟩:=Ya h27;have hw:=JO h27;have h1:op≠1:=fun e=>by omega
 rw[yaa h1,ybb,Ro,ycb]at hrest;unfold sA.fit at hfit;have hfits:=sA.fits_mem hfit.2.2.2.2.2;have hmax:bJ (25-d)=bJ (24-d)+200:=by grind [bJ]
 have h19c:(op:Int)=19->0<=v.i/\v.i<256:=by
  grind [vY]
 have go9:∀t' s',BX 198 [.ptr bf 0] tf t' bx s'->s'≠[]->s'.length<=65536+100->jp 194 9 [.ptr bx 0,.int .u8 op,.str name,.int .u8 v.kind,.bool v.f.n.neg,a,.bool v.f.d.neg,b,.int .i64 v.i,c] t' Q:=by
  intro t' s' k1 k2 k3;refine j194_9 ?_;unfold zd4 uI uZ uY;have hlen:=hc.len;rw[ybf]at hlen;refine uA hlen (zB (zC ?_));refine YX (d:=d) hall hfits (fun y hy=>hrest.2 y hy) hF hM hW hc (by omega) hd h19c args.length 0 t' s' (by omega) k1 k2 (by grind [bJ]) fun t2 s2 g1 g2 g3=>hQ t2 s2 g1 g2 (by omega)
 refine w194 ?_;unfold t194 uB uS rA bB uD uZ uY;have hld:=GX (hF.up hB.le) h27;refine uA yG (uA lO (uA yG (uA (kO (by decide)) (yC hld (sD (uA (nI (by grind)) (sD (yB ?_))))))));rw[eQ];refine hB.write (by simp) (aQ hw.2 (by intro x hx;simp_all)) (by grind) fun _ t1 h1=>?_;refine uA yG (uA (kO (by decide)) (yC (GZ (hF.up h1.le) h27) (rC ?_)))
 cases hn:(iC op).named with
 | true=>
  rw[hn,yab rfl]at hnm;have hnl:=FU hnm;refine oA rfl (uA yG (uA lO (uA (nI (by grind)) (sD (yB ?_)))));rw[eQ];refine h1.write (by simp) (aQ hfit.2.2.1 (by intro x hx;grind)) (by grind) fun _ t2 h2=>zC ?_;exact go9 _ _ h2 (by simp) (by grind)
 | false=>exact bA (by simp) (zC (go9 _ _ h1 (by simp) (by grind)))
mutual
/-- THE WRITER COMES TO AN END -/
theorem Zv:∀(x:sA),WOk bf x
 | .mk op name v args=>by
  have hall:=Zu args;intro d cs tf t bx s Q hfit hP hF hM hW hr hB hs hQ;have hP0:=hP;have hfit0:=hfit;obtain⟨a,b,c,rfl,ha,hb,hc⟩:=vI hr;simp only[sA.op,sA.name,sA.v,sA.args]at ha hb hc ⊢;unfold pG bK at hP;simp only[ybb,decide_eq_true_eq]at hP;obtain⟨⟨hd,⟨⟨⟨h27,hs0⟩,hl⟩,hm⟩,hnm⟩,hrest⟩:=hP;simp only[ycp,decide_eq_false_iff_not]at hs0;obtain⟨f1,f2,f3,f4,f5,f6,f7,f8⟩:=Ya h27
  have hw:=JO h27;unfold sA.fit at hfit;have hfits:=sA.fits_mem hfit.2.2.2.2.2;have hmax:bJ (25-d)=bJ (24-d)+200:=by grind [bJ]
  have e25:25-(d+1)=24-d:=by omega
  have hmb:bJ (24-d)<=91000/\86000<=bJ (24-d):=by grind [bJ]
  refine w148 ?_;unfold t148 uI uU uS uG wB rA bB uD uZ uY gE;refine uA yG (uA lO (yB ?_));rw[q190,hB.len,xA];refine zB ?_;by_cases hbig:65536<s.length
  ·refine oA (pF (by omega)) ?_;exact hQ t s hB (fun e=>by simp_all) (by omega)
  refine bA (jF (by omega)) ?_;have hFt:=hF.up hB.le;refine uA yG (uA KM (yC hB.forms (uA yG (uA (Xs h27) (uA yG (uA (kO (by decide)) (yC (GY hFt h27) (zB ?_))))))));have ldw:∀ {t'},xB tf t'->vC yA 9 ⟨0,t'⟩ (.ptr bf (op*8+1))=some (.str (iC op).word):=fun h=>GX (hF.up h) h27;have notc:(iC op).style≠1->hO args (d+1)=true:=by
   grind
  have arg:∀(i:Nat) (lev:Int) (t1:Tr qA) (s1:List Nat) (K:zA->T) (Q:aB) (k:Nat),(iC op).style≠1->i<args.length->k<8->BX 198 [.ptr bf 0] tf t1 bx s1->s1.length<=94000->vC yA 3 ⟨0,t1⟩ (.ptr bf (op*8+k))=some (.int .i64 lev) →
    (∀t' s',BX 198 [.ptr bf 0] tf t' bx s'->s'≠[]->s'.length<=max s1.length (bJ (24-d))+2->wp 148 (K (.tup [])) t' Q) →
    wp 148 (.opt (bC yA 34 c (.int .i64 (i:Int))) fun a36=>.light (fun m=>vC yA 36 ⟨0,m⟩ a36) fun a37=>.asG [(.int .u8 0),(.str []),(.int .u8 0),(.bool false),.nilslice,(.bool false),.nilslice,(.int .i64 0),.nilslice] a37 fun X38=>
     .opt (zP (.ptr bf (op*8))) fun a39=>.opt (aF yA 191 k a39) fun a40=>.light (fun m=>vC yA 3 ⟨0,m⟩ a40) fun a41=>.asI .i64 a41 fun n42=>.call 193 [.ptr bx 0,(.agg [(.int .u8 (X38.i 0)),(.str (X38.s 1)),(.int .u8 (X38.i 2)),(.bool (X38.b 3)),(X38.v 4),(.bool (X38.b 5)),(X38.v 6),(.int .i64 (X38.i 7)),(X38.v 8)]),(.int .i64 n42)] K) t1 Q:=by
   intro i lev t1 s1 K Q k hne hi hk h1 hs1 hldp hQ';have hm:args[i]∈args:=ycj hi;obtain⟨b0,off0,cs,g1,g2,_,_,g5⟩:=lD.at sP (by simp) hc (i:=i) (d:=args[i].d) (by simp[hi]);have ld:vC yA 36 ⟨0,t1⟩ (.ptr b0 off0)=some (Md true cs):=Me (H:=⟨0,tf⟩) (HA:=⟨0,t1⟩) h1.le g2;refine uA g1 (yC ld ?_);rw[mQ];refine fE (rG g5 (sA.zs _)) ?_;have hmk:=g5.mk (sA.zs args[i])
   have hcs:[zA.int .u8 ((cellsOf cs).i 0),.str ((cellsOf cs).s 1),.int .u8 ((cellsOf cs).i 2),.bool ((cellsOf cs).b 3),(cellsOf cs).v 4,.bool ((cellsOf cs).b 5),(cellsOf cs).v 6,.int .i64 ((cellsOf cs).i 7),(cellsOf cs).v 8]=cs:=hmk;rw[hcs];refine uA yG (uA (kO hk) (yC hldp (zB (yB ?_))));rw[q193];have hPy:pG args[i] (d+1)=true:=by
    grind [Ro]
   grind [ZM]
  have done:∀t' s',BX 198 [.ptr bf 0] tf t' bx s'->s'≠[]->s'.length<=bJ (25-d)->wp 148 (.ret (.tup [])) t' Q:=fun t' s' k1 k2 k3=>hQ t' s' k1 k2 (by omega);have i0:((0:Nat):Int)=0:=rfl;have i1:((1:Nat):Int)=1:=rfl;have arg0:=arg 0;have arg1:=arg 1;rw[i0]at arg0;rw[i1]at arg1;have style:(iC op).style=1\/(iC op).style=2\/(iC op).style=3\/(iC op).style=4\/(iC op).style=5\/(iC op).style=6:=by omega
  rcases style with e | e | e | e | e | e
  ·-- a constant
   refine oA (bF (by omega)) (uA yG (uA lO (yB ?_)));have hop1:=f1 e;rw[yab hop1]at hrest;obtain⟨v1,v2,v3⟩:=NY hfit.2.2.2.1 hrest;have hv:=NZ (date:=tU v.i) (ha.mono hB.le) (hb.mono hB.le) hfit.2.2.2.1 hrest (fun hk=>by
    have hp:=hrest;unfold eH at hp;rw[yaa (by omega),yaa (by omega),yab hk]at hp;simp only[ybb,decide_eq_true_eq]at hp;exact cal_ok (hM.mono hB.le) hp.2.1 hp.2.2)
   rw[q192,hv,xA];refine sD (yB ?_);rw[eQ];refine hB.write v1 v3 (by omega) fun _ t1 h1=>done _ _ h1 (by simp[v1]) ?_
   grind
  ·-- a word
   refine bA (uF (by omega)) (oA (bF (by omega)) (uA yG (uA lO (uA yG (uA (kO (by decide)) (yC (ldw hB.le) (sD (yB ?_))))))));rw[eQ];refine hB.write (f2 e) hw.2 (by omega) fun _ t1 h1=>done _ _ h1 (by simp[f2 e]) ?_
   grind
  ·-- word,name,at
   have hnl:name.length<=24:=by
    grind [FU,aI]
   have h3:=f3 e;refine bA (uF (by omega)) (bA (uF (by omega)) (oA (bF (by omega)) (uA yG (uA lO (uA yG (uA (kO (by decide)) (yC (ldw hB.le) (sD (uA (nI (by omega)) (sD (uA (nI (by grind)) (sD (yB ?_)))))))))))));rw[eQ];refine hB.write (by simp) (aQ (aQ hw.2 hfit.2.2.1) (by intro x hx;grind)) (by grind) fun _ t1 h1=>?_
   refine arg0 _ t1 _ _ _ 6 (by omega) (by omega) (by decide) h1 (by grind) (Wu (hF.up h1.le) h27) fun t2 s2 k1 k2 k3=>done _ _ k1 k2 ?_
   grind
  ·-- an operator
   have h4:=f4 e;refine bA (uF (by omega)) (bA (uF (by omega)) (bA (uF (by omega)) (oA (bF (by omega)) ?_)));refine arg0 _ t _ _ _ 6 (by omega) (by omega) (by decide) hB (by omega) (Wu hFt h27) fun t1 s1 k1 k2 k3=>?_;refine uA yG (uA lO (uA yG (uA (kO (by decide)) (yC (ldw k1.le) (sD (uA (nI (by grind)) (sD (uA (nI (by grind)) (sD (yB ?_))))))))))
   rw[eQ];refine k1.write (by simp) (aQ (aQ (by intro x hx;simp_all) hw.2) (by intro x hx;simp_all)) (by grind) fun _ t2 h2=>?_;refine arg1 _ t2 _ _ _ 7 (by omega) (by omega) (by decide) h2 (by grind) (zcb (hF.up h2.le) h27) fun t3 s3 m1 m2 m3=>done _ _ m1 m2 ?_
   grind
  ·-- not
   have h5:=f5 e;refine bA (uF (by omega)) (bA (uF (by omega)) (bA (uF (by omega)) (bA (uF (by omega)) (oA (bF (by omega)) (uA yG (uA lO (uA yG (uA (kO (by decide)) (yC (ldw hB.le) (sD (yB ?_)))))))))));rw[eQ];refine hB.write h5.2 hw.2 (by omega) fun _ t1 h1=>?_;refine arg0 _ t1 _ _ _ 6 (by omega) (by omega) (by decide) h1 (by grind) (Wu (hF.up h1.le) h27) fun t2 s2 k1 k2 k3=>done _ _ k1 k2 ?_
   grind
  ·-- a call
   refine bA (uF (by omega)) (bA (uF (by omega)) (bA (uF (by omega)) (bA (uF (by omega)) (bA (uF (by omega)) (oA (bF (by omega)) (yB ?_))))));rw[q194];grind [Yz]
theorem Zu:∀(l:List sA),∀y∈l,WOk bf y
 | [],_,h=>by cases h
 | x::l,y,h=>by
  rcases ybs.1 h with e | h
  ·rw[e];exact Zv x
  ·exact Zu l y h
end
end
end
section
variable [lC]
variable {t tf:Tr qA}
theorem WY{x:sA}{cs:List zA}{Q:aB}(hfit:x.fit)(hP:pG x 1=true)(hM:pL t)(hW:sQ t)(hr:RD t x.d cs)(hQ:∀t' s,xB t t'->s≠[]->Q (.str s) t'):Wc yA F 118 [.agg cs] t Q:=by
 obtain⟨a,b,c,rfl,ha,hb,hc⟩:=vI hr;refine w118 ?_;unfold t118 uS bB gC uD uZ uY;refine yB ?_;rw[q144];refine FS fun bf t1 h1 h2 h3 h4 h5=>?_;refine oA rfl (tG fun bx hbx hbb=>?_);obtain⟨t2,e1,e2,e3,e4⟩:=vZ hbx [.nilptr,.nilslice,.ptr bf 0] (some (.ty 198));have hbox:Dw yA 198 (.agg [.nilptr,.nilslice,.ptr bf 0]) ⟨bx,t1⟩=some (.ptr bx 0,⟨bx+1,t2⟩):=by
  unfold Dw;have:jK yA 198=some (.ty 198):=by kernel_rfl
  rw[this,<- e1];rfl
 refine⟨_,_,hbox,yB ?_⟩;have hB:BX 198 [.ptr bf 0] t1 t2 bx []:=⟨hbb,hbx,e3,(by intro x hx;cases hx),rfl,.nilptr,.nilslice,.inl rfl,e2,.inl ⟨rfl,rfl⟩,Xq⟩;rw[q148];refine Zv x 1 _ t1 t2 bx [] _ hfit hP h3 (hM.mono h4) (hW.mono h4) (hr.mono h4) hB (by simp) fun t3 s h6 h7 h8=>?_;refine uA yG (uA lO (yB ?_));rw[q149];have hl:s.length<=91000:=by
  grind [bJ]
 exact h6.string h7 (by omega) fun t4 h9=>sD (hQ _ _ (h4.trans h9) h7)
theorem zcx{x:sA}{cs:List zA}{Q:aB}(hfit:x.fit)(hM:pL t)(hW:sQ t)(hr:RD t x.d cs)
  (hQ:∀t' s e,xB t t'->(if pG x 1=true then(s≠[]/\e=0\/s=[]/\e=3)else s=[]/\e=2)->Q (.tup [.str s,.int .i64 e]) t'):Wc yA F 67 [.agg cs] t Q:=by
 have hr0:=hr;obtain⟨a,b,c,rfl,ha,hb,hc⟩:=vI hr;refine w67 ?_;unfold t67 uB uS uG uZ uY;refine yB ?_;rw[q116];refine UL fun bf t1 h1 h2 h3 h4 h5=>?_;have e:(cellsOf [zA.ptr bf 0]).v 0=.ptr bf 0:=rfl;refine fE (zW rfl) (oA hr0.sameA (yB ?_));have he:=KO h3 x 1 _ hfit (by omega) (hr0.mono h4);rw[show((1:Nat):Int)=1 from rfl]at he;rw[q117,e,he,xA];refine rC ?_
 cases hP:pG x 1 with
 | false=>
  refine oA rfl ?_;exact hQ _ _ _ h4 (by simp_all)
 | true=>
  refine bA (by simp) (yB ?_);rw[q118];refine WY hfit hP (hM.mono h4) (hW.mono h4) (hr0.mono h4) fun t2 s h6 h7=>sD ?_;by_cases hl:65536<s.length
  ·refine oA (pF (by rw[qJ];omega)) ?_;exact hQ _ _ _ (h4.trans h6) (by simp_all)
  ·refine bA (jF (by rw[qJ];omega)) ?_;exact hQ _ _ _ (h4.trans h6) (by simp_all)
end
end Go.Proofs
namespace Go.Am
open Go Go.RowKit
def aW{α:Type}(f:Nat->Option α):Nat->Tr α
 | 0=>.leaf
 | n+1=>match f n with
  | some v=>(aW f n).set n v
  | none=>aW f n
theorem xU{α:Type}(f:Nat->Option α):∀(n a:Nat),(aW f n).get a=if a<n then f a else none:=by
 intro n;induction n with
 | zero=>intro a;rw[yaa (by omega)];exact Tr.get_leaf _
 | succ n ih=>
  grind [aW,Tr.get_set]
def kR (N:Nat):Value->Option zA
 | .bool b=>some (.bool b)
 | .int k n=>some (.int k n)
 | .string s=>some (.str (iF s))
 | .slice none 0 0=>some .nilslice
 | .slice (some _) 0 0=>some (.slice 0 0 0 0)
 | .slice (some ⟨b,off,none⟩) len cap=>if b<N then some (.slice (256+b) off len cap)else none
 | _=>none
def absB (N:Nat):Obj->Option qA
 | .cells cs _ _=>some (.cells (aW (fun j=>(cs[j]?).bind (kR N)) cs.size) cs.size none)
 | _=>none
def yJ (w:World):Tr qA:=aW (fun a=>if a<256 then(w.heap[a]?).bind (absB w.heap.size)else(w.heap[a-256]?).bind (absB w.heap.size)) (256+w.heap.size)
def muW (w:World):Mu:=⟨fun a=>if a<256 then some ⟨a,true,0,0,true⟩else if a<256+w.heap.size then some ⟨a-256,true,0,0,true⟩else none,fun _=>none⟩
section
variable {w:World}
theorem NN{v:Value}{a:zA}(h:kR w.heap.size v=some a):vA (muW w) a v:=by
 unfold kR at h;split at h
 ·cases h;rw[vA]
 ·cases h;rw[vA]
 ·grind [vA]
 ·cases h;rw[vA]
 ·grind [vA]
 ·split at h
  ·rename_i hb;cases h;rename_i b off len cap _;rw[vA];refine .inl ⟨⟨b,true,0,0,true⟩,cap,?_,rfl,ybk _,fun _=>rfl,fun h=>by cases h⟩;show(if 256+b<256 then some (⟨256+b,true,0,0,true⟩:BI)else if 256+b<256+w.heap.size then some ⟨256+b-256,true,0,0,true⟩else none)=_;rw[yaa (by omega),yab (by omega),show 256+b-256=b by omega]
  ·cases h
 ·cases h
theorem NP{o:Obj}{x:qA}(h:absB w.heap.size o=some x)(b:Nat):jI (muW w) ⟨b,true,0,0,true⟩ x o/\x.asLoop=none/\x.asDeferred=none:=by
 cases o<;>first | (cases h;done) | skip
 rename_i cs elem fr;cases h;refine⟨⟨cs,elem,fr,rfl,ybk _,.inl rfl,fun j v hv=>?_,rfl⟩,rfl,rfl⟩
 grind [xU,NN]
theorem hrelW:mB (256+w.heap.size) w.heap.size (muW w) ⟨256+w.heap.size,yJ w⟩ w:=by
 have hget:∀a x,(yJ w).get a=some x->∃b o,b<w.heap.size/\w.heap[b]?=some o/\absB w.heap.size o=some x/\a<256+w.heap.size/\b=(if a<256 then a else a-256):=by
  grind [yJ,xU]
 have hmu:∀a,(muW w) a=if a<256 then some ⟨a,true,0,0,true⟩else if a<256+w.heap.size then some ⟨a-256,true,0,0,true⟩else none:=fun _=>rfl;have big:∀a,256+w.heap.size<=a->(muW w) a=none:=fun a h=>by rw[hmu,yaa (by omega),yaa (by omega)]
 have same:∀a x i,(yJ w).get a=some x->(muW w) a=some i->∃o,w.heap[i.b]?=some o/\i.b<w.heap.size/\absB w.heap.size o=some x/\i=⟨i.b,true,0,0,true⟩:=by
  grind
 refine⟨by omega,fun g hg=>by rw[hmu,yab hg],fun a x i _ hx hi=>?_,ybk _,ybk _,fun a ha=>⟨big a ha,?_⟩,fun a x i hx hi=>?_,fun a i ha hi=>?_,fun a b x y i j hx _ hi _ ha _ _=>?_,fun a x t h=>by cases h⟩
 ·obtain⟨o,_,h2,h3,_⟩:=same a x i hx hi;exact⟨h2,(NP h3 0).2⟩
 all_goals grind [yJ,xU,NP]
end
end Go.Am
namespace Go.Am
open Go Go.RowKit
def cG(P:Program):Nat->TypeId->D->Prop
 | 0,_,_=>False
 | f+1,t,x=>match P.underlying t with
  | some .bool=>∃b,x=.bool b
  | some (.int k)=>∃n,x=.int k n/\(Lit.int k n).wf=true
  | some .string=>∃l:List Nat,x=.str l/\l.length<=reachBytes/\∀c∈l,c<256
  | some (.slice e)=>∃l:List D,x=.sl (P.cellsOf e) l/\l.length*P.bytesOf e<=reachBytes/\∀y∈l,cG P f e y
  | some (.struct fs)=>∃l:List D,x=.st l/\eC (fun fd y=>cG P f fd.type y) fs.toList l
  | _=>False
def Ea(P:Program):Nat->List Field->Nat->Bool
 | off,[],n=>off == n
 | off,f::fs,n=>f.offset == off&&Ea P (off+P.cellsOf f.type) fs n
structure Plain (P:Program) (S:TypeId->Prop):Prop where
 part:∀t,S t->match P.underlying t with
  | some .bool=>True
  | some (.int _)=>True
  | some .string=>True
  | some (.slice e)=>S e/\0<P.cellsOf e
  | some (.struct fs)=>(∀f∈fs.toList,S f.type)/\Ea P 0 fs.toList (P.cellsOf t)=true
  | _=>False
def av (N:Nat)(v:Value):zA:=(kR N v).getD .nilptr
def Has (N:Nat)(cs:List Value):Prop:=∀v∈cs,kR N v=some (av N v)
theorem LV{α:Type}{Q:Nat->α->Prop}:∀(n:Nat),(∀i,i<n->∃p,Q i p)->∃l:List α,l.length=n/\∀i p,l[i]?=some p->Q i p:=by
 intro n;induction n with
 | zero=>simp_all
 | succ n ih=>
  intro h;obtain⟨l,hl,hq⟩:=ih fun i hi=>h i (by omega);obtain⟨p,hp⟩:=h n (by omega);refine⟨l++[p],by simp[hl],fun i q hq'=>?_⟩
  grind
section
variable {H:Type}{enc:TypeId × Value->H}{P:Program}{w:World}
theorem Zw{p:Nat->Bool}:∀ {ts:List TypeId} {ds:List (DataW H)},(DataW.weightsEach P ts ds).all p=true->∀ {i:Nat} {t:TypeId} {d:DataW H},ts[i]?=some t->ds[i]?=some d->(DataW.weights P t d).all p=true
 | [],_,_,i,_,_,h1,_=>by simp at h1
 | _::_,[],_,i,_,_,_,h2=>by simp at h2
 | t::ts,d::ds,h,i,u,e,h1,h2=>by
  rw[DataW.weightsEach,ydi,ybb]at h
  cases i with
  | zero=>simp_all
  | succ i=>exact Zw h.2 (by simpa using h1) (by simp_all)
theorem Zx{p:Nat->Bool}{e:TypeId}:∀ {ds:List (DataW H)},(DataW.weightsAll P e ds).all p=true->∀ {i:Nat} {d:DataW H},ds[i]?=some d->(DataW.weights P e d).all p=true
 | [],_,i,_,h2=>by simp at h2
 | d::ds,h,i,x,h2=>by
  rw[DataW.weightsAll,ydi,ybb]at h
  cases i with
  | zero=>simp_all
  | succ i=>exact Zx h.2 (by simpa using h2)
theorem LY{a:Addr}{n:Nat}{cs:List Value}(h:w.cells? 0 a n=some cs):cs.length=n/\(0<n->a.spot=none/\∃c t fr,w.heap[a.block]?=some (.cells c t fr)/\∀j,j<n->c[a.off+j]?=cs[j]?):=by
 unfold World.cells? at h;rw[yab (yaw _)]at h;have hl:=mapM_some_length h;have hg:=mapM_some_get h;simp only[List.length_range]at hl;refine⟨hl,fun hn=>?_⟩;have key:∀j,j<n->w.cell? (a.add j)=cs[j]?:=fun j hj=>hg j j (by simp[hj]);have h0:=key 0 hn;have hs0:∃v,cs[0]?=some v:=⟨cs[0]'(by omega),ybd (by omega)⟩;obtain⟨v0,hv0⟩:=hs0;rw[hv0]at h0;have e0:a.add 0=a:=by simp[Addr.add]
 rw[e0]at h0;unfold World.cell? at h0
 cases hb:w.heap[a.block]? with
 | none=>simp_all
 | some o=>
  rw[hb]at h0
  cases o with
  | cells c t fr=>
   simp only[]at h0;split at h0
   ·cases h0
   ·rename_i hsp;refine⟨by simp_all,c,t,fr,rfl,fun j hj=>?_⟩
    grind [World.cell?,Addr.add]
  | _=>cases h0
def NO{b:Nat}{c:Array Value}{t:TypeId}{fr:Nat × Nat}(h:w.heap[b]?=some (.cells c t fr)) :
  (yJ w).get (256+b)=some (.cells (aW (fun j=>(c[j]?).bind (kR w.heap.size)) c.size) c.size none):=by
 have hb:=(ybe.1 h).1;unfold yJ;rw[xU,yab (by omega),yaa (by omega),show 256+b-256=b by omega,h];rfl
theorem at_old{b off n:Nat}{c:Array Value}{t:TypeId}{fr:Nat × Nat}{cs:List Value}(h:w.heap[b]?=some (.cells c t fr))(hl:cs.length=n)(hc:∀j,j<n->c[off+j]?=cs[j]?)(hs:Has w.heap.size cs) :
  At (yJ w) (256+b) off (cs.map (av w.heap.size)):=by
 refine⟨_,_,_,NO h,fun j a ha=>?_⟩;rw[ybu]at ha
 cases hj:cs[j]? with
 | none=>simp_all
 | some v=>
  rw[hj]at ha;have hlt:j<n:=by grind
  have h1:=hc j hlt;rw[hj]at h1;have hsz:off+j<c.size:=(ybe.1 h1).1;rw[xU,yab hsz,h1];have ha:av w.heap.size v=a:=by simp_all
  rw[<- ha];exact hs v (ycv hj)
theorem AM{cs:List Value}:∀ {fs:List Field} {off:Nat},Ea P off fs cs.length=true->(fs.map fun f=>(cs.drop f.offset).take (P.cellsOf f.type)).flatten=cs.drop off
 | [],off,h=>by grind [Ea]
 | f::fs,off,h=>by
  rw[Ea,ybb]at h;obtain⟨h1,h2⟩:=h;have h1:f.offset=off:=by simp_all
  rw[ycm,yas,AM h2,h1,<- List.drop_drop,List.take_append_drop]
theorem NS{α β:Type}{R:α->β->Prop}:∀ {l:List α} {m:List β},m.length=l.length->(∀(i:Nat) a b,l[i]?=some a->m[i]?=some b->R a b)->eC R l m
 | [],[],_,_=>.nil
 | [],_::_,h,_=>by simp at h
 | _::_,[],h,_=>by simp at h
 | a::l,b::m,h,k=>.cons (k 0 a b (by simp) (by simp)) (NS (by grind) fun i a b h1 h2=>k (i+1) a b (by simp_all) (by simp_all))
theorem DV{S:TypeId->Prop}(hP:Plain P S)(h0:∃c n lo,(yJ w).get 0=some (.cells c n lo)) :
  ∀(fuel:Nat) (t:TypeId) (cs:List Value) (x:DataW H × List MemPlace),S t->DataW.trod enc P w 0 (fun _=>true) true fuel t cs=some x->(DataW.weights P t x.1).all (· <= reachBytes)=true →
   Has w.heap.size cs/\∃d,RD (yJ w) d (cs.map (av w.heap.size))/\cG P fuel t d:=by
 intro fuel;induction fuel with
 | zero=>simp_all [DataW.trod]
 | succ n ih=>
  intro t cs x hS h hw;have hp:=hP.part t hS;have one:∀ {v:Value} {a:zA},kR w.heap.size v=some a->Has w.heap.size [v]/\av w.heap.size v=a:=by
   intro v a hv;have:av w.heap.size v=a:=by grind [av]
   refine⟨fun u hu=>?_,this⟩;simp at hu;subst hu;rw[hv,this]
  cases hu:P.underlying t with
  | none=>simp_all
  | some dt=>
  cases dt with
  | bool=>
   obtain⟨b,rfl,rfl⟩:=DataW.trod_bool hu h;obtain⟨h1,h2⟩:=one (v:=.bool b) (a:=.bool b) rfl;exact⟨h1,.bool b,by simp_all,by grind [cG]⟩
  | int k=>
   obtain⟨m,rfl,rfl,hwf⟩:=DataW.trod_int hu h;obtain⟨h1,h2⟩:=one (v:=.int k m) (a:=.int k m) rfl;exact⟨h1,.int k m,by simp_all,by grind [cG]⟩
  | string=>
   obtain⟨s,rfl,rfl,_⟩:=DataW.trod_string hu h;obtain⟨h1,h2⟩:=one (v:=.string s) (a:=.str (iF s)) rfl;refine⟨h1,.str (iF s),by simp_all,?_⟩
   grind [cG,DataW.weights,iF,UInt8.toNat_lt]
  | slice e=>
   rw[hu]at hp;obtain⟨hSe,hpos⟩:=hp;rcases DataW.trod_slice hu h with⟨rfl,rfl⟩ | ⟨a,len,cap,pJ,rest,m,hm,rfl,rfl,_,hlc,_,hel,hE,hR,_⟩
   ·obtain⟨h1,h2⟩:=one (v:=.slice none 0 0) (a:=.nilslice) rfl;refine⟨h1,.sl (P.cellsOf e) [],by rw[oM];exact⟨_,by simp[h2],[],.inl ⟨rfl,rfl⟩,by rw[jC]⟩,?_⟩
    grind [cG]
   ·obtain rfl:n=m:=by omega
    simp only[DataW.weights,hu,ycg,ybb,ydi,decide_eq_true_eq,ybf]at hw;obtain⟨hsz,hwe,hwr⟩:=hw;by_cases hcap:cap=0
    ·subst hcap;obtain rfl:len=0:=by omega
     obtain⟨h1,h2⟩:=one (v:=.slice (some a) 0 0) (a:=.slice 0 0 0 0) (by cases a;rfl);refine⟨h1,.sl (P.cellsOf e) [],?_,?_⟩
     ·rw[oM,ycm,List.map_nil,h2];refine⟨_,rfl,[],.inr ⟨0,0,0,rfl,ybk _,?_,fun i cs hi=>by simp at hi⟩,by rw[jC]⟩;obtain⟨c,k,lo,hc⟩:=h0;have:=hc;unfold yJ at this;rw[xU]at this;split at this
      case isFalse=>cases this
      rw[yab (by omega)]at this
      cases ho:w.heap[0]? with
      | none=>simp_all
      | some o=>
       rw[ho]at this
       cases o with
       | cells c' t' fr'=>
        grind [absB]
       | _=>cases this
     grind [cG]
    ·have hr:=(hR rfl).1;have hRr:=(hR rfl).2;have hel1:∀i,i<len->∃p:List Value × D,w.cells? 0 (a.add (i*P.cellsOf e)) (P.cellsOf e)=some p.1/\Has w.heap.size p.1/\RD (yJ w) p.2 (p.1.map (av w.heap.size))/\cG P n e p.2:=by
      intro i hi;have:=hE i hi;obtain⟨y,hy⟩:∃y,pJ[i]?=some y:=⟨pJ[i]'(by omega),ybd (by omega)⟩;rw[hy]at this;simp only[Option.bind_eq_some_iff]at this;obtain⟨c1,hc1,hy1⟩:=this;obtain⟨g1,d,g2,g3⟩:=ih e c1 y hSe hy1 (Zx hwe (i:=i) (by simp[hy]));exact⟨(c1,d),hc1,g1,g2,g3⟩
     obtain⟨l,hl,hq⟩:=LV len hel1;have hfirst:∃c1,w.cells? 0 a (P.cellsOf e)=some c1:=by
      by_cases hlen:len=0
      ·have:=hRr 0 (by omega)
       grind [Option.bind_eq_some_iff,Addr.add]
      ·obtain⟨p,hp,_⟩:=hel1 0 (by omega)
       grind [Addr.add]
     obtain⟨c1,hc1⟩:=hfirst;obtain⟨hspot,c,ct,fr,hblk,_⟩:=(LY hc1).2 hpos;have hb:a.block<w.heap.size:=(ybe.1 hblk).1;have hav:kR w.heap.size (.slice (some a) len cap)=some (.slice (256+a.block) a.off len cap):=by
      obtain⟨bb,oo,ss⟩:=a
      grind [kR]
     obtain⟨h1,h2⟩:=one hav;refine⟨h1,.sl (P.cellsOf e) (l.map (·.2)),?_,?_⟩
     ·rw[oM];refine⟨_,by rw[ycm,List.map_nil,h2],l.map (fun p=>p.1.map (av w.heap.size)),.inr ⟨256+a.block,a.off,cap,by rw[ybf,hl],by simp_all,⟨_,_,_,NO hblk,.inl rfl⟩,fun i cs hi=>?_⟩,?_⟩
      ·rw[ybu]at hi
       cases hli:l[i]? with
       | none=>simp_all
       | some p=>
        rw[hli]at hi;obtain rfl:p.1.map (av w.heap.size)=cs:=by simp_all
        obtain⟨k1,k2,k3,k4⟩:=hq i p hli;obtain⟨m1,m2⟩:=LY k1;obtain⟨_,c',ct',fr',hb',hcc⟩:=m2 hpos;have eb:(a.add (i*P.cellsOf e)).block=a.block:=by unfold Addr.add;split<;>rfl
        have eo:(a.add (i*P.cellsOf e)).off=a.off+i*P.cellsOf e:=by unfold Addr.add;split<;>simp_all
        rw[eb]at hb';rw[hblk]at hb';cases hb';rw[eo]at hcc;exact⟨by simp_all,at_old hblk m1 hcc k2⟩
      grind [jC.mk]
     grind [cG,List.mem_iff_getElem?]
  | struct fs=>
   rw[hu]at hp;obtain⟨hf,ht⟩:=hp;obtain⟨xs,m,hm,rfl,hlen,hxs,hel⟩:=DataW.trod_struct hu h;obtain rfl:n=m:=by omega
   simp only[DataW.weights,hu]at hw;have hel1:∀i,i<fs.toList.length->∃p:D,∀f,fs.toList[i]?=some f->Has w.heap.size ((cs.drop f.offset).take (P.cellsOf f.type))/\RD (yJ w) p (((cs.drop f.offset).take (P.cellsOf f.type)).map (av w.heap.size))/\cG P n f.type p:=by
    intro i hi;have hi':i<fs.size:=by omega
    obtain⟨f,hfi⟩:∃f,fs.toList[i]?=some f:=⟨fs.toList[i],ybd hi⟩;have:=hel i f (by simp_all);obtain⟨y,hy⟩:∃y,xs[i]?=some y:=⟨xs[i]'(by omega),ybd (by omega)⟩;rw[hy]at this;obtain⟨g1,d,g2,g3⟩:=ih f.type _ y (hf f (ycv hfi)) this (Zw hw (i:=i) (by simp_all) (by simp_all));refine⟨d,fun f' hf'=>?_⟩
    simp_all
   obtain⟨l,hl,hq⟩:=LV fs.toList.length hel1;have hfl:=AM (cs:=cs) (P:=P) (fs:=fs.toList) (off:=0) (by simp_all);rw[ycr]at hfl;refine⟨fun v hv=>?_,.st l,?_,?_⟩
   ·rw[<- hfl]at hv;obtain⟨part,hpart,hv⟩:=List.mem_flatten.1 hv;obtain⟨f,hfm,rfl⟩:=yaq.1 hpart;obtain⟨i,hi⟩:=List.mem_iff_getElem?.1 hfm;have hi':i<fs.toList.length:=(ybc.1 hi).1;exact(hq i (l[i]'(by omega)) (ybd (by omega)) f hi).1 v hv
   all_goals grind [nJ,jC.mk,cG,NS]
  | _=>rw[hu]at hp;exact hp.elim
end
end Go.Am
namespace Go.Am
open Go Go.RowKit
structure Rv (P:Program) where
 (b i u8 u16 s limbs whole frac val expr exprs row rows table tables dfn dfns clause clauses plan:TypeId)
 hb:P.underlying b=some .bool
 hi:P.underlying i=some (.int .i64)
 hu8:P.underlying u8=some (.int .u8)
 hu16:P.underlying u16=some (.int .u16)
 hs:P.underlying s=some .string
 hlimbs:P.underlying limbs=some (.slice u16)
 hexprs:P.underlying exprs=some (.slice expr)
 hrows:P.underlying rows=some (.slice row)
 htables:P.underlying tables=some (.slice table)
 hdfns:P.underlying dfns=some (.slice dfn)
 hclauses:P.underlying clauses=some (.slice clause)
 hwhole:∃fs,P.underlying whole=some (.struct fs)/\fs.toList.map (·.type)=[b,limbs]
 hfrac:∃fs,P.underlying frac=some (.struct fs)/\fs.toList.map (·.type)=[whole,whole]
 hval:∃fs,P.underlying val=some (.struct fs)/\fs.toList.map (·.type)=[u8,frac,i]
 hexpr:∃fs,P.underlying expr=some (.struct fs)/\fs.toList.map (·.type)=[u8,s,val,exprs]
 hrow:∃fs,P.underlying row=some (.struct fs)/\fs.toList.map (·.type)=[i,i,i,frac]
 htable:∃fs,P.underlying table=some (.struct fs)/\fs.toList.map (·.type)=[s,b,rows]
 hdfn:∃fs,P.underlying dfn=some (.struct fs)/\fs.toList.map (·.type)=[s,u8,b]
 hclause:∃fs,P.underlying clause=some (.struct fs)/\fs.toList.map (·.type)=[s,s,i,i,i,b,expr,expr]
 hplan:∃fs,P.underlying plan=some (.struct fs)/\fs.toList.map (·.type)=[s,dfns,tables,clauses]
 cu16:P.cellsOf u16=1
 cexpr:P.cellsOf expr=9
 crow:P.cellsOf row=7
 ctable:P.cellsOf table=3
 cdfn:P.cellsOf dfn=3
 cclause:P.cellsOf clause=24
 bytes:1<=P.bytesOf u16/\1<=P.bytesOf expr/\1<=P.bytesOf row/\1<=P.bytesOf table/\1<=P.bytesOf dfn/\1<=P.bytesOf clause
section
variable {P:Program}{f:Nat}{t:TypeId}{x:D}
theorem Ih(h:cG P f t x):∃g,f=g+1:=by
 cases f with
 | zero=>exact h.elim
 | succ g=>simp_all
theorem Mi(ht:P.underlying t=some .bool)(h:cG P f t x):∃b,x=.bool b:=by
 grind [Ih,cG]
theorem Sh{k:IntKind}(ht:P.underlying t=some (.int k))(h:cG P f t x):∃n,x=.int k n/\(Lit.int k n).wf=true:=by
 grind [Ih,cG]
def Bh(ht:P.underlying t=some (.int .i64))(h:cG P f t x):∃n,x=.int .i64 n/\i64 n:=by
 obtain⟨n,rfl,hn⟩:=Sh ht h;simp only[Lit.wf,ybb,decide_eq_true_eq]at hn;have h1:IntKind.i64.min = -9223372036854775808:=rfl;have h2:IntKind.i64.max=9223372036854775807:=rfl;rw[h1,h2]at hn;exact⟨n,rfl,hn.1,by omega⟩
def Sg(ht:P.underlying t=some (.int .u8))(h:cG P f t x):∃n:Nat,x=.int .u8 (n:Int)/\n<256:=by
 obtain⟨n,rfl,hn⟩:=Sh ht h;simp only[Lit.wf,ybb,decide_eq_true_eq]at hn;have h1:IntKind.u8.min=0:=rfl;have h2:IntKind.u8.max=255:=rfl;rw[h1,h2]at hn;exact⟨n.toNat,by rw[show((n.toNat:Nat):Int)=n by omega],by omega⟩
def PD(ht:P.underlying t=some (.int .u16))(h:cG P f t x):∃n:Nat,x=.int .u16 (n:Int)/\n<65536:=by
 obtain⟨n,rfl,hn⟩:=Sh ht h;simp only[Lit.wf,ybb,decide_eq_true_eq]at hn;have h1:IntKind.u16.min=0:=rfl;have h2:IntKind.u16.max=65535:=rfl;rw[h1,h2]at hn;exact⟨n.toNat,by rw[show((n.toNat:Nat):Int)=n by omega],by omega⟩
theorem Dx(ht:P.underlying t=some .string)(h:cG P f t x):∃l:List Nat,x=.str l/\l.length<pE/\∀c∈l,c<256:=by
 grind [Ih,cG,reachBytes,pE]
theorem Dy{e:TypeId}{sz:Nat}(ht:P.underlying t=some (.slice e))(hc:P.cellsOf e=sz)(hb:1<=P.bytesOf e)(h:cG P f t x):∃(l:List D) (g:Nat),f=g+1/\x=.sl sz l/\l.length<pE/\∀y∈l,cG P g e y:=by
 obtain⟨g,rfl⟩:=Ih h;unfold cG at h;rw[ht]at h;obtain⟨l,h1,h2,h3⟩:=h;have:l.length<=l.length*P.bytesOf e:=Nat.le_mul_of_pos_right _ hb
 grind [reachBytes,pE]
theorem eC.ofMap{α β γ:Type}{k:α->γ}{R:γ->β->Prop}:∀ {l:List α} {m:List β},eC (fun a b=>R (k a) b) l m->eC R (l.map k) m
 | [],_,.nil=>.nil
 | _::_,_::_,.cons h r=>.cons h (eC.ofMap r)
theorem qW{ts:List TypeId}(ht:∃fs,P.underlying t=some (.struct fs)/\fs.toList.map (·.type)=ts)(h:cG P f t x):∃(l:List D) (g:Nat),f=g+1/\x=.st l/\eC (fun t y=>cG P g t y) ts l:=by
 obtain⟨fs,ht,rfl⟩:=ht;obtain⟨g,rfl⟩:=Ih h
 grind [cG,eC.ofMap]
theorem eC.cons_inv{α β:Type}{R:α->β->Prop}{a:α}{l:List α}{m:List β}(h:eC R (a::l) m):∃b r,m=b::r/\R a b/\eC R l r:=by
 cases h with
 | cons h1 h2=>grind
def eC.nil_inv{α β:Type}{R:α->β->Prop}{m:List β}(h:eC R ([]:List α) m):m=[]:=by
 cases h;rfl
theorem Cd{α β:Type}{g:α->β}{Q:α->Prop}:∀ {l:List β},(∀y∈l,∃a,y=g a/\Q a)->∃m:List α,l=m.map g/\∀a∈m,Q a
 | [],_=>⟨[],rfl,fun _ h=>by cases h⟩
 | y::l,h=>by
  obtain⟨a,h1,h2⟩:=h y (by simp);obtain⟨m,h3,h4⟩:=Cd (l:=l) fun z hz=>h z (ybr _ hz);exact⟨a::m,by grind,fun b hb=>by
   grind⟩
end
namespace Rv
section
variable {P:Program}(A:Rv P){f:Nat}{x:D}
theorem dWhole(h:cG P f A.whole x):∃w:lF,x=w.d/\w.limbs.length<pE/\qB 65536 w.limbs:=by
 obtain⟨l,g,rfl,rfl,k⟩:=qW A.hwhole h;obtain⟨d1,r,rfl,h1,k⟩:=k.cons_inv;obtain⟨d2,r,rfl,h2,k⟩:=k.cons_inv;obtain rfl:=k.nil_inv;obtain⟨b,rfl⟩:=Mi A.hb h1;obtain⟨l,g,rfl,rfl,hl,hm⟩:=Dy A.hlimbs A.cu16 A.bytes.1 h2;obtain⟨m,rfl,hq⟩:=Cd (g:=fun n:Nat=>D.int .u16 (n:Int)) (Q:=fun n=>n<65536) fun y hy=>PD A.hu16 (hm y hy);exact⟨⟨b,m⟩,rfl,by simp_all,hq⟩
def dFrac(h:cG P f A.frac x):∃w:dC,x=w.dd/\w.fit:=by
 obtain⟨l,g,rfl,rfl,k⟩:=qW A.hfrac h;obtain⟨d1,r,rfl,h1,k⟩:=k.cons_inv;obtain⟨d2,r,rfl,h2,k⟩:=k.cons_inv;obtain rfl:=k.nil_inv;obtain⟨a,rfl,a1,a2⟩:=A.dWhole h1;obtain⟨b,rfl,b1,b2⟩:=A.dWhole h2;exact⟨⟨a,b⟩,rfl,⟨a1,b1⟩,a2,b2⟩
def dVal(h:cG P f A.val x):∃w:lE,x=w.d/\w.fit:=by
 obtain⟨l,g,rfl,rfl,k⟩:=qW A.hval h;obtain⟨d1,r,rfl,h1,k⟩:=k.cons_inv;obtain⟨d2,r,rfl,h2,k⟩:=k.cons_inv;obtain⟨d3,r,rfl,h3,k⟩:=k.cons_inv;obtain rfl:=k.nil_inv;obtain⟨kk,rfl,hk⟩:=Sg A.hu8 h1;obtain⟨q,rfl,hq⟩:=A.dFrac h2;obtain⟨n,rfl,hn⟩:=Bh A.hi h3;exact⟨⟨kk,q,n⟩,rfl,hk,hq,hn.1,hn.2⟩
theorem JU:∀ {l:List sA},(∀x∈l,x.fit)->sA.fits l
 | [],_=>by grind [sA.fits]
 | x::l,h=>by unfold sA.fits;exact⟨h x (by simp),JU fun y hy=>h y (ybr _ hy)⟩
theorem dExpr:∀(f:Nat) (x:D),cG P f A.expr x->∃w:sA,x=w.d/\w.fit:=by
 intro f;induction f using Nat.strongRecOn with
 | _ f ih=>
 intro x h;obtain⟨l,g,rfl,rfl,k⟩:=qW A.hexpr h;obtain⟨d1,r,rfl,h1,k⟩:=k.cons_inv;obtain⟨d2,r,rfl,h2,k⟩:=k.cons_inv;obtain⟨d3,r,rfl,h3,k⟩:=k.cons_inv;obtain⟨d4,r,rfl,h4,k⟩:=k.cons_inv;obtain rfl:=k.nil_inv;obtain⟨kk,rfl,hk⟩:=Sg A.hu8 h1;obtain⟨n,rfl,hn,hn'⟩:=Dx A.hs h2;obtain⟨v,rfl,hv⟩:=A.dVal h3;obtain⟨l,g',rfl,rfl,hl,hm⟩:=Dy A.hexprs A.cexpr A.bytes.2.1 h4;obtain⟨m,rfl,hq⟩:=Cd (g:=sA.d) (Q:=sA.fit) fun y hy=>ih g' (by omega) y (hm y hy)
 refine⟨.mk kk n v m,?_,?_⟩
 all_goals grind [sA.d,sA.ds_eq,sA.fit,JU]
def dRow(h:cG P f A.row x):∃w:oE,x=w.d/\w.fit:=by
 obtain⟨l,g,rfl,rfl,k⟩:=qW A.hrow h;obtain⟨d1,r,rfl,h1,k⟩:=k.cons_inv;obtain⟨d2,r,rfl,h2,k⟩:=k.cons_inv;obtain⟨d3,r,rfl,h3,k⟩:=k.cons_inv;obtain⟨d4,r,rfl,h4,k⟩:=k.cons_inv;obtain rfl:=k.nil_inv;obtain⟨a,rfl,ha⟩:=Bh A.hi h1;obtain⟨b,rfl,hb⟩:=Bh A.hi h2;obtain⟨c,rfl,hc⟩:=Bh A.hi h3;obtain⟨q,rfl,hq⟩:=A.dFrac h4;exact⟨⟨a,b,c,q⟩,rfl,ha,hb,hc,hq⟩
theorem dTable(h:cG P f A.table x):∃w:wD,x=w.d/\w.fit:=by
 obtain⟨l,g,rfl,rfl,k⟩:=qW A.htable h;obtain⟨d1,r,rfl,h1,k⟩:=k.cons_inv;obtain⟨d2,r,rfl,h2,k⟩:=k.cons_inv;obtain⟨d3,r,rfl,h3,k⟩:=k.cons_inv;obtain rfl:=k.nil_inv;obtain⟨n,rfl,hn,_⟩:=Dx A.hs h1;obtain⟨b,rfl⟩:=Mi A.hb h2;obtain⟨l,g',rfl,rfl,hl,hm⟩:=Dy A.hrows A.crow A.bytes.2.2.1 h3;obtain⟨m,rfl,hq⟩:=Cd (g:=oE.d) (Q:=oE.fit) fun y hy=>A.dRow (hm y hy);exact⟨⟨n,b,m⟩,rfl,hn,by simp_all,hq⟩
def dDef(h:cG P f A.dfn x):∃w:nE,x=w.d/\w.fit:=by
 obtain⟨l,g,rfl,rfl,k⟩:=qW A.hdfn h;obtain⟨d1,r,rfl,h1,k⟩:=k.cons_inv;obtain⟨d2,r,rfl,h2,k⟩:=k.cons_inv;obtain⟨d3,r,rfl,h3,k⟩:=k.cons_inv;obtain rfl:=k.nil_inv;obtain⟨n,rfl,hn,_⟩:=Dx A.hs h1;obtain⟨kk,rfl,hk⟩:=Sg A.hu8 h2;obtain⟨b,rfl⟩:=Mi A.hb h3;exact⟨⟨n,kk,b⟩,rfl,hn,hk⟩
def dClause(h:cG P f A.clause x):∃w:dD,x=w.d/\w.fit:=by
 obtain⟨l,g,rfl,rfl,k⟩:=qW A.hclause h;obtain⟨d1,r,rfl,h1,k⟩:=k.cons_inv;obtain⟨d2,r,rfl,h2,k⟩:=k.cons_inv;obtain⟨d3,r,rfl,h3,k⟩:=k.cons_inv;obtain⟨d4,r,rfl,h4,k⟩:=k.cons_inv;obtain⟨d5,r,rfl,h5,k⟩:=k.cons_inv;obtain⟨d6,r,rfl,h6,k⟩:=k.cons_inv;obtain⟨d7,r,rfl,h7,k⟩:=k.cons_inv;obtain⟨d8,r,rfl,h8,k⟩:=k.cons_inv;obtain rfl:=k.nil_inv;obtain⟨n,rfl,hn,_⟩:=Dx A.hs h1;obtain⟨l,rfl,hl,_⟩:=Dx A.hs h2
 obtain⟨a,rfl,ha⟩:=Bh A.hi h3;obtain⟨b,rfl,hb⟩:=Bh A.hi h4;obtain⟨c,rfl,hc⟩:=Bh A.hi h5;obtain⟨o,rfl⟩:=Mi A.hb h6;obtain⟨w,rfl,hw⟩:=A.dExpr _ _ h7;obtain⟨v,rfl,hv⟩:=A.dExpr _ _ h8;exact⟨⟨n,l,a,b,c,o,w,v⟩,rfl,hn,hl,ha,hb,hc,hw,hv⟩
theorem dPlan(h:cG P f A.plan x):∃w:qD,x=w.d/\w.fit:=by
 obtain⟨l,g,rfl,rfl,k⟩:=qW A.hplan h;obtain⟨d1,r,rfl,h1,k⟩:=k.cons_inv;obtain⟨d2,r,rfl,h2,k⟩:=k.cons_inv;obtain⟨d3,r,rfl,h3,k⟩:=k.cons_inv;obtain⟨d4,r,rfl,h4,k⟩:=k.cons_inv;obtain rfl:=k.nil_inv;obtain⟨n,rfl,hn,_⟩:=Dx A.hs h1;obtain⟨l2,g2,rfl,rfl,hl2,hm2⟩:=Dy A.hdfns A.cdfn A.bytes.2.2.2.2.1 h2;obtain⟨l3,g3,_,rfl,hl3,hm3⟩:=Dy A.htables A.ctable A.bytes.2.2.2.1 h3
 obtain⟨l4,g4,_,rfl,hl4,hm4⟩:=Dy A.hclauses A.cclause A.bytes.2.2.2.2.2 h4;obtain⟨m2,rfl,hq2⟩:=Cd (g:=nE.d) (Q:=nE.fit) fun y hy=>A.dDef (hm2 y hy);obtain⟨m3,rfl,hq3⟩:=Cd (g:=wD.d) (Q:=wD.fit) fun y hy=>A.dTable (hm3 y hy);obtain⟨m4,rfl,hq4⟩:=Cd (g:=dD.d) (Q:=dD.fit) fun y hy=>A.dClause (hm4 y hy);exact⟨⟨n,m2,m3,m4⟩,rfl,⟨hn,by simp_all,by simp_all,by simp_all,hq2,hq3,hq4⟩⟩
end
end Rv
end Go.Am
namespace Go.Am
open Go Go.RowKit Go.Proofs
theorem TC[lC](B N:Nat)(hb:B<=256+lC.n):An Tryz.prog yA B N aG:=by
 intro f g hg args H v H' hv μ w args' hH hI hl;have hg:Vp.get f=some g:=hg;unfold Vp at hg;rcases qN hg with⟨rfl,rfl⟩ | hg
 ·grind [zV,EL]
 rcases qN hg with⟨rfl,rfl⟩ | hg
 ·exact .inr (EI hb hH hv hl)
 rcases qN hg with⟨rfl,rfl⟩ | hg
 ·exact .inr (EM hb hH hv hl)
 rcases qN hg with⟨rfl,rfl⟩ | hg
 ·grind [zV,EH]
 rcases qN hg with⟨rfl,rfl⟩ | hg
 ·grind [zV,EJ]
 rcases qN hg with⟨rfl,rfl⟩ | hg
 all_goals grind [zV,TF,Tr.get_leaf]
def sim24[lC](hN:5<=lC.n):lI Tryz.prog yA (256+lC.n) lC.n aG:=
 ⟨Ig rfl,Gc rfl,TC _ _ (ybk _),ybk _,by kernel_rfl,fun _ _ hb h=>h.below hN hb⟩
section
variable {w:World}
theorem zhc{b:Nat}{y:qA}(h:(yJ w).get b=some y):b<256+w.heap.size:=by
 grind [yJ,xU]
def PH(hL:aG w)(f:Nat)(args:List zA)(args':Array Value)(hp:∀ [lC],yA.prims.get f=none)(hl:lB (muW w) args args'.toList)
  (h:∀ [lC],∃Q:aB,Wc yA F f args (yJ w) Q/\∀v t,Q v t->v=.bool true) (hf:Nat.blt f yo=true:=by rfl) :
  Calls Tryz.prog f args' w fun e w'=>e=.returned (.bool true)/\Below w.heap.size w w':=by
 letI:lC:=⟨w.heap.size⟩
 obtain⟨Q,h1,h2⟩:=h;refine(YW (H:=⟨256+w.heap.size,yJ w⟩) (sim24 hL.size) hL zi3 hp (ybk _) (fun b y hb=>zhc hb) hrelW hl h1 hf).mono fun e w' ⟨v,v',t',μ',g1,g2,g3,g4,g5⟩=>?_;have:=h2 v t' g4;subst this;rw[vA]at g3;exact⟨by rw[g1,g3],g5⟩
theorem zih(h:aG w):∀ [lC],pL (yJ w):=by
 intro _;obtain⟨t,h⟩:=h.lens;have hb:=(ybe.1 h).1;have e:(yJ w).get 3=some (.cells (aW (fun j=>((kZ gP).toArray[j]?).bind (kR w.heap.size)) (kZ gP).toArray.size) (kZ gP).toArray.size none):=by
  unfold yJ;rw[xU,yab (by omega),yab (by omega),h];rfl
 refine⟨_,_,_,e,fun j a ha=>?_⟩
 grind [xU,Ch,gP,kZ,kR]
theorem Xy(h:aG w):∀ [lC],sQ (yJ w):=by
 intro _;obtain⟨t,h⟩:=h.modes;have hb:=(ybe.1 h).1;have e:(yJ w).get 0=some (.cells (aW (fun j=>((oW tO).toArray[j]?).bind (kR w.heap.size)) (oW tO).toArray.size) (oW tO).toArray.size none):=by
  unfold yJ;rw[xU,yab (by omega),yab (by omega),h];rfl
 refine⟨_,_,_,e,fun j a ha=>?_⟩;rw[xU,ybw];have hj:j<vV.length:=by
  grind
 rw[ybu]at ha;have hL:vV=tO.map fun b=>b.map UInt8.toNat:=rfl;rw[hL]at ha hj;rw[ybu]at ha
 cases hbt:tO[j]? with
 | none=>simp_all
 | some b=>
  rw[hbt]at ha;obtain rfl:=yci ha;rw[yab (by grind [oW])];simp only[oW,List.getElem?_toArray,ybu,hbt,Option.map_some,yai,kR];rfl
theorem zie{cs:List Value}(h:Has w.heap.size cs):lB (muW w) (cs.map (av w.heap.size)) cs:=by
 induction cs with
 | nil=>exact .nil
 | cons v l ih=>exact .cons (NN (h v (by simp))) (ih fun u hu=>h u (ybr _ hu))
theorem EQ{cs:Array Value}(h:Has w.heap.size cs.toList):vA (muW w) (.agg (cs.toList.map (av w.heap.size))) (.agg cs):=by
 grind [vA,zie]
end
end Go.Am
namespace Go.Am
open Go Go.RowKit Go.ChangeShapes Go.WideShapes Go.ChangeAt
section
variable {H:Type}{enc:TypeId × Value->H}{P:Program}
def AI(hl:laidOutB P=true){W W':World}(hb:Below W.heap.size W W'):∀ {ts:List TypeId} {vs:List Value} {ds:List (DataW H)} {ps:List MemPlace},(∀t∈ts,P.readableRec t=true/\t<P.types.size) →
  DataW.TrodAll enc P W 0 (fun _=>true) true ts vs ds ps->(∀x∈ps,x.block<W.heap.size)->DataW.TrodAll enc P W' 0 (fun b=>decide (b<W.heap.size)) true ts vs ds ps
 | [],[],[],_,_,h,_=>h
 | t::ts,_::_,_::_,_,ht,⟨p,q,h1,h2,e⟩,hs=>by
  subst e;exact⟨p,q,Below.trod hl (ht t (by simp)).1 (ht t (by simp)).2 h1 hb fun x hx=>hs x (ydc _ hx),
   AI hl hb (fun t ht'=>ht t (ybr _ ht')) h2 fun x hx=>hs x (ycf _ hx),rfl⟩
 | [],_::_,_,_,_,h,_=>by simp[DataW.TrodAll]at h
 | [],[],_::_,_,_,h,_=>by simp[DataW.TrodAll]at h
 | _::_,[],_,_,_,h,_=>by simp[DataW.TrodAll]at h
 | _::_,_::_,[],_,_,h,_=>by simp[DataW.TrodAll]at h
theorem law_post(hl:laidOutB P=true){f:Func}{s:ChangeSpec}{tb:TypeId}(hp:∀t∈f.params.toList,P.readableRec t=true/\t<P.types.size)(hv:s.vars=[])(hres:f.resultTypes = #[tb])(htb:P.underlying tb=some .bool)
  {W W':World} {args:Array Value} {ds gs:List (DataW H)} {before:List MemPlace} (hfn:s.fn H ds={ results:=[.lit (.bool true)],args:=ds })
  (hW:DataW.Whole enc P f.params.toList s.vars false W args.toList ds gs before) (hb:Below W.heap.size W W') :
  s.post enc P f false true false false W args (.bool true) W':=by
 have hW0:=hW;obtain⟨p,q,hA,hV,rfl,hfz,hnd⟩:=hW;rw[hv]at hV;obtain⟨rfl,rfl⟩:=trodVars_none hV;refine⟨ds,[],p++[],[],p,[],hW0,?_,?_,?_,hb.frame _,fun h=>by cases h⟩
 ·rw[ycd,hfn,hres];exact trodAll_mk1 (shut_bool htb _)
 ·rw[ycd,hfn];exact AI hl hb hp hA fun x hx=>hW0.lt x (by simp_all)
 ·rw[ycd,hfn,hv];exact rfl
theorem ZZ{a:Assume}{C:Checked}{os:Os}{f:FuncId}{fn:Func}{s:ChangeSpec}{conds:List PathCond}{apart fresh handsOn again:Bool}{X:World->Array Value->Prop}
  (hX:∀(w w':World) (args:Array Value),w.heap=w'.heap->X w args->X w' args)
  (own:ownKnob C.prog.godebug=none) (started:os.Started) (noInit:C.prog.inits.idxOf? f=none) (hfn:C.prog.funcs[f]?=some fn)
  (witness:∃(w:World) (tape:Tape) (i:Input),w.os=os/\(w.forCall tape i).Shaped C.prog/\i.vars=[]/\Input.okWide C.prog (w.forCall tape i) .any w.heap.size f i ∧
   ((s.pre enc C.prog fn conds apart (w.forCall tape i).memory i.args/\X (w.forCall tape i).memory i.args)/\sizedMet enc C.prog fn (OpenSpec.ofChange s) apart (w.forCall tape i).memory i.args)/\a.holds C.prog (lone (Frame.enter C.prog f i.args .normal) [] (w.forCall tape i)))
  (contract:∀(W:World) (base:Nat) (args:Array Value) (ds gs:List (DataW H)) (before:List MemPlace),
   (∀(j:Nat) t v,fn.params[j]?=some t->args[j]?=some v->Value.okWide C.prog W .any base t v) →
   DataW.Whole enc C.prog fn.params.toList s.vars apart W args.toList ds gs before →
   (DataW.weightsEach C.prog (fn.params.toList++s.plain.varTypes C.prog) (ds++gs)).all (· <= reachBytes)=true->X W args->W.ShapedOpen C.prog →
   Calls C.prog f args W fun e W'=>∃v,e=.returned v/\s.post enc C.prog fn apart fresh handsOn again W args v W') :
  ReturnsInHanded a C os f .any (fun w args=>(s.pre enc C.prog fn conds apart w args/\X w args)/\sizedMet enc C.prog fn (OpenSpec.ofChange s) apart w args) (s.post enc C.prog fn apart fresh handsOn again):=by
 refine returnsInHanded_of_calls own started noInit witness ?_;intro w tape i _ hsh _ hok hpre _;obtain⟨_,_,_,fn',hfn',_,_,_,_,hval⟩:=hok;have e:fn'=fn:=yci (hfn'.symm.trans hfn);subst e;obtain⟨⟨⟨ds,gs,before,hw,hc⟩,hx⟩,hz⟩:=hpre;have hw':=DataW.Whole.of_heap (w':=w.forCall tape i) (by rfl) hw;refine(contract (w.forCall tape i) w.heap.size i.args ds gs before hval hw' (hz.weights hw) (hX _ _ _ (by rfl) hx) hsh).mono fun e W' ⟨v,he,hp⟩=>?_
 grind [ChangeSpec.post_blind]
variable {w:World}{base:Nat}{spare:Nat->Bool}{held:Bool}{fuel:Nat}{t e:TypeId}{cs:List Value}{ps:List MemPlace}
theorem Zg{α:Type}{g:α->DataW H}{u:α->Value}{l:List α}{n:Nat}(ht:P.underlying t=some (.array n e))(hc:P.cellsOf e=1)(hn:P.cellsOf t=n)
  (h1:∀(m:Nat) (c:List Value) (x:DataW H × List MemPlace) (a:α),DataW.trod enc P w base spare held m e c=some x->x.1=g a->c=[u a])
  (h:DataW.trod enc P w base spare held fuel t cs=some (.agg (l.map g),ps)):cs=l.map u:=by
 obtain⟨xs,m,_,hx,hlen,hxs,hel⟩:=DataW.trod_array ht h;simp only[Prod.mk.injEq,DataW.agg.injEq]at hx;have hl:l.length=n:=by have:=congrArg List.length hx.1;grind
 rw[hn]at hlen;refine List.ext_getElem (by rw[hlen,ybf,hl]) fun i hi1 hi2=>?_;have hi:i<n:=by omega
 have:=hel i hi;rw[hc]at this;have hc1:((cs.drop (i*1)).take 1)=[cs[i]]:=by
  grind [List.drop_eq_getElem_cons]
 rw[hc1,ybd (by omega)]at this;have hxi:xs[i].1=g (l[i]'(by omega)):=by
  have:=congrArg (fun z=>z[i]?) hx.1
  grind
 grind
def za1(he:P.underlying e=some .string)(m:Nat)(c:List Value)(x:DataW H × List MemPlace)(b:List UInt8)(h:DataW.trod enc P w base spare held m e c=some x)(hx:x.1=.lit (.string b)):c=[.string ⟨b.toArray⟩]:=by
 obtain⟨s,rfl,rfl,_⟩:=DataW.trod_string he h;simp at hx;rw[<- hx]
def zcl(he:P.underlying e=some (.int .i64))(m:Nat)(c:List Value)(x:DataW H × List MemPlace)(n:Int)(h:DataW.trod enc P w base spare held m e c=some x)(hx:x.1=.lit (.int .i64 n)):c=[.int .i64 n]:=by
 obtain⟨k,rfl,rfl,_⟩:=DataW.trod_int he h;simp at hx;rw[hx]
end
theorem joined_of{P:Program}{f:FuncId}{fn:Func}{s:ChangeSpec}{c:OpenClaim}
  (A:(c.wf (OpenSpec.ofChange s)&&laidOutB P&&mapsRowed P&&fn.params.all (P.readableRec ·)&&namedTie P c.named s.vars&&(c.stops == [])&&(P.stops == [])&&(c.knobs == [])&&(P.stopKnobs == []))=true)
  (h1:(c.inPlace == P.inPlace f)=true) (h2:(c.unfollowed == P.unfollowed f)=true) (h3:(c.recurses == P.recurses f)=true) (h4:(c.named == P.varsNamed f)=true)
  (E:((c.maps == (fn.params.toList++s.plain.varTypes P).any (P.mapsRec ·))&&(c.ifaces == (fn.params.toList++s.plain.varTypes P).any (P.ifacesRec ·))&&(c.mapsOut == P.mapsAmong fn.resultTypes.toList) &&
   (c.loops == (fn.params.toList++s.plain.varTypes P).any (P.loopsFrom ·))&&(c.wideKeys == (fn.params.toList++s.plain.varTypes P++fn.resultTypes.toList).any (P.wideKeysFrom ·)) &&
   s.vars.all (P.varReadable ·)&&fn.resultTypes.all (fun t=>P.readableRec t&&decide (t<P.types.size))&&(c.ifacesOut == fn.resultTypes.toList.any (P.ifacesRec ·))&&(c.loopsOut == fn.resultTypes.toList.any (P.loopsFrom ·))&&c.shortTexts.isNone)=true)
  (h5:(c.plainKeys == P.plainKeys)=true) (h6:P.stopsHeard=true) (h7:P.mayEnter=true) (h8:(c.lifted == P.liftsFinal)=true)
  (R:((P.make == some c.make)&&(c.kinds == (if c.domain.isEmpty then []else fn.params.toList.map fun t=>match P.underlying t with | some (.int k)=>some k | _=>none))&&(c.pinned == c.pinnedBy) &&
   (c.veiled == (fn.params.toList++s.plain.varTypes P++fn.resultTypes.toList).any (P.veiledRec ·))&&c.veiledFits P fn.params.toList (fn.params.toList++s.plain.varTypes P++fn.resultTypes.toList))=true) :
  joinedFacts P f fn s c=true:=by
 unfold joinedFacts;simp only[ybb]at A E R ⊢
 grind
end Go.Am
namespace Go.Proofs.YtfofhjofkodoeaaGreatDoor
open Go Go.Am Go.RowKit Go.ChangeShapes Go.WideShapes Go.ChangeAt
theorem own:ownKnob Tryz.prog.godebug=none:=by kernel_rfl
def laidOut:laidOutB Tryz.prog=true:=by kernel_rfl
def gPow : Tryz.prog.globalNamed "internal/strconv.uint64pow10" = some 4 := by kernel_rfl
def gLens : Tryz.prog.globalNamed "annuitant/calendar.lengths" = some 3 := by kernel_rfl
def gModes : Tryz.prog.globalNamed "annuitant/parse.modeWords" = some 0 := by kernel_rfl
def tPow:(Tryz.prog.globals[4]?).map (·.type)=some 312:=by kernel_rfl
def tLens:(Tryz.prog.globals[3]?).map (·.type)=some 300:=by kernel_rfl
def tModes:(Tryz.prog.globals[0]?).map (·.type)=some 266:=by kernel_rfl
def laid5 : List (String × DataW Unit) := [("math/bits.deBruijn32tab", Rows.laid_math_bits_deBruijn32tab), ("math/bits.deBruijn64tab", Rows.laid_math_bits_deBruijn64tab), ("internal/strconv.uint64pow10", Rows.laid_internal_strconv_uint64pow10), ("annuitant/calendar.lengths", Rows.laid_annuitant_calendar_lengths), ("annuitant/parse.modeWords", Rows.laid_annuitant_parse_modeWords)]
def door_met(os:Os)(args:Array Value):laidMetH Tryz.prog laid5 ((World.doorLaid Tryz.prog 100 os).forCall (fun _ _=>0) ⟨#[],args,[]⟩).memory:=
 laidMetH_of_parts3 (fuel:=8) (laidMet_of_run' 8 (by kernel_rfl) (by kernel_rfl)) (by kernel_rfl) (by kernel_rfl)
def Ry{W:World}{n:String}{g:Nat}{cs:Array Value}(hg:Tryz.prog.globalNamed n=some g)(hv:W.var? Tryz.prog n=some cs)(hc:∃c t,W.heap[g]?=some (.cells c t (0,0))):∃t,W.heap[g]?=some (.cells cs t (0,0)):=by
 grind [World.var?]
def Uw{g n:Nat}{p q:List MemPlace}(h:0<n):MemPlace.cell g 0∈MemPlace.row ⟨g,0,none⟩ n++p++q:=
 ydc _ (ydc _ (yaq.2 ⟨0,List.mem_range.2 h,rfl⟩))
def zhq:Rows.laid_internal_strconv_uint64pow10 (H:=Unit)=.agg (dW.map fun n=>.lit (.int .u64 n)):=by kernel_rfl
def zce:Rows.laid_annuitant_calendar_lengths (H:=Unit)=.agg (gP.map fun n=>.lit (.int .i64 n)):=by kernel_rfl
def VH:Rows.laid_annuitant_parse_modeWords (H:=Unit)=.agg (tO.map fun b=>.lit (.string b)):=by kernel_rfl
def zat{H:Type}{enc:TypeId × Value->H}{P:Program}{w:World}{base:Nat}{spare:Nat->Bool}{held:Bool}{e:TypeId}(he:P.underlying e=some (.int .u64))(m:Nat)(c:List Value)(x:DataW H × List MemPlace)(n:Int)(h:DataW.trod enc P w base spare held m e c=some x)(hx:x.1=.lit (.int .u64 n)):c=[.int .u64 n]:=by
 obtain⟨k,rfl,rfl,_⟩:=DataW.trod_int he h;simp at hx;rw[hx]
def laid_of{W:World}(h:laidMetH Tryz.prog laid5 W)(hsh:W.ShapedOpen Tryz.prog):aG W:=by
 rw[MakeChecks.laidMetH_plain _ _ _ (by kernel_rfl)]at h;obtain⟨ps,⟨_,_,_,_,_,_,_,_,_,_,⟨_,_,_,_,_,_,_,_,_,_,⟨g0,t0,cs0,f0,p0,q0,hg0,ht0,hv0,hd0,⟨g1,t1,cs1,f1,p1,q1,hg1,ht1,hv1,hd1,⟨g3,t3,cs3,f3,p3,q3,hg3,ht3,hv3,hd3,_,hp3⟩,hp1⟩,hp0⟩,hpb⟩,hpa⟩,_,hcell⟩:=h;obtain rfl:=yci (gPow.symm.trans hg0);obtain rfl:=yci (gLens.symm.trans hg1);obtain rfl:=yci (gModes.symm.trans hg3);obtain rfl:=yci (tPow.symm.trans ht0)
 obtain rfl:=yci (tLens.symm.trans ht1);obtain rfl:=yci (tModes.symm.trans ht3);have c3:Tryz.prog.cellsOf 3=1:=by kernel_rfl
 have c9:Tryz.prog.cellsOf 9=1:=by kernel_rfl
 have c244:Tryz.prog.cellsOf 244=1:=by kernel_rfl
 have c312:Tryz.prog.cellsOf 312=20:=by kernel_rfl
 have c300:Tryz.prog.cellsOf 300=12:=by kernel_rfl
 have c266:Tryz.prog.cellsOf 266=7:=by kernel_rfl
 rw[zhq]at hd0;rw[zce]at hd1;rw[VH]at hd3;have e0:cs0.toList=u64s dW:=Zg (l:=dW) (g:=fun n=>.lit (.int .u64 n)) (u:=fun n=>.int .u64 n) Tryz.underlying312 c244 c312 (fun m c x a=>zat Tryz.underlying244 m c x a) hd0;have e1:cs1.toList=kZ gP:=Zg (l:=gP) (g:=fun n=>.lit (.int .i64 n)) (u:=fun n=>.int .i64 n) Tryz.underlying300 c3 c300 (fun m c x a=>zcl Tryz.underlying3 m c x a) hd1
 have e3:cs3.toList=oW tO:=Zg (l:=tO) (g:=fun b=>.lit (.string b)) (u:=fun b=>.string ⟨b.toArray⟩) Tryz.underlying266 c9 c266 (fun m c x a=>za1 Tryz.underlying9 m c x a) hd3;have s0:cs0=(u64s dW).toArray:=by rw[<- e0]
 have s1:cs1=(kZ gP).toArray:=by rw[<- e1]
 have s3:cs3=(oW tO).toArray:=by rw[<- e3]
 subst s0 s1 s3;have m0:MemPlace.cell 4 0∈ps:=by
  rw[hpa,hpb,hp0];exact ycf _ (ycf _ (Uw (by decide)))
 have m1:MemPlace.cell 3 0∈ps:=by
  rw[hpa,hpb,hp0,hp1];exact ycf _ (ycf _ (ycf _ (Uw (by decide))))
 have m3:MemPlace.cell 0 0∈ps:=by
  rw[hpa,hpb,hp0,hp1,hp3];exact ycf _ (ycf _ (ycf _ (ycf _ (Uw (by decide)))))
 exact⟨Ry hg3 hv3 (hcell 0 0 m3).1,Ry hg1 hv1 (hcell 3 0 m1).1,Tryz.laysM144.s1_3 W hsh,Ry hg0 hv0 (hcell 4 0 m0).1⟩
def stopsHeard:Tryz.prog.stopsHeard=true:=by kernel_rfl
def mayEnter:Tryz.prog.mayEnter=true:=by kernel_rfl
def bool4:Tryz.prog.underlying 4=some .bool:=Tryz.underlying4
def api24:Rv Tryz.prog:={
 b:=4,i:=3,u8:=5,u16:=240,s:=9,limbs:=27,whole:=29,frac:=31,val:=33,expr:=36,exprs:=34,row:=52,rows:=47,table:=49,tables:=23,dfn:=44,dfns:=22,clause:=54,clauses:=24,plan:=26,
 hb:=Tryz.underlying4,hi:=Tryz.underlying3,hu8:=Tryz.underlying5,hu16:=Tryz.underlying240,hs:=Tryz.underlying9,hlimbs:=Tryz.underlying27,hexprs:=Tryz.underlying34,hrows:=Tryz.underlying47,htables:=Tryz.underlying23,hdfns:=Tryz.underlying22,hclauses:=Tryz.underlying24,
 hwhole:=⟨_,Tryz.underlying29,rfl⟩,hfrac:=⟨_,Tryz.underlying31,rfl⟩,hval:=⟨_,Tryz.underlying33,rfl⟩,hexpr:=⟨_,Tryz.underlying36,rfl⟩,hrow:=⟨_,Tryz.underlying52,rfl⟩,htable:=⟨_,Tryz.underlying49,rfl⟩,hdfn:=⟨_,Tryz.underlying44,rfl⟩,hclause:=⟨_,Tryz.underlying54,rfl⟩,hplan:=⟨_,Tryz.underlying26,rfl⟩,
 cu16:=by kernel_rfl,cexpr:=by kernel_rfl,crow:=by kernel_rfl,ctable:=by kernel_rfl,cdfn:=by kernel_rfl,cclause:=by kernel_rfl,
 bytes:=⟨of_decide_eq_true (by kernel_rfl),of_decide_eq_true (by kernel_rfl),of_decide_eq_true (by kernel_rfl),of_decide_eq_true (by kernel_rfl),of_decide_eq_true (by kernel_rfl),of_decide_eq_true (by kernel_rfl)⟩ }
def Ob:List Nat:=[4,3,5,240,9,27,29,31,33,36,34,52,47,49,23,44,22,54,24,26]
def partB(t:TypeId):Bool:=match Tryz.prog.underlying t with
 | some .bool=>true
 | some (.int _)=>true
 | some .string=>true
 | some (.slice e)=>Ob.contains e&&Nat.blt 0 (Tryz.prog.cellsOf e)
 | some (.struct fs)=>fs.toList.all (fun f=>Ob.contains f.type)&&Ea Tryz.prog 0 fs.toList (Tryz.prog.cellsOf t)
 | _=>false
def TL:Ob.all partB=true:=by kernel_rfl
def ES:Plain Tryz.prog (fun t=>t∈Ob):=⟨fun t ht=>by
 have h:=ycb.1 TL t ht;unfold partB at h
 cases hu:Tryz.prog.underlying t with
 | none=>simp_all
 | some d=>
  rw[hu]at h
  cases d with
  | bool=>trivial
  | int k=>trivial
  | string=>trivial
  | slice e=>
   simp_all
  | struct fs=>
   grind
  | _=>cases h⟩
def open_plan{H:Type}{enc:TypeId × Value->H}{W:World}{base:Nat}{v:Value}{d:DataW H}{ps:List MemPlace}(hL:aG W)(hok:Value.okWide Tryz.prog W .any base 26 v)(h:DataW.Trod enc Tryz.prog W 0 (fun _=>true) true 26 v d ps)(hw:(DataW.weights Tryz.prog 26 d).all (· <= reachBytes)=true) :
  ∃(cs:Array Value) (p:qD),v=.agg cs/\p.fit/\Has W.heap.size cs.toList/\RD (yJ W) p.d (cs.toList.map (av W.heap.size)):=by
 obtain⟨cs,rfl,_,_⟩:∃cs,v=.agg cs/\cs.size=Tryz.prog.cellsOf 26/\Row.okWide Tryz.prog W .any base 26 cs:=by
  grind [Value.okWide,Tryz.underlying26]
 obtain⟨fuel,h⟩:=h;obtain⟨c,n,lo,hc,_⟩:=@Xy W hL ⟨0⟩;obtain⟨h1,x,h2,h3⟩:=DV ES ⟨c,n,lo,hc⟩ fuel 26 cs.toList (d,ps) (by decide) h hw;obtain⟨p,rfl,hp⟩:=api24.dPlan h3
 grind
def open_expr{H:Type}{enc:TypeId × Value->H}{W:World}{base:Nat}{v:Value}{d:DataW H}{ps:List MemPlace}(hL:aG W)(hok:Value.okWide Tryz.prog W .any base 36 v)(h:DataW.Trod enc Tryz.prog W 0 (fun _=>true) true 36 v d ps)(hw:(DataW.weights Tryz.prog 36 d).all (· <= reachBytes)=true) :
  ∃(cs:Array Value) (p:sA),v=.agg cs/\p.fit/\Has W.heap.size cs.toList/\RD (yJ W) p.d (cs.toList.map (av W.heap.size)):=by
 obtain⟨cs,rfl,_,_⟩:∃cs,v=.agg cs/\cs.size=Tryz.prog.cellsOf 36/\Row.okWide Tryz.prog W .any base 36 cs:=by
  grind [Value.okWide,Tryz.underlying36]
 obtain⟨fuel,h⟩:=h;obtain⟨c,n,lo,hc,_⟩:=@Xy W hL ⟨0⟩;obtain⟨h1,x,h2,h3⟩:=DV ES ⟨c,n,lo,hc⟩ fuel 36 cs.toList (d,ps) (by decide) h hw;obtain⟨p,rfl,hp⟩:=api24.dExpr _ _ h3
 grind
end Go.Proofs.YtfofhjofkodoeaaGreatDoor
