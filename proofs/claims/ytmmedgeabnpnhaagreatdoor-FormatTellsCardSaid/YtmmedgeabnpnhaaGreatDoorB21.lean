/- Names: lex.Name as a function of the text. -/
import Derived.ChangeArms
import GoSem.ClaimJoined
import Derived.Test.YtmmedgeabnpnhaaGreatDoorB20
set_option linter.all false
noncomputable section
set_option maxRecDepth 100000
namespace Go.Proofs
open Go Go.Am
variable [kC]
variable {t:Tr sA}
def mL(n:Nat):Bool:=(decide (65<=n)&&decide (n<=90))||(decide (97<=n)&&decide (n<=122))
def Db(n:Nat):Bool:=decide (48<=n)&&decide (n<=57)
def cM(n:Nat):Bool:=mL n||Db n||decide (n=95)
theorem zi7{a b:Int}:qC a b=decide (a<=b):=by
 grind [mD]
theorem Yx{n:Nat}:vB yA F 169 [.int .u8 (n:Int)] t=some (.bool (mL n)):=by
 refine bB.2 (w169 ?_);simp only[jA,cD,t169,lA,zi7,decide_eq_true_eq];grind [mL]
theorem WN{n:Nat}:vB yA F 219 [.int .u8 (n:Int)] t=some (.bool (Db n)):=by
 refine bB.2 (w219 ?_);simp only[jA,t219,lA,zi7,decide_eq_true_eq];grind [Db]
theorem WO{n:Nat}:vB yA F 171 [.int .u8 (n:Int)] t=some (.bool (cM n)):=by
 refine bB.2 (w171 ?_);simp only[uB,cD,uY,t171,lA,q169,Yx,xA,zA.asBool];unfold cM
 cases h:mL n with
 | true=>simp
 | false=>
  simp only[ybq,if_false,q219,WN,xA,zA.asBool];grind [rR,decide]
def Ld{s:List Nat}{i x:Nat}(h:s[i]?=some x):fR yA 9 (.str s) (.int .i64 (i:Int))=some (.int .u8 (x:Int)):=by
 unfold fR;rw[gH,pA];simp only[zA.asNat,zA.asInt,zA.asStr];have e:ob (some (i:Int)) yL=some i:=rfl;rw[e,pA,show lD.isString .string=true from rfl,sE,nG,h,pA];rfl
def zL (p:Nat->Bool)(s:List Nat):List Nat:=s.takeWhile p
theorem EJ{p:Nat->Bool}{g:Nat}(hg:∀n:Nat,vB yA F g [.int .u8 (n:Int)] t=some (.bool (p n)))(hq:∀ {a:List zA} {m:Tr sA} {R:wC},Wq yA F gE g a m R=oE (vB yA F g a m) (fun v=>R v m))(hy:Nat.blt g yo=true){s:List Nat}(hs:s.length<4000000000000000000) :
  ∀(k i:Nat),i+k=s.length->(∀j x,j<i->s[j]?=some x->p x=true)->jp 170 2 [.str s,.func (.func g) [] [],.int .i64 (i:Int)] t (fun v t'=>v=.str (zL p s)/\t'=t):=by
 have key:∀i,i<=s.length->(∀j x,j<i->s[j]?=some x->p x=true)->(∀x,s[i]?=some x->p x=false)->zL p s=s.take i:=by
  intro i hi h1 h2;unfold zL;induction s generalizing i with
  | nil=>simp
  | cons a s ih=>
   cases i with
   | zero=>simp_all
   | succ i=>
    rw[List.takeWhile_cons,h1 0 a (by omega) rfl,yab rfl,List.take_succ_cons];rw[ih (by grind) i (by simp_all) (fun j x hj hx=>h1 (j+1) x (by omega) (by simp_all)) (fun x hx=>h2 x (by simp_all))]
 intro k;induction k with
 | zero=>
  intro i hi hp;refine zga ?_;simp only[uU,uB,uS,qB,uZ,uY,Ut,lA,uC,vJ];grind [Vl,xA,zA.asStr]
 | succ k ih=>
  intro i hi hp;have hx:s[i]?=some s[i]:=ybd (by omega);refine zga ?_;simp only[uU,uB,uS,qB,uZ,uY,Ut,lA,uC,vJ];rw[yab (by omega),Ld hx,xA,aB,xA];have e:cS (.func (.func g) [] []) [.int .u8 (s[i]:Int)]=some (g,[.int .u8 (s[i]:Int)]):=by
   unfold cS;simp only[zA.asFunc,pA,hy,sE];rfl
  rw[e,xA];simp only[];rw[hq,hg,xA];simp only[zA.asBool,xA]
  cases hb:p s[i]with
  | true=>
   rw[yab rfl,wrap_i64 (by omega) (by omega),show(i:Int)+1=((i+1:Nat):Int) by omega];refine ih (i+1) (by omega) fun j x hj hjx=>?_
   grind
  | false=>
   rw[yaa (by simp),Vl (by omega),xA];simp only[zA.asStr,xA];rw[key i (by omega) hp (fun x hx'=>by simp_all)]
   simp_all
def zb4{s:List Nat}(hs:s.length<4000000000000000000):vB yA F 170 [.str s,.func (.func 171) [] []] t=some (.str (zL cM s)):=by
 refine bB.2 (w170 ?_);simp only[uZ,t170,lA];exact EJ (fun n=>WO) (fun {a m R}=>by rw[q171]) rfl hs s.length 0 (by omega) (fun j x hj=>by omega)
def zht{s:List Nat}(hs:s.length<4000000000000000000):vB yA F 170 [.str s,.func (.func 169) [] []] t=some (.str (zL mL s)):=by
 refine bB.2 (w170 ?_);simp only[uZ,t170,lA];exact EJ (fun n=>Yx) (fun {a m R}=>by rw[q169]) rfl hs s.length 0 (by omega) (fun j x hj=>by omega)
def zS:Nat->List Nat
 | 2=>[32,116,111,32,105,115,32,97,116,32,105,102,32,111,114,32,117,112,32]
 | 3=>[32,100,101,102,32,114,111,119,32,111,110,101,32,116,119,111,32,101,110,100,32,111,102,102,32,104,97,115,32,109,105,110,32,109,97,120,32,97,110,100,32,110,111,116,32]
 | 4=>[32,112,108,97,110,32,102,97,99,116,32,102,114,111,109,32,119,104,101,110,32,116,104,101,110,32,100,97,116,101,32,100,97,121,115,32,116,114,117,101,32,108,111,111,107,32,98,101,115,116,32,103,114,111,119,32,100,111,119,110,32,99,101,105,108,32,104,97,108,102,32,101,118,101,110,32]
 | 5=>[32,116,97,98,108,101,32,107,110,111,119,110,32,116,114,117,116,104,32,109,111,110,101,121,32,102,97,108,115,101,32,109,105,110,117,115,32,116,111,100,97,121,32,114,111,117,110,100,32,115,116,97,114,116,32,102,108,111,111,114,32]
 | 6=>[32,99,108,97,117,115,101,32,110,117,109,98,101,114,32,109,111,110,116,104,115,32]
 | 7=>[32,98,101,116,119,101,101,110,32,115,101,114,118,105,99,101,32]
 | _=>[]
def mX(s:List Nat):Bool:=decide (2<=s.length)&&decide (s.length<=7)&&zD (zL mL s) s&&zZ ([32]++s++[32]) (zS s.length)
def dI (n:Nat):zA × zA:=(.int .i64 (n:Int),.str (zS n))
def YM{a b:List Nat}(h:a.length<4294967281):vB yA F 220 [.str a,.str b] t=some (.bool (zZ b a)):=by
 have hg:yA.prims.get 220=some (qN Gb):=by kernel_rfl
 refine Oj hg fun H=>?_;unfold Gb;simp only[];rw[jD,lC.2 h];rfl
theorem TF{s:List Nat}(hs:s.length<4000000000000000000):vB yA F 172 [.str s] t=some (.bool (mX s)):=by
 refine rN (w172 ?_);simp only[uB,uS,jA,uZ,t172,lA,uC,vJ];unfold mX;by_cases h1:2<=s.length
 ·rw[yaa (by omega)];by_cases h2:s.length<=7
  ·rw[yaa (by omega)];simp only[q170,zht hs,xA,zA.asStr]
   cases h3:zD (zL mL s) s with
   | false=>simp
   | true=>
    simp only[Bool.not_true,ybq,if_false];intro b hb hbase;have hmk:Mt ⟨b,t⟩=some (.map b,⟨b+1,t.set b (.map [])⟩):=rfl;rw[hmk,xA];simp only[];have h0:(t.set b (.map [])).get b=some (.map []):=by rw[Tr.get_set,yab rfl]
    have ho:rE b t (t.set b (.map [])):=fun c hc=>by rw[Tr.get_set,yaa hc]
    generalize t.set b (.map [])=t1 at h0 ho;have hstep:∀(l:List (zA × zA)) (k:Nat) (s':List Nat) (l':List (zA × zA)) (Q:(zA × wA)->Prop) (t1:Tr sA),t1.get b=some (.map l)->rE b t t1->wM (.int .i64 (k:Int)) (.str s') l=some l'->Gj yA 230 (.int .i64 (k:Int))=true →
      (∀n t2,t2.get b=some (.map l')->rE b t t2->Q (vE,⟨n,t2⟩))->∀n,t1.get n=none->yA.base<=n->oE (fQ yA 230 (.map b) (.int .i64 (k:Int)) (.str s') ⟨n,t1⟩) Q:=by
     intro l k s' l' Q t1 g1 g2 h1 h2 h3 n _ _;rw[zg0 h2 hbase g1 h1,xA];exact h3 n _ (by rw[Tr.get_set,yab rfl]) fun c hc=>by rw[Tr.get_set,yaa hc];exact g2 c hc
    refine hstep [] 2 _ [dI 2] _ t1 h0 ho rfl (by kernel_rfl) fun n t2 g o=>?_;refine hstep _ 3 _ [dI 2,dI 3] _ t2 g o rfl (by kernel_rfl) fun n t2 g o=>?_;refine hstep _ 4 _ [dI 2,dI 3,dI 4] _ t2 g o rfl (by kernel_rfl) fun n t2 g o=>?_;refine hstep _ 5 _ [dI 2,dI 3,dI 4,dI 5] _ t2 g o rfl (by kernel_rfl) fun n t2 g o=>?_;refine hstep _ 6 _ [dI 2,dI 3,dI 4,dI 5,dI 6] _ t2 g o rfl (by kernel_rfl) fun n t2 g o=>?_
    refine hstep _ 7 _ [dI 2,dI 3,dI 4,dI 5,dI 6,dI 7] _ t2 g o rfl (by kernel_rfl) fun n t2 g o=>?_;have hle:yB t t2:=fun c u hc=>by
     have:c≠b:=fun e=>by simp_all
     rw[o c this];exact hc
    have hl:uV yA 230 ⟨0,t2⟩ (.map b) (.int .i64 (s.length:Int)) false=some (.str (zS s.length)):=by
     have hk:Gj yA 230 (.int .i64 (s.length:Int))=true/\zK (.int .i64 (s.length:Int)) [dI 2,dI 3,dI 4,dI 5,dI 6,dI 7]=some (some (.str (zS s.length))):=by
      have:s.length=2\/s.length=3\/s.length=4\/s.length=5\/s.length=6\/s.length=7:=by omega
      rcases this with e | e | e | e | e | e<;>rw[e]<;>exact⟨by kernel_rfl,rfl⟩
     exact zcq hk.1 g hk.2 ty230 rfl gH false
    rw[hl,xA];simp only[zA.asStr,xA];rw[pC (by grind),xA];simp only[zA.asStr,xA];rw[pC (by grind),xA];simp only[zA.asStr,xA];have hr:(zS s.length).length<4294967281:=by
     have:s.length=2\/s.length=3\/s.length=4\/s.length=5\/s.length=6\/s.length=7:=by omega
     rcases this with e | e | e | e | e | e<;>rw[e]<;>decide
    rw[q220,YM hr,xA];simp only[zA.asBool,xA];refine⟨?_,hle⟩
    grind
  grind
 grind
def nH(s:List Nat):Bool:=match s with
 | []=>false
 | x::r=>decide ((x::r).length<=24)&&mL x&&zD (zL cM (x::r)) (x::r) && !mX (x::r)
theorem Gd{s:List Nat}:vB yA F 107 [.str s] t=some (.bool (nH s)):=by
 refine bB.2 (w107 ?_);simp only[uU,uB,uS,jA,uZ,uY,t107,lA,uC,vJ]
 cases s with
 | nil=>simp[nH,rH]
 | cons x r=>
  have h0:zD (x::r) []=false:=by
   grind [rH]
  rw[h0];simp only[ybq,if_false];unfold nH;by_cases h1:(x::r).length<=24
  ·rw[yaa (by omega)];have hx:=Ld (s:=x::r) (i:=0) (x:=x) rfl;rw[show((0:Nat):Int)=0 from rfl]at hx;rw[hx,xA,aB,xA,q169,Yx,xA];simp only[zA.asBool,xA]
   cases h2:mL x with
   | false=>simp
   | true=>
    simp only[Bool.not_true,ybq,if_false];rw[q170,zb4 (by omega),xA];simp only[zA.asStr,xA]
    cases h3:zD (zL cM (x::r)) (x::r)with
    | false=>simp
    | true=>
     simp only[if_true,q172,TF (s:=x::r) (by omega),xA,zA.asBool]
     simp_all
  grind
end Go.Proofs
namespace Go.Am
open Go Go.RowKit
section
variable {base:Nat}{W J:pI}{t:Tr sA}{Q:wC}
theorem tA{b:Bool}{x y:T}(h:b=true)(k:lA base W J x t Q):lA base W J (.ite b x y) t Q:=by
 show if b=true then _ else _;simp_all
theorem bA{b:Bool}{x y:T}(h:b≠true)(k:lA base W J y t Q):lA base W J (.ite b x y) t Q:=by
 show if b=true then _ else _;simp_all
theorem vA{x:Option zA}{K:zA->T}{v:zA}(h:x=some v)(k:lA base W J (K v) t Q):lA base W J (.opt x K) t Q:=by
 show oE x _;simp_all
theorem sC{x:Tr sA->Option zA}{K:zA->T}{v:zA}(h:x t=some v)(k:lA base W J (K v) t Q):lA base W J (.light x K) t Q:=by
 show oE (x t) _;simp_all
theorem cA{f:Nat}{a:List zA}{K:zA->T}(k:W f a t (fun v t'=>lA base W J (K v) t' Q)):lA base W J (.call f a K) t Q:=k
theorem tB{n:Int}{i:IntKind}{K:Int->T}(k:lA base W J (K n) t Q):lA base W J (.asI i (.int i n) K) t Q:=by
 show oE (Dc i (.int i n)) _;rw[aB];exact k
theorem yC{b:Bool}{K:Bool->T}(k:lA base W J (K b) t Q):lA base W J (.asB (.bool b) K) t Q:=k
def pB{s:List Nat}{K:List Nat->T}(k:lA base W J (K s) t Q):lA base W J (.asS (.str s) K) t Q:=k
theorem dF{zs:List zA}{a:zA}{K:kG->T}{X:kG}(h:cN zs a=some X)(k:lA base W J (K X) t Q):lA base W J (.asG zs a K) t Q:=by
 show oE (cN zs a) _;simp_all
theorem jG{x:wA->Option (zA × wA)}{K:zA->T}(k:∀b,t.get b=none->base<=b->∃v H,x ⟨b,t⟩=some (v,H)/\lA base W J (K v) H.t Q):lA base W J (.heavy x K) t Q:=by
 intro b h1 h2;obtain⟨v,H,h3,h4⟩:=k b h1 h2
 simp_all
theorem zC{i:Nat}{a:List zA}(k:J i a t Q):lA base W J (.jump i a) t Q:=k
end
section
variable {t:Tr sA}{C:fA}
end
end Go.Am
namespace Go.Proofs
open Go Go.Am
variable [kC]
variable {t:Tr sA}
def lZ(v:xE):Bool:=decide (v.kind=0)&&decide (v.i=0)&&rP v.f
theorem AZ{a:xE}{u v:zA}(hu:mA t 1 (jC a.f.n.limbs) u)(hv:mA t 1 (jC a.f.d.limbs) v)(hf:a.f.ok):vB yA F 136 [.agg [.int .u8 a.kind,.bool a.f.n.neg,u,.bool a.f.d.neg,v,.int .i64 a.i]] t=some (.bool (lZ a)):=by
 refine bB.2 (w136 ?_);simp only[uB,jA,t136,lA,tE];unfold lZ;by_cases h1:a.kind=0
 ·rw[yab (by omega)];by_cases h2:a.i=0
  ·rw[yab h2,q90,BA hu hv hf,xA]
   grind [zA.asBool,xA]
  simp_all
 simp_all
structure FM where
 style:Nat
 word:List Nat
 named:Bool
 least:Nat
 most:Nat
 level:Nat
 left:Nat
 right:Nat
def FM.cs(f:FM):List zA:=[.int .u8 f.style,.str f.word,.bool f.named,.int .i64 f.least,.int .i64 f.most,.int .i64 f.level,.int .i64 f.left,.int .i64 f.right]
def atF (w:List Nat):FM:=⟨3,w,true,1,1,7,7,7⟩
def rQ(w:List Nat)(n:Bool)(a b:Nat):FM:=⟨6,w,n,a,b,7,1,1⟩
def iV(w:List Nat)(a b c:Nat):FM:=⟨4,w,false,2,2,a,b,c⟩
def zje:List FM:=[⟨0,[],false,0,0,0,0,0⟩,⟨1,[],false,0,0,7,0,0⟩,⟨2,[116,111,100,97,121],false,0,0,7,0,0⟩,atF [102,97,99,116,32],atF [104,97,115,32],atF [],rQ [108,111,111,107] true 1 2,iV [43] 5 5 6,iV [45] 5 5 6,iV [42] 6 6 7,iV [47] 6 6 7,
 rQ [109,105,110] false 2 2,rQ [109,97,120] false 2 2,iV [60] 4 5 5,iV [61] 4 5 5,iV [97,110,100] 2 2 3,iV [111,114] 1 1 2,⟨5,[110,111,116,32],false,1,1,3,3,3⟩,rQ [105,102] false 3 3,rQ [114,111,117,110,100] false 2 2,rQ [98,101,116,119,101,101,110] false 2 2,
 rQ [115,101,114,118,105,99,101] true 2 2,rQ [98,101,115,116] true 3 3,rQ [103,114,111,119] true 2 2,rQ [109,111,110,116,104,115] false 1 1,rQ [110,117,109,98,101,114] false 1 1,rQ [115,116,97,114,116] false 1 1]
def jN:List zA:=(zje.map FM.cs).flatten
abbrev z8:List zA:=[.int .u8 0,.str [],.bool false,.int .i64 0,.int .i64 0,.int .i64 0,.int .i64 0,.int .i64 0]
def cv76{w:List Nat}{n:Bool}{a b:Nat}{K:kG->T}{Q:wC}(h:wp 105 (K (cellsOf (rQ w n a b).cs)) t Q):wp 105 (.callv (.func (.func 166) [] []) [.str w,.bool n,.int .i64 (a:Int),.int .i64 (b:Int)] fun a=>.asG z8 a K) t Q:=by
 have e:vB yA F 166 [.str w,.bool n,.int .i64 (a:Int),.int .i64 (b:Int)] t=some (.agg (rQ w n a b).cs):=by
  refine bB.2 (w166 ?_);simp only[uZ,uY,t166,lA,if_true];constructor<;>trivial
 show oE (some (166,[zA.str w,.bool n,.int .i64 (a:Int),.int .i64 (b:Int)])) _;rw[xA];simp only[];rw[q166,e,xA];exact h
def cv77{w:List Nat}{K:kG->T}{Q:wC}(h:wp 105 (K (cellsOf (atF w).cs)) t Q):wp 105 (.callv (.func (.func 167) [] []) [.str w] fun a=>.asG z8 a K) t Q:=by
 have e:vB yA F 167 [.str w] t=some (.agg (atF w).cs):=by
  refine bB.2 (w167 ?_);simp only[uZ,uY,t167,lA,if_true];constructor<;>trivial
 show oE (some (167,[zA.str w])) _;rw[xA];simp only[];rw[q167,e,xA];exact h
def cv78{w:List Nat}{a b c:Nat}{K:kG->T}{Q:wC}(h:wp 105 (K (cellsOf (iV w a b c).cs)) t Q):wp 105 (.callv (.func (.func 168) [] []) [.str w,.int .i64 (a:Int),.int .i64 (b:Int),.int .i64 (c:Int)] fun a=>.asG z8 a K) t Q:=by
 have e:vB yA F 168 [.str w,.int .i64 (a:Int),.int .i64 (b:Int),.int .i64 (c:Int)] t=some (.agg (iV w a b c).cs):=by
  refine bB.2 (w168 ?_);simp only[uZ,uY,t168,lA,if_true];constructor<;>trivial
 show oE (some (168,[zA.str w,.int .i64 (a:Int),.int .i64 (b:Int),.int .i64 (c:Int)])) _;rw[xA];simp only[];rw[q168,e,xA];exact h
def HD{Q:wC}(h:∀b t',t.get b=none->yA.base<=b->wD t' b none jN->yB t t'->rE b t t'->Q (.ptr b 0) t'):Wc yA F 105 [] t Q:=by
 refine w105 ?_;unfold t105 uG uZ uY;repeat (first | refine cv76 ?_ | refine cv77 ?_ | refine cv78 ?_ | refine tA rfl ?_)
 intro b hb hbase;obtain⟨t',h1,h2,h3,h4⟩:=aX hb jN none;have e:∀l:List zA,l=jN->tO (.agg l) ⟨b,t⟩=some (.ptr b 0,⟨b+1,t'⟩):=by
  intro l hl;show some (zA.ptr b 0,uF ⟨b,t⟩ l none)=_;rw[hl,h1]
 rw[e _ (by rfl),xA];exact h b t' hb hbase h2 h3 h4
def VH{Q:wC}(h:∀b t',t.get b=none->yA.base<=b->wD t' b none jN->yB t t'->rE b t t'->Q (.agg [.ptr b 0]) t'):Wc yA F 48 [] t Q:=by
 refine w48 ?_;unfold t48 mC;refine cA ?_;rw[q105];refine HD fun b t' h1 h2 h3 h4 h5=>?_;refine tA rfl (tA rfl ?_);exact h b t' h1 h2 h3 h4 h5
end Go.Proofs
namespace Go.Proofs
open Go Go.Am
section
variable [kC]
variable {t:Tr sA}
def oB(op:Nat):FM:=zje.getD op ⟨0,[],false,0,0,0,0,0⟩
theorem Di{f:FM->List zA}(hf:∀x,(f x).length=8):∀(l:List FM) (i k:Nat),i<l.length->k<8->(l.map f).flatten[i*8+k]?=(f (l.getD i ⟨0,[],false,0,0,0,0,0⟩))[k]?
 | [],i,k,h,_=>by simp at h
 | x::l,0,k,h,hk=>by
  grind
 | x::l,i+1,k,h,hk=>by
  rw[ycm,yas,ybp (by grind),hf,show(i+1)*8+k-8=i*8+k by omega];rw[Di hf l i k (by grind) hk];simp
def Au{op k:Nat}(h:op<27)(hk:k<8):jN[op*8+k]?=(oB op).cs[k]?:=Di (f:=FM.cs) (fun _=>rfl) zje op k h hk
theorem Zc{b op:Nat}(h:op<27):rB yA 201 (.ptr b 0) (.int .u8 (op:Int))=some (.ptr b (op*8)):=by
 have hA:ob (yA.tys.get 201) (fun y=>y.desc.asArr)=some (27,168):=by kernel_rfl
 rw[rA]at hA;obtain⟨y,hy,hd⟩:=hA;unfold rB;rw[hy,pA];have e:(zA.int .u8 (op:Int)).asNat=some op:=rfl
 grind [pA,zA.asSlice,zA.asPtr,ty168,lC,sE]
def aO{b o k:Nat}(hk:k<8):dC yA 168 k (.ptr b o)=some (.ptr b (o+k)):=by
 have h:Iu yA 168 k=some k:=by
  unfold Iu;rw[ty168,pA];simp only[lD.asStruct,pA];have:k=0\/k=1\/k=2\/k=3\/k=4\/k=5\/k=6\/k=7:=by omega
  rcases this with e | e | e | e | e | e | e | e<;>rw[e]<;>rfl
 unfold dC;rw[h];rfl
section
variable {b op:Nat}(hF:wD t b none jN)(h:op<27)
include hF h
def IC:dA yA 5 ⟨0,t⟩ (.ptr b (op*8+0))=some (.int .u8 (oB op).style):=hF.load1 tN rfl (by rw[Au h (by decide)];rfl)
def IA:dA yA 9 ⟨0,t⟩ (.ptr b (op*8+1))=some (.str (oB op).word):=hF.load1 gH rfl (by rw[Au h (by decide)];rfl)
def ID:dA yA 4 ⟨0,t⟩ (.ptr b (op*8+2))=some (.bool (oB op).named):=hF.load1 ty4 rfl (by rw[Au h (by decide)];rfl)
def zcy:dA yA 3 ⟨0,t⟩ (.ptr b (op*8+3))=some (.int .i64 (oB op).least):=hF.load1 ty3 rfl (by rw[Au h (by decide)];rfl)
def zin:dA yA 3 ⟨0,t⟩ (.ptr b (op*8+4))=some (.int .i64 (oB op).most):=hF.load1 ty3 rfl (by rw[Au h (by decide)];rfl)
def zcx:dA yA 3 ⟨0,t⟩ (.ptr b (op*8+5))=some (.int .i64 (oB op).level):=hF.load1 ty3 rfl (by rw[Au h (by decide)];rfl)
def Yg:dA yA 3 ⟨0,t⟩ (.ptr b (op*8+6))=some (.int .i64 (oB op).left):=hF.load1 ty3 rfl (by rw[Au h (by decide)];rfl)
def zcw:dA yA 3 ⟨0,t⟩ (.ptr b (op*8+7))=some (.int .i64 (oB op).right):=hF.load1 ty3 rfl (by rw[Au h (by decide)];rfl)
end
theorem cF{a b:Int}(h:a≠b):zB a b≠true:=fun e=>h (tE.1 e)
theorem fE{a b:Int}(h:¬ a<b):lB a b≠true:=fun e=>h (uC.1 e)
theorem nLe{a b:Int}(h:¬ a<=b):qC a b≠true:=fun e=>h (mD.1 e)
theorem bG{a b:Int}(h:a=b):zB a b=true:=tE.2 h
theorem qE{a b:Int}(h:a<b):lB a b=true:=uC.2 h
theorem yLe{a b:Int}(h:a<=b):qC a b=true:=mD.2 h
def pG{b o:Nat}:Eo (.ptr b o)=some (.ptr b o):=rfl
def kN(op:Nat)(name:List Nat)(n:Nat):Bool:=
 decide (op<27) && !decide ((oB op).style=0)&&decide ((oB op).least<=n)&&decide (n<=(oB op).most)&&(if (oB op).named=true then nH name else zD name [])
def oW(op:Nat)(v:xE):Bool:=if op=19 then decide (1<=v.i)&&decide (v.i<=6)&&lZ { v with i:=0 } else lZ v
mutual
/-- is an expression printable at a depth? -/
def tG:qA->Nat->Bool
 | .mk op name v args,d=>decide (d<=24)&&kN op name args.length&&(if op=1 then wH v else oW op v&&rK args (d+1))
def rK:List qA->Nat->Bool
 | [],_=>true
 | x::l,d=>tG x d&&rK l d
end
theorem Sc:∀ {l:List qA} {d:Nat},rK l d=l.all fun x=>tG x d
 | [],d=>by rw[rK];rfl
 | x::l,d=>by rw[rK,Sc];rfl
def zee(p0_0:zA)(p1_0:Int)(p1_1:List Nat)(p1_2:Int)(p1_3:Bool)(p1_4:zA)(p1_5:Bool)(p1_6:zA)(p1_7:Int)(p1_8:zA)(p2:Int):T:=
 .ite (nE zA.one [(.int .u8 p1_2),(.bool p1_3),p1_4,(.bool p1_5),p1_6,(.int .i64 p1_7)]) (.ite (zB p1_0 1)
 (.call 39 [(.agg [(.int .u8 p1_2),(.bool p1_3),p1_4,(.bool p1_5),p1_6,(.int .i64 p1_7)])] fun a28=>
 .asB a28 fun b29=>.ret (.bool b29))
 (.ite (zB p1_0 19)
 (.ite (lB p1_7 1)
 (.ret (.bool false))
 (.ite (lB 6 p1_7)
 (.ret (.bool false))
 (.ite true (.jump 33 [(.int .i64 p2),p0_0,(.int .u8 p1_0),(.str p1_1),(.int .u8 p1_2),(.bool p1_3),p1_4,(.bool p1_5),p1_6,(.int .i64 p1_7),p1_8,(.int .u8 p1_2),(.bool p1_3),p1_4,(.bool p1_5),p1_6,(.int .i64 0)]) .fail)))
 (.jump 33 [(.int .i64 p2),p0_0,(.int .u8 p1_0),(.str p1_1),(.int .u8 p1_2),(.bool p1_3),p1_4,(.bool p1_5),p1_6,(.int .i64 p1_7),p1_8,(.int .u8 p1_2),(.bool p1_3),p1_4,(.bool p1_5),p1_6,(.int .i64 p1_7)]))) .fail
section
variable {op:Nat}{name:List Nat}{v:xE}{a b c:zA}{bf d:Nat}
theorem MS{v2:Int}{v':xE}{R:Bool}{n:Nat}{c3:zA}(ha:mA t 1 (jC v'.f.n.limbs) a)(hb:mA t 1 (jC v'.f.d.limbs) b)(hf:v'.f.ok)(hc:aA c=some (.int .i64 (n:Int)))
  (hargs:jp 68 4 [.int .i64 v2,c,.int .i64 (n:Int),.int .i64 0,c3] t (fun x t'=>x=.bool R/\t'=t)) (p3:Bool) (p5:Bool) (p2 p7:Int) (p4 p6:zA) :
  jp 68 33 [.int .i64 v2,c3,.int .u8 (op:Int),.str name,.int .u8 p2,.bool p3,p4,.bool p5,p6,.int .i64 p7,c,.int .u8 v'.kind,.bool v'.f.n.neg,a,.bool v'.f.d.neg,b,.int .i64 v'.i] t (fun x t'=>x=.bool (lZ v'&&R)/\t'=t):=by
 refine j68_33 ?_;simp only[uI,uB,jA,uZ,uY,zem,lA,q136,AZ ha hb hf,xA,zA.asBool];grind [xA,aB]
theorem zg6{n:Nat}{R:Bool}(ha:mA t 1 (jC v.f.n.limbs) a)(hb:mA t 1 (jC v.f.d.limbs) b)(hf:fC.fit v.f)(hc:aA c=some (.int .i64 (n:Int)))
  (hargs:jp 68 4 [.int .i64 (d:Int),c,.int .i64 (n:Int),.int .i64 0,.ptr bf 0] t (fun x t'=>x=.bool R/\t'=t)) :
  wp 68 (zee (.ptr bf 0) (op:Int) name (v.kind:Int) v.f.n.neg a v.f.d.neg b v.i c (d:Int)) t (fun x t'=>x=.bool (if op=1 then wH v else oW op v&&R)/\t'=t):=by
 unfold zee;refine tA ?_ ?_
 ·rw[iI];simp only[ycg,yck,ha.one,hb.one];rfl
 by_cases h1:op=1
 ·refine tA (bG (by omega)) ?_;simp only[lA,q39,UA ha hb hf,xA,zA.asBool,yab h1];constructor<;>trivial
 ·refine bA (cF (by omega)) ?_;simp only[yaa h1];unfold oW;by_cases h2:op=19
  ·refine tA (bG (by omega)) ?_;simp only[yab h2];by_cases h3:1<=v.i
   ·refine bA (fE (by omega)) ?_;by_cases h4:v.i<=6
    ·refine bA (fE (by omega)) (tA rfl ?_);have:=MS (op:=op) (name:=name) (v':={ v with i:=0 }) ha hb hf.1 hc hargs v.f.n.neg v.f.d.neg v.kind v.i a b;simp only[decide_eq_true h3,decide_eq_true h4,ycn];exact this
    grind [qE,lA]
   grind [qE,lA]
  ·refine bA (cF (by omega)) ?_;simp only[yaa h2];exact MS (op:=op) (name:=name) (v':=v) ha hb hf.1 hc hargs v.f.n.neg v.f.d.neg v.kind v.i a b
theorem zdb{n:Nat}{R:Bool}(hF:wD t bf none jN)(hop:op<256)(hn:n<dD)(hnl:name.length<dD)(ha:mA t 1 (jC v.f.n.limbs) a)(hb:mA t 1 (jC v.f.d.limbs) b)(hf:fC.fit v.f)(hc:aA c=some (.int .i64 (n:Int)))
  (hargs:d<=24->jp 68 4 [.int .i64 (d:Int),c,.int .i64 (n:Int),.int .i64 0,.ptr bf 0] t (fun x t'=>x=.bool R/\t'=t)) :
  vB yA F 68 [.agg [.ptr bf 0],.agg [.int .u8 op,.str name,.int .u8 v.kind,.bool v.f.n.neg,a,.bool v.f.d.neg,b,.int .i64 v.i,c],.int .i64 (d:Int)] t=some (.bool (decide (d<=24)&&kN op name n&&(if op=1 then wH v else oW op v&&R))):=by
 refine bB.2 (w68 ?_);unfold t68 kN uQ3 uI uU uB mC jA aE uZ uY uW;by_cases hd:d<=24
 case neg=>
  grind [qE,lA]
 refine bA (fE (by omega)) ?_;have htail:=zg6 (op:=op) (name:=name) (d:=d) (bf:=bf) ha hb hf hc (hargs hd);by_cases h27:op<27
 case neg=>
  grind [wrap_i64,yLe,lA]
 refine bA (by grind [wrap_i64,nLe]) ?_;refine vA pG (vA (Zc h27) (vA pG (vA (aO (by decide)) (sC (IC hF h27) (tB ?_)))));by_cases hs:(oB op).style=0
 ·grind [bG,lA]
 refine bA (cF (by omega)) ?_;refine vA hc (tB (vA pG (vA (aO (by decide)) (sC (zcy hF h27) (tB ?_)))));by_cases hl:(oB op).least<=n
 case neg=>
  grind [qE,lA]
 refine bA (fE (by omega)) ?_;refine vA hc (tB (vA pG (vA (aO (by decide)) (sC (zin hF h27) (tB ?_)))));by_cases hm:n<=(oB op).most
 case neg=>
  grind [qE,lA]
 refine bA (fE (by omega)) ?_;have hld:=ID hF h27;refine vA pG (vA (aO (by decide)) (sC hld (yC ?_)));simp only[decide_eq_true hd,decide_eq_true h27,decide_eq_false hs,decide_eq_true hl,decide_eq_true hm,ycn,ycl]
 cases hnm:(oB op).named with
 | true=>
  rw[hnm]at hld;simp only[if_true];refine tA rfl (cA ?_);rw[Fw,Gd,xA];refine yC ?_
  cases hN:nH name with
  | false=>
   grind [lA]
  | true=>
   refine bA (by simp) (vA pG (vA (aO (by decide)) (sC hld (yC (bA (by simp) ?_)))));simp only[ycn];exact htail
 | false=>
  rw[hnm]at hld;simp only[ybq,if_false];refine bA (by simp) (vA pG (vA (aO (by decide)) (sC hld (yC (tA rfl ?_)))))
  cases hN:zD name []with
  | false=>
   grind [lA]
  | true=>
   refine bA (by simp) ?_;simp only[ycn];exact htail
end
mutual
theorem Zo{bf:Nat}(hF:wD t bf none jN):∀(x:qA) (d:Nat) (cs:List zA),x.fit->d<1000->RD t x.d cs->vB yA F 68 [.agg [.ptr bf 0],.agg cs,.int .i64 (d:Int)] t=some (.bool (tG x d))
 | .mk op name v args,d,cs,hx,hd,h=>by
  obtain⟨a,b,c,rfl,ha,hb,hc⟩:=xJ h;simp only[qA.op,qA.name,qA.v,qA.args]at ha hb hc ⊢;have hx':=hx;unfold qA.fit at hx';unfold tG;refine zdb hF hx'.1 (n:=args.length) hx'.2.2.2.2.1 hx'.2.1 ha hb hx'.2.2.2.1.2.1 (by rw[hc.len,ybf]) fun hd'=>?_;have:=NX hF args args d c 0 hc rfl hx'.2.2.2.2.2 hx'.2.2.2.2.1 hd';exact this
theorem NX{bf:Nat}(hF:wD t bf none jN):∀(l args:List qA) (d:Nat) (c:zA) (i:Nat),mA t 9 (args.map qA.d) c->args.drop i=l->qA.fits l->args.length<dD->d<=24 →
  jp 68 4 [.int .i64 (d:Int),c,.int .i64 (args.length:Int),.int .i64 (i:Int),.ptr bf 0] t (fun x t'=>x=.bool (rK l (d+1))/\t'=t)
 | [],args,d,c,i,hc,hl,hok,hsz,hd=>by
  have:=Zu hl;refine j68_4 ?_;unfold zhg uB uG mC qB jA cD uZ uM0 aG;grind [fE,rK,lA]
 | x::l,args,d,c,i,hc,hl,hok,hsz,hd=>by
  obtain⟨h1,h2,h3⟩:=Zv hl;unfold dD at hsz;have hok':=hok;unfold qA.fits at hok';refine j68_4 ?_;obtain⟨pb,po,cs,g1,g2,g3,g4,g5⟩:=rD.at nT (by simp) hc (i:=i) (d:=x.d) (by simp[h1]);unfold zhg uB uG mC qB jA cD uZ uM0 aG;refine tA (qE (by omega)) (vA g1 (sC g2 ?_));rw[qL];refine dF (aF g5 x.zs) ?_;have hmk:=g5.mk x.zs;have hcs:[zA.int .u8 ((cellsOf cs).i 0),.str ((cellsOf cs).s 1),.int .u8 ((cellsOf cs).i 2),.bool ((cellsOf cs).b 3),(cellsOf cs).v 4,.bool ((cellsOf cs).b 5),(cellsOf cs).v 6,.int .i64 ((cellsOf cs).i 7),(cellsOf cs).v 8]=cs:=hmk
  rw[hcs];refine tA g5.all (cA ?_);rw[wrap_i64 (by omega) (by omega),show(d:Int)+1=((d+1:Nat):Int) by omega,q68,Zo hF x (d+1) cs hok'.1 (by omega) g5,xA];refine yC ?_;unfold rK
  cases hE:tG x (d+1)with
  | false=>
   grind [lA]
  | true=>
   refine bA (by simp) (zC ?_);rw[wrap_i64 (by omega) (by omega),show(i:Int)+1=((i+1:Nat):Int) by omega];have:=NX hF l args d c (i+1) hc h2 hok'.2 hsz hd
   simp_all
end
end
section
variable [kC]
variable {t:Tr sA}
def Dz (S el f:Nat)(zs:List zA)(cond:kG->Bool)(v1 v7:zA)(n i:Int):T:=
 .ite (lB i n)
  (.opt (rB yA S v7 (.int .i64 i)) fun a0=>.light (fun m=>dA yA el ⟨0,m⟩ a0) fun a1=>.asG zs a1 fun X=>
   .ite (cond X) (.callv v1 [.agg (wJ zs X 0)] fun a3=>.asB a3 fun b4=>.ite (!b4) (.ret (.bool false)) (.jump 2 [v1,v7,.int .i64 n,.int .i64 (iA .i64 (i+1))])) .fail)
  (.ret (.bool true))
theorem Se{α:Type}{dd:α->D}{P:α->Bool}{S el sz f:Nat}{zs:List zA}{cond:kG->Bool}{v1 v7:zA}(hS:rD yA S el sz true){l:List α}(hz:∀x∈l,(dd x).zs=zs)(hr:mA t sz (l.map dd) v7)(hlen:l.length<1000000000000000000)
  (hj:∀i t Q,wp f (Dz S el f zs cond v1 v7 l.length i) t Q->jp f 2 [v1,v7,.int .i64 (l.length:Int),.int .i64 i] t Q)
  (hc:∀cs,nE zA.one cs=true->cO zs cs=true->cond (cellsOf cs)=true)
  (hcall:∀x∈l,∀cs,RD t (dd x) cs->∀(R:wC),R (.bool (P x)) t->oE (cS v1 [.agg cs]) fun p=>Wq yA F gE p.1 p.2 t R) :
  ∀(k i:Nat),i+k=l.length->jp f 2 [v1,v7,.int .i64 (l.length:Int),.int .i64 (i:Int)] t (fun x t'=>x=.bool ((l.drop i).all P)/\t'=t):=by
 intro k;induction k with
 | zero=>
  intro i hi;refine hj _ _ _ (bA (fE (by omega)) ?_);rw[ybt (by omega)];exact⟨rfl,rfl⟩
 | succ k ih=>
  intro i hi;have hlt:i<l.length:=by omega
  have hm:l[i]∈l:=ycj hlt;obtain⟨b,off,cs,g1,g2,g3,g4,g5⟩:=rD.at hS (by simp) hr (i:=i) (d:=dd l[i]) (by simp[hlt]);refine hj _ _ _ (tA (qE (by omega)) (vA g1 (sC g2 ?_)));rw[qL];have hzz:=hz _ hm;refine dF (aF g5 hzz) (tA (hc cs g5.all (by grind [Qz])) ?_);rw[g5.mk hzz];refine hcall _ hm cs g5 _ ?_;refine yC ?_;have hd:l.drop i=l[i]::l.drop (i+1):=ybl hlt
  rw[hd,ycg]
  cases hP:P l[i]with
  | false=>exact tA rfl ⟨rfl,rfl⟩
  | true=>
   grind [bA,zC,wrap_i64]
def rM (n:Int):Bool:=decide (0<=n)&&decide (n<65536)
def uR (n:Int):Bool:=decide (-2147483648<=n)&&decide (n<2147483648)
def zP (d:cE):Bool:=nH d.name&&(decide (1<=d.kind)&&decide (d.kind<=6))
def aR (two:Bool)(r:vD):Bool:=uR r.a&&(uR r.b&&((two||decide (r.b=0))&&(rM r.known&&gM r.f)))
def qO(x:tD):Bool:=nH x.name&&x.rows.all (aR x.two)
def jR(x:qA):Bool:=decide (x.op=0)&&(zD x.name []&&(decide (x.args.length=0)&&lZ x.v))
def aM(x:gC):Bool:=
 nH x.name&&(nH x.label&&(rM x.from_&&(rM x.known&&((rM x.to||decide (x.to=65536))&&(if x.off=true then jR x.when_&&jR x.then_ else tG x.when_ 1&&tG x.then_ 1)))))
def eP(p:wF):Bool:=nH p.name&&(p.defs.all zP&&(p.tables.all qO&&p.clauses.all aM))
theorem BC{x:qA}{a b c:zA}(hx:x.fit)(ha:mA t 1 (jC x.v.f.n.limbs) a)(hb:mA t 1 (jC x.v.f.d.limbs) b)(hc:mA t 9 (x.args.map qA.d) c):vB yA F 176 [.agg (qH x a b c)] t=some (.bool (jR x)):=by
 obtain⟨op,name,v,args⟩:=x;simp only[qA.op,qA.name,qA.v,qA.args,jR,qH]at ha hb hc ⊢;unfold qA.fit at hx;have hl:aA c=some (.int .i64 (args.length:Int)):=by rw[hc.len,ybf]
 refine bB.2 (w176 ?_);unfold t176 uI uB jA uZ uY;by_cases h1:op=0
 case neg=>grind [cF,lA]
 refine tA (bG (by omega)) ?_
 cases h2:zD name []with
 | false=>grind [lA]
 | true=>
  refine tA rfl (vA hl (tB ?_));by_cases h3:args.length=0
  case neg=>grind [cF,lA]
  refine tA (bG (by omega)) (cA ?_);rw[q136,AZ ha hb hx.2.2.2.1.2.1.1,xA];grind [yC,lA]
theorem zd7{l:List cE}{v:zA}(hr:mA t 3 (l.map cE.d) v)(hlen:l.length<dD):vB yA F 108 [v,.func (.func 106) [] []] t=some (.bool (l.all zP)):=by
 unfold dD at hlen;refine bB.2 (w108 ?_);unfold t108 uI uZ;refine vA hr.len (tB (zC ?_));rw[ybf];refine Se (dd:=cE.d) (P:=zP) (S:=22) (el:=47) (zs:=[.str [],.int .u8 0,.bool false]) (cond:=fun _=>true) rX (fun x _=>x.zs) hr (by omega) (fun i t Q h=>j108_2 h) (fun _ _ _=>rfl) ?_ l.length 0 (by omega);intro x hx cs hcs R hR;have:=gT hcs;subst this;show oE (some (106,[zA.agg [.str x.name,.int .u8 x.kind,.bool x.fact]])) _
 rw[xA];have:vB yA F 106 [zA.agg [.str x.name,.int .u8 x.kind,.bool x.fact]] t=some (.bool (zP x)):=by
  refine bB.2 (w106 ?_);unfold t106 zP uB jA;refine cA ?_;rw[Fw,Gd,xA];grind [yC,lA,zi7]
 rw[q106,this,xA];exact hR
def key_ok{n:Int}:vB yA F 173 [.int .i64 n] t=some (.bool (uR n)):=by
 refine bB.2 (w173 ?_);unfold t173 uR jA;by_cases h : -2147483648<=n
 ·refine tA (yLe h) ?_;rw[decide_eq_true h,ycn,<- Ao];exact⟨rfl,rfl⟩
 ·refine bA (nLe h) ?_;rw[decide_eq_false h,Bool.false_and];exact⟨rfl,rfl⟩
def Rl{n:Int}:vB yA F 91 [.int .i64 n] t=some (.bool (rM n)):=KC
theorem row_ok{two:Bool}{r:vD}{u v:zA}{k b:Nat}{s:zA}{nm:List Nat}(hu:mA t 1 (jC r.f.n.limbs) u)(hv:mA t 1 (jC r.f.d.limbs) v)(hf:r.f.fit)(hk:wD t k none [.func (.func 173) [] []])(hb:wD t b none [.str nm,.bool two,s]) :
  vB yA F 174 [.agg [.int .i64 r.a,.int .i64 r.b,.int .i64 r.known,.bool r.f.n.neg,u,.bool r.f.d.neg,v],.ptr k 0,.ptr b 0] t=some (.bool (aR two r)):=by
 refine bB.2 (w174 ?_);have hld:dA yA 112 ⟨0,t⟩ (.ptr k 0)=some (.func (.func 173) [] []):=hk.load1 (j:=0) zg2 rfl rfl;have hl2:dA yA 4 ⟨0,t⟩ (.ptr b 1)=some (.bool two):=hb.load1 (j:=1) ty4 rfl rfl;have hfa:dC yA 50 1 (.ptr b 0)=some (.ptr b 1):=by kernel_rfl
 have hc:∀(n:Int) (K:zA->T) (Q:wC),wp 174 (K (.bool (uR n))) t Q->wp 174 (.callv (.func (.func 173) [] []) [.int .i64 n] K) t Q:=by
  intro n K Q h;show oE (some (173,[zA.int .i64 n])) _;rw[xA];simp only[];rw[q173,key_ok,xA];exact h
 have cC:∀(K2:Bool),(wp 174 (.call 91 [(.int .i64 r.known)] fun a9=>
 .asB a9 fun b10=>.ite b10
 (.call 89 [(.agg [(.bool r.f.n.neg),u,(.bool r.f.d.neg),v])] fun a11=>
 .asB a11 fun b12=>.ret (.bool b12))
 (.ret (.bool false))) t (fun x t'=>x=.bool (rM r.known&&gM r.f)/\t'=t)):=by
  intro _;refine cA ?_;rw[q91,Rl,xA];refine yC ?_
  cases h:rM r.known with
  | false=>exact bA (by simp) ⟨rfl,rfl⟩
  | true=>
   refine tA rfl (cA ?_);rw[q89,FU hu hv hf,xA];exact yC ⟨rfl,rfl⟩
 unfold t174 aR Eu uB jA uZ;refine sC hld (hc _ _ _ (yC ?_))
 cases h1:uR r.a with
 | false=>exact bA (by simp) ⟨rfl,rfl⟩
 | true=>
  refine tA rfl (sC hld (hc _ _ _ (yC ?_)))
  cases h2:uR r.b with
  | false=>exact bA (by simp) ⟨rfl,rfl⟩
  | true=>
   refine tA rfl (vA hfa (sC hl2 (yC ?_)))
   cases two with
   | true=>
    simp_all [tA]
   | false=>
    refine bA (by simp) ?_;by_cases h3:r.b=0
    ·simp_all [tA,bG]
    ·refine bA (cF h3) ?_;simp only[decide_eq_false h3,Bool.or_false,Bool.false_and,yay];exact⟨rfl,rfl⟩
theorem zbm{x:tD}{a:zA}(hr:mA t 7 (x.rows.map vD.d) a)(hx:x.fit):vB yA F 110 [.agg [.str x.name,.bool x.two,a]] t=some (.bool (qO x)):=by
 have hlen:=hx.2.1;unfold dD at hlen;refine rN (w110 ?_);unfold t110 uB uS jA;refine jG fun b hb hbase=>?_;obtain⟨t1,e1,c1,l1,o1⟩:=aX hb [.str x.name,.bool x.two,a] none;refine⟨.ptr b 0,⟨b+1,t1⟩,by rw[<- e1];rfl,?_⟩;refine jG fun k hk kbase=>?_;obtain⟨t2,e2,c2,l2,o2⟩:=Hp (C:=yA) zg2 hk;refine⟨_,_,e2,?_⟩;refine jG fun n _ _=>?_;obtain⟨t3,e3,c3,o3⟩:=c2.store1 (v:=.func (.func 173) [] []) kbase zg2 rfl rfl rfl (j:=0) (by simp)
 refine⟨_,_,e3 n,?_⟩;have hbk:b≠k:=by intro e;obtain⟨c,h,_⟩:=c1;simp_all
 have cb:wD t3 b none [.str x.name,.bool x.two,a]:=c1.off (by rw[o3 b hbk,o2 b hbk]);have hle:yB t t3:=fun c u hc=>by
  have h1:=l1 _ _ hc;have h2:c≠k:=fun e=>by simp_all
  rw[o3 c h2];exact l2 _ _ h1
 have hfa0:dC yA 50 0 (.ptr b 0)=some (.ptr b 0):=by kernel_rfl
 have hfa2:dC yA 50 2 (.ptr b 0)=some (.ptr b 2):=by kernel_rfl
 refine vA hfa0 (sC (cb.load1 (j:=0) gH rfl rfl) (pB (cA ?_)));rw[Fw,Gd,xA];refine yC ?_;unfold qO
 cases h1:nH x.name with
 | false=>exact bA (by simp) ⟨rfl,hle⟩
 | true=>
  refine tA rfl (vA hfa2 (sC (cb.load1 (j:=2) ty48 rfl rfl) (cA ?_)));have hall:vB yA F 175 [a,.func (.func 174) [] [.ptr k 0,.ptr b 0]] t3=some (.bool (x.rows.all (aR x.two))):=by
   refine bB.2 (w175 ?_);unfold t175 uI uZ;refine vA (hr.mono hle).len (tB (zC ?_));rw[ybf];refine Se (dd:=vD.d) (P:=aR x.two) (S:=48) (el:=53) (zs:=[.int .i64 0,.int .i64 0,.int .i64 0,.bool false,.nilslice,.bool false,.nilslice]) (cond:=fun X=>nE zA.one [(.int .i64 (X.i 0)),(.int .i64 (X.i 1)),(.int .i64 (X.i 2)),(.bool (X.b 3)),(X.v 4),(.bool (X.b 5)),(X.v 6)]) nV (fun x _=>x.zs) (hr.mono hle) (by omega) (fun i t Q h=>j175_2 h) ?_ ?_ x.rows.length 0 (by omega)
   ·intro cs h1 h2;have h3:wJ [.int .i64 0,.int .i64 0,.int .i64 0,.bool false,.nilslice,.bool false,.nilslice] (cellsOf cs) 0=cs:=by simpa using Lm _ cs [] h2
    have e:[zA.int .i64 ((cellsOf cs).i 0),.int .i64 ((cellsOf cs).i 1),.int .i64 ((cellsOf cs).i 2),.bool ((cellsOf cs).b 3),(cellsOf cs).v 4,.bool ((cellsOf cs).b 5),(cellsOf cs).v 6]=cs:=h3
    simp_all
   ·intro r hr' cs hcs R hR;obtain⟨u,v,rfl,hu,hv⟩:=kX hcs;show oE (some (174,[zA.agg [.int .i64 r.a,.int .i64 r.b,.int .i64 r.known,.bool r.f.n.neg,u,.bool r.f.d.neg,v],.ptr k 0,.ptr b 0])) _;rw[xA];simp only[];rw[q174,row_ok hu hv (hx.2.2 r hr').2.2.2 c3 cb,xA];exact hR
  rw[q175,hall,xA];exact yC ⟨rfl,hle⟩
theorem ZP{l:List tD}{v:zA}(hr:mA t 3 (l.map tD.d) v)(hlen:l.length<dD)(hx:∀x∈l,x.fit):vB yA F 109 [v,.func (.func 110) [] []] t=some (.bool (l.all qO)):=by
 unfold dD at hlen;refine bB.2 (w109 ?_);unfold t109 uI uZ;refine vA hr.len (tB (zC ?_));rw[ybf];refine Se (dd:=tD.d) (P:=qO) (S:=23) (el:=50) (zs:=[.str [],.bool false,.nilslice]) (cond:=fun X=>nE zA.one [(.str (X.s 0)),(.bool (X.b 1)),(X.v 2)]) lV (fun x _=>x.zs) hr (by omega) (fun i t Q h=>j109_2 h) ?_ ?_ l.length 0 (by omega)
 ·intro cs h1 h2;have h3:wJ [.str [],.bool false,.nilslice] (cellsOf cs) 0=cs:=by simpa using Lm _ cs [] h2
  have e:[zA.str ((cellsOf cs).s 0),.bool ((cellsOf cs).b 1),(cellsOf cs).v 2]=cs:=h3
  simp_all
 ·intro x hm cs hcs R hR;obtain⟨a,rfl,ha⟩:=lX hcs;show oE (some (110,[zA.agg [.str x.name,.bool x.two,a]])) _;rw[xA];simp only[];rw[q110,zbm ha (hx x hm),xA];exact hR
theorem zav{bf:Nat}(hF:wD t bf none jN){x:gC}{cs:List zA}(hx:x.fit)(hr:RD t x.d cs):vB yA F 112 [.agg [.ptr bf 0],.agg cs] t=some (.bool (aM x)):=by
 obtain⟨a,b,c,a',b',c',rfl,hw,ht⟩:=jX hr;have hxw:=hx.2.2.2.2.2.1;have hxt:=hx.2.2.2.2.2.2;obtain⟨a1,b1,c1,e1,ha,hb,hc⟩:=xJ hw;obtain⟨a2,b2,c2,e2,ha',hb',hc'⟩:=xJ ht;simp only[qH,List.cons.injEq,true_and,and_true]at e1 e2;obtain⟨rfl,rfl,rfl⟩:=e1;obtain⟨rfl,rfl,rfl⟩:=e2;have cC:∀(cw ct:List zA),cw=qH x.when_ a b c->ct=qH x.then_ a' b' c'->wp 112 (.ite x.off
 (.call 176 [(.agg cw)] fun a10=>
 .asB a10 fun b11=>.ite b11
 (.call 176 [(.agg ct)] fun a12=>
 .asB a12 fun b13=>.ret (.bool b13))
 (.ret (.bool false)))
 (.call 68 [(.agg [.ptr bf 0]),(.agg cw),(.int .i64 1)] fun a14=>
 .asB a14 fun b15=>.ite b15
 (.call 68 [(.agg [.ptr bf 0]),(.agg ct),(.int .i64 1)] fun a16=>
 .asB a16 fun b17=>.ret (.bool b17))
 (.ret (.bool false)))) t (fun v t'=>v=.bool (if x.off=true then jR x.when_&&jR x.then_ else tG x.when_ 1&&tG x.then_ 1)/\t'=t):=by
  intro cw ct ew et;subst ew;subst et
  cases hoff:x.off with
  | true=>
   refine tA rfl (cA ?_);rw[q176,BC hxw ha hb hc,xA];refine yC ?_;rw[yab rfl]
   cases h:jR x.when_ with
   | false=>exact bA (by simp) ⟨rfl,rfl⟩
   | true=>
    refine tA rfl (cA ?_);rw[q176,BC hxt ha' hb' hc',xA];exact yC ⟨rfl,rfl⟩
  | false=>
   refine bA (by simp) (cA ?_);have e1:=Zo hF x.when_ 1 _ hxw (by omega) hw;have e2:=Zo hF x.then_ 1 _ hxt (by omega) ht;rw[show((1:Nat):Int)=1 from rfl]at e1 e2;rw[q68,e1,xA];refine yC ?_;rw[yaa (by simp)]
   cases h:tG x.when_ 1 with
   | false=>exact bA (by simp) ⟨rfl,rfl⟩
   | true=>
    refine tA rfl (cA ?_);rw[q68,e2,xA];exact yC ⟨rfl,rfl⟩
 refine bB.2 ?_;unfold qH;refine w112 ?_;unfold t112 aM uQ10 uB jA uZ uY;refine cA ?_;rw[Fw,Gd,xA];refine yC ?_
 cases h1:nH x.name with
 | false=>exact tA rfl ⟨rfl,rfl⟩
 | true=>
  refine bA (by simp) (cA ?_);rw[Fw,Gd,xA];refine yC ?_
  cases h2:nH x.label with
  | false=>exact tA rfl ⟨rfl,rfl⟩
  | true=>
   refine bA (by simp) (cA ?_);rw[q91,Rl,xA];refine yC ?_
   cases h3:rM x.from_ with
   | false=>exact tA rfl ⟨rfl,rfl⟩
   | true=>
    refine bA (by simp) (cA ?_);rw[q91,Rl,xA];refine yC ?_
    cases h4:rM x.known with
    | false=>exact tA rfl ⟨rfl,rfl⟩
    | true=>
     refine bA (by simp) (cA ?_);rw[q91,Rl,xA];refine yC ?_;simp only[ycn]
     cases h5:rM x.to with
     | false=>
      refine tA rfl ?_;by_cases h6:x.to=65536
      ·refine bA (by grind [bG]) ?_;simp only[decide_eq_true h6,Bool.or_true,ycn];exact cC _ _ rfl rfl
      ·have:zB x.to 65536=false:=by
        grind [cF]
       refine tA (by simp_all) ?_;simp only[decide_eq_false h6,Bool.or_false,Bool.false_and];exact⟨rfl,rfl⟩
     | true=>
      refine bA (by simp) ?_;simp only[Bool.true_or,ycn];exact cC _ _ rfl rfl
theorem ZQ{bf:Nat}(hF:wD t bf none jN){l:List gC}{v:zA}(hr:mA t 24 (l.map gC.d) v)(hlen:l.length<dD)(hx:∀x∈l,x.fit):vB yA F 111 [v,.func (.func 112) [.agg [.ptr bf 0]] []] t=some (.bool (l.all aM)):=by
 unfold dD at hlen;refine bB.2 (w111 ?_);unfold t111 uI uZ;refine vA hr.len (tB (zC ?_));rw[ybf];refine Se (dd:=gC.d) (P:=aM) (S:=24) (el:=55) (zs:=[(.str []),(.str []),(.int .i64 0),(.int .i64 0),(.int .i64 0),(.bool false),(.int .u8 0),(.str []),(.int .u8 0),(.bool false),.nilslice,(.bool false),.nilslice,(.int .i64 0),.nilslice,(.int .u8 0),(.str []),(.int .u8 0),(.bool false),.nilslice,(.bool false),.nilslice,(.int .i64 0),.nilslice])
  (cond:=fun X2=>nE zA.one [(.str (X2.s 0)),(.str (X2.s 1)),(.int .i64 (X2.i 2)),(.int .i64 (X2.i 3)),(.int .i64 (X2.i 4)),(.bool (X2.b 5)),(.int .u8 (X2.i 6)),(.str (X2.s 7)),(.int .u8 (X2.i 8)),(.bool (X2.b 9)),(X2.v 10),(.bool (X2.b 11)),(X2.v 12),(.int .i64 (X2.i 13)),(X2.v 14),(.int .u8 (X2.i 15)),(.str (X2.s 16)),(.int .u8 (X2.i 17)),(.bool (X2.b 18)),(X2.v 19),(.bool (X2.b 20)),(X2.v 21),(.int .i64 (X2.i 22)),(X2.v 23)]) mV (fun x _=>x.zs) hr (by omega) (fun i t Q h=>j111_2 h) ?_ ?_ l.length 0 (by omega)
 ·intro cs h1 h2;have h3:=Lm _ cs [] h2;rw[yah,ybx]at h3;show nE zA.one (wJ [(.str []),(.str []),(.int .i64 0),(.int .i64 0),(.int .i64 0),(.bool false),(.int .u8 0),(.str []),(.int .u8 0),(.bool false),.nilslice,(.bool false),.nilslice,(.int .i64 0),.nilslice,(.int .u8 0),(.str []),(.int .u8 0),(.bool false),.nilslice,(.bool false),.nilslice,(.int .i64 0),.nilslice] (cellsOf cs) 0)=true
  simp_all
 ·intro x hm cs hcs R hR;show oE (some (112,[.agg [.ptr bf 0],zA.agg cs])) _;rw[xA];simp only[];rw[q112,zav hF (hx x hm) hcs,xA];exact hR
def zh3{bf:Nat}(hF:wD t bf none jN){p:wF}{cs:List zA}(hp:p.fit)(hr:RD t p.d cs):vB yA F 49 [.agg [.ptr bf 0],.agg cs] t=some (.bool (eP p)):=by
 obtain⟨a,b,c,rfl,ha,hb,hc⟩:=zR hr;refine bB.2 (w49 ?_);unfold t49 eP uB jA;refine cA ?_;rw[Fw,Gd,xA];refine yC ?_
 cases h1:nH p.name with
 | false=>exact bA (by simp) ⟨rfl,rfl⟩
 | true=>
  refine tA rfl (cA ?_);rw[q108,zd7 ha hp.ndefs,xA];refine yC ?_
  cases h2:p.defs.all zP with
  | false=>exact bA (by simp) ⟨rfl,rfl⟩
  | true=>
   refine tA rfl (cA ?_);rw[q109,ZP hb hp.ntables hp.tables,xA];refine yC ?_
   cases h3:p.tables.all qO with
   | false=>exact bA (by simp) ⟨rfl,rfl⟩
   | true=>
    refine tA rfl (cA ?_);rw[q111,ZQ hF hc hp.nclauses hp.clauses,xA];exact yC ⟨rfl,rfl⟩
def FT{p:wF}{cs:List zA}(hp:p.fit)(hr:RD t p.d cs):vB yA F 21 [.agg cs] t=some (.bool (eP p)):=by
 have hr':=hr;obtain⟨a,b,c,rfl,ha,hb,hc⟩:=zR hr;refine rN (w21 ?_);unfold t21 uB uG;refine cA ?_;rw[q48];refine VH fun bf t' h1 h2 h3 h4 h5=>?_;refine dF (Hq rfl) (tA ?_ (cA ?_))
 ·exact hr'.sameA
 ·have e:(cellsOf [zA.ptr bf 0]).v 0=.ptr bf 0:=rfl;rw[q49,e,zh3 h3 hp (hr'.mono h4),xA];exact yC ⟨rfl,h4⟩
end
section
variable [kC]
variable {t:Tr sA}
def Cz:List Int:=[31,28,31,30,31,30,31,31,30,31,30,31]
def pK(t:Tr sA):Prop:=At t 2 0 (Cz.map fun n=>zA.int .i64 n)
theorem pK.mono{t':Tr sA}(h:pK t)(k:yB t t'):pK t':=At.mono k h
def QR(x:Int){k:Nat}(hk:0<k) : -(k:Int)<Int.tmod x k/\Int.tmod x k<k:=by
 have h:=Int.natAbs_tmod x k;have h2:=ycy x.natAbs (show 0<(k:Int).natAbs by omega);omega
def Qa(y:Int):Bool:=decide (Int.tmod y 4=0)&&(!decide (Int.tmod y 100=0)||decide (Int.tmod y 400=0))
def lenD (y m:Int):Int:=if m<1 then 0 else if 12<m then 0 else if m=2/\Qa y=true then 29 else Cz.getD (m-1).toNat 0
def Yf(y:Int):Int:=iA .i64 ((iA .i64 ((iA .i64 (Int.tdiv y 4))-(iA .i64 (Int.tdiv y 100))))+(iA .i64 (Int.tdiv y 400)))
def Nq(v0 v3:Int):Nat->Int->Int->Int
 | 0,_,v4=>v4
 | k+1,v5,v4=>if v5<=Int.tmod v0 12 then Nq v0 v3 k (v5+1) (iA .i64 (v4+lenD v3 v5))else v4
def oT(m:Int):Int:=Nq m (iA .i64 (1900+(iA .i64 (Int.tdiv m 12)))) 11 1 (iA .i64 ((iA .i64 ((iA .i64 (365*(iA .i64 ((iA .i64 (1900+(iA .i64 (Int.tdiv m 12))))-1900))))+Yf (iA .i64 ((iA .i64 (1900+(iA .i64 (Int.tdiv m 12))))-1))))-Yf 1899))
def Cm(P:Int->Bool):Nat->Nat->Nat->Int
 | 0,i,_=>(i:Int)
 | k+1,i,j=>if i<j then(if P (((i+j) / 2:Nat):Int)=true then Cm P k i ((i+j) / 2)else Cm P k ((i+j) / 2+1) j)else(i:Int)
theorem zim(y:Int):vB yA F 263 [.int .i64 y] t=some (.bool (Qa y)):=by
 refine bB.2 (w263 ?_);unfold t263 Qa jA cD;grind [lA,rR]
theorem len_at(hG:pK t){m:Int}(h1:1<=m)(h2:m<=12):∃b o,rB yA 257 (.ptr 2 0) (.int .i64 (iA .i64 (m-1)))=some (.ptr b o)/\dA yA 3 ⟨0,t⟩ (.ptr b o)=some (.int .i64 (Cz.getD (m-1).toNat 0)):=by
 obtain⟨k,rfl⟩:∃k:Nat,m=(k:Int)+1:=⟨(m-1).toNat,by omega⟩;have hk:k<12:=by omega
 have e0:((k:Int)+1-1).toNat=k:=by omega
 rw[wrap_i64 (by omega) (by omega),e0,show(k:Int)+1-1=(k:Int) by omega];have hx:(Cz.map fun n=>zA.int .i64 n)[k]?=some (.int .i64 (Cz.getD k 0)):=by
  have:k<Cz.length:=hk
  simp_all
 refine⟨2,0+k,?_,hG.load1 ty3 rfl hx⟩;unfold rB;rw[ty257,pA];have e:(zA.int .i64 (k:Int)).asNat=some k:=rfl;rw[e,pA];grind [zA.asSlice,zA.asPtr,pA,lD.asArr,ty3,lC,sE]
def VN(hG:pK t)(y m:Int):vB yA F 249 [.int .i64 y,.int .i64 m] t=some (.int .i64 (lenD y m)):=by
 refine bB.2 (w249 ?_);unfold t249 lenD uQ15 uI uB uZ uW;by_cases h1:m<1
 ·rw[yab h1];exact tA (qE h1) ⟨rfl,rfl⟩
 rw[yaa h1];refine bA (fE h1) ?_;by_cases h2:12<m
 ·rw[yab h2];exact tA (qE h2) ⟨rfl,rfl⟩
 rw[yaa h2];refine bA (fE h2) ?_;obtain⟨b,o,g1,g2⟩:=len_at hG (m:=m) (by omega) (by omega);by_cases h3:m=2
 ·refine tA (bG h3) (cA ?_);rw[q263,zim,xA];refine yC ?_
  cases hl:Qa y with
  | true=>rw[yab ⟨h3,rfl⟩];exact tA rfl ⟨rfl,rfl⟩
  | false=>rw[yaa (by simp)];exact bA (by simp) (vA g1 (sC g2 (tB ⟨rfl,rfl⟩)))
 ·rw[yaa (by simp[h3])];exact bA (cF h3) (vA g1 (sC g2 (tB ⟨rfl,rfl⟩)))
theorem RN(hG:pK t)(v0 v3:Int):∀(k:Nat) (v5 v4:Int),v5+k=12->1<=v5->jp 217 2 [.int .i64 v0,.int .i64 v3,.int .i64 v4,.int .i64 v5] t (fun v t'=>v=.int .i64 (Nq v0 v3 k v5 v4)/\t'=t):=by
 have hb:=QR v0 (k:=12) (by omega);rw[show((12:Nat):Int)=12 from rfl]at hb
 intro k;induction k with
 | zero=>
  intro v5 v4 h1 h2;exact Yq (bA (nLe (by omega)) ⟨rfl,rfl⟩)
 | succ k ih=>
  intro v5 v4 h1 h2;unfold Nq;by_cases h3:v5<=Int.tmod v0 12
  ·rw[yab h3];refine Yq (tA (yLe h3) (cA ?_));rw[q249,VN hG,xA];refine tB (zC ?_)
   grind [wrap_i64]
  ·rw[yaa h3];exact Yq (bA (nLe h3) ⟨rfl,rfl⟩)
def HV(y:Int):vB yA F 248 [.int .i64 y] t=some (.int .i64 (Yf y)):=bB.2 (w248 ⟨rfl,rfl⟩)
def Np(hG:pK t)(m:Int):vB yA F 217 [.int .i64 m] t=some (.int .i64 (oT m)):=by
 refine bB.2 (w217 (cA ?_));rw[q248,HV,xA];refine tB (cA ?_);rw[q248,HV,xA];exact tB (zC (RN hG m _ 11 1 _ (by omega) (by omega)))
theorem SH{v1:zA}{P:Int->Bool}(hcall:∀n:Int,∀(R:wC),R (.bool (P n)) t->oE (cS v1 [.int .i64 n]) fun p=>Wq yA F gE p.1 p.2 t R) :
  ∀(k i j:Nat),j-i<=k->j<=100000->jp 246 2 [v1,.int .i64 (i:Int),.int .i64 (j:Int)] t (fun v t'=>v=.int .i64 (Cm P k i j)/\t'=t):=by
 intro k;induction k with
 | zero=>
  intro i j h1 h2;exact Yp (bA (fE (by omega)) ⟨rfl,rfl⟩)
 | succ k ih=>
  intro i j h1 h2;unfold Cm;by_cases h3:i<j
  ·have e1:iA .i64 (Int.fdiv (iA .u64 (iA .i64 ((i:Int)+(j:Int)))) 2)=(((i+j) / 2:Nat):Int):=by
    grind [wrap_i64,yG]
   rw[yab h3];refine Yp (tA (qE (by omega)) ?_);show oE _ _;unfold uZ uW;rw[e1];refine hcall _ _ (yC ?_)
   cases hP:P (((i+j) / 2:Nat):Int)with
   | false=>
    rw[yaa (by simp)];refine tA rfl (zC ?_);rw[wrap_i64 (by omega) (by omega),show(((i+j) / 2:Nat):Int)+1=(((i+j) / 2+1:Nat):Int) by omega];exact ih _ _ (by omega) h2
   | true=>
    rw[yab rfl];exact bA (by simp) (zC (ih _ _ (by omega) (by omega)))
  ·rw[yaa h3];exact Yp (bA (fE (by omega)) ⟨rfl,rfl⟩)
def aP(d:Int):Int:=Cm (fun n=>lB d (oT (iA .i64 (n+1)))) 2154 0 2154
def VM(hG:pK t)(d:Int):vB yA F 216 [.int .i64 d] t=some (.int .i64 (aP d)):=by
 refine rN (w216 ?_);unfold t216 uI uZ;refine jG fun b hb hbase=>?_;obtain⟨t',e,hc,hle,_⟩:=aX hb [.int .i64 d] none;refine⟨.ptr b 0,⟨b+1,t'⟩,by show some (zA.ptr b 0,uF ⟨b,t⟩ [.int .i64 d] none)=_;rw[e],cA ?_⟩;have hld:dA yA 3 ⟨0,t'⟩ (.ptr b 0)=some (.int .i64 d):=hc.load1 (j:=0) ty3 rfl rfl;have:vB yA F 246 [.int .i64 2154,.func (.func 247) [] [.ptr b 0]] t'=some (.int .i64 (aP d)):=by
  refine bB.2 (w246 (zC ?_));refine SH (fun n R hR=>?_) 2154 0 2154 (by omega) (by omega);show oE (some (247,[zA.int .i64 n,.ptr b 0])) _;rw[xA];simp only[];have:vB yA F 247 [zA.int .i64 n,.ptr b 0] t'=some (.bool (lB d (oT (iA .i64 (n+1))))):=by
   refine bB.2 (w247 (sC hld (tB (cA ?_))));unfold qB;rw[q217,Np (hG.mono hle),xA];exact tB (sC hld (tA lT ⟨rfl,rfl⟩))
  rw[q247,this,xA];exact hR
 rw[q246];exact Wc_pv this (tB ⟨rfl,hle⟩)
def ymdD (d:Int):zA:=.tup [.int .i64 (iA .i64 (1900+(iA .i64 (Int.tdiv (aP d) 12)))),.int .i64 (iA .i64 ((Int.tmod (aP d) 12)+1)),.int .i64 (iA .i64 ((iA .i64 (d-oT (aP d)))+1)),.int .i64 0]
def ymd_ok(hG:pK t){d:Int}(h0:0<=d)(h1:d<65536):vB yA F 162 [.int .i64 d] t=some (ymdD d):=by
 have hd:vB yA F 215 [.int .i64 d] t=some (.bool true):=by
  refine bB.2 (w215 (tA (yLe h0) ?_));rw[qE h1];exact⟨rfl,rfl⟩
 refine bB.2 (w162 (cA ?_));rw[q215,hd,xA];refine yC (bA (by simp) (cA ?_));rw[q216,VM hG,xA];refine tB (cA ?_);rw[q217,Np hG,xA];exact tB ⟨rfl,rfl⟩
def cB (l:List Nat):List zA:=l.map fun(n:Nat)=>zA.int .u8 (n:Int)
theorem ten{l:List Nat}(h:l.length=10):∃a b c d e f g h i j,l=[a,b,c,d,e,f,g,h,i,j]:=by
 match l,h with
 | [a,b,c,d,e,f,g,h,i,j],_=>simp_all
theorem Hh{l:List Nat}:(cB l).length=l.length:=by simp[cB]
def cB_set{l:List Nat}{i x:Nat}:(cB l).set i (.int .u8 (x:Int))=cB (l.set i x):=by simp[cB,List.map_set]
theorem idx164{b i:Nat}(h:i<10):rB yA 192 (.ptr b 0) (.int .i64 (i:Int))=some (.ptr b i):=by
 unfold rB;rw[Jb,pA];have e:(zA.int .i64 (i:Int)).asNat=some i:=rfl;rw[e,pA];grind [zA.asSlice,zA.asPtr,pA,lD.asArr,tN,lC,sE]
def Rr{b:Nat}{l:List Nat}(h:wD t b none (cB l))(hl:l.length=10):dA yA 192 ⟨0,t⟩ (.ptr b 0)=some (.agg (cB l)):=by
 have:=h.at.load (C:=yA) (ty:=192) Jb rfl (n:=10) rfl (j:=0) (by rw[Hh];omega);rw[ybw]at this;rw[this];congr 2;rw[ycr,yca (by rw[Hh];omega)]
theorem NE{b:Nat}{l m:List Nat}(h:wD t b none (cB l))(hb:yA.base<=b)(hl:l.length=10)(hm:m.length=10):∃t',(∀n,pE yA 192 (.ptr b 0) (.agg (cB m)) ⟨n,t⟩=some (vE,⟨n,t'⟩))/\wD t' b none (cB m)/\rE b t t':=by
 obtain⟨t',h1,h2,h3⟩:=h.store (C:=yA) hb (T:=192) (v:=.agg (cB m)) (j:=0) Jb (by show(cB m).length=10;rw[Hh,hm]) (by show 0+(cB m).length<=_;grind [Hh]) (by
  show nE zA.one (cB m)=true;rw[iI,ycb];intro a ha;unfold cB at ha;obtain⟨n,_,rfl⟩:=yaq.1 ha;rfl)
 refine⟨t',h1,?_,h3⟩;have e:eX (cB l) 0 (zA.agg (cB m)).cells=cB m:=by
  show eX (cB l) 0 (cB m)=cB m;unfold eX;rw[List.take_zero,yah,ybt (by grind [Hh]),ycd]
 simp_all
abbrev z10:List zA:=[.int .u8 0,.int .u8 0,.int .u8 0,.int .u8 0,.int .u8 0,.int .u8 0,.int .u8 0,.int .u8 0,.int .u8 0,.int .u8 0]
def Lv{l:List Nat}(hl:l.length=10):cN z10 (.agg (cB l))=some (cellsOf (cB l)):=by
 obtain⟨a,b,c,d,e,f,g,h,i,j,rfl⟩:=ten hl;exact Hq rfl
def AK{l:List Nat}(hl:l.length=10):[zA.int .u8 ((cellsOf (cB l)).i 0),.int .u8 ((cellsOf (cB l)).i 1),.int .u8 ((cellsOf (cB l)).i 2),.int .u8 ((cellsOf (cB l)).i 3),.int .u8 ((cellsOf (cB l)).i 4),.int .u8 ((cellsOf (cB l)).i 5),.int .u8 ((cellsOf (cB l)).i 6),.int .u8 ((cellsOf (cB l)).i 7),.int .u8 ((cellsOf (cB l)).i 8),.int .u8 ((cellsOf (cB l)).i 9)]=cB l:=by
 obtain⟨a,b,c,d,e,f,g,h,i,j,rfl⟩:=ten hl;rfl
def rW (x:Int):Nat:=(48+Int.tmod x 10).toNat
theorem MF(x:Int):iA .u8 (iA .i64 (48+Int.tmod x 10))=((rW x:Nat):Int)/\rW x<256:=by
 grind [rW,wrap_i64,Eg]
def vO:Nat->Int->Nat->List Nat->List Nat
 | 0,_,_,l=>l
 | k+1,x,i,l=>vO k (iA .i64 (Int.tdiv x 10)) (i-1) (l.set i (rW x))
theorem Bx:∀(k:Nat) (x:Int) (i:Nat) (l:List Nat),wB 256 l->(vO k x i l).length=l.length/\wB 256 (vO k x i l)
 | 0,x,i,l,h=>⟨rfl,h⟩
 | k+1,x,i,l,h=>by
  unfold vO;have:=Bx k (iA .i64 (Int.tdiv x 10)) (i-1) (l.set i (rW x)) (fun y hy=>by
   rcases List.mem_or_eq_of_mem_set hy with h1 | h1
   ·exact h y h1
   simp_all [MF])
  simp_all
theorem OS{b:Nat}(hb:yA.base<=b){c0 c1 c2 c3 c4 c5 c6 c7 c8 c9:Int}:∀(k:Nat) (from_:Nat) (x:Int) (i:Int) (l:List Nat) (t:Tr sA),i+1=(from_:Int)+k->from_+k<=10->l.length=10->wD t b none (cB l) →
  jp 163 2 [.int .i64 (from_:Int),.int .i64 x,.ptr b 0,.int .i64 i,.int .u8 c0,.int .u8 c1,.int .u8 c2,.int .u8 c3,.int .u8 c4,.int .u8 c5,.int .u8 c6,.int .u8 c7,.int .u8 c8,.int .u8 c9] t (fun v t'=>v=.agg (cB (vO k x i.toNat l))/\rE b t t'):=by
 intro k;induction k with
 | zero=>
  intro from_ x i l t h1 h2 h3 h4;refine zgb (bA (nLe (by omega)) (sC (Rr h4 h3) (dF (Lv h3) (tA rfl ?_))));show zA.agg _=_/\_;rw[AK h3];exact⟨rfl,fun _ _=>rfl⟩
 | succ k ih=>
  intro from_ x i l t h1 h2 h3 h4;obtain⟨n,rfl⟩:∃n:Nat,i=(n:Int):=⟨i.toNat,by omega⟩;refine zgb (tA (yLe (by omega)) (vA (idx164 (by omega)) (jG fun m _ _=>?_)));rw[(MF x).1];obtain⟨t',g1,g2,g3⟩:=h4.store1 (v:=.int .u8 ((rW x:Nat):Int)) hb tN rfl rfl rfl (j:=n) (by rw[Hh];omega);refine⟨_,_,g1 m,zC ?_⟩;rw[cB_set]at g2;unfold uW;rw[wrap_i64 (n:=(n:Int)-1) (by omega) (by omega)]
  have:=ih from_ (iA .i64 (Int.tdiv x 10)) ((n:Int)-1) (l.set n (rW x)) t' (by omega) (by omega) (by simp_all) g2;refine Jq.mono this fun v t2 hh=>⟨?_,fun c hc=>by rw[hh.2 c hc,g3 c hc]⟩;rw[hh.1];have e1:((n:Int)-1).toNat=n-1:=by omega
  have e2:((n:Int)).toNat=n:=by omega
  rw[e1,e2];rfl
theorem OR{l:List Nat}(hl:l.length=10){from_ k:Nat}(hk:from_+k<=10)(h1:1<=from_+k)(x:Int):vB yA F 163 [.agg (cB l),.int .i64 (from_:Int),.int .i64 (k:Int),.int .i64 x] t=some (.agg (cB (vO k x (from_+k-1) l))):=by
 obtain⟨a,b,c,d,e,f,g,h,i,j,rfl⟩:=ten hl;refine rN ?_;show Wf 163 [.agg [.int .u8 a,.int .u8 b,.int .u8 c,.int .u8 d,.int .u8 e,.int .u8 f,.int .u8 g,.int .u8 h,.int .u8 i,.int .u8 j],.int .i64 (from_:Int),.int .i64 (k:Int),.int .i64 x] t _;refine w163 ?_;unfold t163 uZ uY uW;refine jG fun n hn hbase=>?_;obtain⟨t',e1,hc,hle,ho⟩:=aX hn (cB [a,b,c,d,e,f,g,h,i,j]) none;refine⟨.ptr n 0,⟨n+1,t'⟩,by show some (zA.ptr n 0,uF ⟨n,t⟩ (cB [a,b,c,d,e,f,g,h,i,j]) none)=_;rw[e1],zC ?_⟩
 rw[wrap_i64 (n:=(from_:Int)+(k:Int)) (by omega) (by omega),wrap_i64 (by omega) (by omega)];have:=OS (c0:=0) (c1:=0) (c2:=0) (c3:=0) (c4:=0) (c5:=0) (c6:=0) (c7:=0) (c8:=0) (c9:=0) hbase k from_ x ((from_:Int)+(k:Int)-1) _ t' (by omega) hk hl hc;refine Jq.mono this fun v t2 hh=>⟨?_,fun b' y hy=>?_⟩
 ·rw[hh.1,show((from_:Int)+(k:Int)-1).toNat=from_+k-1 by omega]
 ·have:b'≠n:=fun e=>by simp_all
  rw[hh.2 b' this];exact hle _ _ hy
def lJ (d:Int):List Nat:=
 vO 2 (iA .i64 ((iA .i64 (d-oT (aP d)))+1)) 9 (vO 2 (iA .i64 ((Int.tmod (aP d) 12)+1)) 6 (vO 4 (iA .i64 (1900+(iA .i64 (Int.tdiv (aP d) 12)))) 3 [0,0,0,0,45,0,0,45,0,0]))
theorem dN(d:Int):(lJ d).length=10/\wB 256 (lJ d):=by
 have h0:wB 256 [0,0,0,0,45,0,0,45,0,0]:=by intro x hx;simp at hx;omega
 have h1:=Bx 4 (iA .i64 (1900+(iA .i64 (Int.tdiv (aP d) 12)))) 3 _ h0;have h2:=Bx 2 (iA .i64 ((Int.tmod (aP d) 12)+1)) 6 _ h1.2;have h3:=Bx 2 (iA .i64 ((iA .i64 (d-oT (aP d)))+1)) 9 _ h2.2
 simp_all [lJ]
def zhp{K:zA->T}{Q:wC}{l:List Nat}{p from_ k:Nat}{x:Int}(hl:l.length=10)(hlt:wB 256 l)(hp:yA.base<=p)(hc:wD t p none (cB l))(hk:from_+k<=10)(h1:1<=from_+k)
  (h:∀t',wD t' p none (cB (vO k x (from_+k-1) l))->rE p t t'->∀u,wp 94 (K u) t' Q) :
  wp 94 (.call 163 [.agg [(.int .u8 ((cellsOf (cB l)).i 0)),(.int .u8 ((cellsOf (cB l)).i 1)),(.int .u8 ((cellsOf (cB l)).i 2)),(.int .u8 ((cellsOf (cB l)).i 3)),(.int .u8 ((cellsOf (cB l)).i 4)),(.int .u8 ((cellsOf (cB l)).i 5)),(.int .u8 ((cellsOf (cB l)).i 6)),(.int .u8 ((cellsOf (cB l)).i 7)),(.int .u8 ((cellsOf (cB l)).i 8)),(.int .u8 ((cellsOf (cB l)).i 9))],.int .i64 (from_:Int),.int .i64 (k:Int),.int .i64 x] fun a=>.asG z10 a fun X=>
   .heavy (pE yA 192 (.ptr p 0) (.agg [(.int .u8 (X.i 0)),(.int .u8 (X.i 1)),(.int .u8 (X.i 2)),(.int .u8 (X.i 3)),(.int .u8 (X.i 4)),(.int .u8 (X.i 5)),(.int .u8 (X.i 6)),(.int .u8 (X.i 7)),(.int .u8 (X.i 8)),(.int .u8 (X.i 9))])) K) t Q:=by
 have hw:=Bx k x (from_+k-1) l hlt;refine cA ?_;rw[AK hl,q163,OR hl hk h1,xA];refine dF (Lv (by rw[hw.1,hl])) (jG fun n _ _=>?_);rw[AK (by rw[hw.1,hl])];obtain⟨t',g1,g2,g3⟩:=NE hc hp hl (m:=vO k x (from_+k-1) l) (by rw[hw.1,hl]);exact⟨_,_,g1 n,h t' g2 g3 _⟩
theorem Lu(hG:pK t){d:Int}(h0:0<=d)(h1:d<65536):vB yA F 94 [.int .i64 d] t=some (.str (lJ d)):=by
 refine rN (w94 ?_);unfold t94 uI uS uG uX uZ uY uA6;refine cA ?_;rw[q162,ymd_ok hG h0 h1,xA];unfold ymdD;refine vA rfl (tB (vA rfl (tB (vA rfl (tB (vA rfl (tB (bA (by grind [bG]) (tA rfl ?_)))))))));refine jG fun p hp hbase=>?_;obtain⟨t1,e1,c1,l1,o1⟩:=Hp (C:=yA) Jb hp;refine⟨_,_,e1,?_⟩;have c1':wD t1 p none (cB [0,0,0,0,0,0,0,0,0,0]):=c1
 refine jG fun n _ _=>?_;obtain⟨t2,e2,c2,o2⟩:=NE c1' hbase rfl (m:=[0,0,0,0,45,0,0,45,0,0]) rfl;refine⟨_,_,e2 n,?_⟩;have h0':wB 256 [0,0,0,0,45,0,0,45,0,0]:=by intro x hx;simp at hx;omega
 refine sC (Rr c2 rfl) (dF (Lv rfl) ?_);refine zhp (from_:=0) (k:=4) rfl h0' hbase c2 (by omega) (by omega) fun t3 c3 o3 _=>?_;have w3:=Bx 4 (iA .i64 (1900+(iA .i64 (Int.tdiv (aP d) 12)))) 3 _ h0';refine sC (Rr c3 w3.1) (dF (Lv w3.1) ?_);refine zhp (from_:=5) (k:=2) w3.1 w3.2 hbase c3 (by omega) (by omega) fun t4 c4 o4 _=>?_;have w4:=Bx 2 (iA .i64 ((Int.tmod (aP d) 12)+1)) 6 _ w3.2
 rw[w3.1]at w4;refine sC (Rr c4 w4.1) (dF (Lv w4.1) ?_);refine zhp (from_:=8) (k:=2) w4.1 w4.2 hbase c4 (by omega) (by omega) fun t5 c5 o5 _=>?_;have hL:=dN d;have c5':wD t5 p none (cB (lJ d)):=c5;have hs:zE yA 192 ⟨0,t5⟩ (.ptr p 0) none none=some (.slice p 0 10 10):=by
  obtain⟨c,g,_⟩:=c5';have hk:oD ⟨0,t5⟩ p=some (c,(cB (lJ d)).length,none):=by unfold oD;rw[g];rfl
  unfold zE;rw[Jb,pA];unfold bL;simp only[zA.asStr,zA.asSlice,zA.asPtr,lD.asArr,pA];unfold sN;rw[tN,pA];have hb2:xP 10 10 none none=some (0,10):=rfl;rw[hb2,pA];unfold pL cL;rw[hk];rfl
 have hv:kK yA 90 9 ⟨0,t5⟩ (.slice p 0 10 10)=some (.str (lJ d)):=MP sO gH rfl rfl rfl tN rfl c5' hL.1 (fun j x hj=>by
  grind [cB]) hL.2
 refine sC hs (sC hv (pB ⟨rfl,fun b y hy=>?_⟩));have:b≠p:=fun e=>by simp_all
 rw[o5 b this,o4 b this,o3 b this,o2 b this];exact l1 _ _ hy
end
end Go.Proofs
namespace Go.Am
open Go Go.RowKit
def OO{C:fA}{F:Tr eF}{f:Nat}{args:List zA}{t:Tr sA}{Q:wC}{g:List zA->wA->Option (zA × wA)}(hg:C.prims.get f=some g)(h:∀X HA,Ov C.base t X HA->∃v t' HA',g args HA=some (v,HA')/\Ov C.base t' X HA'/\Q v t')(hf:Nat.blt f yo=true:=by rfl):Wc C F f args t Q:=by
 intro X HA ho;rw[Hf hf,hg];obtain⟨v,t',HA',h1,h2,h3⟩:=h X HA ho;exact⟨v,t',HA',X,h1,h2,sJ.refl _,h3⟩
end Go.Am
namespace Go.Proofs
open Go Go.Am
variable [kC]
variable {t tf:Tr sA}{bx T:Nat}{s m:List Nat}{ex:List zA}
def BX (T:Nat)(ex:List zA)(tf t:Tr sA)(bx:Nat)(s:List Nat):Prop:=
 yA.base<=bx/\tf.get bx=none/\yB tf t/\wB 256 s/\Ko Kn T (ex.length+2)=true/\∃p tv,(p=zA.nilptr\/p=.ptr bx 0)/\wD t bx (some (.ty T)) (p::tv::ex)/\cG (.ty 5) yA.base tf t 1 (sB .u8 s) tv/\¬ dM tv bx
def BX.le(h:BX T ex tf t bx s):yB tf t:=h.2.2.1
theorem BX.both(h:BX T ex tf t bx s){n:Nat}(hn:t.get n=none)(y:sA):BX T ex (tf.set n y) (t.set n y) bx s:=by
 obtain⟨h1,h2,h3,ha,hM,p,tv,hp,h4,h5,h6⟩:=h;have hbx:bx≠n:=by intro e;obtain⟨c,h,_⟩:=h4;simp_all
 refine⟨h1,by grind [Tr.get_set],Vs hn h3,ha,hM,p,tv,hp,h4.off (by rw[Tr.get_set,yaa hbx]),?_,h6⟩;have hb:∀b,dM tv b->b≠n:=fun b hb e=>Za h5 hb (e ▸ hn);rcases h5 with⟨rfl,h5⟩ | ⟨b,cl,c,rfl,k0,k1,k2,k3,k4⟩
 ·exact .inl ⟨rfl,h5⟩
 ·have hbn:=hb b (Ak.2 rfl);exact .inr ⟨b,cl,c,rfl,k0,by grind [Tr.get_set],by grind [Tr.get_set],k3,iC.mono (fun c u hc=>by
   grind [Ad,Tr.get_set]) _ _ k4⟩
theorem BX.out{n:Nat}{y:sA}(hn:tf.get n=none)(h:BX T ex (tf.set n y) t bx s):BX T ex tf (t.del n) bx s:=by
 obtain⟨h1,h2,h3,ha,hM,p,tv,hp,h4,h5,h6⟩:=h;have hbx:bx≠n:=by grind [Tr.get_set]
 have hle:yB tf (tf.set n y):=(iK hn y).1;rw[Tr.get_set,yaa hbx]at h2;refine⟨h1,h2,fun c u hc=>?_,ha,hM,p,tv,hp,h4.off (by rw[Tr.get_del,yaa hbx]),?_,h6⟩
 ·have:c≠n:=fun e=>by simp_all
  rw[Tr.get_del,yaa this];exact h3 _ _ (hle _ _ hc)
 ·rcases h5 with⟨rfl,h5⟩ | ⟨b,cl,c,rfl,k0,k1,k2,k3,k4⟩
  ·exact .inl ⟨rfl,h5⟩
  ·have hbn:b≠n:=by grind [Tr.get_set]
   refine .inr ⟨b,cl,c,rfl,k0,by grind [Tr.get_set],by grind [Tr.get_del],k3,?_⟩
   grind [oZ]
theorem BX.keep(h:BX T ex tf t bx s){t':Tr sA}(hle:yB tf t')(hk:∀b,b=bx\/(∃p tv,wD t bx (some (.ty T)) (p::tv::ex)/\dM tv b)->t'.get b=t.get b):BX T ex tf t' bx s:=by
 obtain⟨h1,h2,h3,ha,hM,p,tv,hp,h4,h5,h6⟩:=h;exact⟨h1,h2,hle,ha,hM,p,tv,hp,h4.off (hk _ (.inl rfl)),h5.keep' fun b hb=>hk b (.inr ⟨p,tv,h4,hb⟩),h6⟩
theorem BX.check{Q:wC}(h:BX T ex tf t bx s)(hQ:∀t',BX T ex tf t' bx s->Q (.tup []) t'):Wc yA F 104 [.ptr bx 0] t Q:=by
 have h0:=h;obtain⟨h1,h2,h3,ha,hM,p,tv,hp,⟨c,h4,h4'⟩,h5,h6⟩:=h;have hg:yA.prims.get 104=some pChk:=by kernel_rfl
 refine OO hg fun X HA ho=>?_;have hk:oD HA bx=some (c,(p::tv::ex).length,some (.ty T)):=by unfold oD;rw[ho.up h4];rfl
 have hc0:c.get 0=some p:=h4' 0 p rfl;rcases hp with rfl | rfl
 ·refine⟨.tup [],t.set bx (.cells (c.set 0 (.ptr bx 0)) (zA.nilptr::tv::ex).length (some (.ty T))),setBlk HA bx (.cells (c.set 0 (.ptr bx 0)) (zA.nilptr::tv::ex).length (some (.ty T))),?_,ho.setBlk h4 _,hQ _ ?_⟩
  ·unfold pChk Cr;simp only[];rw[hk,pA,hc0,pA];simp only[];have e1:(!Nat.blt bx (256+kC.n))=true:=by
    cases hq:Nat.blt bx (256+kC.n)with
    | true=>
     have h3:=lC.1 hq;have h1':256+kC.n<=bx:=h1;omega
    | false=>rfl
   simp_all
  ·refine⟨h1,h2,fun b u hb=>?_,ha,hM,.ptr bx 0,tv,.inr rfl,⟨_,by rw[Tr.get_set,yab rfl];rfl,fun j a hj=>?_⟩,h5.keep' fun b hb=>?_,h6⟩
   ·have:b≠bx:=fun e=>by simp_all
    rw[Tr.get_set,yaa this];exact h3 _ _ hb
   all_goals grind [Tr.get_set]
 ·refine⟨.tup [],t,HA,?_,ho,hQ _ h0⟩
  simp_all [pChk,Cr]
def fa77{b:Nat}:dC yA 92 1 (.ptr b 0)=some (.ptr b 1):=by kernel_rfl
theorem BX.write{Q:wC}(h:BX T ex tf t bx s)(hm:m≠[])(hlt:wB 256 m)(hl:s.length+m.length<400000)(hQ:∀v t',BX T ex tf t' bx (s++m)->Q v t'):Wc yA F 45 [.ptr bx 0,.str m] t Q:=by
 refine w45 ?_;unfold t45 aE uZ;refine cA ?_;rw[q104];refine h.check fun t' h'=>?_;obtain⟨h1,h2,h3,ha,hM,p,tv,hp,h4,h5,h6⟩:=h';refine vA pG (vA fa77 (sC (h4.load1 (j:=1) sO rfl rfl) (jG fun n hn hbase=>?_)));have hbn:n≠bx:=by intro e;obtain⟨c,hh,_⟩:=h4;simp_all
 obtain⟨t1,g1,g2,g3,g4⟩:=NZ el35 ⟨_,gH,rfl⟩ co5 h5 hm hl hn hbase h3;refine⟨_,_,g1,vA pG (vA fa77 (jG fun n2 _ _=>?_))⟩;have h4':wD t1 bx (some (.ty T)) (p::tv::ex):=h4.off (g4 bx hbn.symm h6);obtain⟨t2,e1,e2,e3⟩:=h4'.store1 (v:=.slice n 0 (s.length+m.length) (s.length+m.length)) h1 sO rfl rfl rfl (j:=1) (by simp);refine⟨_,_,e1 n2,hQ _ _ ⟨h1,h2,g3.off h2 e3,fun x hx=>?_,hM,p,_,hp,e2,g2.keep' fun b hb=>e3 b fun e=>?_,fun e=>?_⟩⟩
 ·rcases yaf.1 hx with hx | hx
  ·exact ha x hx
  ·exact hlt x hx
 all_goals grind [Ak]
theorem BX.len(h:BX T ex tf t bx s):vB yA F 46 [.ptr bx 0] t=some (.int .i64 (s.length:Int)):=by
 obtain⟨h1,h2,h3,ha,hM,p,tv,hp,h4,h5,h6⟩:=h;refine bB.2 (w46 ?_);unfold t46 uI aE uZ;have hlen:=h5.len;rw[pD]at hlen;exact vA pG (vA fa77 (sC (h4.load1 (j:=1) sO rfl rfl) (vA hlen (tB ⟨rfl,rfl⟩))))
def HL:∀ {l:List Nat},wB 256 l->iG Go.Am.byteOf (l.map fun(n:Nat)=>zA.int .u8 (n:Int))=some l
 | [],_=>rfl
 | x::l,h=>by
  have hx:Go.Am.byteOf (.int .u8 (x:Int))=some x:=by
   show mB (Nat.blt x 256) (some x)=_;rw[lC.2 (h x (.head _))];rfl
  rw[ycm,nN,hx,pA,HL fun y hy=>h y (.tail _ hy)];rfl
theorem BX.string{Q:wC}(h:BX T ex tf t bx s)(hs:s≠[])(hl:s.length<400000)(hQ:∀t',yB tf t'->Q (.str s) t'):Wc yA F 47 [.ptr bx 0] t Q:=by
 obtain⟨h1,h2,h3,ha,hM,p,tv,hp,⟨c,h4,h4'⟩,h5,h6⟩:=h;have hg:yA.prims.get 47=some pStr:=by kernel_rfl
 rcases h5 with⟨rfl,h5⟩ | ⟨b,cl,d,rfl,k0,k1,k2,k3,k4⟩
 ·grind [pD]
 have hpos:0<s.length:=List.length_pos_iff.2 hs;rw[pD,Nat.mul_one]at k2;rw[oZ]at k4;subst k4;have hbytes:∀j a,(s.map fun(n:Nat)=>zA.int .u8 (n:Int))[j]?=some a->d.get j=some a:=by
  intro j a hj;have hj':(sQ .u8 s)[j]?=some [a]:=by
   grind [sQ]
  have:=(k3 j _ hj').2 0 a rfl
  simp_all
 refine OO hg fun X HA ho=>?_;have hk:oD HA bx=some (c,(p::zA.slice b 0 (sB .u8 s).length (sB .u8 s).length::ex).length,some (.ty T)):=by unfold oD;rw[ho.up h4];rfl
 have hk2:oD HA b=some (d,s.length,some (.ty 5)):=by unfold oD;rw[ho.up k2];rfl
 have hc1:=h4' 1 _ rfl;refine⟨.str s,t.del b,⟨HA.next,HA.t.del b⟩,?_,ho.delBlk k2,hQ _ fun e u he=>?_⟩
 ·unfold pStr Fz;simp only[];rw[hk,pA,hc1,pA];simp only[zA.asSlice,pA,pD];rw[hk2,pA];simp only[];have hm:=HF hbytes s.length 0 (by simp);rw[ycr,yca (by simp)]at hm;rw[hm,pA,HL ha,pA];have e1:(!Nat.blt b (256+kC.n))=true:=by
   cases hq:Nat.blt b (256+kC.n)with
   | true=>
    have h3:=lC.1 hq;have h1':256+kC.n<=b:=k0;omega
   | false=>rfl
  rw[e1,bC.2 rfl,lC.2 hpos,rF.2 (ybk _),lC.2 (show s.length<1000000000 by omega),bC.2 rfl];rfl
 ·have:e≠b:=fun h=>by simp_all
  rw[Tr.get_del,yaa this];exact h3 _ _ he
end Go.Proofs
namespace Go.Proofs
open Go Go.Am
section
variable [kC]
variable {t:Tr sA}
def uO(date:List Nat)(v:xE):List Nat:=
 if v.kind=1 then(if v.i=1 then [116,114,117,101]else [102,97,108,115,101])
 else if v.kind=2 then lF (mE v.f)
 else if v.kind=3 then [109,111,110,101,121,32]++lF (mE v.f)
 else if v.kind=4 then date
 else if v.kind=5 then lF (mH v.i)++[32,100,97,121,115]
 else if v.kind=6 then lF (mH v.i)++[32,109,111,110,116,104,115]
 else []
theorem Ff(s:List Nat):(lF s).length<=s.length+6:=by
 grind [lF]
theorem Oo{v:xE}(h:wH v=true)(hk:v.kind=2\/v.kind=3):iH v.f=true:=by
 grind [wH,gM]
theorem PE{a:xE}{u v:zA}{date:List Nat}(hu:mA t 1 (jC a.f.n.limbs) u)(hv:mA t 1 (jC a.f.d.limbs) v)(hf:xE.fit a)(hp:wH a=true)(hd:a.kind=4->vB yA F 94 [.int .i64 a.i] t=some (.str date)):vB yA F 40 [.agg [.int .u8 a.kind,.bool a.f.n.neg,u,.bool a.f.d.neg,v,.int .i64 a.i]] t=some (.str (uO date a)):=by
 obtain⟨_,hff,hi1,hi2⟩:=hf;have hil:=Kz hi1 hi2;have hsl:=Ff (mH a.i);have kk:∀j:Int,zB (a.kind:Int) j=decide ((a.kind:Int)=j):=fun j=>rR;refine bB.2 (w40 ?_);simp only[uS,uZ,t40,lA,kk];unfold uO;by_cases k1:a.kind=1
 ·have e:(a.kind:Int)=1:=by omega
  have hb:vB yA F 92 [.bool (zB a.i 1)] t=some (.str (if a.i=1 then [116,114,117,101]else [102,97,108,115,101])):=by
   refine bB.2 (w92 ?_);have h94:vB yA F 160 [.bool (zB a.i 1)] t=some (.str (if a.i=1 then [116,114,117,101]else [102,97,108,115,101])):=by
    refine bB.2 (w160 ?_);by_cases h:a.i=1<;>simp[t160,lA,rR,h]
   simp only[uS,t92,lA,q160,h94,xA,zA.asStr];simp_all
  simp[e,k1,q92,hb,zA.asStr]
 have e1:¬ (a.kind:Int)=1:=by omega
 by_cases k2:a.kind=2
 ·have e:(a.kind:Int)=2:=by omega
  simp[e,k2,q93,Zi hu hv hff (Oo hp (.inl k2)),zA.asStr]
 have e2:¬ (a.kind:Int)=2:=by omega
 by_cases k3:a.kind=3
 ·have e:(a.kind:Int)=3:=by omega
  have hl:=Qu hff (Oo hp (.inr k3));have hl2:=Ff (mE a.f);have:=pC (a:=[109,111,110,101,121,32]) (b:=lF (mE a.f)) (by grind);simp[e,k3,q93,Zi hu hv hff (Oo hp (.inr k3)),zA.asStr,this]
 have e3:¬ (a.kind:Int)=3:=by omega
 by_cases k4:a.kind=4
 ·have e:(a.kind:Int)=4:=by omega
  simp[e,k4,q94,hd k4,zA.asStr]
 have e4:¬ (a.kind:Int)=4:=by omega
 by_cases k5:a.kind=5
 ·have e:(a.kind:Int)=5:=by omega
  have:=pC (a:=lF (mH a.i)) (b:=[32,100,97,121,115]) (by simp;omega);simp[e,k5,q95,Ql hi1 hi2,zA.asStr,this]
 have e5:¬ (a.kind:Int)=5:=by omega
 by_cases k6:a.kind=6
 ·have e:(a.kind:Int)=6:=by omega
  have:=pC (a:=lF (mH a.i)) (b:=[32,109,111,110,116,104,115]) (by simp;omega);simp[e,k6,q95,Ql hi1 hi2,zA.asStr,this]
 grind
end
section
variable [kC]
def dT:List (List Nat):=[[],[100,111,119,110],[117,112],[102,108,111,111,114],[99,101,105,108],[104,97,108,102],[101,118,101,110]]
def zY(n:Nat):List Nat:=if n<7 then dT.getD n []else []
def mI (v:xE):List Nat:=uO (lJ v.i) v
def sM (lev:Nat)(p:Nat × List Nat):List Nat:=if lev<=p.1 then p.2 else [40]++p.2++[41]
def tM:Bool->List (Nat × List Nat)->List Nat
 | _,[]=>[]
 | b,p::l=>(if b then []else [44,32])++p.2++tM false l
def bR(op:Nat)(i:Int):List Nat:=(if op=19 then [44,32]++zY i.toNat else [])++[41]
def lH(op:Nat)(name:List Nat)(v:xE)(l:List (Nat × List Nat)):List Nat:=
 if (oB op).style=1 then mI v else if (oB op).style=2 then(oB op).word
 else if (oB op).style=3 then(oB op).word++name++[32,97,116,32]++sM (oB op).left (l.getD 0 (0,[]))
 else if (oB op).style=4 then sM (oB op).left (l.getD 0 (0,[]))++([32]++(oB op).word++[32]++sM (oB op).right (l.getD 1 (0,[])))
 else if (oB op).style=5 then(oB op).word++sM (oB op).left (l.getD 0 (0,[]))
 else(oB op).word++[40]++((if (oB op).named then name++[44,32]else [])++(tM true l++bR op v.i))
mutual
def aH:qA->List Nat
 | .mk op name v args=>lH op name v (iE args)
def iE:List qA->List (Nat × List Nat)
 | []=>[]
 | y::l=>((oB y.op).level,aH y)::iE l
end
def dR:∀l:List qA,iE l=l.map fun y=>((oB y.op).level,aH y)
 | []=>by rw[iE];rfl
 | y::l=>by rw[iE,dR l];rfl
def Wr (s T s':List Nat):Prop:=s'=s++T\/(65536<s.length+T.length/\65536<s'.length)
theorem Wr.one(s T:List Nat):Wr s T (s++T):=.inl rfl
def Wr.big{s:List Nat}(T:List Nat)(h:65536<s.length):Wr s T s:=.inr ⟨by omega,h⟩
def Wr.trans{s T s1 U s2:List Nat}(h:Wr s T s1)(k:Wr s1 U s2):Wr s (T++U) s2:=by
 rcases h with rfl | ⟨h1,h2⟩
 ·rcases k with rfl | ⟨k1,k2⟩
  ·exact .inl (by simp)
  ·exact .inr ⟨by simp at k1 ⊢;omega,k2⟩
 ·rcases k with rfl | ⟨k1,k2⟩
  ·exact .inr ⟨by simp;omega,by simp;omega⟩
  ·exact .inr ⟨by simp;omega,k2⟩
def Wr.eq{s T T' s':List Nat}(h:Wr s T s')(e:T=T'):Wr s T' s':=e ▸ h
def JS{l:List (Nat × List Nat)}{i:Nat}(h:i<l.length):tM (decide (i=0)) (l.drop i)=(if i=0 then []else [44,32])++l[i].2++tM (decide (i+1=0)) (l.drop (i+1)):=by
 rw[ybl h,tM];by_cases h0:i=0<;>simp[h0]
end
section
variable [kC]
variable {t tf:Tr sA}
def sP(t:Tr sA):Prop:=At t 1 0 (dT.map zA.str)
theorem sP.mono{t':Tr sA}(h:sP t)(k:yB t t'):sP t':=At.mono k h
theorem VO(hG:sP t){n:Nat}(hn:n<256):vB yA F 230 [.int .u8 (n:Int)] t=some (.str (zY n))/\(zY n).length<=10/\wB 256 (zY n):=by
 unfold zY;by_cases h:n<7
 ·have hx:(dT.map zA.str)[n]?=some (.str (dT.getD n [])):=by
   have:n<dT.length:=h
   simp_all
  rw[yab h];refine⟨bB.2 (w230 (tA (by grind [wrap_i64,qE]) (vA (v:=.ptr 1 n) ?_ (sC (v:=.str (dT.getD n [])) ?_ (pB ⟨rfl,rfl⟩))))),?_,?_⟩
  ·unfold rB;rw[ty194,pA];have e:(zA.int .u8 (n:Int)).asNat=some n:=rfl;rw[e,pA];grind [zA.asSlice,zA.asPtr,pA,lD.asArr,gH,lC,sE]
  ·have:=hG.load1 gH rfl hx;rw[ybw]at this;exact this
  ·have:∀k,k<7->(dT.getD k []).length<=10:=by decide
   grind
  ·have:∀k,k<7->∀x∈dT.getD k [],x<256:=by decide
   exact this n h
 ·rw[yaa h];exact⟨bB.2 (w230 (bA (by grind [wrap_i64,fE]) ⟨rfl,rfl⟩)),by simp,fun x hx=>by cases hx⟩
theorem Xv{s:List Nat}(h:∀x∈s,48<=x/\x<58):wB 256 s:=fun x hx=>by grind
def vG{a b:List Nat}(ha:wB 256 a)(hb:wB 256 b):wB 256 (a++b):=fun x hx=>by
 rcases yaf.1 hx with h | h
 ·exact ha x h
 ·exact hb x h
theorem Xu{neg:Bool}{n:Nat}:wB 256 (lU neg n)/\lU neg n≠[]:=by
 have h:=qW n;refine⟨vG ?_ (Xv (Gz n)),fun e=>?_⟩
 ·cases neg
  ·intro x hx;cases hx
  ·intro x hx;simp_all
 grind [lU]
def Po{f:fC}:wB 256 (mE f)/\mE f≠[]:=by
 unfold mE vN;refine⟨vG Xu.1 ?_,fun e=>Xu.2 (List.append_eq_nil_iff.1 e).1⟩;split
 ·intro x hx;cases hx
 ·intro x hx;rcases ybs.1 hx with rfl | hx
  ·decide
  ·exact Xu.1 x hx
theorem Pn{n:Int}:wB 256 (mH n)/\mH n≠[]:=by
 by_cases h:n<0
 ·obtain⟨u,rfl⟩:∃u:Nat,n = -(u:Int):=⟨n.natAbs,by omega⟩;rw[Yt (by omega)];refine⟨fun x hx=>?_,by simp⟩;rcases ybs.1 hx with rfl | hx
  ·decide
  ·exact Xv (Gz u) x hx
 ·obtain⟨u,rfl⟩:∃u:Nat,n=(u:Int):=⟨n.toNat,by omega⟩;rw[Qg];exact⟨Xv (Gz u),fun e=>by grind [qW]⟩
theorem Pm{s:List Nat}(h:wB 256 s)(hn:s≠[]):wB 256 (lF s)/\lF s≠[]:=by
 unfold lF;split
 ·exact⟨vG (by intro x hx;grind) fun x hx=>h x (List.mem_of_mem_drop hx),by simp⟩
 simp_all
theorem PD{v:xE}(hv:v.fit)(hp:wH v=true):uO (lJ v.i) v≠[]/\(uO (lJ v.i) v).length<=20100/\wB 256 (uO (lJ v.i) v):=by
 obtain⟨_,hff,hi1,hi2⟩:=hv;have hil:=Kz hi1 hi2;have hsl:=Ff (mH v.i);have hsi:=Pm (Pn (n:=v.i)).1 Pn.2;have hsf:=Pm (Po (f:=v.f)).1 Po.2;have hc:=dN v.i;have hF:∀k,(k=2\/k=3)->v.kind=k->(lF (mE v.f)).length<=20010:=by
  grind [Qu,Oo,Ff]
 unfold uO;split
 ·split
  ·exact⟨by simp,by simp,by intro x hx;grind⟩
  ·exact⟨by simp,by simp,by intro x hx;grind⟩
 ·split
  ·grind
  ·split
   ·rename_i e;have:=hF 3 (.inr rfl) e;exact⟨by simp,by simp;omega,vG (by intro x hx;grind) hsf.1⟩
   ·split
    ·grind
    ·split
     ·exact⟨by simp,by simp;omega,vG hsi.1 (by intro x hx;grind)⟩
     ·split
      ·exact⟨by simp,by simp;omega,vG hsi.1 (by intro x hx;grind)⟩
      grind [wH]
theorem Qv{op:Nat}(h:op<27):(oB op).word.length<=10/\∀x∈(oB op).word,x<256:=by
 have:∀k,k<27->(oB k).word.length<=10/\∀x∈(oB k).word,x<256:=by decide +kernel
 grind
theorem Ll{op:Nat}(h:op<27):((oB op).style=1->op=1)/\((oB op).style=2->(oB op).word≠[])/\((oB op).style=3->1<=(oB op).least)/\((oB op).style=4->2<=(oB op).least)/\((oB op).style=5->1<=(oB op).least/\(oB op).word≠[])/\(oB op).style<=6/\(oB op).most<=3/\(op=1->(oB op).style=1):=by
 have:∀k,k<27->((oB k).style=1->k=1)/\((oB k).style=2->(oB k).word≠[])/\((oB k).style=3->1<=(oB k).least)/\((oB k).style=4->2<=(oB k).least)/\((oB k).style=5->1<=(oB k).least/\(oB k).word≠[])/\(oB k).style<=6/\(oB k).most<=3/\(k=1->(oB k).style=1):=by decide +kernel
 grind
theorem uK{s:List Nat}(h:nH s=true):s.length<=24:=by
 unfold nH at h;grind
def cJ (h:Nat):Nat:=86000+200*h
def WOk (bf:Nat)(x:qA):Prop:=∀(d:Nat) (cs:List zA) (tf t:Tr sA) (bx:Nat) (s:List Nat) (Q:wC),x.fit->tG x d=true->wD tf bf none jN->pK tf->sP tf->RD tf x.d cs->BX 171 [.ptr bf 0] tf t bx s->s.length<=95000 →
 (∀t' s',BX 171 [.ptr bf 0] tf t' bx s'->s'≠[]->s'.length<=max s.length (cJ (25-d))->Wr s (aH x) s'->Q (.tup []) t')->Wc yA F 137 [.ptr bx 0,.agg cs] t Q
def bO{b:Nat}:dC yA 171 0 (.ptr b 0)=some (.ptr b 0):=by kernel_rfl
def LS{b:Nat}:dC yA 171 1 (.ptr b 0)=some (.ptr b 2):=by kernel_rfl
def BX.forms{bf bx:Nat}{s:List Nat}(h:BX 171 [.ptr bf 0] tf t bx s):dA yA 101 ⟨0,t⟩ (.ptr bx 2)=some (.ptr bf 0):=by
 obtain⟨_,_,_,_,_,p,tv,_,h4,_,_⟩:=h;exact h4.load1 (j:=2) ty101 rfl rfl
section
variable {bf bx:Nat}{s:List Nat}{Q:wC}
theorem ZJ{y:qA}{d:Nat}{cs:List zA}{lev:Nat}(hy:WOk bf y)(hfit:y.fit)(hP:tG y d=true)(hF:wD tf bf none jN)(hM:pK tf)(hW:sP tf)(hr:RD tf y.d cs)(hB:BX 171 [.ptr bf 0] tf t bx s)(hs:s.length<=94000)(hd1:1<=d)
  (hQ:∀t' s',BX 171 [.ptr bf 0] tf t' bx s'->s'≠[]->s'.length<=max s.length (cJ (25-d))+2->Wr s (sM lev ((oB y.op).level,aH y)) s'->Q (.tup []) t'):Wc yA F 190 [.ptr bx 0,.agg cs,.int .i64 (lev:Int)] t Q:=by
 obtain⟨a,b,c,rfl,ha,hb,hc⟩:=xJ hr;have hop:y.op<27:=by
  obtain⟨op,name,v,args⟩:=y;unfold tG kN at hP;simp only[ybb,decide_eq_true_eq]at hP;exact hP.1.2.1.1.1.1
 have hbm:cJ (25-d)<=91000:=by grind [cJ]
 refine w190 ?_;unfold t190 uI aE uZ uY;refine vA pG (vA LS (sC hB.forms (vA pG (vA (Zc hop) (vA (aO (by decide)) (sC (zcx (hF.up hB.le) hop) (tB ?_)))))));by_cases hl:lev<=(oB y.op).level
 ·refine tA (yLe (by omega)) (cA ?_);rw[q137];exact hy d _ tf t bx s _ hfit hP hF hM hW hr hB (by omega) fun t' s' h1 h2 h3 h4=>hQ t' s' h1 h2 (by omega) (h4.eq (by unfold sM;rw[yab hl]))
 ·refine bA (nLe (by omega)) (vA pG (vA bO (cA ?_)));rw[mO];refine hB.write (by simp) (by intro x hx;simp_all) (by grind) fun _ t1 h1=>cA ?_;rw[q137];refine hy d _ tf t1 bx _ _ hfit hP hF hM hW hr h1 (by grind) fun t2 s2 h2 h2n h2l h2w=>vA pG (vA bO (cA ?_));rw[mO];simp only[ybg,List.length_singleton]at h2l;refine h2.write (by simp) (by intro x hx;simp_all) (by grind) fun _ t3 h3=>?_
  exact hQ _ _ h3 (by simp) (by grind) ((((Wr.one _ _).trans h2w).trans (Wr.one _ _)).eq (by unfold sM;rw[yaa hl]))
theorem zaz{args:List qA}{d:Nat}{c:zA}(hall:∀y∈args,WOk bf y)(hfits:∀y∈args,y.fit)(hP:∀y∈args,tG y (d+1)=true)(hF:wD tf bf none jN)(hM:pK tf)(hW:sP tf)(hc:mA tf 9 (args.map qA.d) c)(hlen:args.length<=3)(hd:d<=24)
  {c0 c2 c7:Int} {c1:List Nat} {c3 c5:Bool} {c4 c6 c8:zA} {op:Nat} (hc0:c0=(op:Int)) (h19c:op=19->0<=c7/\c7<256):∀(k i:Nat) (t:Tr sA) (s:List Nat),i+k=args.length->BX 171 [.ptr bf 0] tf t bx s->s≠[]->s.length<=cJ (24-d)+100+2*i →
  (∀t' s',BX 171 [.ptr bf 0] tf t' bx s'->s'≠[]->s'.length<=cJ (24-d)+130->Wr s (tM (decide (i=0)) ((iE args).drop i)++bR op c7) s'->Q (.tup []) t') →
  jp 191 2 [.ptr bx 0,c,.int .i64 (args.length:Int),.int .i64 (i:Int),.int .u8 c0,.str c1,.int .u8 c2,.bool c3,c4,.bool c5,c6,.int .i64 c7,c8] t Q:=by
 have hbm:cJ (24-d)<=91000:=by grind [cJ]
 intro k;induction k with
 | zero=>
  intro i t s hi hB hn hs hQ;refine zf8 ?_;unfold Ur uS uG mC qB aE uZ uY uM0 aG;refine bA (fE (by omega)) ?_;have hdrop:(iE args).drop i=[]:=ybt (by rw[dR,ybf];omega);rw[hdrop,tM,yah]at hQ;unfold bR at hQ;by_cases h19:op=19
  ·rw[yab h19]at hQ;refine tA (bG (by omega)) (vA pG (vA bO (cA ?_)));obtain⟨n,hn1,hn2,hn3⟩:∃n:Nat,iA .u8 c7=(n:Int)/\n<256/\c7.toNat=n:=⟨c7.toNat,by grind [Eg],by omega,rfl⟩;obtain⟨hw1,hw2,hw3⟩:=VO (hW.mono hB.le) hn2;rw[hn3]at hQ;rw[hn1,q230,hw1,xA];refine pB (vA (pC (by grind)) (pB (cA ?_)));rw[mO];refine hB.write (by simp) (vG (by intro x hx;grind) hw3) (by grind) fun _ t1 h1=>vA pG (vA bO (cA ?_))
   rw[mO];refine h1.write (by simp) (by intro x hx;simp_all) (by grind) fun _ t2 h2=>?_;exact hQ _ _ h2 (by simp) (by grind) ((Wr.one _ _).trans (Wr.one _ _))
  ·rw[yaa h19,yah]at hQ;refine bA (cF (by omega)) (vA pG (vA bO (cA ?_)));rw[mO];refine hB.write (by simp) (by intro x hx;simp_all) (by grind) fun _ t2 h2=>?_;exact hQ _ _ h2 (by simp) (by grind) (Wr.one _ _)
 | succ k ih=>
  intro i t s hi hB hn hs hQ;have hlt:i<args.length:=by omega
  have hm:args[i]∈args:=ycj hlt;refine zf8 ?_;unfold Ur uS uG mC qB aE uZ uY uM0 aG;obtain⟨b0,off0,cs,g1,g2,_,_,g5⟩:=rD.at nT (by simp) hc (i:=i) (d:=args[i].d) (by simp[hlt]);have ld:dA yA 39 ⟨0,t⟩ (.ptr b0 off0)=some (En true cs):=It (H:=⟨0,tf⟩) (HA:=⟨0,t⟩) hB.le g2;refine tA (qE (by omega)) (vA g1 (sC ld ?_));rw[qL];refine dF (aF g5 (qA.zs _)) ?_
  have hmk:=g5.mk (qA.zs args[i]);have hcs:[zA.int .u8 ((cellsOf cs).i 0),.str ((cellsOf cs).s 1),.int .u8 ((cellsOf cs).i 2),.bool ((cellsOf cs).b 3),(cellsOf cs).v 4,.bool ((cellsOf cs).b 5),(cellsOf cs).v 6,.int .i64 ((cellsOf cs).i 7),(cellsOf cs).v 8]=cs:=hmk;rw[hcs];refine tA g5.all ?_;have hli:i<(iE args).length:=by rw[dR,ybf];exact hlt
  have hgi:(iE args)[i]=((oB args[i].op).level,aH args[i]):=by simp[dR]
  have hj:=JS hli;rw[hgi]at hj;have next:∀t' s',BX 171 [.ptr bf 0] tf t' bx s'->s'≠[]->s'.length<=cJ (24-d)+100+2*(i+1)->Wr s ((if i=0 then []else [44,32])++aH args[i]) s'->jp 191 2 [.ptr bx 0,c,.int .i64 (args.length:Int),.int .i64 (iA .i64 ((i:Int)+1)),.int .u8 c0,.str c1,.int .u8 c2,.bool c3,c4,.bool c5,c6,.int .i64 c7,c8] t' Q:=by
   intro t' s' h1 h2 h3 h4;rw[wrap_i64 (by omega) (by omega),show(i:Int)+1=((i+1:Nat):Int) by omega];exact ih (i+1) t' s' (by omega) h1 h2 h3 fun t2 s2 g1 g2 g3 g4=>hQ t2 s2 g1 g2 g3 ((h4.trans g4).eq (by rw[hj];simp[ybz]))
  have e25:25-(d+1)=24-d:=by omega
  by_cases h0:0<i
  ·refine tA (qE (by omega)) (vA pG (vA bO (cA ?_)));rw[mO];refine hB.write (by simp) (by intro x hx;grind) (by grind) fun _ t1 h1=>cA ?_;rw[q137];refine hall _ hm (d+1) _ tf t1 bx _ _ (hfits _ hm) (hP _ hm) hF hM hW g5 h1 (by grind) fun t2 s2 h2 h2n h2l h2w=>zC ?_;have hn0:i≠0:=by omega
   exact next _ _ h2 h2n (by grind) (((Wr.one _ _).trans h2w).eq (by rw[yaa hn0]))
  ·refine bA (fE (by omega)) (cA ?_);rw[q137];refine hall _ hm (d+1) _ tf t bx _ _ (hfits _ hm) (hP _ hm) hF hM hW g5 hB (by omega) fun t2 s2 h2 h2n h2l h2w=>zC ?_;have hn0:i=0:=by omega
   exact next _ _ h2 h2n (by grind) (h2w.eq (by rw[yab hn0,yah]))
theorem AJ{op:Nat}{name:List Nat}{v:xE}{args:List qA}{d:Nat}{a b c:zA}(hall:∀y∈args,WOk bf y)(hfit:qA.fit (.mk op name v args))(hP:tG (.mk op name v args) d=true)(hs6:(oB op).style=6)(hF:wD tf bf none jN)(hM:pK tf)(hW:sP tf)
  (hc:mA tf 9 (args.map qA.d) c) (hB:BX 171 [.ptr bf 0] tf t bx s) (hs:s.length<=65536)
  (hQ:∀t' s',BX 171 [.ptr bf 0] tf t' bx s'->s'≠[]->s'.length<=cJ (25-d)->Wr s (lH op name v (iE args)) s'->Q (.tup []) t') :
  Wc yA F 191 [.ptr bx 0,.agg [.int .u8 op,.str name,.int .u8 v.kind,.bool v.f.n.neg,a,.bool v.f.d.neg,b,.int .i64 v.i,c],.ptr bf (op*8)] t Q:=by
 unfold tG kN at hP;simp only[ybb,decide_eq_true_eq]at hP;obtain⟨⟨hd,⟨⟨⟨h27,_⟩,hl⟩,hm⟩,hnm⟩,hrest⟩:=hP;obtain⟨f1,f2,f3,f4,f5,f6,f7,f8⟩:=Ll h27;have hw:=Qv h27;have h1:op≠1:=fun e=>by omega
 rw[yaa h1,ybb,Sc,ycb]at hrest;unfold qA.fit at hfit;have hfits:=qA.fits_mem hfit.2.2.2.2.2;have hmax:cJ (25-d)=cJ (24-d)+200:=by grind [cJ]
 have h19c:op=19->0<=v.i/\v.i<256:=by
  grind [oW]
 unfold lH at hQ;rw[hs6]at hQ;simp only[Nat.reduceEqDiff,if_false]at hQ;have go9:∀t' s',BX 171 [.ptr bf 0] tf t' bx s'->s'≠[]->s'.length<=65536+100->Wr s ((oB op).word++[40]++(if (oB op).named then name++[44,32]else [])) s'->jp 191 9 [.ptr bx 0,.int .u8 op,.str name,.int .u8 v.kind,.bool v.f.n.neg,a,.bool v.f.d.neg,b,.int .i64 v.i,c] t' Q:=by
  intro t' s' k1 k2 k3 k4;refine j191_9 ?_;unfold zey uI uZ uY;have hlen:=hc.len;rw[ybf]at hlen;refine vA hlen (tB (zC ?_));refine zaz (d:=d) hall hfits (fun y hy=>hrest.2 y hy) hF hM hW hc (by omega) hd rfl h19c args.length 0 t' s' (by omega) k1 k2 (by grind [cJ]) fun t2 s2 g1 g2 g3 g4=>hQ t2 s2 g1 g2 (by omega) ((k4.trans g4).eq (by simp[ybz]))
 refine w191 ?_;unfold t191 uB uS aE uZ uY;have hld:=IA (hF.up hB.le) h27;refine vA pG (vA bO (vA pG (vA (aO (by decide)) (sC hld (pB (vA (pC (by grind)) (pB (cA ?_))))))));rw[mO];refine hB.write (by simp) (vG hw.2 (by intro x hx;simp_all)) (by grind) fun _ t1 h1=>?_;refine vA pG (vA (aO (by decide)) (sC (ID (hF.up h1.le) h27) (yC ?_)))
 cases hn:(oB op).named with
 | true=>
  rw[hn,yab rfl]at hnm;have hnl:=uK hnm;refine tA rfl (vA pG (vA bO (vA (pC (by grind)) (pB (cA ?_)))));rw[mO];refine h1.write (by simp) (vG hfit.2.2.1 (by intro x hx;grind)) (by grind) fun _ t2 h2=>zC ?_;exact go9 _ _ h2 (by simp) (by grind) (((Wr.one _ _).trans (Wr.one _ _)).eq (by rw[hn,yab rfl]))
 | false=>exact bA (by simp) (zC (go9 _ _ h1 (by simp) (by grind) ((Wr.one _ _).eq (by rw[hn];simp))))
set_option maxHeartbeats 2000000 in
mutual
/-- THE WRITER COMES TO AN END -/
theorem BJ:∀(x:qA),WOk bf x
 | .mk op name v args=>by
  have hall:=BH args;intro d cs tf t bx s Q hfit hP hF hM hW hr hB hs hQ;have hP0:=hP;have hfit0:=hfit;obtain⟨a,b,c,rfl,ha,hb,hc⟩:=xJ hr;simp only[qA.op,qA.name,qA.v,qA.args]at ha hb hc ⊢;unfold tG kN at hP;simp only[ybb,decide_eq_true_eq]at hP;obtain⟨⟨hd,⟨⟨⟨h27,hs0⟩,hl⟩,hm⟩,hnm⟩,hrest⟩:=hP;simp only[ycp,decide_eq_false_iff_not]at hs0;obtain⟨f1,f2,f3,f4,f5,f6,f7,f8⟩:=Ll h27
  have hw:=Qv h27;unfold qA.fit at hfit;have hfits:=qA.fits_mem hfit.2.2.2.2.2;have hmax:cJ (25-d)=cJ (24-d)+200:=by grind [cJ]
  have e25:25-(d+1)=24-d:=by omega
  have hmb:cJ (24-d)<=91000/\86000<=cJ (24-d):=by grind [cJ]
  refine w137 ?_;unfold t137 uI uU uS uG aE uZ uY aG;refine vA pG (vA bO (cA ?_));rw[q46,hB.len,xA];refine tB ?_;by_cases hbig:65536<s.length
  ·refine tA (qE (by omega)) ?_;exact hQ t s hB (fun e=>by simp_all) (by omega) (Wr.big _ hbig)
  rw[aH]at hQ;refine bA (fE (by omega)) ?_;have hFt:=hF.up hB.le;refine vA pG (vA LS (sC hB.forms (vA pG (vA (Zc h27) (vA pG (vA (aO (by decide)) (sC (IC hFt h27) (tB ?_))))))));have ldw:∀ {t'},yB tf t'->dA yA 9 ⟨0,t'⟩ (.ptr bf (op*8+1))=some (.str (oB op).word):=fun h=>IA (hF.up h) h27;have notc:(oB op).style≠1->rK args (d+1)=true:=by
   grind
  have arg:∀(i:Nat) (lev:Nat) (t1:Tr sA) (s1:List Nat) (K:zA->T) (Q:wC) (k:Nat),(oB op).style≠1->i<args.length->k<8->BX 171 [.ptr bf 0] tf t1 bx s1->s1.length<=94000->dA yA 3 ⟨0,t1⟩ (.ptr bf (op*8+k))=some (.int .i64 (lev:Int)) →
    (∀t' s',BX 171 [.ptr bf 0] tf t' bx s'->s'≠[]->s'.length<=max s1.length (cJ (24-d))+2->Wr s1 (sM lev ((iE args).getD i (0,[]))) s'->wp 137 (K (.tup [])) t' Q) →
    wp 137 (.opt (rB yA 37 c (.int .i64 (i:Int))) fun a36=>.light (fun m=>dA yA 39 ⟨0,m⟩ a36) fun a37=>.asG [(.int .u8 0),(.str []),(.int .u8 0),(.bool false),.nilslice,(.bool false),.nilslice,(.int .i64 0),.nilslice] a37 fun X38=>
     .opt (Eo (.ptr bf (op*8))) fun a39=>.opt (dC yA 168 k a39) fun a40=>.light (fun m=>dA yA 3 ⟨0,m⟩ a40) fun a41=>.asI .i64 a41 fun n42=>.call 190 [.ptr bx 0,(.agg [(.int .u8 (X38.i 0)),(.str (X38.s 1)),(.int .u8 (X38.i 2)),(.bool (X38.b 3)),(X38.v 4),(.bool (X38.b 5)),(X38.v 6),(.int .i64 (X38.i 7)),(X38.v 8)]),(.int .i64 n42)] K) t1 Q:=by
   intro i lev t1 s1 K Q k hne hi hk h1 hs1 hldp hQ';have hm:args[i]∈args:=ycj hi;obtain⟨b0,off0,cs,g1,g2,_,_,g5⟩:=rD.at nT (by simp) hc (i:=i) (d:=args[i].d) (by simp[hi]);have ld:dA yA 39 ⟨0,t1⟩ (.ptr b0 off0)=some (En true cs):=It (H:=⟨0,tf⟩) (HA:=⟨0,t1⟩) h1.le g2;refine vA g1 (sC ld ?_);rw[qL];refine dF (aF g5 (qA.zs _)) ?_;have hmk:=g5.mk (qA.zs args[i])
   have hcs:[zA.int .u8 ((cellsOf cs).i 0),.str ((cellsOf cs).s 1),.int .u8 ((cellsOf cs).i 2),.bool ((cellsOf cs).b 3),(cellsOf cs).v 4,.bool ((cellsOf cs).b 5),(cellsOf cs).v 6,.int .i64 ((cellsOf cs).i 7),(cellsOf cs).v 8]=cs:=hmk;rw[hcs];refine vA pG (vA (aO hk) (sC hldp (tB (cA ?_))));rw[q190];have hPy:tG args[i] (d+1)=true:=by
    grind [Sc]
   have hgi:(iE args).getD i (0,[])=((oB args[i].op).level,aH args[i]):=by simp[dR,hi]
   rw[hgi]at hQ';exact ZJ (d:=d+1) (hall _ hm) (hfits _ hm) hPy hF hM hW g5 h1 hs1 (by omega) fun t' s' k1 k2 k3 k4=>hQ' t' s' k1 k2 (by rw[e25]at k3;exact k3) k4
  have hQ0:=hQ;have hd1:(oB op).style=1->lH op name v (iE args)=mI v:=fun e=>by unfold lH;rw[yab e]
  have hd2:(oB op).style=2->lH op name v (iE args)=(oB op).word:=fun e=>by unfold lH;rw[yaa (by omega),yab e]
  have hd3:(oB op).style=3->lH op name v (iE args)=(oB op).word++name++[32,97,116,32]++sM (oB op).left ((iE args).getD 0 (0,[])):=fun e=>by unfold lH;rw[yaa (by omega),yaa (by omega),yab e]
  have hd4:(oB op).style=4->lH op name v (iE args)=sM (oB op).left ((iE args).getD 0 (0,[]))++([32]++(oB op).word++[32]++sM (oB op).right ((iE args).getD 1 (0,[]))):=fun e=>by unfold lH;rw[yaa (by omega),yaa (by omega),yaa (by omega),yab e]
  have hd5:(oB op).style=5->lH op name v (iE args)=(oB op).word++sM (oB op).left ((iE args).getD 0 (0,[])):=fun e=>by unfold lH;rw[yaa (by omega),yaa (by omega),yaa (by omega),yaa (by omega),yab e]
  have done:∀t' s',BX 171 [.ptr bf 0] tf t' bx s'->s'≠[]->s'.length<=cJ (25-d)->Wr s (lH op name v (iE args)) s'->wp 137 (.ret (.tup [])) t' Q:=fun t' s' k1 k2 k3 k4=>hQ0 t' s' k1 k2 (by omega) k4;have i0:((0:Nat):Int)=0:=rfl;have i1:((1:Nat):Int)=1:=rfl;have arg0:=arg 0;have arg1:=arg 1;rw[i0]at arg0;rw[i1]at arg1;have style:(oB op).style=1\/(oB op).style=2\/(oB op).style=3\/(oB op).style=4\/(oB op).style=5\/(oB op).style=6:=by omega
  rcases style with e | e | e | e | e | e
  ·-- a constant
   refine tA (bG (by omega)) (vA pG (vA bO (cA ?_)));have hop1:=f1 e;rw[yab hop1]at hrest;obtain⟨v1,v2,v3⟩:=PD hfit.2.2.2.1 hrest;have hv:=PE (date:=lJ v.i) (ha.mono hB.le) (hb.mono hB.le) hfit.2.2.2.1 hrest (fun hk=>by
    have hp:=hrest;unfold wH at hp;rw[yaa (by omega),yaa (by omega),yab hk]at hp;simp only[ybb,decide_eq_true_eq]at hp;exact Lu (hM.mono hB.le) hp.2.1 hp.2.2)
   rw[q40,hv,xA];refine pB (cA ?_);rw[mO];refine hB.write v1 v3 (by omega) fun _ t1 h1=>done _ _ h1 (by simp[v1]) (by grind) ((Wr.one _ _).eq (hd1 e).symm)
  ·-- a word
   refine bA (cF (by omega)) (tA (bG (by omega)) (vA pG (vA bO (vA pG (vA (aO (by decide)) (sC (ldw hB.le) (pB (cA ?_))))))));rw[mO];refine hB.write (f2 e) hw.2 (by omega) fun _ t1 h1=>done _ _ h1 (by simp[f2 e]) (by grind) ((Wr.one _ _).eq (hd2 e).symm)
  ·-- word,name,at
   have hnl:name.length<=24:=by
    grind [uK,rH]
   have h3:=f3 e;refine bA (cF (by omega)) (bA (cF (by omega)) (tA (bG (by omega)) (vA pG (vA bO (vA pG (vA (aO (by decide)) (sC (ldw hB.le) (pB (vA (pC (by omega)) (pB (vA (pC (by grind)) (pB (cA ?_)))))))))))));rw[mO];refine hB.write (by simp) (vG (vG hw.2 hfit.2.2.1) (by intro x hx;grind)) (by grind) fun _ t1 h1=>?_
   refine arg0 _ t1 _ _ _ 6 (by omega) (by omega) (by decide) h1 (by grind) (Yg (hF.up h1.le) h27) fun t2 s2 k1 k2 k3 k4=>done _ _ k1 k2 (by grind) (((Wr.one _ _).trans k4).eq (hd3 e).symm)
  ·-- an operator
   have h4:=f4 e;refine bA (cF (by omega)) (bA (cF (by omega)) (bA (cF (by omega)) (tA (bG (by omega)) ?_)));refine arg0 _ t _ _ _ 6 (by omega) (by omega) (by decide) hB (by omega) (Yg hFt h27) fun t1 s1 k1 k2 k3 k4=>?_;refine vA pG (vA bO (vA pG (vA (aO (by decide)) (sC (ldw k1.le) (pB (vA (pC (by grind)) (pB (vA (pC (by grind)) (pB (cA ?_))))))))))
   rw[mO];refine k1.write (by simp) (vG (vG (by intro x hx;simp_all) hw.2) (by intro x hx;simp_all)) (by grind) fun _ t2 h2=>?_;refine arg1 _ t2 _ _ _ 7 (by omega) (by omega) (by decide) h2 (by grind) (zcw (hF.up h2.le) h27) fun t3 s3 m1 m2 m3 m4=>done _ _ m1 m2 (by grind) ((k4.trans ((Wr.one _ _).trans m4)).eq (hd4 e).symm)
  ·-- not
   have h5:=f5 e;refine bA (cF (by omega)) (bA (cF (by omega)) (bA (cF (by omega)) (bA (cF (by omega)) (tA (bG (by omega)) (vA pG (vA bO (vA pG (vA (aO (by decide)) (sC (ldw hB.le) (pB (cA ?_)))))))))));rw[mO];refine hB.write h5.2 hw.2 (by omega) fun _ t1 h1=>?_;refine arg0 _ t1 _ _ _ 6 (by omega) (by omega) (by decide) h1 (by grind) (Yg (hF.up h1.le) h27) fun t2 s2 k1 k2 k3 k4=>done _ _ k1 k2 (by grind) (((Wr.one _ _).trans k4).eq (hd5 e).symm)
  ·-- a call
   refine bA (cF (by omega)) (bA (cF (by omega)) (bA (cF (by omega)) (bA (cF (by omega)) (bA (cF (by omega)) (tA (bG (by omega)) (cA ?_))))));rw[q191];grind [AJ]
theorem BH:∀(l:List qA),∀y∈l,WOk bf y
 | [],_,h=>by cases h
 | x::l,y,h=>by
  rcases ybs.1 h with e | h
  ·rw[e];exact BJ x
  ·exact BH l y h
end
end
end
section
variable [kC]
variable {t tf:Tr sA}
theorem LU{x:qA}{cs:List zA}{Q:wC}(hfit:x.fit)(hP:tG x 1=true)(hM:pK t)(hW:sP t)(hr:RD t x.d cs)(hQ:∀t' s,yB t t'->s≠[]->Wr [] (aH x) s->s.length<=91000->wB 256 s->Q (.str s) t'):Wc yA F 69 [.agg cs] t Q:=by
 obtain⟨a,b,c,rfl,ha,hb,hc⟩:=xJ hr;refine w69 ?_;unfold t69 uS mC aE uZ uY;refine cA ?_;rw[q105];refine HD fun bf t1 h1 h2 h3 h4 h5=>?_;refine tA rfl (jG fun bx hbx hbb=>?_);obtain⟨t2,e1,e2,e3,e4⟩:=aX hbx [.nilptr,.nilslice,.ptr bf 0] (some (.ty 171));have hbox:Es yA 171 (.agg [.nilptr,.nilslice,.ptr bf 0]) ⟨bx,t1⟩=some (.ptr bx 0,⟨bx+1,t2⟩):=by
  unfold Es;have:vK yA 171=some (.ty 171):=by kernel_rfl
  rw[this,<- e1];rfl
 refine⟨_,_,hbox,cA ?_⟩;have hB:BX 171 [.ptr bf 0] t1 t2 bx []:=⟨hbb,hbx,e3,(by intro x hx;cases hx),rfl,.nilptr,.nilslice,.inl rfl,e2,.inl ⟨rfl,rfl⟩,Qj⟩;rw[q137];refine BJ x 1 _ t1 t2 bx [] _ hfit hP h3 (hM.mono h4) (hW.mono h4) (hr.mono h4) hB (by simp) fun t3 s h6 h7 h8 hw=>?_;refine vA pG (vA bO (cA ?_));rw[q47];have hl:s.length<=91000:=by
  grind [cJ]
 exact h6.string h7 (by omega) fun t4 h9=>pB (hQ _ _ (h4.trans h9) h7 hw hl h6.2.2.2.1)
end
section
def qS:List (List Nat):=[[],[116,114,117,116,104],[110,117,109,98,101,114],[109,111,110,101,121],[100,97,116,101],[100,97,121,115],[109,111,110,116,104,115]]
def bW(t:Tr sA):Prop:=At t 0 0 (qS.map zA.str)
theorem bW.mono{t t':Tr sA}(h:bW t)(k:yB t t'):bW t':=At.mono k h
end
end Go.Proofs
namespace Go.Am
open Go Go.RowKit
def fV{α:Type}(f:Nat->Option α):Nat->Tr α
 | 0=>.leaf
 | n+1=>match f n with
  | some v=>(fV f n).set n v
  | none=>fV f n
theorem qR{α:Type}(f:Nat->Option α):∀(n a:Nat),(fV f n).get a=if a<n then f a else none:=by
 intro n;induction n with
 | zero=>intro a;rw[yaa (by omega)];exact Tr.get_leaf _
 | succ n ih=>
  grind [fV,Tr.get_set]
def wP (N:Nat):Value->Option zA
 | .bool b=>some (.bool b)
 | .int k n=>some (.int k n)
 | .string s=>some (.str (kF s))
 | .slice none 0 0=>some .nilslice
 | .slice (some _) 0 0=>some (.slice 0 0 0 0)
 | .slice (some ⟨b,off,none⟩) len cap=>if b<N then some (.slice (256+b) off len cap)else none
 | _=>none
def absB (N:Nat):Obj->Option sA
 | .cells cs _ _=>some (.cells (fV (fun j=>(cs[j]?).bind (wP N)) cs.size) cs.size none)
 | _=>none
def rI (w:World):Tr sA:=fV (fun a=>if a<256 then(w.heap[a]?).bind (absB w.heap.size)else(w.heap[a-256]?).bind (absB w.heap.size)) (256+w.heap.size)
def muW (w:World):Mu:=⟨fun a=>if a<256 then some ⟨a,true,0,0,true⟩else if a<256+w.heap.size then some ⟨a-256,true,0,0,true⟩else none,fun _=>none⟩
section
variable {w:World}
theorem OL{v:Value}{a:zA}(h:wP w.heap.size v=some a):uA (muW w) a v:=by
 unfold wP at h;split at h
 ·cases h;rw[uA]
 ·cases h;rw[uA]
 ·grind [uA]
 ·cases h;rw[uA]
 ·grind [uA]
 ·split at h
  ·rename_i hb;cases h;rename_i b off len cap _;rw[uA];refine .inl ⟨⟨b,true,0,0,true⟩,cap,?_,rfl,ybk _,fun _=>rfl,fun h=>by cases h⟩;show(if 256+b<256 then some (⟨256+b,true,0,0,true⟩:BI)else if 256+b<256+w.heap.size then some ⟨256+b-256,true,0,0,true⟩else none)=_;rw[yaa (by omega),yab (by omega),show 256+b-256=b by omega]
  ·cases h
 ·cases h
theorem ON{o:Obj}{x:sA}(h:absB w.heap.size o=some x)(b:Nat):oI (muW w) ⟨b,true,0,0,true⟩ x o/\x.asLoop=none/\x.asDeferred=none:=by
 cases o<;>first | (cases h;done) | skip
 rename_i cs elem fr;cases h;refine⟨⟨cs,elem,fr,rfl,ybk _,.inl rfl,fun j v hv=>?_,rfl⟩,rfl,rfl⟩
 grind [qR,OL]
theorem hrelW:jB (256+w.heap.size) w.heap.size (muW w) ⟨256+w.heap.size,rI w⟩ w:=by
 have hget:∀a x,(rI w).get a=some x->∃b o,b<w.heap.size/\w.heap[b]?=some o/\absB w.heap.size o=some x/\a<256+w.heap.size/\b=(if a<256 then a else a-256):=by
  grind [rI,qR]
 have hmu:∀a,(muW w) a=if a<256 then some ⟨a,true,0,0,true⟩else if a<256+w.heap.size then some ⟨a-256,true,0,0,true⟩else none:=fun _=>rfl;have big:∀a,256+w.heap.size<=a->(muW w) a=none:=fun a h=>by rw[hmu,yaa (by omega),yaa (by omega)]
 have same:∀a x i,(rI w).get a=some x->(muW w) a=some i->∃o,w.heap[i.b]?=some o/\i.b<w.heap.size/\absB w.heap.size o=some x/\i=⟨i.b,true,0,0,true⟩:=by
  grind
 refine⟨by omega,fun g hg=>by rw[hmu,yab hg],fun a x i _ hx hi=>?_,ybk _,ybk _,fun a ha=>⟨big a ha,?_⟩,fun a x i hx hi=>?_,fun a i ha hi=>?_,fun a b x y i j hx _ hi _ ha _ _=>?_,fun a x t h=>by cases h⟩
 ·obtain⟨o,_,h2,h3,_⟩:=same a x i hx hi;exact⟨h2,(ON h3 0).2⟩
 all_goals grind [rI,qR,ON]
end
end Go.Am
namespace Go.Am
open Go Go.RowKit
def mG(P:Program):Nat->TypeId->D->Prop
 | 0,_,_=>False
 | f+1,t,x=>match P.underlying t with
  | some .bool=>∃b,x=.bool b
  | some (.int k)=>∃n,x=.int k n/\(Lit.int k n).wf=true
  | some .string=>∃l:List Nat,x=.str l/\l.length<=reachBytes/\∀c∈l,c<256
  | some (.slice e)=>∃l:List D,x=.sl (P.cellsOf e) l/\l.length*P.bytesOf e<=reachBytes/\∀y∈l,mG P f e y
  | some (.struct fs)=>∃l:List D,x=.st l/\aC (fun fd y=>mG P f fd.type y) fs.toList l
  | _=>False
def Ex(P:Program):Nat->List Field->Nat->Bool
 | off,[],n=>off == n
 | off,f::fs,n=>f.offset == off&&Ex P (off+P.cellsOf f.type) fs n
structure Plain (P:Program) (S:TypeId->Prop):Prop where
 part:∀t,S t->match P.underlying t with
  | some .bool=>True
  | some (.int _)=>True
  | some .string=>True
  | some (.slice e)=>S e/\0<P.cellsOf e
  | some (.struct fs)=>(∀f∈fs.toList,S f.type)/\Ex P 0 fs.toList (P.cellsOf t)=true
  | _=>False
def av (N:Nat)(v:Value):zA:=(wP N v).getD .nilptr
def Has (N:Nat)(cs:List Value):Prop:=∀v∈cs,wP N v=some (av N v)
theorem MX{α:Type}{Q:Nat->α->Prop}:∀(n:Nat),(∀i,i<n->∃p,Q i p)->∃l:List α,l.length=n/\∀i p,l[i]?=some p->Q i p:=by
 intro n;induction n with
 | zero=>simp_all
 | succ n ih=>
  intro h;obtain⟨l,hl,hq⟩:=ih fun i hi=>h i (by omega);obtain⟨p,hp⟩:=h n (by omega);refine⟨l++[p],by simp[hl],fun i q hq'=>?_⟩
  grind
section
variable {H:Type}{enc:TypeId × Value->H}{P:Program}{w:World}
theorem BK{p:Nat->Bool}:∀ {ts:List TypeId} {ds:List (DataW H)},(DataW.weightsEach P ts ds).all p=true->∀ {i:Nat} {t:TypeId} {d:DataW H},ts[i]?=some t->ds[i]?=some d->(DataW.weights P t d).all p=true
 | [],_,_,i,_,_,h1,_=>by simp at h1
 | _::_,[],_,i,_,_,_,h2=>by simp at h2
 | t::ts,d::ds,h,i,u,e,h1,h2=>by
  rw[DataW.weightsEach,ydi,ybb]at h
  cases i with
  | zero=>simp_all
  | succ i=>exact BK h.2 (by simpa using h1) (by simp_all)
theorem BM{p:Nat->Bool}{e:TypeId}:∀ {ds:List (DataW H)},(DataW.weightsAll P e ds).all p=true->∀ {i:Nat} {d:DataW H},ds[i]?=some d->(DataW.weights P e d).all p=true
 | [],_,i,_,h2=>by simp at h2
 | d::ds,h,i,x,h2=>by
  rw[DataW.weightsAll,ydi,ybb]at h
  cases i with
  | zero=>simp_all
  | succ i=>exact BM h.2 (by simpa using h2)
theorem NC{a:Addr}{n:Nat}{cs:List Value}(h:w.cells? 0 a n=some cs):cs.length=n/\(0<n->a.spot=none/\∃c t fr,w.heap[a.block]?=some (.cells c t fr)/\∀j,j<n->c[a.off+j]?=cs[j]?):=by
 unfold World.cells? at h;rw[yab (yaw _)]at h;have hl:=mapM_some_length h;have hg:=mapM_some_get h;simp only[List.length_range]at hl;refine⟨hl,fun hn=>?_⟩;have key:∀j,j<n->w.cell? (a.add j)=cs[j]?:=fun j hj=>hg j j (by simp[hj]);have h0:=key 0 hn;have hs0:∃v,cs[0]?=some v:=⟨cs[0]'(by omega),ybd (by omega)⟩;obtain⟨v0,hv0⟩:=hs0;rw[hv0]at h0;have e0:a.add 0=a:=by simp[Addr.add]
 rw[e0]at h0;unfold World.cell? at h0
 cases hb:w.heap[a.block]? with
 | none=>simp_all
 | some o=>
  rw[hb]at h0
  cases o with
  | cells c t fr=>
   simp only[]at h0;split at h0
   ·cases h0
   ·rename_i hsp;refine⟨by simp_all,c,t,fr,rfl,fun j hj=>?_⟩
    grind [World.cell?,Addr.add]
  | _=>cases h0
def OM{b:Nat}{c:Array Value}{t:TypeId}{fr:Nat × Nat}(h:w.heap[b]?=some (.cells c t fr)) :
  (rI w).get (256+b)=some (.cells (fV (fun j=>(c[j]?).bind (wP w.heap.size)) c.size) c.size none):=by
 have hb:=(ybe.1 h).1;unfold rI;rw[qR,yab (by omega),yaa (by omega),show 256+b-256=b by omega,h];rfl
theorem at_old{b off n:Nat}{c:Array Value}{t:TypeId}{fr:Nat × Nat}{cs:List Value}(h:w.heap[b]?=some (.cells c t fr))(hl:cs.length=n)(hc:∀j,j<n->c[off+j]?=cs[j]?)(hs:Has w.heap.size cs) :
  At (rI w) (256+b) off (cs.map (av w.heap.size)):=by
 refine⟨_,_,_,OM h,fun j a ha=>?_⟩;rw[ybu]at ha
 cases hj:cs[j]? with
 | none=>simp_all
 | some v=>
  rw[hj]at ha;have hlt:j<n:=by grind
  have h1:=hc j hlt;rw[hj]at h1;have hsz:off+j<c.size:=(ybe.1 h1).1;rw[qR,yab hsz,h1];have ha:av w.heap.size v=a:=by simp_all
  rw[<- ha];exact hs v (ycv hj)
theorem CH{cs:List Value}:∀ {fs:List Field} {off:Nat},Ex P off fs cs.length=true->(fs.map fun f=>(cs.drop f.offset).take (P.cellsOf f.type)).flatten=cs.drop off
 | [],off,h=>by grind [Ex]
 | f::fs,off,h=>by
  rw[Ex,ybb]at h;obtain⟨h1,h2⟩:=h;have h1:f.offset=off:=by simp_all
  rw[ycm,yas,CH h2,h1,<- List.drop_drop,List.take_append_drop]
theorem OQ{α β:Type}{R:α->β->Prop}:∀ {l:List α} {m:List β},m.length=l.length->(∀(i:Nat) a b,l[i]?=some a->m[i]?=some b->R a b)->aC R l m
 | [],[],_,_=>.nil
 | [],_::_,h,_=>by simp at h
 | _::_,[],h,_=>by simp at h
 | a::l,b::m,h,k=>.cons (k 0 a b (by simp) (by simp)) (OQ (by grind) fun i a b h1 h2=>k (i+1) a b (by simp_all) (by simp_all))
theorem zh1{S:TypeId->Prop}(hP:Plain P S)(h0:∃c n lo,(rI w).get 0=some (.cells c n lo)) :
  ∀(fuel:Nat) (t:TypeId) (cs:List Value) (x:DataW H × List MemPlace),S t->DataW.trod enc P w 0 (fun _=>true) true fuel t cs=some x->(DataW.weights P t x.1).all (· <= reachBytes)=true →
   Has w.heap.size cs/\∃d,RD (rI w) d (cs.map (av w.heap.size))/\mG P fuel t d:=by
 intro fuel;induction fuel with
 | zero=>simp_all [DataW.trod]
 | succ n ih=>
  intro t cs x hS h hw;have hp:=hP.part t hS;have one:∀ {v:Value} {a:zA},wP w.heap.size v=some a->Has w.heap.size [v]/\av w.heap.size v=a:=by
   intro v a hv;have:av w.heap.size v=a:=by grind [av]
   refine⟨fun u hu=>?_,this⟩;simp at hu;subst hu;rw[hv,this]
  cases hu:P.underlying t with
  | none=>simp_all
  | some dt=>
  cases dt with
  | bool=>
   obtain⟨b,rfl,rfl⟩:=DataW.trod_bool hu h;obtain⟨h1,h2⟩:=one (v:=.bool b) (a:=.bool b) rfl;exact⟨h1,.bool b,by simp_all,by grind [mG]⟩
  | int k=>
   obtain⟨m,rfl,rfl,hwf⟩:=DataW.trod_int hu h;obtain⟨h1,h2⟩:=one (v:=.int k m) (a:=.int k m) rfl;exact⟨h1,.int k m,by simp_all,by grind [mG]⟩
  | string=>
   obtain⟨s,rfl,rfl,_⟩:=DataW.trod_string hu h;obtain⟨h1,h2⟩:=one (v:=.string s) (a:=.str (kF s)) rfl;refine⟨h1,.str (kF s),by simp_all,?_⟩
   grind [mG,DataW.weights,kF,UInt8.toNat_lt]
  | slice e=>
   rw[hu]at hp;obtain⟨hSe,hpos⟩:=hp;rcases DataW.trod_slice hu h with⟨rfl,rfl⟩ | ⟨a,len,cap,tJ,rest,m,hm,rfl,rfl,_,hlc,_,hel,hE,hR,_⟩
   ·obtain⟨h1,h2⟩:=one (v:=.slice none 0 0) (a:=.nilslice) rfl;refine⟨h1,.sl (P.cellsOf e) [],by rw[qM];exact⟨_,by simp[h2],[],.inl ⟨rfl,rfl⟩,by rw[iC]⟩,?_⟩
    grind [mG]
   ·obtain rfl:n=m:=by omega
    simp only[DataW.weights,hu,ycg,ybb,ydi,decide_eq_true_eq,ybf]at hw;obtain⟨hsz,hwe,hwr⟩:=hw;by_cases hcap:cap=0
    ·subst hcap;obtain rfl:len=0:=by omega
     obtain⟨h1,h2⟩:=one (v:=.slice (some a) 0 0) (a:=.slice 0 0 0 0) (by cases a;rfl);refine⟨h1,.sl (P.cellsOf e) [],?_,?_⟩
     ·rw[qM,ycm,List.map_nil,h2];refine⟨_,rfl,[],.inr ⟨0,0,0,rfl,ybk _,?_,fun i cs hi=>by simp at hi⟩,by rw[iC]⟩;obtain⟨c,k,lo,hc⟩:=h0;have:=hc;unfold rI at this;rw[qR]at this;split at this
      case isFalse=>cases this
      rw[yab (by omega)]at this
      cases ho:w.heap[0]? with
      | none=>simp_all
      | some o=>
       rw[ho]at this
       cases o with
       | cells c' t' fr'=>
        grind [absB]
       | _=>cases this
     grind [mG]
    ·have hr:=(hR rfl).1;have hRr:=(hR rfl).2;have hel1:∀i,i<len->∃p:List Value × D,w.cells? 0 (a.add (i*P.cellsOf e)) (P.cellsOf e)=some p.1/\Has w.heap.size p.1/\RD (rI w) p.2 (p.1.map (av w.heap.size))/\mG P n e p.2:=by
      intro i hi;have:=hE i hi;obtain⟨y,hy⟩:∃y,tJ[i]?=some y:=⟨tJ[i]'(by omega),ybd (by omega)⟩;rw[hy]at this;simp only[Option.bind_eq_some_iff]at this;obtain⟨c1,hc1,hy1⟩:=this;obtain⟨g1,d,g2,g3⟩:=ih e c1 y hSe hy1 (BM hwe (i:=i) (by simp[hy]));exact⟨(c1,d),hc1,g1,g2,g3⟩
     obtain⟨l,hl,hq⟩:=MX len hel1;have hfirst:∃c1,w.cells? 0 a (P.cellsOf e)=some c1:=by
      by_cases hlen:len=0
      ·have:=hRr 0 (by omega)
       grind [Option.bind_eq_some_iff,Addr.add]
      ·obtain⟨p,hp,_⟩:=hel1 0 (by omega)
       grind [Addr.add]
     obtain⟨c1,hc1⟩:=hfirst;obtain⟨hspot,c,ct,fr,hblk,_⟩:=(NC hc1).2 hpos;have hb:a.block<w.heap.size:=(ybe.1 hblk).1;have hav:wP w.heap.size (.slice (some a) len cap)=some (.slice (256+a.block) a.off len cap):=by
      obtain⟨bb,oo,ss⟩:=a
      grind [wP]
     obtain⟨h1,h2⟩:=one hav;refine⟨h1,.sl (P.cellsOf e) (l.map (·.2)),?_,?_⟩
     ·rw[qM];refine⟨_,by rw[ycm,List.map_nil,h2],l.map (fun p=>p.1.map (av w.heap.size)),.inr ⟨256+a.block,a.off,cap,by rw[ybf,hl],by simp_all,⟨_,_,_,OM hblk,.inl rfl⟩,fun i cs hi=>?_⟩,?_⟩
      ·rw[ybu]at hi
       cases hli:l[i]? with
       | none=>simp_all
       | some p=>
        rw[hli]at hi;obtain rfl:p.1.map (av w.heap.size)=cs:=by simp_all
        obtain⟨k1,k2,k3,k4⟩:=hq i p hli;obtain⟨m1,m2⟩:=NC k1;obtain⟨_,c',ct',fr',hb',hcc⟩:=m2 hpos;have eb:(a.add (i*P.cellsOf e)).block=a.block:=by unfold Addr.add;split<;>rfl
        have eo:(a.add (i*P.cellsOf e)).off=a.off+i*P.cellsOf e:=by unfold Addr.add;split<;>simp_all
        rw[eb]at hb';rw[hblk]at hb';cases hb';rw[eo]at hcc;exact⟨by simp_all,at_old hblk m1 hcc k2⟩
      grind [iC.mk]
     grind [mG,List.mem_iff_getElem?]
  | struct fs=>
   rw[hu]at hp;obtain⟨hf,ht⟩:=hp;obtain⟨xs,m,hm,rfl,hlen,hxs,hel⟩:=DataW.trod_struct hu h;obtain rfl:n=m:=by omega
   simp only[DataW.weights,hu]at hw;have hel1:∀i,i<fs.toList.length->∃p:D,∀f,fs.toList[i]?=some f->Has w.heap.size ((cs.drop f.offset).take (P.cellsOf f.type))/\RD (rI w) p (((cs.drop f.offset).take (P.cellsOf f.type)).map (av w.heap.size))/\mG P n f.type p:=by
    intro i hi;have hi':i<fs.size:=by omega
    obtain⟨f,hfi⟩:∃f,fs.toList[i]?=some f:=⟨fs.toList[i],ybd hi⟩;have:=hel i f (by simp_all);obtain⟨y,hy⟩:∃y,xs[i]?=some y:=⟨xs[i]'(by omega),ybd (by omega)⟩;rw[hy]at this;obtain⟨g1,d,g2,g3⟩:=ih f.type _ y (hf f (ycv hfi)) this (BK hw (i:=i) (by simp_all) (by simp_all));refine⟨d,fun f' hf'=>?_⟩
    simp_all
   obtain⟨l,hl,hq⟩:=MX fs.toList.length hel1;have hfl:=CH (cs:=cs) (P:=P) (fs:=fs.toList) (off:=0) (by simp_all);rw[ycr]at hfl;refine⟨fun v hv=>?_,.st l,?_,?_⟩
   ·rw[<- hfl]at hv;obtain⟨part,hpart,hv⟩:=List.mem_flatten.1 hv;obtain⟨f,hfm,rfl⟩:=yaq.1 hpart;obtain⟨i,hi⟩:=List.mem_iff_getElem?.1 hfm;have hi':i<fs.toList.length:=(ybc.1 hi).1;exact(hq i (l[i]'(by omega)) (ybd (by omega)) f hi).1 v hv
   all_goals grind [qJ,iC.mk,mG,OQ]
  | _=>rw[hu]at hp;exact hp.elim
end
end Go.Am
namespace Go.Am
open Go Go.RowKit
structure Sl (P:Program) where
 (b i u8 u16 s limbs whole frac val expr exprs row rows table tables dfn dfns clause clauses plan:TypeId)
 hb:P.underlying b=some .bool
 hi:P.underlying i=some (.int .i64)
 hu8:P.underlying u8=some (.int .u8)
 hu16:P.underlying u16=some (.int .u16)
 hs:P.underlying s=some .string
 hlimbs:P.underlying limbs=some (.slice u16)
 hexprs:P.underlying exprs=some (.slice expr)
 hrows:P.underlying rows=some (.slice row)
 htables:P.underlying tables=some (.slice table)
 hdfns:P.underlying dfns=some (.slice dfn)
 hclauses:P.underlying clauses=some (.slice clause)
 hwhole:∃fs,P.underlying whole=some (.struct fs)/\fs.toList.map (·.type)=[b,limbs]
 hfrac:∃fs,P.underlying frac=some (.struct fs)/\fs.toList.map (·.type)=[whole,whole]
 hval:∃fs,P.underlying val=some (.struct fs)/\fs.toList.map (·.type)=[u8,frac,i]
 hexpr:∃fs,P.underlying expr=some (.struct fs)/\fs.toList.map (·.type)=[u8,s,val,exprs]
 hrow:∃fs,P.underlying row=some (.struct fs)/\fs.toList.map (·.type)=[i,i,i,frac]
 htable:∃fs,P.underlying table=some (.struct fs)/\fs.toList.map (·.type)=[s,b,rows]
 hdfn:∃fs,P.underlying dfn=some (.struct fs)/\fs.toList.map (·.type)=[s,u8,b]
 hclause:∃fs,P.underlying clause=some (.struct fs)/\fs.toList.map (·.type)=[s,s,i,i,i,b,expr,expr]
 hplan:∃fs,P.underlying plan=some (.struct fs)/\fs.toList.map (·.type)=[s,dfns,tables,clauses]
 cu16:P.cellsOf u16=1
 cexpr:P.cellsOf expr=9
 crow:P.cellsOf row=7
 ctable:P.cellsOf table=3
 cdfn:P.cellsOf dfn=3
 cclause:P.cellsOf clause=24
 bytes:1<=P.bytesOf u16/\1<=P.bytesOf expr/\1<=P.bytesOf row/\1<=P.bytesOf table/\1<=P.bytesOf dfn/\1<=P.bytesOf clause
section
variable {P:Program}{f:Nat}{t:TypeId}{x:D}
theorem Iz(h:mG P f t x):∃g,f=g+1:=by
 cases f with
 | zero=>exact h.elim
 | succ g=>simp_all
theorem Mx(ht:P.underlying t=some .bool)(h:mG P f t x):∃b,x=.bool b:=by
 grind [Iz,mG]
theorem Sz{k:IntKind}(ht:P.underlying t=some (.int k))(h:mG P f t x):∃n,x=.int k n/\(Lit.int k n).wf=true:=by
 grind [Iz,mG]
def Ce(ht:P.underlying t=some (.int .i64))(h:mG P f t x):∃n,x=.int .i64 n/\i64 n:=by
 obtain⟨n,rfl,hn⟩:=Sz ht h;simp only[Lit.wf,ybb,decide_eq_true_eq]at hn;have h1:IntKind.i64.min = -9223372036854775808:=rfl;have h2:IntKind.i64.max=9223372036854775807:=rfl;rw[h1,h2]at hn;exact⟨n,rfl,hn.1,by omega⟩
def Sy(ht:P.underlying t=some (.int .u8))(h:mG P f t x):∃n:Nat,x=.int .u8 (n:Int)/\n<256:=by
 obtain⟨n,rfl,hn⟩:=Sz ht h;simp only[Lit.wf,ybb,decide_eq_true_eq]at hn;have h1:IntKind.u8.min=0:=rfl;have h2:IntKind.u8.max=255:=rfl;rw[h1,h2]at hn;exact⟨n.toNat,by rw[show((n.toNat:Nat):Int)=n by omega],by omega⟩
def QJ(ht:P.underlying t=some (.int .u16))(h:mG P f t x):∃n:Nat,x=.int .u16 (n:Int)/\n<65536:=by
 obtain⟨n,rfl,hn⟩:=Sz ht h;simp only[Lit.wf,ybb,decide_eq_true_eq]at hn;have h1:IntKind.u16.min=0:=rfl;have h2:IntKind.u16.max=65535:=rfl;rw[h1,h2]at hn;exact⟨n.toNat,by rw[show((n.toNat:Nat):Int)=n by omega],by omega⟩
theorem Ev(ht:P.underlying t=some .string)(h:mG P f t x):∃l:List Nat,x=.str l/\l.length<dD/\∀c∈l,c<256:=by
 grind [Iz,mG,reachBytes,dD]
theorem Ew{e:TypeId}{sz:Nat}(ht:P.underlying t=some (.slice e))(hc:P.cellsOf e=sz)(hb:1<=P.bytesOf e)(h:mG P f t x):∃(l:List D) (g:Nat),f=g+1/\x=.sl sz l/\l.length<dD/\∀y∈l,mG P g e y:=by
 obtain⟨g,rfl⟩:=Iz h;unfold mG at h;rw[ht]at h;obtain⟨l,h1,h2,h3⟩:=h;have:l.length<=l.length*P.bytesOf e:=Nat.le_mul_of_pos_right _ hb
 grind [reachBytes,dD]
theorem aC.ofMap{α β γ:Type}{k:α->γ}{R:γ->β->Prop}:∀ {l:List α} {m:List β},aC (fun a b=>R (k a) b) l m->aC R (l.map k) m
 | [],_,.nil=>.nil
 | _::_,_::_,.cons h r=>.cons h (aC.ofMap r)
theorem wX{ts:List TypeId}(ht:∃fs,P.underlying t=some (.struct fs)/\fs.toList.map (·.type)=ts)(h:mG P f t x):∃(l:List D) (g:Nat),f=g+1/\x=.st l/\aC (fun t y=>mG P g t y) ts l:=by
 obtain⟨fs,ht,rfl⟩:=ht;obtain⟨g,rfl⟩:=Iz h
 grind [mG,aC.ofMap]
theorem aC.cons_inv{α β:Type}{R:α->β->Prop}{a:α}{l:List α}{m:List β}(h:aC R (a::l) m):∃b r,m=b::r/\R a b/\aC R l r:=by
 cases h with
 | cons h1 h2=>grind
def aC.nil_inv{α β:Type}{R:α->β->Prop}{m:List β}(h:aC R ([]:List α) m):m=[]:=by
 cases h;rfl
theorem Cv{α β:Type}{g:α->β}{Q:α->Prop}:∀ {l:List β},(∀y∈l,∃a,y=g a/\Q a)->∃m:List α,l=m.map g/\∀a∈m,Q a
 | [],_=>⟨[],rfl,fun _ h=>by cases h⟩
 | y::l,h=>by
  obtain⟨a,h1,h2⟩:=h y (by simp);obtain⟨m,h3,h4⟩:=Cv (l:=l) fun z hz=>h z (ybr _ hz);exact⟨a::m,by grind,fun b hb=>by
   grind⟩
end
namespace Sl
section
variable {P:Program}(A:Sl P){f:Nat}{x:D}
theorem dWhole(h:mG P f A.whole x):∃w:nF,x=w.d/\w.limbs.length<dD/\wB 65536 w.limbs:=by
 obtain⟨l,g,rfl,rfl,k⟩:=wX A.hwhole h;obtain⟨d1,r,rfl,h1,k⟩:=k.cons_inv;obtain⟨d2,r,rfl,h2,k⟩:=k.cons_inv;obtain rfl:=k.nil_inv;obtain⟨b,rfl⟩:=Mx A.hb h1;obtain⟨l,g,rfl,rfl,hl,hm⟩:=Ew A.hlimbs A.cu16 A.bytes.1 h2;obtain⟨m,rfl,hq⟩:=Cv (g:=fun n:Nat=>D.int .u16 (n:Int)) (Q:=fun n=>n<65536) fun y hy=>QJ A.hu16 (hm y hy);exact⟨⟨b,m⟩,rfl,by simp_all,hq⟩
def dFrac(h:mG P f A.frac x):∃w:fC,x=w.dd/\w.fit:=by
 obtain⟨l,g,rfl,rfl,k⟩:=wX A.hfrac h;obtain⟨d1,r,rfl,h1,k⟩:=k.cons_inv;obtain⟨d2,r,rfl,h2,k⟩:=k.cons_inv;obtain rfl:=k.nil_inv;obtain⟨a,rfl,a1,a2⟩:=A.dWhole h1;obtain⟨b,rfl,b1,b2⟩:=A.dWhole h2;exact⟨⟨a,b⟩,rfl,⟨a1,b1⟩,a2,b2⟩
def dVal(h:mG P f A.val x):∃w:xE,x=w.d/\w.fit:=by
 obtain⟨l,g,rfl,rfl,k⟩:=wX A.hval h;obtain⟨d1,r,rfl,h1,k⟩:=k.cons_inv;obtain⟨d2,r,rfl,h2,k⟩:=k.cons_inv;obtain⟨d3,r,rfl,h3,k⟩:=k.cons_inv;obtain rfl:=k.nil_inv;obtain⟨kk,rfl,hk⟩:=Sy A.hu8 h1;obtain⟨q,rfl,hq⟩:=A.dFrac h2;obtain⟨n,rfl,hn⟩:=Ce A.hi h3;exact⟨⟨kk,q,n⟩,rfl,hk,hq,hn.1,hn.2⟩
theorem LI:∀ {l:List qA},(∀x∈l,x.fit)->qA.fits l
 | [],_=>by grind [qA.fits]
 | x::l,h=>by unfold qA.fits;exact⟨h x (by simp),LI fun y hy=>h y (ybr _ hy)⟩
theorem dExpr:∀(f:Nat) (x:D),mG P f A.expr x->∃w:qA,x=w.d/\w.fit:=by
 intro f;induction f using Nat.strongRecOn with
 | _ f ih=>
 intro x h;obtain⟨l,g,rfl,rfl,k⟩:=wX A.hexpr h;obtain⟨d1,r,rfl,h1,k⟩:=k.cons_inv;obtain⟨d2,r,rfl,h2,k⟩:=k.cons_inv;obtain⟨d3,r,rfl,h3,k⟩:=k.cons_inv;obtain⟨d4,r,rfl,h4,k⟩:=k.cons_inv;obtain rfl:=k.nil_inv;obtain⟨kk,rfl,hk⟩:=Sy A.hu8 h1;obtain⟨n,rfl,hn,hn'⟩:=Ev A.hs h2;obtain⟨v,rfl,hv⟩:=A.dVal h3;obtain⟨l,g',rfl,rfl,hl,hm⟩:=Ew A.hexprs A.cexpr A.bytes.2.1 h4;obtain⟨m,rfl,hq⟩:=Cv (g:=qA.d) (Q:=qA.fit) fun y hy=>ih g' (by omega) y (hm y hy)
 refine⟨.mk kk n v m,?_,?_⟩
 all_goals grind [qA.d,qA.ds_eq,qA.fit,LI]
def dRow(h:mG P f A.row x):∃w:vD,x=w.d/\w.fit:=by
 obtain⟨l,g,rfl,rfl,k⟩:=wX A.hrow h;obtain⟨d1,r,rfl,h1,k⟩:=k.cons_inv;obtain⟨d2,r,rfl,h2,k⟩:=k.cons_inv;obtain⟨d3,r,rfl,h3,k⟩:=k.cons_inv;obtain⟨d4,r,rfl,h4,k⟩:=k.cons_inv;obtain rfl:=k.nil_inv;obtain⟨a,rfl,ha⟩:=Ce A.hi h1;obtain⟨b,rfl,hb⟩:=Ce A.hi h2;obtain⟨c,rfl,hc⟩:=Ce A.hi h3;obtain⟨q,rfl,hq⟩:=A.dFrac h4;exact⟨⟨a,b,c,q⟩,rfl,ha,hb,hc,hq⟩
theorem dTable(h:mG P f A.table x):∃w:tD,x=w.d/\w.fit:=by
 obtain⟨l,g,rfl,rfl,k⟩:=wX A.htable h;obtain⟨d1,r,rfl,h1,k⟩:=k.cons_inv;obtain⟨d2,r,rfl,h2,k⟩:=k.cons_inv;obtain⟨d3,r,rfl,h3,k⟩:=k.cons_inv;obtain rfl:=k.nil_inv;obtain⟨n,rfl,hn,_⟩:=Ev A.hs h1;obtain⟨b,rfl⟩:=Mx A.hb h2;obtain⟨l,g',rfl,rfl,hl,hm⟩:=Ew A.hrows A.crow A.bytes.2.2.1 h3;obtain⟨m,rfl,hq⟩:=Cv (g:=vD.d) (Q:=vD.fit) fun y hy=>A.dRow (hm y hy);exact⟨⟨n,b,m⟩,rfl,hn,by simp_all,hq⟩
def dDef(h:mG P f A.dfn x):∃w:cE,x=w.d/\w.fit:=by
 obtain⟨l,g,rfl,rfl,k⟩:=wX A.hdfn h;obtain⟨d1,r,rfl,h1,k⟩:=k.cons_inv;obtain⟨d2,r,rfl,h2,k⟩:=k.cons_inv;obtain⟨d3,r,rfl,h3,k⟩:=k.cons_inv;obtain rfl:=k.nil_inv;obtain⟨n,rfl,hn,_⟩:=Ev A.hs h1;obtain⟨kk,rfl,hk⟩:=Sy A.hu8 h2;obtain⟨b,rfl⟩:=Mx A.hb h3;exact⟨⟨n,kk,b⟩,rfl,hn,hk⟩
def dClause(h:mG P f A.clause x):∃w:gC,x=w.d/\w.fit:=by
 obtain⟨l,g,rfl,rfl,k⟩:=wX A.hclause h;obtain⟨d1,r,rfl,h1,k⟩:=k.cons_inv;obtain⟨d2,r,rfl,h2,k⟩:=k.cons_inv;obtain⟨d3,r,rfl,h3,k⟩:=k.cons_inv;obtain⟨d4,r,rfl,h4,k⟩:=k.cons_inv;obtain⟨d5,r,rfl,h5,k⟩:=k.cons_inv;obtain⟨d6,r,rfl,h6,k⟩:=k.cons_inv;obtain⟨d7,r,rfl,h7,k⟩:=k.cons_inv;obtain⟨d8,r,rfl,h8,k⟩:=k.cons_inv;obtain rfl:=k.nil_inv;obtain⟨n,rfl,hn,_⟩:=Ev A.hs h1;obtain⟨l,rfl,hl,_⟩:=Ev A.hs h2
 obtain⟨a,rfl,ha⟩:=Ce A.hi h3;obtain⟨b,rfl,hb⟩:=Ce A.hi h4;obtain⟨c,rfl,hc⟩:=Ce A.hi h5;obtain⟨o,rfl⟩:=Mx A.hb h6;obtain⟨w,rfl,hw⟩:=A.dExpr _ _ h7;obtain⟨v,rfl,hv⟩:=A.dExpr _ _ h8;exact⟨⟨n,l,a,b,c,o,w,v⟩,rfl,hn,hl,ha,hb,hc,hw,hv⟩
theorem dPlan(h:mG P f A.plan x):∃w:wF,x=w.d/\w.fit:=by
 obtain⟨l,g,rfl,rfl,k⟩:=wX A.hplan h;obtain⟨d1,r,rfl,h1,k⟩:=k.cons_inv;obtain⟨d2,r,rfl,h2,k⟩:=k.cons_inv;obtain⟨d3,r,rfl,h3,k⟩:=k.cons_inv;obtain⟨d4,r,rfl,h4,k⟩:=k.cons_inv;obtain rfl:=k.nil_inv;obtain⟨n,rfl,hn,_⟩:=Ev A.hs h1;obtain⟨l2,g2,rfl,rfl,hl2,hm2⟩:=Ew A.hdfns A.cdfn A.bytes.2.2.2.2.1 h2;obtain⟨l3,g3,_,rfl,hl3,hm3⟩:=Ew A.htables A.ctable A.bytes.2.2.2.1 h3
 obtain⟨l4,g4,_,rfl,hl4,hm4⟩:=Ew A.hclauses A.cclause A.bytes.2.2.2.2.2 h4;obtain⟨m2,rfl,hq2⟩:=Cv (g:=cE.d) (Q:=cE.fit) fun y hy=>A.dDef (hm2 y hy);obtain⟨m3,rfl,hq3⟩:=Cv (g:=tD.d) (Q:=tD.fit) fun y hy=>A.dTable (hm3 y hy);obtain⟨m4,rfl,hq4⟩:=Cv (g:=gC.d) (Q:=gC.fit) fun y hy=>A.dClause (hm4 y hy);exact⟨⟨n,m2,m3,m4⟩,rfl,⟨hn,by simp_all,by simp_all,by simp_all,hq2,hq3,hq4⟩⟩
end
end Sl
end Go.Am
