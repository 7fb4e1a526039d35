/- The lexer: words, dates, numbers. -/
import Derived.Test.YtefajchlhjcgpaaGreatDoorA23
set_option linter.all false
noncomputable section
set_option maxRecDepth 100000
namespace Go.Proofs
open Go Go.Am
variable [nC]
section
variable {t:Tr tA}{Q:mB}{s:List Nat}
theorem uQ(s:List Nat):(Int.ofNat (yB s))=(s.length:Int):=by rw[kD];rfl
def zbp(hs:s.length<4000000000000000000):kB yA F 120 [.str s,.func (.func 169) [] []] t=some (.str (jE nD s)):=by
 refine iC.2 (w120 ?_)
 simp only[uZ,t120,oA];exact Sf (fun n=>Pi) (fun {a m R}=>by rw[q169]) rfl hs s.length 0 (by omega) (fun j x hj=>by omega)
theorem zhw{n:Nat}:kB yA F 175 [.int .u8 (n:Int)] t=some (.bool (decide (n≠10))):=by
 refine iC.2 (w175 ?_)
 unfold t175;refine⟨?_,rfl⟩
 rw[fE];congr 1
 grind
def zg9(hs:s.length<4000000000000000000):kB yA F 120 [.str s,.func (.func 175) [] []] t=some (.str (jE (fun x=>decide (x≠10)) s)):=by
 refine iC.2 (w120 ?_)
 simp only[uZ,t120,oA];exact Sf (fun n=>zhw) (fun {a m R}=>by rw[q175]) rfl hs s.length 0 (by omega) (fun j x hj=>by omega)
theorem Zi(p:Nat->Bool)(s:List Nat):(jE p s).length<=s.length:=(List.takeWhile_sublist _).length_le
theorem zbt(p:Nat->Bool)(s:List Nat):jE p s=s.take (jE p s).length:=by
 unfold jE;induction s with
 | nil=>rfl
 | cons a s ih=>
  grind [List.takeWhile_cons]
theorem RM(hs:s.length<4000000000000000000):kB yA F 225 [.str s] t=some (.tup [.str (if 24<(jE iK s).length then []else jE iK s),.int .i64 (if 24<(jE iK s).length then 111 else 0)]):=by
 refine iC.2 (w225 ?_)
 unfold t225 uS;refine wB ?_
 rw[q120,HJ hs,uA];refine dD ?_
 rw[uQ];by_cases h:24<(jE iK s).length
 ·rw[yab h,yab h]
  exact mA (by grind [aC]) ⟨rfl,rfl⟩
 ·rw[yaa h,yaa h]
  exact vB (by grind [aC]) ⟨rfl,rfl⟩
theorem IX:kB yA F 261 [.str s] t=some (.bool (oO s)):=by
 refine iC.2 (w261 ?_)
 unfold t261;rw[uQ];unfold oO;by_cases h:1<s.length
 ·cases s with
  | nil=>simp at h
  | cons x r=>
   have hx:=tN (s:=x::r) (i:=0) (x:=x) rfl
   refine mA (by grind [aC]) (rA hx (qB ⟨?_,rfl⟩))
   rw[fE,decide_eq_true h];congr 1
   grind
 ·refine vB (by grind [aC]) ⟨?_,rfl⟩
  simp[h]
theorem zjl:kB yA F 226 [.str s] t=some (.bool (cI s)):=by
 have loop:10<=s.length->∀(k i:Nat),i+k=10->jp 226 2 [.str s,.int .i64 (i:Int)] t (fun v t'=>v=.bool (((List.range 10).drop i).all fun i=>wK i (s.getD i 0))/\t'=t):=by
  intro hl k;induction k with
  | zero=>
   intro i hi;refine zl2 ?_
   unfold Xw uQ19 yI;refine vB (by grind [aC]) ⟨?_,rfl⟩
   grind [List.drop_eq_nil_of_le]
  | succ k ih=>
   intro i hi;have hx:s[i]?=some s[i]:=ybd (by omega)
   have hd:s.getD i 0=s[i]:=by grind
   have e:((List.range 10).drop i).all (fun i=>wK i (s.getD i 0))=(wK i s[i]&&((List.range 10).drop (i+1)).all fun i=>wK i (s.getD i 0)):=by
    grind [List.drop_eq_getElem_cons]
   have e3:kC (i:Int)=.int .i64 ((i+1:Nat):Int):=by
    show zA.int .i64 (fA .i64 ((i:Int)+1))=_
    rw[wrap_i64 (by omega) (by omega)];rfl
   have next:wK i s[i]=true->jp 226 2 [.str s,kC (i:Int)] t (fun v t'=>v=.bool (((List.range 10).drop i).all fun i=>wK i (s.getD i 0))/\t'=t):=fun h=>by
    rw[e,h,ycn,e3];grind
   have sep:(i=4\/i=7)->wp 226 (uQ19 s (i:Int)) t (fun v t'=>v=.bool (((List.range 10).drop i).all fun i=>wK i (s.getD i 0))/\t'=t):=fun h47=>by
    unfold uQ19 uU wC;refine rA (tN hx) (qB ?_)
    have hda:wK i s[i]=decide (s[i]=45):=by unfold wK;rw[yab h47]
    by_cases h45:s[i]=45
    ·grind [vB,fE,fC]
    ·refine mA (by grind [fE]) ⟨?_,rfl⟩
     simp_all
   refine zl2 ?_
   unfold Xw uQ19 uU uB wC;refine mA (by grind [aC]) ?_
   by_cases h4:i=4
   ·exact mA (by grind [fE]) (sep (.inl h4))
   refine vB (by grind [fE]) ?_
   by_cases h7:i=7
   ·exact mA (by grind [fE]) (sep (.inr h7))
   refine vB (by grind [fE]) (rA (tN hx) (qB (wB ?_)))
   rw[q169];show oD (kB yA F 169 [.int .u8 (s[i]:Int)] t) _
   rw[Pi,uA];have hda:wK i s[i]=nD s[i]:=by unfold wK;rw[yaa (by omega)]
   refine iD ?_
   cases hb:nD s[i]with
   | true=>grind [vB,fC]
   | false=>
    refine mA rfl ⟨?_,rfl⟩
    simp_all
 refine iC.2 (w226 ?_)
 unfold t226 wC;rw[uQ];unfold cI;by_cases h:10<=s.length
 ·refine vB (by grind [aC]) (fC ?_)
  rw[decide_eq_true h,ycn];exact loop h 10 0 rfl
 ·refine mA (by grind [aC]) ⟨?_,rfl⟩
  grind
theorem XZ(h:cI s=true):cI (s.take 10)=true/\(s.take 10).length=10:=by
 grind [cI]
theorem YC(hg:dJ t)(hd:cI s=true):kB yA F 227 [.str s] t=some (.tup [.str (if oQ s then []else s.take 10),.int .i64 (if oQ s then 113 else 0)]):=by
 obtain⟨h1,h2⟩:=XZ hd
 have hl:10<=s.length:=by grind
 have tail:(decide (10<s.length)&&lR s 10)=false->wp 227 (uQ6 s) t fun v' t'=>v'=.tup [.str (if oQ s then []else s.take 10),.int .i64 (if oQ s then 113 else 0)]/\t'=t:=by
  intro hf;have hb:oQ s=decide (wV (s.take 10)=none):=by unfold oQ;rw[hf,Bool.false_or]
  unfold uQ6 uS uI;have hs:=Dw (s:=s) (k:=10) (by omega)
  refine rA hs (dD (wB ?_))
  rw[q138,zex hg h2 h1,uA];refine rA rfl (qB (rA rfl (qB ?_)))
  rw[hb]
  cases hx:wV (s.take 10)with
  | none=>exact mA (by decide) ⟨rfl,rfl⟩
  | some n=>exact vB (fun h=>by cases h) (rA hs (dD ⟨rfl,rfl⟩))
 refine iC.2 (w227 ?_)
 unfold t227 uQ6 uU uB;rw[uQ];by_cases h10:10<s.length
 ·have hx:s[10]?=some s[10]:=ybd h10
  refine mA (by grind [aC]) (rA (tN hx) (qB (wB ?_)))
  rw[q121];show oD (kB yA F 121 [.int .u8 (s[10]:Int)] t) _
  rw[BZ,uA];refine iD ?_
  have hf:lR s 10=iK s[10]:=by unfold lR;rw[hx]
  cases hb:iK s[10]with
  | true=>
   refine mA rfl ⟨?_,rfl⟩
   grind [oQ]
  | false=>
   refine vB (by simp) (tail ?_)
   rw[hf,hb,yay]
 ·exact vB (by grind [aC]) (tail (by grind))
theorem zch(hs:s.length<1000000):kB yA F 228 [.str s] t=some (.tup [.str (if lK s then []else s.take (xG s)),.int .i64 (if lK s then 112 else 0)]):=by
 have hfl:=Zi nD s
 have hfirst:(bD s).length<=s.length:=hfl
 have hsecond:(bD s).length+1+(wG s).length<=s.length\/wG s=[]:=by
  grind [wG,Zi]
 have hnl:xG s<=s.length:=by
  grind [xG]
 have tail:decide (200<xG s)=false->lR s (xG s)=false->wp 228 (uQ11 (bD s) (wG s) s (xG s:Int)) t fun v' t'=>v'=.tup [.str (if lK s then []else s.take (xG s)),.int .i64 (if lK s then 112 else 0)]/\t'=t:=by
  intro h1 h2;have hb:lK s=(oO (bD s)||oO (wG s)||decide (wG s=[48])):=by unfold lK;rw[h1,h2,Bool.false_or,Bool.false_or]
  unfold uQ11 uB uS;refine wB ?_
  rw[q261,IX,uA];refine iD ?_
  cases p1:oO (bD s)with
  | true=>rw[hb,p1];exact mA rfl ⟨rfl,rfl⟩
  | false=>
   refine vB (by simp) (wB ?_)
   rw[q261,IX,uA];refine iD ?_
   cases p2:oO (wG s)with
   | true=>rw[hb,p1,p2];exact mA rfl ⟨rfl,rfl⟩
   | false=>
    refine vB (by simp) ?_
    rw[hb,p1,p2]
    cases p3:qF (wG s) [48]with
    | true=>
     rw[decide_eq_true ((sN _ _).1 p3)]
     exact mA rfl ⟨rfl,rfl⟩
    | false=>
     rw[decide_eq_false fun e=>by grind [sN]];exact vB (by simp) (rA (Dw hnl) (dD ⟨rfl,rfl⟩))
 have p17:jp 228 17 [.str s,.str (bD s),.int .i64 (xG s:Int),.str (wG s)] t fun v' t'=>v'=.tup [.str (if lK s then []else s.take (xG s)),.int .i64 (if lK s then 112 else 0)]/\t'=t:=by
  refine zpk ?_
  unfold za7 uQ11 uU uB;rw[uQ];by_cases h:xG s<s.length
  ·have hx:s[xG s]?=some s[xG s]:=ybd h
   refine mA (by grind [aC]) (rA (tN hx) (qB (wB ?_)))
   rw[q121];show oD (kB yA F 121 [.int .u8 (s[xG s]:Int)] t) _
   rw[BZ,uA];refine iD ?_
   have hf:lR s (xG s)=iK s[xG s]:=by unfold lR;rw[hx]
   by_cases h2:200<xG s
   ·refine mA (by grind [aC]) ⟨?_,rfl⟩
    grind [lK]
   ·refine vB (by grind [aC]) ?_
    cases hb:iK s[xG s]with
    | true=>
     refine mA rfl ⟨?_,rfl⟩
     grind [lK]
    | false=>exact vB (by simp) (tail (decide_eq_false h2) (by rw[hf,hb]))
  ·have hf:lR s (xG s)=false:=by unfold lR;rw[List.getElem?_eq_none (by omega)]
   refine vB (by grind [aC]) ?_
   by_cases h2:200<xG s
   ·refine mA (by grind [aC]) ⟨?_,rfl⟩
    grind [lK]
   ·exact vB (by grind [aC]) (tail (decide_eq_false h2) hf)
 have p13:jp 228 13 [.str s,.str (bD s),.int .i64 ((bD s).length:Int),.str (wG s)] t fun v' t'=>v'=.tup [.str (if lK s then []else s.take (xG s)),.int .i64 (if lK s then 112 else 0)]/\t'=t:=by
  refine zpl ?_
  unfold za8;grind [sN,vB,fC,xG,mA,uQ,wrap_i64]
 refine iC.2 (w228 ?_)
 unfold t228 uU uS;refine wB ?_
 rw[q120,zbp (by omega),uA]
 refine dD ?_
 rw[uQ,uQ];show wp 228 (.ite (fB ((bD s).length:Int) (s.length:Int)) _ (.jump 13 [.str s,.str (bD s),uZ ((bD s).length:Int),.str []])) t _
 by_cases h:(bD s).length<s.length
 ·have hx:s[(bD s).length]?=some s[(bD s).length]:=ybd h
  refine mA (by grind [aC]) (rA (tN hx) (qB ?_))
  by_cases h47:s[(bD s).length]=47
  ·have e:uW (((jE nD s).length:Int)+1)=(((bD s).length+1:Nat):Int):=by
    grind [bD,wrap_i64]
   have h2:wG s=jE nD (s.drop ((bD s).length+1)):=by unfold wG;rw[yab (by rw[hx,h47])]
   refine mA (by grind [fE]) ?_
   rw[e];refine rA (Jn (by omega)) (dD (wB ?_))
   rw[q120,zbp (by grind),uA,<- h2]
   exact dD (fC p13)
  ·have h2:wG s=[]:=by unfold wG;rw[yaa (by simp_all)]
   refine vB (by grind [fE]) (fC ?_)
   rw[h2]at p13;exact p13
 grind [vB,aC,fC]
end
end Go.Proofs
namespace Go.Proofs
open Go Go.Am
section
variable {b:Nat}
variable [nC]
theorem ziu(c:Nat):∀s:List Nat,(sW c s).isSome=s.contains c:=by
 intro s;induction s with
 | nil=>rfl
 | cons x r ih=>
  rw[List.contains_cons,<- ih];have e:sW c (x::r)=bif Nat.beq x c then some 0 else ob (sW c r) fun n=>some (n+1):=rfl
  rw[e]
  cases h:Nat.beq x c with
  | true=>simp_all
  | false=>
   have:¬ c=x:=fun e=>by simp_all
   have h2:(c == x)=false:=by grind
   rw[cond_false,h2,Bool.false_or]
   cases sW c r<;>rfl
abbrev aH(sp:Nat)(src:List Nat)(ln cl off:Nat):iF:=wD sp none [.int .i64 (ln:Int),.int .i64 (cl:Int),.str src,.int .i64 (off:Int)]
section
variable {tf t:Tr tA}{A B:List iF}{Q:mB}{sp ln cl off:Nat}{src:List Nat}
def g0  : tC yA 239 0 (.ptr b 0)=some (.ptr b 0):=by kernel_rfl
def g1  : tC yA 239 1 (.ptr b 0)=some (.ptr b 2):=by kernel_rfl
def g2  : tC yA 239 2 (.ptr b 0)=some (.ptr b 3):=by kernel_rfl
def p0  : tC yA 39 0 (.ptr b 0)=some (.ptr b 0):=by kernel_rfl
def p1  : tC yA 39 1 (.ptr b 0)=some (.ptr b 1):=by kernel_rfl
def zk6(h:xB yA.base tf t (A++aH sp src ln cl off::B)):cA yA 9 ⟨0,t⟩ (.ptr sp 2)=some (.str src):=(xB.cel h).load1 gL rfl rfl
def Nn(h:xB yA.base tf t (A++aH sp src ln cl off::B)):cA yA 3 ⟨0,t⟩ (.ptr sp 3)=some (.int .i64 (off:Int)):=(xB.cel h).load1 aJ rfl rfl
def sc_ln(h:xB yA.base tf t (A++aH sp src ln cl off::B)):cA yA 3 ⟨0,t⟩ (.ptr sp 0)=some (.int .i64 (ln:Int)):=(xB.cel h).load1 aJ rfl rfl
def sc_cl(h:xB yA.base tf t (A++aH sp src ln cl off::B)):cA yA 3 ⟨0,t⟩ (.ptr sp 1)=some (.int .i64 (cl:Int)):=(xB.cel h).load1 aJ rfl rfl
theorem sc_pl(h:xB yA.base tf t (A++aH sp src ln cl off::B)):cA yA 39 ⟨0,t⟩ (.ptr sp 0)=some (.agg [.int .i64 (ln:Int),.int .i64 (cl:Int)]):=by
 have:=(xB.cel h).at.load (j:=0) (n:=2) yX rfl rfl (by simp)
 simp_all
theorem Nm{ln' cl' off' j:Nat}{x:Nat}(h:xB yA.base tf t (A++aH sp src ln cl off::B))(hj:j<4)(he:oM [.int .i64 (ln:Int),.int .i64 (cl:Int),.str src,.int .i64 (off:Int)] j [.int .i64 (x:Int)]=[.int .i64 (ln':Int),.int .i64 (cl':Int),.str src,.int .i64 (off':Int)]) :
  ∃t',(∀q,mC yA 3 (.ptr sp j) (.int .i64 (x:Int)) ⟨q,t⟩=some (pD,⟨q,t'⟩))/\xB yA.base tf t' (A++aH sp src ln' cl' off'::B):=by
 obtain⟨t',h1,h2⟩:=xB.setCel (j:=j) (v:=.int .i64 (x:Int)) h aJ rfl (by show j+1<=4;omega) rfl
 refine⟨t',h1,?_⟩
 have:(zA.int .i64 (x:Int)).cells=[.int .i64 (x:Int)]:=rfl
 simp_all
def Ju(h:xB yA.base tf t (A++aH sp src ln cl off::B))(ho:off<=src.length):kB yA F 174 [.ptr sp 0] t=some (.str (src.drop off)):=by
 refine iC.2 (w174 ?_)
 unfold t174 uI uS sC;exact rA nl (rA g1 (yC (zk6 h) (dD (rA nl (rA g2 (yC (Nn h) (qB (rA (Jn ho) (dD ⟨rfl,rfl⟩)))))))))
theorem zbj{n:Nat}(h:xB yA.base tf t (A++aH sp src ln cl off::B))(h1:off+n<1000000)(h2:cl+n<1000000)(hQ:∀t',xB yA.base tf t' (A++aH sp src ln (cl+n) (off+n)::B)->Q (.tup []) t'):Wc yA F 173 [.ptr sp 0,.int .i64 (n:Int)] t Q:=by
 refine w173 ?_
 unfold t173 uI sC;have e1:uW ((off:Int)+(n:Int))=((off+n:Nat):Int):=by grind [wrap_i64]
 have e2:uW ((cl:Int)+(n:Int))=((cl+n:Nat):Int):=by grind [wrap_i64]
 refine rA nl (rA g2 (yC (Nn h) (qB (rA nl (rA g2 (eC fun b _ _=>?_))))))
 rw[e1];obtain⟨t1,k1,k2⟩:=Nm (j:=3) (x:=off+n) (ln':=ln) (cl':=cl) (off':=off+n) h (by omega) rfl
 refine⟨_,_,k1 b,rA nl (rA g0 (rA p1 (yC (sc_cl k2) (qB (rA nl (rA g0 (rA p1 (eC fun b _ _=>?_))))))))⟩
 rw[e2];obtain⟨t2,m1,m2⟩:=Nm (j:=1) (x:=cl+n) (ln':=ln) (cl':=cl+n) (off':=off+n) k2 (by omega) rfl
 exact⟨_,_,m1 b,hQ t2 m2⟩
theorem VT(h:xB yA.base tf t (A++aH sp src ln cl off::B))(h1:off<900000)(h2:ln<900000)(hQ:∀t',xB yA.base tf t' (A++aH sp src (ln+1) 1 (off+1)::B)->Q (.tup []) t'):Wc yA F 172 [.ptr sp 0] t Q:=by
 refine w172 ?_
 unfold t172 uI sC;have e:∀n:Nat,n<900000->kC (n:Int)=.int .i64 ((n+1:Nat):Int):=fun n hn=>by
  grind [wrap_i64]
 refine rA nl (rA g2 (yC (Nn h) (qB (rA nl (rA g2 (eC fun b _ _=>?_))))))
 rw[e off h1];obtain⟨t1,k1,k2⟩:=Nm (j:=3) (x:=off+1) (ln':=ln) (cl':=cl) (off':=off+1) h (by omega) rfl
 refine⟨_,_,k1 b,rA nl (rA g0 (rA p0 (yC (sc_ln k2) (qB (rA nl (rA g0 (rA p0 (eC fun b _ _=>?_))))))))⟩
 rw[e ln h2];obtain⟨t2,m1,m2⟩:=Nm (j:=0) (x:=ln+1) (ln':=ln+1) (cl':=cl) (off':=off+1) k2 (by omega) rfl
 refine⟨_,_,m1 b,rA nl (rA g0 (rA p1 (eC fun b _ _=>?_)))⟩
 obtain⟨t3,n1,n2⟩:=Nm (j:=1) (x:=1) (ln':=ln+1) (cl':=1) (off':=off+1) m2 (by omega) rfl
 exact⟨_,_,n1 b,hQ t3 n2⟩
theorem FG{s w:List Nat}{k:Nat}(h:uF s=.tok k w):w.length<=s.length/\w=s.take w.length:=by
 cases s with
 | nil=>cases h
 | cons b r=>
  grind [uF,zbt]
theorem zge(hg:dJ tf)(h:xB yA.base tf t (A++aH sp src ln cl off::B))(hoff:off<src.length)(hlen:src.length<=65536)(hcl:cl<200000)(hby:∀b∈src,b<256)
  (hQ:∀t',match uF (src.drop off)with
   | .bad e=>xB yA.base tf t' (A++aH sp src ln cl off::B)->Q (.tup [.agg [.int .u8 0,.str [],.int .i64 (ln:Int),.int .i64 (cl:Int)],.int .i64 (e:Int)]) t'
   | .tok k w=>xB yA.base tf t' (A++aH sp src ln (cl+w.length) (off+w.length)::B)->Q (.tup [.agg [.int .u8 (k:Int),.str w,.int .i64 (ln:Int),.int .i64 (cl:Int)],.int .i64 0]) t'):Wc yA F 176 [.ptr sp 0] t Q:=by
 have hgt:=hg.mono h.tle
 have hx:src[off]?=some src[off]:=ybd hoff
 have hdrop:src.drop off=src[off]::src.drop (off+1):=ybl hoff
 have hb256:=hby src[off] (ycj _)
 have hdl:(src.drop off).length<=65536:=by grind
 have j37:∀(k e:Nat) (w:List Nat),(e≠0->uF (src.drop off)=.bad e)->(e=0->uF (src.drop off)=.tok k w)->jp 176 37 [.ptr sp 0,.int .u8 (k:Int),.str w,.int .i64 (e:Int),.int .u8 0,.str [],.int .i64 0,.int .i64 0,.int .i64 (ln:Int),.int .i64 (cl:Int)] t Q:=by
  intro k e w h1 h2;refine zpn ?_
  unfold zba;by_cases h0:e=0
  ·have ht:=h2 h0
   subst h0;refine vB (by decide) (wB ?_)
   rw[q173,uQ];obtain⟨l1,_⟩:=FG ht
   rw[ydj]at l1;refine zbj h (by omega) (by omega) fun t' h'=>mA rfl (mA rfl ?_)
   have:=hQ t'
   rw[ht]at this;exact this h'
  ·have ht:=h1 h0
   refine mA (by grind [fE]) (mA rfl (mA rfl ?_))
   have:=hQ t
   rw[ht]at this;exact this h
 have hq1:vN src[off]=false->(nD src[off]=true->cI (src.drop off)=false)->wp 176 (uQ2 (src[off]:Int) (.ptr sp 0) (cellsOf [.int .i64 (ln:Int),.int .i64 (cl:Int)])) t Q:=by
  intro hl hd;unfold uQ2 uB uS uI;refine wB ?_
  rw[q169];show oD (kB yA F 169 [.int .u8 (src[off]:Int)] t) _
  rw[Pi,uA];refine iD ?_
  cases hdg:nD src[off]with
  | true=>
   have hda:=hd hdg
   refine mA rfl (wB ?_)
   rw[q174,Ju h (by omega),uA]
   refine dD (wB ?_)
   rw[q228,zch (by omega),uA]
   have ht:uF (src.drop off)=if lK (src.drop off)then .bad 112 else .tok 2 ((src.drop off).take (xG (src.drop off))):=by
    grind [uF]
   refine rA rfl (dD (rA rfl (qB (fC ?_))))
   cases hb:lK (src.drop off)with
   | true=>exact j37 2 112 [] (fun _=>by grind) (fun e=>by cases e)
   | false=>exact j37 2 0 _ (fun e=>absurd rfl e) (fun _=>by grind)
  | false=>
   refine vB (by simp) (wB ?_)
   have hgp:yA.prims.get 229=some (bL Oa):=by kernel_rfl
   have hix:kB yA F 229 [.str [40,41,44,43,45,42,47,60,61],.int .u8 (src[off]:Int)] t=some (.int .i64 (match sW src[off] [40,41,44,43,45,42,47,60,61]with | some n=>.ofNat n | none=>.negSucc 0)):=by
    refine Gw hgp fun H=>?_
    show tB (Nat.blt src[off] 256) _=_
    rw[qC.2 hb256];rfl
   rw[q229];show oD (kB yA F 229 [.str [40,41,44,43,45,42,47,60,61],.int .u8 (src[off]:Int)] t) _
   rw[hix,uA];refine qB ?_
   have hsg:Er src[off]=(sW src[off] [40,41,44,43,45,42,47,60,61]).isSome:=by rw[ziu];rfl
   have ht:uF (src.drop off)=if Er src[off]then .tok 4 [src[off]]else .bad 110:=by
    grind [uF]
   cases hi:sW src[off] [40,41,44,43,45,42,47,60,61]with
   | some n=>
    refine mA (by grind [oR]) (wB ?_)
    rw[q174,Ju h (by omega),uA]
    have hs1:=Dw (s:=src.drop off) (k:=1) (by grind)
    refine dD (rA hs1 (dD (fC ?_)))
    have:(src.drop off).take 1=[src[off]]:=by grind
    rw[this];exact j37 4 0 _ (fun e=>absurd rfl e) (fun _=>by grind)
   | none=>
    refine vB (by decide) (fC ?_)
    exact j37 0 110 _ (fun _=>by grind) (fun e=>by cases e)
 refine w176 ?_
 unfold t176 uQ2 uI uU uB uS uG sC;refine rA nl (rA g0 (yC (sc_pl h) (dC (X:=cellsOf [.int .i64 (ln:Int),.int .i64 (cl:Int)]) (zO rfl) (mA rfl (rA nl (rA g1 (yC (zk6 h) (dD (rA nl (rA g2 (yC (Nn h) (qB (rA (tN hx) (qB (wB ?_)))))))))))))))
 rw[q119];show oD (kB yA F 119 [.int .u8 (src[off]:Int)] t) _
 rw[Tu,uA];refine iD ?_
 cases hl:vN src[off]with
 | true=>
  refine mA rfl (wB ?_)
  rw[q174,Ju h (by omega),uA]
  refine dD (wB ?_)
  rw[q225,RM (by omega),uA]
  have ht:uF (src.drop off)=if 24<(jE iK (src.drop off)).length then .bad 111 else .tok 1 (jE iK (src.drop off)):=by
   grind [uF]
  refine rA rfl (dD (rA rfl (qB (fC ?_))))
  by_cases h24:24<(jE iK (src.drop off)).length
  ·rw[yab h24,yab h24]
   exact j37 1 111 [] (fun _=>by rw[ht,yab h24]) (fun e=>by cases e)
  ·rw[yaa h24,yaa h24]
   exact j37 1 0 _ (fun e=>absurd rfl e) (fun _=>by rw[ht,yaa h24])
 | false=>
  refine vB (by simp) (wB ?_)
  rw[q169];show oD (kB yA F 169 [.int .u8 (src[off]:Int)] t) _
  rw[Pi,uA];refine iD ?_
  cases hdg:nD src[off]with
  | false=>exact vB (by simp) (hq1 hl (fun h=>by grind))
  | true=>
   refine mA rfl (wB ?_)
   rw[q174,Ju h (by omega),uA]
   refine dD (wB ?_)
   rw[q226,zjl,uA];refine iD ?_
   cases hda:cI (src.drop off)with
   | false=>exact vB (by simp) (hq1 hl (fun _=>hda))
   | true=>
    refine mA rfl (wB ?_)
    rw[q174,Ju h (by omega),uA]
    refine dD (wB ?_)
    rw[q227,YC hgt hda,uA];have ht:uF (src.drop off)=if oQ (src.drop off)then .bad 113 else .tok 3 ((src.drop off).take 10):=by
     grind [uF]
    refine rA rfl (dD (rA rfl (qB (fC ?_))))
    cases hb:oQ (src.drop off)with
    | true=>exact j37 3 113 [] (fun _=>by grind) (fun e=>by cases e)
    | false=>exact j37 3 0 _ (fun e=>absurd rfl e) (fun _=>by grind)
end
end
section
variable {acc:List bC}{v:zA}
variable [nC]
def qH (l:Nat)(r:mN):iF where
 blks:=[l]
 ok:=fun _ t=>t.get l=some (.loop r)
 keep:=fun h _ k=>by simp_all
 live:=fun h k hk=>by simp_all
def el136:Iu yA 136 149 4:=⟨⟨_,qU,rfl,rfl⟩,⟨_,zgd,rfl,rfl,by decide,by decide⟩,fun y h=>by rw[zgd]at h;cases h;rfl⟩
theorem tok_rd{t:Tr tA}(x:bC):RD t x.d x.cs:=by
 simp_all [bC.d,bC.cs,eO,vH,cH]
abbrev lP(a0 a1 a2 a6:Nat)(pl pc e:Nat)(acc:List bC)(v:zA):List iF:=
 [wD a0 none [.nilslice],wD a1 none [.int .i64 (pl:Int),.int .i64 (pc:Int)],wD a2 none [.int .i64 (e:Int)],wD a6 none [v],nP yA.base 4 (acc.map bC.d) v]
section
variable {tf t:Tr tA}{Q:mB}{sp ln cl off a0 a1 a2 a6 l:Nat}{src:List Nat}{r:mN}{L:List iF}
def xB.delLp(h:xB yA.base tf t (L++[qH l r])):xB yA.base tf (t.del l) L:=by
 have h1:=h.low l (by simp[qH])
 have h2:l∉L.flatMap iF.blks:=by
  have:=xB.notin (A:=L) (B:=[]) (o:=qH l r) h (k:=l) (by simp[qH])
  rwa [ycd]at this
 have h3:=xB.drop (A:=L) (B:=[]) (o:=qH l r) h
 rw[ycd]at h3;exact h3.other h2 h1.2 fun c hc=>by rw[Tr.get_del,yaa hc]
theorem xB.setLp(h:xB yA.base tf t L)(hn:t.get l=none)(hb:yA.base<=l):xB yA.base tf (t.set l (.loop r)) (L++[qH l r]):=by
 have:=xB.add (A:=L) (B:=[]) (o':=qH l r) (t':=t.set l (.loop r)) (by rwa [ycd]) (fun k hk=>by rw[Tr.get_set,yaa (fun e=>hk (by simp[qH,e]))]) (fun k hk=>by grind [qH]) (by show(t.set l (.loop r)).get l=_;rw[Tr.get_set,yab rfl]) (by simp[qH]) (h.tle.trans (rP hn _).1)
 exact this
def YldR (l:Nat)(r:mN)(a0 a1 a2 a6:Nat):Prop:=∀args t1 Q1,args.length=2->t1.get l=some (.loop r)->Jq yA F 63 2 ([.ptr a0 0,.ptr a1 0,.ptr a2 0,.ptr a6 0]++args) (t1.del l) (fun v t2=>t2.get l=none->∃b,v=.bool b/\Q1 v (t2.set l (.loop (kP b r))))->Wq yA F jC (yo+l) args t1 Q1
def zh1(h1:r.state=.ready)(h2:r.pending=none):kP true r=r:=by
 obtain⟨a,b,c,d,e,f,g,h,i⟩:=r
 have h1:a=.ready:=h1
 have h2:b=none:=h2
 subst h1;subst h2;rfl
theorem Wb  {x:bC}(hy:YldR l r a0 a1 a2 a6)(hr1:r.state=.ready)(hr2:r.pending=none)(hlen:acc.length<300000)
  (h:xB yA.base tf t (lP a0 a1 a2 a6 0 0 0 acc v++L++[qH l r])) (hQ:∀tf' t' v',zB tf tf'->xB yA.base tf' t' (lP a0 a1 a2 a6 0 0 0 (acc++[x]) v'++L++[qH l r])->Q (.bool true) t') :
  Wq yA F jC (yo+l) [.agg x.cs,.int .i64 0] t Q:=by
 have hl:t.get l=some (.loop r):=h.ok (qH l r) (by simp)
 have hlb:=(h.low l (by simp[qH])).1
 refine hy _ _ _ rfl hl ?_
 have h1:=xB.delLp h
 refine j63_2 ?_
 unfold zn3;refine mA rfl (vB (by decide) ?_)
 have lv:cA yA 136 ⟨0,t.del l⟩ (.ptr a6 0)=some v:=(xB.cel (A:=[_,_,_]) h1).load1 qU rfl rfl
 refine yC lv (eC fun b hb _=>?_)
 have hf:vM (fun i=>some (i*4,4)) [(0,.agg x.cs)] (oI [.int .u8 0,.str [],.int .i64 0,.int .i64 0] 1)=some [x.cs].flatten:=by
  rw[Pq (sz:=4) (z:=[.int .u8 0,.str [],.int .i64 0,.int .i64 0]) (v:=.agg x.cs) rfl rfl];rfl
 obtain⟨tf1,t1,k1,k2,k3,k4⟩:=litN (C:=yA) (T:=136) (el:=149) (sz:=4) (n:=1) (ds:=[x.d]) (cl:=[x.cs]) (ps:=[(0,.agg x.cs)]) qU rfl zgd rfl rfl (by decide) hf (Oc rfl) rfl (vH.2 ⟨_,_,rfl,tok_rd x,cH.2 rfl⟩) h1 hb
 refine⟨_,_,k1,eC fun c hc hcb=>?_⟩
 obtain⟨t2,v2,m1,m2,m3⟩:=xB.append1 (A:=[wD a0 none [.nilslice],wD a1 none [.int .i64 0,.int .i64 0],wD a2 none [.int .i64 0],wD a6 none [v]]) (B:=L) (cs:=[]) el136 k3 k4 (by grind) hc hcb
 refine⟨_,_,m1,eC fun q _ _=>?_⟩
 have hcell:v2.cells=[v2]:=by
  have:=m2.ok (nP yA.base 4 (acc.map bC.d++[x.d]) v2) (by simp)
  rcases this with⟨e,_⟩ | ⟨b,cl,c,e,_⟩ <;> (subst e;rfl)
 obtain⟨t3,n1,n2⟩:=xB.setCel (A:=[wD a0 none [.nilslice],wD a1 none [.int .i64 0,.int .i64 0],wD a2 none [.int .i64 0]]) (j:=0) (v:=v2) m2 qU (by simp_all) (by simp_all) (by grind [mI])
 refine⟨_,_,n1 q,fun hn=>⟨true,rfl,?_⟩⟩
 rw[zh1 hr1 hr2];have e:oM [v] 0 v2.cells=[v2]:=by rw[hcell];rfl
 rw[e]at n2;refine hQ tf1 _ v2 k2 ?_
 have hs:=xB.setLp (r:=r) n2 hn hlb
 simp_all
theorem zf2  {e pl pc:Nat}(hy:YldR l r a0 a1 a2 a6)(he:e≠0)
  (h:xB yA.base tf t (lP a0 a1 a2 a6 0 0 0 acc v++L++[qH l r])) (hQ:∀t',xB yA.base tf t' (lP a0 a1 a2 a6 pl pc e acc v++L++[qH l (kP false r)])->Q (.bool false) t') :
  Wq yA F jC (yo+l) [.agg [.int .u8 0,.str [],.int .i64 (pl:Int),.int .i64 (pc:Int)],.int .i64 (e:Int)] t Q:=by
 have hl:t.get l=some (.loop r):=h.ok (qH l r) (by simp)
 have hlb:=(h.low l (by simp[qH])).1
 refine hy _ _ _ rfl hl ?_
 have h1:=xB.delLp h
 refine j63_2 ?_
 unfold zn3;refine mA rfl (mA (by grind [fE]) (eC fun q _ _=>?_))
 obtain⟨t1,n1,n2⟩:=xB.setCel (A:=[]) (j:=0) (v:=.nilslice) h1 qU rfl (by show 0+1<=1;omega) rfl
 have hs:same 10 (.agg [.int .i64 (pl:Int),.int .i64 (pc:Int)]) (.agg [.int .i64 (pl:Int),.int .i64 (pc:Int)])=true:=by
  show(same 9 (.int .i64 (pl:Int)) (.int .i64 (pl:Int))&&(same 9 (.int .i64 (pc:Int)) (.int .i64 (pc:Int))&&true))=true
  grind [Jp]
 refine⟨_,_,n1 q,mA hs (eC fun q _ _=>?_)⟩
 obtain⟨t2,m1,m2⟩:=xB.setCel (A:=[_]) (j:=0) (v:=.agg [.int .i64 (pl:Int),.int .i64 (pc:Int)]) n2 yX rfl (by show 0+2<=2;omega) rfl
 refine⟨_,_,m1 q,eC fun q _ _=>?_⟩
 obtain⟨t3,p1,p2⟩:=xB.setCel (A:=[_,_]) (j:=0) (v:=.int .i64 (e:Int)) m2 Ak rfl (by show 0+1<=1;omega) rfl
 exact⟨_,_,p1 q,fun hn=>⟨false,rfl,hQ _ (xB.setLp p2 hn hlb)⟩⟩
def Rc{args:List zA}:mL (.func (.yld l) [] []) args=some (yo+l,args):=rfl
abbrev opB(op:Option (Nat × Nat)):Bool:=op.isSome
def zgg{bx:Nat}(hy:YldR l r a0 a1 a2 a6)(hr1:r.state=.ready)(hr2:r.pending=none)(hlen:src.length<=65536)(hby:∀b∈src,b<256) :
  ∀(k off ln cl:Nat) (op:Option (Nat × Nat)) (i0 i1:Int) (acc:List bC) (v:zA) (tf t:Tr tA),src.length-off<k->off<=src.length->ln<=off+1->cl<=off+1->acc.length<=2*off->(op.isSome=true->acc.length+1<=2*off)->(∀p,op=some p->i0=(p.1:Int)/\i1=(p.2:Int)) →
   dJ tf->lC tf bx none [.str src]->xB yA.base tf t (lP a0 a1 a2 a6 0 0 0 acc v++[aH sp src ln cl off]++[qH l r]) →
   (match xN k (src.drop off) ln cl op with
    | .ok m=>∀tf' t' v' ln' cl' off',zB tf tf'->xB yA.base tf' t' (lP a0 a1 a2 a6 0 0 0 (acc++m) v'++[aH sp src ln' cl' off']++[qH l r])->Q (.tup []) t'
    | .er e pl pc=>∀tf' t' v' acc' ln' cl' off',zB tf tf'->xB yA.base tf' t' (lP a0 a1 a2 a6 pl pc e acc' v'++[aH sp src ln' cl' off']++[qH l (kP false r)])->Q (.tup []) t') →
   jp 171 2 [.func (.yld l) [] [],.ptr bx 0,.ptr sp 0,.bool op.isSome,.int .i64 i0,.int .i64 i1] t Q:=by
 intro k;induction k with
 | zero=>intro off;omega
 | succ k ih=>
  intro off ln cl op i0 i1 acc v tf t hk hoff hln hcl hacc hacc2 hop hg hbx h hQ;have ho:=Nn (A:=lP a0 a1 a2 a6 0 0 0 acc v) (B:=[qH l r]) (by simpa using h)
  have hA:xB yA.base tf t (lP a0 a1 a2 a6 0 0 0 acc v++aH sp src ln cl off::[qH l r]):=by simpa using h
  have hlb:∀ {t},zB tf t->cA yA 9 ⟨0,t⟩ (.ptr bx 0)=some (.str src):=fun hl=>(lC.le hbx hl).load1 gL rfl rfl
  refine j171_2 ?_
  unfold zk2 uI uU uB uS uG uA11;refine rA g2 (yC ho (qB (yC (hlb h.tle) (dD ?_))))
  rw[uQ];by_cases hlt:off<src.length
  ·have hx:src[off]?=some src[off]:=ybd hlt
   have hdrop:src.drop off=src[off]::src.drop (off+1):=ybl hlt
   rw[hdrop]at hQ;unfold xN at hQ;refine mA (by rw[aC];exact decide_eq_true (by omega)) (yC (hlb h.tle) (dD (rA g2 (yC ho (qB (rA (tN hx) (qB ?_)))))))
   by_cases h10:src[off]=10
   ·rw[yab h10]at hQ
    refine mA (by rw[fE,h10];rfl) ?_
    have nlg:∀(acc':List bC) (v':zA) (tf1 t1:Tr tA),acc'.length<=2*(off+1)->zB tf tf1->xB yA.base tf1 t1 (lP a0 a1 a2 a6 0 0 0 acc' v'++[aH sp src ln cl off]++[qH l r]) →
      (match xN k (src.drop (off+1)) (ln+1) 1 none with
       | .ok m=>∀tf' t' v' ln' cl' off',zB tf1 tf'->xB yA.base tf' t' (lP a0 a1 a2 a6 0 0 0 (acc'++m) v'++[aH sp src ln' cl' off']++[qH l r])->Q (.tup []) t'
       | .er e pl pc=>∀tf' t' v' acc' ln' cl' off',zB tf1 tf'->xB yA.base tf' t' (lP a0 a1 a2 a6 pl pc e acc' v'++[aH sp src ln' cl' off']++[qH l (kP false r)])->Q (.tup []) t') →
      wp 171 (.call 172 [.ptr sp 0] fun _=>.jump 2 [.func (.yld l) [] [],.ptr bx 0,.ptr sp 0,.bool false,uZ i0,uZ i1]) t1 Q:=by
     intro acc' v' tf1 t1 ha hle h1 hQ1;refine wB ?_
     rw[q172];refine VT (A:=lP a0 a1 a2 a6 0 0 0 acc' v') (B:=[qH l r]) (by simpa using h1) (by omega) (by omega) fun t2 h2=>?_
     exact fC (ih (off+1) (ln+1) 1 none i0 i1 acc' v' tf1 t2 (by omega) (by omega) (by omega) (by omega) ha (fun h=>by cases h) (fun p hp=>by cases hp) (hg.mono hle) (lC.le hbx hle) (by simpa using h2) hQ1)
    cases op with
    | some p=>
     obtain⟨e0,e1⟩:=hop p rfl
     subst e0 e1
     refine mA rfl (mA rfl (wX Rc ?_))
     refine Wb (x:=endT p) (L:=[aH sp src ln cl off]) hy hr1 hr2 (by omega) h fun tf1 t1 v1 k1 k2=>?_
     refine iD (vB (by simp) (nlg (acc++[endT p]) v1 tf1 t1 (by have:=hacc2 rfl;simp;omega) k1 k2 ?_))
     unfold LR.close at hQ;revert hQ
     generalize xN k (src.drop (off+1)) (ln+1) 1 none=res
     intro hQ
     cases res with
     | ok m=>exact fun tf' t' v' ln' cl' off' q1 q2=>hQ tf' t' v' ln' cl' off' (k1.trans q1) (by simpa using q2)
     | er e pl pc=>exact fun tf' t' v' acc' ln' cl' off' q1 q2=>hQ tf' t' v' acc' ln' cl' off' (k1.trans q1) q2
    | none=>
     refine vB (by simp) (nlg acc v tf t (by omega) (zB.refl _) h ?_)
     exact hQ
   rw[yaa h10]at hQ;refine vB (by rw[fE];simp;omega) ?_
   have blank:∀n:Nat,off+n<=src.length->0<n->(match xN k (src.drop (off+n)) ln (cl+n) op with
     | .ok m=>∀tf' t' v' ln' cl' off',zB tf tf'->xB yA.base tf' t' (lP a0 a1 a2 a6 0 0 0 (acc++m) v'++[aH sp src ln' cl' off']++[qH l r])->Q (.tup []) t'
     | .er e pl pc=>∀tf' t' v' acc' ln' cl' off',zB tf tf'->xB yA.base tf' t' (lP a0 a1 a2 a6 pl pc e acc' v'++[aH sp src ln' cl' off']++[qH l (kP false r)])->Q (.tup []) t') →
     wp 171 (.call 173 [.ptr sp 0,.int .i64 (n:Int)] fun _=>.jump 2 [.func (.yld l) [] [],.ptr bx 0,.ptr sp 0,.bool op.isSome,uZ i0,uZ i1]) t Q:=by
    intro n hn hn0 hQ1;refine wB ?_
    rw[q173];refine zbj hA (by omega) (by omega) fun t2 h2=>?_
    exact fC (ih (off+n) ln (cl+n) op i0 i1 acc v tf t2 (by omega) hn (by omega) (by omega) (by omega) (fun h=>by have:=hacc2 h;omega) hop hg hbx (by simpa using h2) hQ1)
   by_cases h32:src[off]=32
   ·rw[yab (.inl h32)]at hQ
    exact mA (by rw[fE,h32];rfl) (blank 1 (by omega) (by omega) hQ)
   refine vB (by rw[fE];simp;omega) ?_
   by_cases h9:src[off]=9
   ·rw[yab (.inr h9)]at hQ
    exact mA (by rw[fE,h9];rfl) (blank 1 (by omega) (by omega) hQ)
   rw[yaa (by simp[h32,h9])]at hQ
   refine vB (by rw[fE];simp;omega) ?_
   by_cases h35:src[off]=35
   ·rw[yab h35]at hQ
    have hrl:=Zi (fun x=>decide (x≠10)) (src.drop off)
    rw[ydj]at hrl;have hr0:0<(jE (fun x=>decide (x≠10)) (src.drop off)).length:=by
     rw[hdrop];unfold jE;rw[List.takeWhile_cons,yab (by simp[h10])];simp
    refine mA (by rw[fE,h35];rfl) (wB ?_)
    rw[q174,Ju hA (by omega),uA]
    refine dD (wB ?_)
    rw[q120,zg9 (by rw[ydj];omega),uA]
    refine dD ?_
    rw[uQ];rw[<- hdrop]at hQ;rw[List.drop_drop]at hQ;exact blank _ (by omega) hr0 hQ
   rw[yaa h35]at hQ;refine vB (by rw[fE];simp;omega) (wB ?_)
   rw[<- hdrop]at hQ;rw[q176];refine zge hg hA hlt hlen (by omega) hby fun t1=>?_
   cases htk:uF (src.drop off)with
   | bad e=>
    rw[htk]at hQ;intro h1;have he:e≠0:=by
     intro e0;subst e0;rw[hdrop]at htk;unfold uF at htk;simp only at htk
     repeat (split at htk<;>try (cases htk;done))
    refine rA rfl (dC (X:=cellsOf [.int .u8 0,.str [],.int .i64 (ln:Int),.int .i64 (cl:Int)]) (zO rfl) (rA rfl (qB (mA rfl (wX Rc ?_)))))
    refine zf2 (pl:=ln) (pc:=cl) (L:=[aH sp src ln cl off]) hy he (by simpa using h1) fun t2 h2=>?_
    exact iD (mA rfl (hQ tf t2 v acc ln cl off (zB.refl _) h2))
   | tok kd w=>
    rw[htk]at hQ;intro h1;obtain⟨lw,_⟩:=FG htk
    rw[ydj]at lw;have hw0:0<w.length:=by
     rw[hdrop]at htk;unfold uF at htk;simp only at htk
     split at htk
     ·rename_i hl
      split at htk
      ·cases htk
      ·cases htk
       unfold jE;rw[List.takeWhile_cons,yab (by unfold iK;rw[hl];rfl)];simp
     split at htk
     ·rename_i hd
      split at htk
      ·cases htk
      ·cases htk;rw[yda,ybn];omega
     split at htk
     ·rename_i hd _
      split at htk
      ·cases htk
      ·cases htk
       have:0<xG (src[off]::src.drop (off+1)):=by
        have:0<(bD (src[off]::src.drop (off+1))).length:=by
         unfold bD jE;rw[List.takeWhile_cons,yab (by assumption)];simp
        unfold xG;split<;>omega
       rw[yda,ybn];omega
     split at htk
     ·cases htk;simp
     ·cases htk
    refine rA rfl (dC (X:=cellsOf [.int .u8 (kd:Int),.str w,.int .i64 (ln:Int),.int .i64 (cl:Int)]) (zO rfl) (rA rfl (qB (mA rfl (wX Rc ?_)))))
    refine Wb (acc:=acc) (v:=v) (x:=⟨kd,w,ln,cl⟩) (L:=[aH sp src ln (cl+w.length) (off+w.length)]) hy hr1 hr2 (by omega) (by simpa using h1) fun tf2 t2 v2 k1 k2=>?_
    have hA2:xB yA.base tf2 t2 (lP a0 a1 a2 a6 0 0 0 (acc++[⟨kd,w,ln,cl⟩]) v2++aH sp src ln (cl+w.length) (off+w.length)::[qH l r]):=by simpa using k2
    refine iD (vB (by simp) (vB (by decide) (rA g0 (yC (sc_pl hA2) (dC (X:=cellsOf [.int .i64 (ln:Int),.int .i64 ((cl+w.length:Nat):Int)]) (zO rfl) (mA rfl (fC ?_)))))))
    refine ih (off+w.length) ln (cl+w.length) (some (ln,cl+w.length)) _ _ (acc++[⟨kd,w,ln,cl⟩]) v2 tf2 t2 (by omega) (by omega) (by omega) (by omega) (by simp;omega) (fun _=>by simp;omega) (fun p hp=>by cases hp;exact⟨rfl,rfl⟩) (hg.mono k1) (lC.le hbx k1) k2 ?_
    have hdd:(src.drop off).drop w.length=src.drop (off+w.length):=by rw[List.drop_drop]
    simp only[hdd]at hQ;unfold LR.cons at hQ;revert hQ
    generalize xN k (src.drop (off+w.length)) ln (cl+w.length) (some (ln,cl+w.length))=res
    intro hQ
    cases res with
    | ok m=>exact fun tf' t' v' ln' cl' off' q1 q2=>hQ tf' t' v' ln' cl' off' (k1.trans q1) (by simpa using q2)
    | er e pl pc=>exact fun tf' t' v' acc' ln' cl' off' q1 q2=>hQ tf' t' v' acc' ln' cl' off' (k1.trans q1) q2
  ·have hdrop:src.drop off=[]:=ybt (by omega)
   rw[hdrop]at hQ;unfold xN at hQ;refine vB (by rw[aC];simp;omega) ?_
   cases op with
   | some p=>
    obtain⟨e0,e1⟩:=hop p rfl
    subst e0 e1
    refine mA rfl (mA rfl (wX Rc ?_))
    refine Wb (x:=endT p) (L:=[aH sp src ln cl off]) hy hr1 hr2 (by omega) h fun tf1 t1 v1 k1 k2=>?_
    exact iD (hQ tf1 t1 v1 ln cl off k1 k2)
   | none=>
    refine vB (by simp) ?_
    have:=hQ tf t v ln cl off (zB.refl _) (by simpa using h)
    exact this
end
end
section
variable [nC]
def iN (s:List Nat):LR:=if 65536<s.length then .er 3 0 0 else nZ s
section
variable {t:Tr tA}{Q:mB}{s:List Nat}
theorem lex_ok(hg:dJ t)(hby:∀b∈s,b<256)
  (hQ:match iN s with
   | .ok m=>∀t' v,zB t t'->aA t' 4 (m.map bC.d) v->Q (.tup [v,.agg [.int .i64 0,.int .i64 0],.int .i64 0]) t'
   | .er e a b=>∀t',zB t t'->Q (.tup [.nilslice,.agg [.int .i64 (a:Int),.int .i64 (b:Int)],.int .i64 (e:Int)]) t'):Wc yA F 63 [.str s] t Q:=by
 have ho:xB yA.base t t []:=⟨zB.refl _,by simp,by simp,by simp⟩
 refine w63 ?_
 unfold t63;refine eC fun a0 h0 b0=>?_
 obtain⟨t1,e1,e2,e3,e4⟩:=xS (C:=yA) qU h0
 have o1:=xB.newCel (A:=[]) (B:=[]) ho h0 b0 e2 e3 e4
 refine⟨_,_,e1,eC fun a1 h1 b1=>?_⟩
 obtain⟨t2,f1,f2,f3,f4⟩:=xS (C:=yA) yX h1
 have o2:=xB.newCel (A:=[_]) (B:=[]) o1 h1 b1 f2 f3 f4
 refine⟨_,_,f1,eC fun a2 h2 b2=>?_⟩
 obtain⟨t3,k1,k2,k3,k4⟩:=xS (C:=yA) Ak h2
 have o3:=xB.newCel (A:=[_,_]) (B:=[]) o2 h2 b2 k2 k3 k4
 refine⟨_,_,k1,?_⟩
 rw[uQ];have ends:∀ {tf t':Tr tA} {L:List iF} {v:zA} {a b e:Nat},zA.one v=true->xB yA.base tf t' ([wD a0 none [v],wD a1 none [.int .i64 (a:Int),.int .i64 (b:Int)],wD a2 none [.int .i64 (e:Int)]]++L) →
   cA yA 136 ⟨0,t'⟩ (.ptr a0 0)=some v/\cA yA 39 ⟨0,t'⟩ (.ptr a1 0)=some (.agg [.int .i64 (a:Int),.int .i64 (b:Int)])/\cA yA 34 ⟨0,t'⟩ (.ptr a2 0)=some (.int .i64 (e:Int)):=by
  intro tf t' L v a b e _ h;refine⟨(xB.cel (A:=[]) h).load1 qU rfl rfl,?_,(xB.cel (A:=[_,_]) h).load1 Ak rfl rfl⟩
  have:=(xB.cel (A:=[_]) h).at.load (j:=0) (n:=2) yX rfl rfl (by simp)
  simp_all
 by_cases hl:65536<s.length
 ·have hx:iN s=.er 3 0 0:=by unfold iN;rw[yab hl]
  rw[hx]at hQ;refine mA (by grind [aC]) (mA rfl (eC fun q _ _=>?_))
  obtain⟨t4,n1,n2⟩:=xB.setCel (A:=[]) (j:=0) (v:=.nilslice) o3 qU rfl (by show 0+1<=1;omega) rfl
  refine⟨_,_,n1 q,eC fun q _ _=>?_⟩
  obtain⟨t5,m1,m2⟩:=xB.setCel (A:=[_]) (j:=0) (v:=.agg [.int .i64 0,.int .i64 0]) n2 yX rfl (by show 0+2<=2;omega) rfl
  refine⟨_,_,m1 q,eC fun q _ _=>?_⟩
  obtain⟨t6,p1,p2⟩:=xB.setCel (A:=[_,_]) (j:=0) (v:=.int .i64 3) m2 Ak rfl (by show 0+1<=1;omega) rfl
  obtain⟨l1,l2,l3⟩:=ends (L:=[]) (a:=0) (b:=0) (e:=3) (v:=.nilslice) rfl p2
  exact⟨_,_,p1 q,yC l1 (yC l2 (yC l3 (hQ t6 p2.tle)))⟩
 ·have hx:iN s=nZ s:=by unfold iN;rw[yaa hl]
  rw[hx]at hQ;refine vB (by grind [aC]) (eC fun a6 h6 b6=>?_)
  obtain⟨t4,n1,n2,n3,n4⟩:=xS (C:=yA) qU h6
  have o4:=xB.newCel (A:=[_,_,_]) (B:=[]) o3 h6 b6 n2 n3 n4
  refine⟨_,_,n1,wB ?_⟩
  rw[q125];refine w125 ?_
  unfold t125;refine eC fun bx hbx bbx=>?_
  obtain⟨t5,m1,⟨cc,m2,m2'⟩,m3,m4⟩:=Vl (v:=.str s) hbx
  have o5:=o4.junk hbx m4
  have hfb:=o4.tfn hbx
  obtain⟨p1,p2⟩:=o5.froze (fun hm=>o4.fresh hbx hm) m2 hfb
  generalize htf:t.set bx (tA.cells cc (zA.str s).cells.length none)=tf1 at p1 p2
  have hcb:lC tf1 bx none [.str s]:=⟨cc,by rw[<- htf,Tr.get_set,yab rfl];rfl,m2'⟩
  refine⟨_,_,m1,?_⟩
  show oA _ _ _ (.range (bQ yA) (.func (.func 171) [] [.ptr bx 0]) 2 2 [.ptr a0 0,.ptr a1 0,.ptr a2 0,.ptr a6 0] _ _) _ _
  refine⟨Nat.le_add_right _ _,fun l r hl0 hlb hr1 hr2 hy=>?_⟩
  have hra:Eb (bQ yA) (.func (.func 171) [] [.ptr bx 0]) l=some (171,[.func (.yld l) [] [],.ptr bx 0]):=by
   unfold Eb;simp only[zA.asFunc,pA];have:bQ yA 171=true:=by kernel_rfl
   rw[this];rfl
  rw[hra,uA];show Wq yA F jC 171 _ _ _
  rw[q171];have o6:=xB.setLp (r:=r) p1 hl0 hlb
  have hyr:YldR l r a0 a1 a2 a6:=fun args t1 Q1 h1 h2 h3=>hy args t1 Q1 h1 h2 h3
  refine w171 ?_
  unfold t171 uS;have lb:cA yA 9 ⟨0,t5.set l (.loop r)⟩ (.ptr bx 0)=some (.str s):=(lC.le hcb o6.tle).load1 gL rfl rfl
  refine mA rfl (yC lb (dD (mA rfl (eC fun sp hsp bsp=>?_))))
  obtain⟨t7,r1,r2,r3,r4⟩:=xS (C:=yA) ty239 hsp
  have o7:=xB.newCel (A:=[_,_,_,_]) (B:=[qH l r]) o6 hsp bsp r2 r3 r4
  refine⟨_,_,r1,eC fun q _ _=>?_⟩
  obtain⟨t8,s1,s2⟩:=xB.setCel (A:=[_,_,_,_]) (j:=0) (v:=.agg [.int .i64 1,.int .i64 1,.str s,.int .i64 0]) o7 ty239 rfl (by show 0+4<=4;omega) rfl
  refine⟨_,_,s1 q,fC ?_⟩
  have o8:xB yA.base tf1 t8 (lP a0 a1 a2 a6 0 0 0 [] .nilslice++[aH sp s 1 1 0]++[qH l r]):=
   xB.add (A:=[wD a0 none [.nilslice],wD a1 none [.int .i64 0,.int .i64 0],wD a2 none [.int .i64 0],wD a6 none [.nilslice]]) (B:=[aH sp s 1 1 0,qH l r]) (o':=nP yA.base 4 (([]:List bC).map bC.d) .nilslice) s2 (fun _ _=>rfl) (fun k hk=>by simp[nP,Fh]at hk) (.inl ⟨rfl,rfl⟩) (by simp[nP,Fh]) s2.tle
  refine zgg hyr hr1 hr2 (by omega) hby (s.length+1) 0 1 1 none 0 0 [] .nilslice tf1 t8 (by omega) (by omega) (by omega) (by omega) (by simp) (fun h=>by cases h) (fun p hp=>by cases hp) (hg.mono p2) hcb o8 ?_
  rw[ycr];unfold nZ at hQ;revert hQ
  generalize xN (s.length+1) s 1 1 none=res
  intro hQ
  cases res with
  | ok m=>
   intro tf' t' v' ln' cl' off' u1 u2;rw[yah]at u2;refine .inl ⟨u2.ok (qH l r) (by simp),?_⟩
   have u3:=xB.delLp u2
   have lv:cA yA 136 ⟨0,t'.del l⟩ (.ptr a6 0)=some v':=(xB.cel (A:=[_,_,_]) u3).load1 qU rfl rfl
   have hv:eW yA.base tf' (t'.del l) 4 (m.map bC.d) v':=u3.ok (nP yA.base 4 (m.map bC.d) v') (by simp)
   have hone:zA.one v'=true:=hv.one
   have hcell:v'.cells=[v']:=by
    rcases hv with⟨e,_⟩ | ⟨b,cl,c,e,_⟩ <;> (subst e;rfl)
   refine yC lv (mA rfl (eC fun q _ _=>?_))
   obtain⟨t9,x1,x2⟩:=xB.setCel (A:=[]) (j:=0) (v:=v') u3 qU (by simp_all) (by simp_all) (by grind [mI])
   have e9:oM [zA.nilslice] 0 v'.cells=[v']:=by rw[hcell];rfl
   rw[e9]at x2;refine⟨_,_,x1 q,eC fun q _ _=>?_⟩
   obtain⟨t19,y1,y2⟩:=xB.setCel (A:=[_]) (j:=0) (v:=.agg [.int .i64 0,.int .i64 0]) x2 yX rfl (by show 0+2<=2;omega) rfl
   refine⟨_,_,y1 q,eC fun q _ _=>?_⟩
   obtain⟨t911,z1,z2⟩:=xB.setCel (A:=[_,_]) (j:=0) (v:=.int .i64 0) y2 Ak rfl (by show 0+1<=1;omega) rfl
   obtain⟨l1,l2,l3⟩:=ends (L:=[_,_,_]) (a:=0) (b:=0) (e:=0) hone z2
   refine⟨_,_,z1 q,yC l1 (yC l2 (yC l3 ?_))⟩
   obtain⟨tf2,w1,w2,w3⟩:=xB.freezeL (A:=[_,_,_,_]) (B:=[aH sp s ln' cl' off']) z2
   exact hQ t911 v' (p2.trans (u1.trans z2.tle)) (w3.mono w2.tle)
  | er e pl pc=>
   intro tf' t' v' acc' ln' cl' off' u1 u2;refine .inr ⟨u2.ok (qH l (kP false r)) (by simp),?_⟩
   have u3:=xB.delLp u2
   obtain⟨l1,l2,l3⟩:=ends (L:=[_,_,_]) (v:=.nilslice) rfl u3
   exact yC l1 (yC l2 (yC l3 (hQ _ (p2.trans (u1.trans u3.tle)))))
def eU(s:List Nat):Nat:=(s.reverse.takeWhile fun b=>decide (b≠10)).length
theorem zo9(hl:s.length<1000000):kB yA F 127 [.str s,.int .u8 10] t=some (.int .i64 ((s.length:Int)-1-(eU s:Int))):=by
 have loop:∀(k:Nat),k<=s.length->eU s=(s.length-k)+eU (s.take k)->jp 180 2 [.str s,.int .u8 10,.int .i64 ((k:Int)-1)] t fun v t'=>v=.int .i64 ((s.length:Int)-1-(eU s:Int))/\t'=t:=by
  intro k;induction k with
  | zero=>
   intro hk he;refine zl8 ?_
   unfold Ye;refine vB (by rw[oR];simp) ⟨?_,rfl⟩
   rw[List.take_zero]at he;have:eU []=0:=rfl
   grind
  | succ k ih=>
   intro hk he;have hx:s[k]?=some s[k]:=ybd (by omega)
   have e1:((k+1:Nat):Int)-1=(k:Int):=by omega
   refine zl8 ?_
   unfold Ye uU;rw[e1];refine mA (by grind [oR]) (rA (tN hx) (qB ?_))
   have hc:eU (s.take (k+1))=if s[k]=10 then 0 else eU (s.take k)+1:=by
    unfold eU;rw[fQ hx,List.reverse_append,List.reverse_singleton,List.singleton_append,List.takeWhile_cons];grind
   by_cases h10:s[k]=10
   ·rw[yab h10]at hc
    refine mA (by grind [fE]) ⟨?_,rfl⟩
    grind
   grind [vB,fE,fC,wrap_i64]
 refine iC.2 (w127 ?_)
 unfold t127 uI;refine wB ?_
 have h87:kB yA F 180 [.str s,.int .u8 10] t=some (.int .i64 ((s.length:Int)-1-(eU s:Int))):=by
  refine iC.2 (w180 ?_)
  unfold t180;rw[uQ];have e2:uW ((s.length:Int)-1)=(s.length:Int)-1:=wrap_i64 (by omega) (by omega)
  grind [fC]
 rw[q180,h87,uA];exact qB ⟨rfl,rfl⟩
def atL (s:List Nat):Nat:=oY 10 s+1
def atC (s:List Nat):Nat:=eU s+1
theorem zjr(s:List Nat):oY 10 s<=s.length:=by
 induction s with
 | nil=>exact ybk _
 | cons b s ih=>
  grind [oY]
def WH(s:List Nat):eU s<=s.length:=by
 unfold eU;have:=(List.takeWhile_sublist (fun b=>decide (b≠10)) (l:=s.reverse)).length_le
 rwa [List.length_reverse]at this
theorem at_pv(hl:s.length<900000){n:Nat}(hn:n<=s.length):kB yA F 64 [.str s,.int .i64 (n:Int)] t=some (.agg [.int .i64 (atL (s.take n):Int),.int .i64 (atC (s.take n):Int)]):=by
 refine iC.2 (w64 ?_)
 unfold t64 uI uS;have e0:(bif fB (Int.ofNat (yB s)) (n:Int)then Int.ofNat (yB s)else(n:Int))=(n:Int):=by
  grind [uQ,aC]
 rw[e0];have hlen:(s.take n).length=n:=by simp_all
 refine vB (by rw[aC];simp) (rA (Dw hn) (dD (wB ?_)))
 have hgp:yA.prims.get 126=some (bL Sv):=by kernel_rfl
 have hcn:kB yA F 126 [.str (s.take n),.str [10]] t=some (.int .i64 (oY 10 (s.take n):Int)):=Gw hgp fun H=>rfl
 rw[q126,hcn,uA];refine qB (wB ?_)
 rw[q127];show oD (kB yA F 127 [.str (s.take n),.int .u8 10] t) _
 rw[zo9 (by omega),uA]
 have h1:=zjr (s.take n)
 have h2:=WH (s.take n)
 have e1:kC (oY 10 (s.take n):Int)=.int .i64 (atL (s.take n):Int):=by
  show zA.int .i64 (fA .i64 ((oY 10 (s.take n):Int)+1))=_
  rw[wrap_i64 (by omega) (by omega)];rfl
 have e2:uW (Int.ofNat (yB (s.take n))-(((s.take n).length:Int)-1-(eU (s.take n):Int)))=(atC (s.take n):Int):=by
  grind [atC,uQ,wrap_i64]
 refine qB (mA rfl (mA rfl ?_))
 rw[e1,e2];exact⟨rfl,rfl⟩
end
end
section
variable {y:lD}{cs':List zA}{e k':Int}
variable [nC]
def L3 (b0 b1 b2:Nat)(z:List zA)(a b k:Int):List iF:=[wD b0 none z,wD b1 none [.int .i64 a,.int .i64 b],wD b2 none [.int .i64 k]]
structure RT (T:Nat) (z:List zA) (cf:sI->List zA):Prop where
 ty:∃y,yA.tys.get T=some y/\y.desc.isAgg=true/\y.zero=z/\y.size=z.length
 one:sD zA.one z=true
 ag:eK z (.agg z)=some (cellsOf z)
 cf:cf (cellsOf z)=z
section
variable {t tf:Tr tA}{Q:mB}{s:List Nat}{T:Nat}{z:List zA}{cf:sI->List zA}{J:eF}{A B:List iF}{b0 b1 b2:Nat}{cs:List zA}{a b k:Int}{W:eF}
theorem ldS (h:xB yA.base tf t (A++wD b0 none cs::B))(hT:yA.tys.get T=some y)(ha:y.desc.isAgg=true)(hs:y.size=cs.length):cA yA T ⟨0,t⟩ (.ptr b0 0)=some (.agg cs):=by
 have:=h.cel.at.load (j:=0) (n:=cs.length) hT ha hs (by omega)
 simp_all
def stS  (h:xB yA.base tf t (A++wD b0 none cs::B))(hT:yA.tys.get T=some y)(hs:y.size=cs.length)(hl:cs'.length=cs.length)(hone:sD zA.one cs'=true):∃t',(∀q,mC yA T (.ptr b0 0) (.agg cs') ⟨q,t⟩=some (pD,⟨q,t'⟩))/\xB yA.base tf t' (A++wD b0 none cs'::B):=by
 obtain⟨t',h1,h2⟩:=xB.setCel (j:=0) (v:=.agg cs') h hT (by show cs'.length=_;omega) (by show 0+cs'.length<=_;omega) hone
 refine⟨t',h1,?_⟩
 have hov:oM cs 0 cs'=cs':=by
  unfold oM;rw[List.take_zero,yah,ybt (by omega),ycd]
 have h2:xB yA.base tf t' (A++wD b0 none (oM cs 0 cs')::B):=h2
 rwa [hov]at h2
def stI (h:xB yA.base tf t (A++wD b0 none [.int .i64 k]::B)):∃t',(∀q,mC yA 34 (.ptr b0 0) (.int .i64 k') ⟨q,t⟩=some (pD,⟨q,t'⟩))/\xB yA.base tf t' (A++wD b0 none [.int .i64 k']::B):=by
 obtain⟨t',h1,h2⟩:=xB.setCel (j:=0) (v:=.int .i64 k') h Ak rfl (by show 0+1<=1;omega) rfl
 exact⟨t',h1,h2⟩
def ag2{a b:Int}:eK [.int .i64 0,.int .i64 0] (.agg [.int .i64 a,.int .i64 b])=some (cellsOf [.int .i64 a,.int .i64 b]):=zO rfl
theorem zog(hR:RT T z cf)(hl:cs.length=z.length)(h:xB yA.base tf t (A++L3 b0 b1 b2 cs a b k))(hQ:Q (.tup [.agg cs,.agg [.int .i64 a,.int .i64 b],.int .i64 k]) t):oA yA.base W J (tRe T (.ptr b0 0) (.ptr b1 0) (.ptr b2 0)) t Q:=by
 obtain⟨y,h1,h2,h3,h4⟩:=hR.ty
 unfold tRe;refine yC (ldS h h1 h2 (by omega)) (yC (v:=.agg [.int .i64 a,.int .i64 b]) ?_ (yC (v:=.int .i64 k) ?_ hQ))
 ·exact ldS (A:=A++[wD b0 none cs]) (B:=[wD b2 none [.int .i64 k]]) (by simpa[L3]using h) yX rfl rfl
 ·have h':xB yA.base tf t ((A++[wD b0 none cs,wD b1 none [.int .i64 a,.int .i64 b]])++wD b2 none [.int .i64 k]::[]):=by grind [L3]
  exact h'.cel.load1 Ak rfl rfl
def set0(hR:RT T z cf) (hl:cs.length=z.length)(hl':cs'.length=z.length)(hone:sD zA.one cs'=true)(h:xB yA.base tf t (A++L3 b0 b1 b2 cs a b k)):∃t',(∀q,mC yA T (.ptr b0 0) (.agg cs') ⟨q,t⟩=some (pD,⟨q,t'⟩))/\xB yA.base tf t' (A++L3 b0 b1 b2 cs' a b k):=by
 obtain⟨y,h1,h2,h3,h4⟩:=hR.ty
 exact stS h h1 (by omega) (by omega) hone
theorem set1{a' b':Int}(h:xB yA.base tf t (A++L3 b0 b1 b2 cs a b k)):∃t',(∀q,mC yA 39 (.ptr b1 0) (.agg [.int .i64 a',.int .i64 b']) ⟨q,t⟩=some (pD,⟨q,t'⟩))/\xB yA.base tf t' (A++L3 b0 b1 b2 cs a' b' k):=by
 obtain⟨t',h1,h2⟩:=stS (A:=A++[wD b0 none cs]) (B:=[wD b2 none [.int .i64 k]]) (cs:=[.int .i64 a,.int .i64 b]) (b0:=b1) (cs':=[.int .i64 a',.int .i64 b']) (by simpa[L3]using h) yX rfl rfl rfl
 grind [L3]
theorem set2 (h:xB yA.base tf t (A++L3 b0 b1 b2 cs a b k)):∃t',(∀q,mC yA 34 (.ptr b2 0) (.int .i64 k') ⟨q,t⟩=some (pD,⟨q,t'⟩))/\xB yA.base tf t' (A++L3 b0 b1 b2 cs a b k'):=by
 obtain⟨t',h1,h2⟩:=stI (A:=A++[wD b0 none cs,wD b1 none [.int .i64 a,.int .i64 b]]) (B:=[]) (k':=k') (by simpa[L3]using h)
 grind [L3]
def ld1(h:xB yA.base tf t (A++L3 b0 b1 b2 cs a b k)):cA yA 39 ⟨0,t⟩ (.ptr b1 0)=some (.agg [.int .i64 a,.int .i64 b]):=
 ldS (A:=A++[wD b0 none cs]) (B:=[wD b2 none [.int .i64 k]]) (by simpa[L3]using h) yX rfl rfl
theorem ld2(h:xB yA.base tf t (A++L3 b0 b1 b2 cs a b k)):cA yA 34 ⟨0,t⟩ (.ptr b2 0)=some (.int .i64 k):=by
 have h':xB yA.base tf t ((A++[wD b0 none cs,wD b1 none [.int .i64 a,.int .i64 b]])++wD b2 none [.int .i64 k]::[]):=by grind [L3]
 exact h'.cel.load1 Ak rfl rfl
theorem clo_ok(hR:RT T z cf){x y:Int}(hl:cs.length=z.length)(h:xB yA.base tf t (A++L3 b0 b1 b2 cs a b k))(hQ:∀t',xB yA.base tf t' (A++L3 b0 b1 b2 z x y e)->Q (.tup []) t') :
  oA yA.base W J (tR3 T z (.ptr b0 0) (.ptr b2 0) (.ptr b1 0) (.iface 143 (.agg [.int .i64 x,.int .i64 y,.int .i64 e]))) t Q:=by
 unfold tR3;refine rA (v:=.bool true) (by kernel_rfl) (iD (mA rfl ?_))
 obtain⟨t1,h1,h2⟩:=set0 hR (cs':=z) hl rfl hR.one h
 refine eC fun q _ _=>⟨_,_,h1 q,?_⟩
 obtain⟨t2,h3,h4⟩:=set2 (k':=120) h2
 refine eC fun q _ _=>⟨_,_,h3 q,?_⟩
 refine rA (v:=.tup [.agg [.int .i64 x,.int .i64 y,.int .i64 e],.bool true]) (by kernel_rfl) (rA (v:=.agg [.int .i64 x,.int .i64 y,.int .i64 e]) rfl (dC (X:=cellsOf [.int .i64 x,.int .i64 y,.int .i64 e]) (zO rfl) (rA (v:=.bool true) rfl (iD (mA rfl (mA rfl ?_))))))
 obtain⟨t3,h5,h6⟩:=set1 (a':=x) (b':=y) h4
 refine eC fun q _ _=>⟨_,_,h5 q,?_⟩
 refine mA (by simp_all [same,gN,fE]) ?_
 obtain⟨t4,h7,h8⟩:=set2 (k':=e) h6
 refine eC fun q _ _=>⟨_,_,h7 q,?_⟩
 exact hQ _ h8
def zk7  : same 10 (.int .i64 e) (.int .i64 e)=true:=by simp[same,gN,fE]
def same_2{a b:Int}:same 10 (.agg [.int .i64 a,.int .i64 b]) (.agg [.int .i64 a,.int .i64 b])=true:=by simp[same,same.sames,gN,fE]
def zkj{α:Type}{rd:Tr tA->α->zA->Prop}{good:Tr tA->α->List zA->Prop}{P:dM}{r:PR α}{g:Nat}(hR:RT T z cf)(hL:P.L=L3 b0 b1 b2 z 0 0 0)(h:St P tf t 0 0)
  (hQ:match r with
   | .ok x _=>∀tf' t' cs,zB tf tf'->zB tf' t'->good tf' x cs->Q (.tup [.agg cs,.agg [.int .i64 0,.int .i64 0],.int .i64 0]) t'
   | .er e i=>∀t',zB tf t'->Q (.tup [.agg z,.agg [.int .i64 ((dI P i).line:Int),.int .i64 ((dI P i).col:Int)],.int .i64 (e:Int)]) t')
  (hcall:∀Q E,Ok P rd 0 tf r Q E->rG yA F jC mG E g [.ptr P.bp 0] t Q) (hg:Nat.blt g pn=true)
  (hrd:∀tf' x v,rd tf' x v->∃cs,v=.agg cs/\cs.length=z.length/\eK z (.agg cs)=some (cellsOf cs)/\cf (cellsOf cs)=cs/\sD zA.one cs=true/\good tf' x cs) :
  oA yA.base (rG yA F jC mG fun v t'=>oA yA.base (Wq yA F jC) aQ (tR3 T z (.ptr b0 0) (.ptr b2 0) (.ptr b1 0) v) t' fun _ t''=>oA yA.base (Wq yA F jC) aQ (tRe T (.ptr b0 0) (.ptr b1 0) (.ptr b2 0)) t'' Q) aQ
   (tR13 T z cf (.func (.func g) [] []) (.ptr b0 0) (.ptr b1 0) (.ptr b2 0) (.ptr P.bp 0)) t Q:=by
 unfold tR13;have hf:mL (.func (.func g) [] []) [.ptr P.bp 0]=some (g,[.ptr P.bp 0]):=by
  unfold mL;simp only[zA.asFunc,pA,hg,cD];rfl
 refine wX hf (hcall _ _ ?_)
 cases r with
 | er e i=>
  intro tf' t' n' d' hle hst;have ho:xB yA.base tf' t' ([pZ P n' d']++L3 b0 b1 b2 z 0 0 0):=by rw[<- hL];exact hst.ob
  refine clo_ok hR rfl ho fun t2 ho2=>?_
  refine zog hR rfl ho2 ?_
  exact hQ t2 (hle.trans ho2.tle)
 | ok x n=>
  intro tf' t' v hle hst hv;obtain⟨cs,rfl,h1,h2,h3,h4,h5⟩:=hrd _ _ _ hv
  have ho:xB yA.base tf' t' ([pZ P n 0]++L3 b0 b1 b2 z 0 0 0):=by rw[<- hL];exact hst.ob
  refine dC h2 (mA rfl ?_)
  rw[h3];obtain⟨t1,k1,k2⟩:=set0 hR (cs':=cs) rfl h1 h4 ho
  refine eC fun q _ _=>⟨_,_,k1 q,?_⟩
  obtain⟨t2,k3,k4⟩:=set1 (a':=0) (b':=0) k2
  refine eC fun q _ _=>⟨_,_,k3 q,?_⟩
  obtain⟨t3,k5,k6⟩:=set2 (k':=0) k4
  refine eC fun q _ _=>⟨_,_,k5 q,?_⟩
  exact zog hR h1 k6 (hQ tf' t3 cs hle k6.tle h5)
theorem zbo{p1:zA}(hR:RT T z cf)(hg:dJ t)(hby:∀b∈s,b<256)(hgood:∀m,iN s=.ok m->s.length<900000/\m.length<300000/\∀x∈m,Ao x)
  (hE:∀e a b,iN s=.er e a b->e≠0/\∀t',zB t t'->Q (.tup [.agg z,.agg [.int .i64 (a:Int),.int .i64 (b:Int)],.int .i64 (e:Int)]) t')
  (hT:∀m,iN s=.ok m->∀tf1 t1 P b0 b1 b2,P.tk=m->P.el=atL s->P.ec=atC s->P.L=L3 b0 b1 b2 z 0 0 0->zB t tf1->St P tf1 t1 0 0->J 11 [p1,.ptr b0 0,.ptr b1 0,.ptr b2 0,.ptr P.bp 0] t1 Q) :
  oA yA.base (Wq yA F jC) J (tRun T z cf s p1) t Q:=by
 obtain⟨y,y1,y2,y3,y4⟩:=hR.ty
 unfold tRun;refine eC fun c0 hc0 hb0=>?_
 obtain⟨u0,a1,a2,a3,a4⟩:=xS (C:=yA) y1 hc0
 refine⟨_,_,a1,?_⟩
 have o0:xB yA.base t t []:=⟨zB.refl _,by simp,by simp,by simp⟩
 have o1:=xB.newCel (A:=[]) (B:=[]) o0 hc0 hb0 a2 a3 a4
 refine eC fun c1 hc1 hb1=>?_
 obtain⟨u1,a5,a6,a7,a8⟩:=xS (C:=yA) yX hc1
 refine⟨_,_,a5,?_⟩
 have o2:=xB.newCel (A:=[wD c0 none y.zero]) (B:=[]) o1 hc1 hb1 a6 a7 a8
 refine eC fun c2 hc2 hb2=>?_
 obtain⟨u2,a9,a10,a11,a12⟩:=xS (C:=yA) Ak hc2
 refine⟨_,_,a9,?_⟩
 have o3:=xB.newCel (A:=[wD c0 none y.zero,wD c1 none [.int .i64 0,.int .i64 0]]) (B:=[]) o2 hc2 hb2 a10 a11 a12
 rw[y3]at o3;have o3:xB yA.base t u2 (L3 c0 c1 c2 z 0 0 0):=o3
 refine wB ?_
 rw[q63];refine Wc.objs (R:=fun v t'=>match iN s with
   | .ok m=>∃v',v=.tup [v',.agg [.int .i64 0,.int .i64 0],.int .i64 0]/\aA t' 4 (m.map bC.d) v'
   | .er e a b=>v=.tup [.nilslice,.agg [.int .i64 (a:Int),.int .i64 (b:Int)],.int .i64 (e:Int)]) (lex_ok hg hby ?_) o3 fun v tf1 t1 hle ho hv=>?_
 ·grind
 cases hx:iN s with
 | er e a b=>
  rw[hx]at hv;have hv:v=.tup [.nilslice,.agg [.int .i64 (a:Int),.int .i64 (b:Int)],.int .i64 (e:Int)]:=hv
  subst hv;obtain⟨hne,hQ⟩:=hE e a b hx
  refine rA (v:=.nilslice) rfl (rA (v:=.agg [.int .i64 (a:Int),.int .i64 (b:Int)]) rfl (dC ag2 (rA (v:=.int .i64 (e:Int)) rfl (qB ?_))))
  obtain⟨t2,k1,k2⟩:=set1 (A:=[]) (a':=(a:Int)) (b':=(b:Int)) ho
  refine eC fun q _ _=>⟨_,_,k1 q,?_⟩
  obtain⟨t3,k3,k4⟩:=set2 (k':=(e:Int)) k2
  refine eC fun q _ _=>⟨_,_,k3 q,?_⟩
  refine yC (ld2 k4) (qB (mA (by grind [fE]) ?_))
  refine yC (ldS (A:=[]) k4 y1 y2 y4) (dC hR.ag (yC (ld1 k4) (dC ag2 (yC (ld2 k4) (qB ?_)))))
  rw[hR.cf];obtain⟨t4,k5,k6⟩:=set0 hR (cs':=z) rfl rfl hR.one k4
  refine eC fun q _ _=>⟨_,_,k5 q,?_⟩
  refine yC (ld1 k6) (mA same_2 (yC (ld2 k6) (mA zk7 ?_)))
  obtain⟨t5,k7,k8⟩:=set1 (a':=(a:Int)) (b':=(b:Int)) k6
  refine eC fun q _ _=>⟨_,_,k7 q,?_⟩
  refine yC (ld2 k8) (mA zk7 ?_)
  obtain⟨t6,k9,k10⟩:=set2 (k':=(e:Int)) k8
  refine eC fun q _ _=>⟨_,_,k9 q,?_⟩
  refine zog (W:=Wq yA F jC) (J:=J) hR rfl k10 (hQ t6 (hle.trans k10.tle))
 | ok m=>
  rw[hx]at hv;obtain⟨v',rfl,hv'⟩:=hv
  obtain⟨g0,g1,g2⟩:=hgood m hx
  refine rA (v:=v') rfl (rA (v:=.agg [.int .i64 0,.int .i64 0]) rfl (dC ag2 (rA (v:=.int .i64 0) rfl (qB ?_))))
  obtain⟨t2,k1,k2⟩:=set1 (A:=[]) (a':=0) (b':=0) ho
  refine eC fun q _ _=>⟨_,_,k1 q,?_⟩
  obtain⟨t3,k3,k4⟩:=set2 (k':=0) k2
  refine eC fun q _ _=>⟨_,_,k3 q,?_⟩
  refine yC (ld2 k4) (qB (vB (by simp[fE]) (wB ?_)))
  rw[q64,uQ,at_pv g0 (ybk _),uA,List.take_length]
  refine dC ag2 (mA (by
   obtain⟨cl,he,_⟩:=hv'
   rcases he with⟨rfl,_⟩ | ⟨b,off,cap,rfl,_⟩<;>rfl) ?_)
  refine eC fun c8 hc8 hb8=>?_
  obtain⟨u8,m1,m2,m3,m4⟩:=Vl (v:=.agg [v',.int .i64 0,.int .i64 0,.int .i64 (atL s:Int),.int .i64 (atC s:Int)]) hc8
  refine⟨_,_,m1,fC ?_⟩
  have o8:=xB.newCel (A:=[]) (B:=L3 c0 c1 c2 z 0 0 0) k4 hc8 hb8 m2 m3 m4
  exact hT m hx tf1 u8 ⟨m,c8,v',atL s,atC s,L3 c0 c1 c2 z 0 0 0⟩ c0 c1 c2 rfl rfl rfl rfl hle ⟨hv',o8,g1,yaw _,g2,hg.mono hle⟩
end
end
section
variable {m:List bC}{a b e:Nat}{α:Type}
variable [nC]
def t40_eq(s:List Nat)(p1:zA):t29 s p1=tRun 31 zE cE s p1:=rfl
def zay(v1 v4 v5 v6 v8:zA):Xm v1 v4 v5 v6 v8=tR13 31 zE cE v1 v4 v5 v6 v8:=rfl
def zgt(v0 v1 v2 v3:zA):zgu v0 v1 v2 v3=tR3 31 zE v0 v1 v2 v3:=rfl
def zgw(v4 v5 v6:zA):zgy v4 v5 v6=tRe 31 v4 v5 v6:=rfl
def t45_eq(s:List Nat)(p1:zA):t36 s p1=tRun 28 zV cV s p1:=rfl
def zax(v1 v4 v5 v6 v8:zA):Xb v1 v4 v5 v6 v8=tR13 28 zV cV v1 v4 v5 v6 v8:=rfl
def zgs(v0 v1 v2 v3:zA):zgr v0 v1 v2 v3=tR3 28 zV v0 v1 v2 v3:=rfl
def zgv(v4 v5 v6:zA):zgx v4 v5 v6=tRe 28 v4 v5 v6:=rfl
def rt50:RT 31 zE cE:=⟨⟨_,ty31,rfl,rfl,rfl⟩,rfl,zO rfl,rfl⟩
def rt47:RT 28 zV cV:=⟨⟨_,ty28,rfl,rfl,rfl⟩,rfl,zO rfl,rfl⟩
def Dq (m:List bC)(s:List Nat)(i:Nat):bC:=(m[i]?).getD ⟨0,[],atL s,atC s⟩
theorem zc1{s:List Nat} (h:iN s=.ok m):s.length<900000/\m.length<300000/\∀x∈m,Ao x:=by
 unfold iN at h;split at h
 ·cases h
 ·obtain⟨h1,h2⟩:=zh6 _ _ _ _ _ _ h
  grind
theorem KJ{s:List Nat} (h:iN s=.er e a b):e≠0:=by
 unfold iN at h;split at h
 ·grind
 ·exact zo2 _ _ _ _ _ _ _ _ h
inductive RP (α:Type) where
 | ok (x:α)
 | er (e l c:Nat)
def cG {α:Type}(top:List bC->PR α)(s:List Nat):RP α:=
 match iN s with
 | .er e a b=>.er e a b
 | .ok m=>match top m with
  | .ok x _=>.ok x
  | .er e i=>.er e (Dq m s i).line (Dq m s i).col
def Zh {top:List bC->PR α}{s:List Nat} (h:iN s=.ok m):cG top s=match top m with | .ok x _=>.ok x | .er e i=>.er e (Dq m s i).line (Dq m s i).col:=by unfold cG;rw[h]
def HO {top:List bC->PR α}{s:List Nat} (h:iN s=.er e a b):cG top s=.er e a b:=by unfold cG;rw[h]
section
variable {t:Tr tA}{Q:mB}{s:List Nat}
def run40(hg:dJ t)(hby:∀b∈s,b<256)(hQ:match cG yL s with
  | .ok x=>∀t' cs,zB t t'->RD t' x.d cs->Q (.tup [.agg cs,.agg [.int .i64 0,.int .i64 0],.int .i64 0]) t'
  | .er e a b=>∀t',zB t t'->Q (.tup [.agg zE,.agg [.int .i64 (a:Int),.int .i64 (b:Int)],.int .i64 (e:Int)]) t'):Wc yA F 29 [.str s,.func (.func 30) [] []] t Q:=by
 refine w29 _ _ ?_
 rw[t40_eq];refine zbo rt50 hg hby (fun m hm=>zc1 hm) (fun e a b h=>⟨KJ h,?_⟩) (fun m hm tf1 t1 P b0 b1 b2 e1 e2 e3 e4 hle hst=>⟨rfl,tl29 _ _ _ _ _ ?_⟩)
 ·rw[HO h]at hQ;exact hQ
 ·rw[zay]
  simp only[zgt,zgw];refine zkj (rd:=cL) (good:=fun tf' x cs=>RD tf' x.d cs) (r:=yL P.tk) rt50 e4 hst ?_ (fun Q E hk=>by rw[pE 30];exact zns hst hk) (by kernel_rfl) (fun tf' x v ⟨cs,h1,h2⟩=>⟨cs,h1,Hw h2,agE h2,Ql h2,by obtain⟨a,b,c,rfl,_⟩:=nI h2;exact h2.all,h2⟩)
  rw[Zh hm]at hQ;rw[e1]
  cases hr:yL m with
  | ok x n=>
   rw[hr]at hQ;exact fun tf' t' cs k1 k2 k3=>hQ t' cs (hle.trans (k1.trans k2)) (k3.mono k2)
  | er e i=>
   rw[hr]at hQ;have ht:dI P i=Dq m s i:=by unfold dI Dq;rw[e1,e2,e3]
   intro t' k1;rw[ht];exact hQ t' (hle.trans k1)
theorem run45(hg:dJ t)(hby:∀b∈s,b<256)(hQ:match cG zL s with
  | .ok x=>∀t' cs,zB t t'->RD t' x.d cs->Q (.tup [.agg cs,.agg [.int .i64 0,.int .i64 0],.int .i64 0]) t'
  | .er e a b=>∀t',zB t t'->Q (.tup [.agg zV,.agg [.int .i64 (a:Int),.int .i64 (b:Int)],.int .i64 (e:Int)]) t'):Wc yA F 36 [.str s,.func (.func 37) [] []] t Q:=by
 refine w36 _ _ ?_
 rw[t45_eq];refine zbo rt47 hg hby (fun m hm=>zc1 hm) (fun e a b h=>⟨KJ h,?_⟩) (fun m hm tf1 t1 P b0 b1 b2 e1 e2 e3 e4 hle hst=>⟨rfl,tl36 _ _ _ _ _ ?_⟩)
 ·rw[HO h]at hQ;exact hQ
 ·rw[zax]
  simp only[zgs,zgv];refine zkj (rd:=rdXV) (good:=fun tf' x cs=>RD tf' x.d cs) (r:=zL P.tk) rt47 e4 hst ?_ (fun Q E hk=>by rw[pE 37];exact znr hst hk) (by kernel_rfl) (fun tf' x v ⟨cs,h1,h2⟩=>⟨cs,h1,by grind [oX],agV h2,Qk h2,by obtain⟨a,b,rfl,_⟩:=oX h2;exact h2.all,h2⟩)
  rw[Zh hm]at hQ;rw[e1]
  cases hr:zL m with
  | ok x n=>
   rw[hr]at hQ;exact fun tf' t' cs k1 k2 k3=>hQ t' cs (hle.trans (k1.trans k2)) (k3.mono k2)
  | er e i=>
   rw[hr]at hQ;have ht:dI P i=Dq m s i:=by unfold dI Dq;rw[e1,e2,e3]
   intro t' k1;rw[ht];exact hQ t' (hle.trans k1)
def expr15(hg:dJ t)(hby:∀b∈s,b<256)(hQ:match cG yL s with
  | .ok x=>∀t' cs,zB t t'->RD t' x.d cs->Q (.tup [.agg cs,.agg [.int .i64 0,.int .i64 0],.int .i64 0]) t'
  | .er e a b=>∀t',zB t t'->Q (.tup [.agg zE,.agg [.int .i64 (a:Int),.int .i64 (b:Int)],.int .i64 (e:Int)]) t'):Wc yA F 11 [.str s] t Q:=by
 refine w11 ?_
 unfold t11 lF nE uA4;refine wB ?_
 rw[q29];refine run40 hg hby ?_
 cases hr:cG yL s with
 | ok x=>
  rw[hr]at hQ;intro t' cs k1 k2;refine rA (v:=.agg cs) rfl (dC (agE k2) (rA (v:=.agg [.int .i64 0,.int .i64 0]) rfl (dC ag2 (rA (v:=.int .i64 0) rfl (qB ?_)))))
  show oA _ _ _ (.ite (sD zA.one (cE (cellsOf cs))) (.ite true (.ret (.tup [.agg (cE (cellsOf cs)),_,_])) .fail) .fail) _ _
  rw[Ql k2];refine mA (by obtain⟨a,b,c,rfl,_⟩:=nI k2;exact k2.all) (mA rfl (hQ t' cs k1 k2))
 | er e a b=>
  rw[hr]at hQ;intro t' k1;exact rA (v:=.agg zE) rfl (dC rt50.ag (rA (v:=.agg [.int .i64 (a:Int),.int .i64 (b:Int)]) rfl (dC ag2 (rA (v:=.int .i64 (e:Int)) rfl (qB (mA rfl (mA rfl (hQ t' k1))))))))
def znh(hg:dJ t)(hby:∀b∈s,b<256)(hQ:match cG zL s with
  | .ok x=>∀t' cs,zB t t'->RD t' x.d cs->Q (.tup [.agg cs,.agg [.int .i64 0,.int .i64 0],.int .i64 0]) t'
  | .er e a b=>∀t',zB t t'->Q (.tup [.agg zV,.agg [.int .i64 (a:Int),.int .i64 (b:Int)],.int .i64 (e:Int)]) t'):Wc yA F 14 [.str s] t Q:=by
 refine w14 ?_
 unfold t14 uA4 dP uA9;refine wB ?_
 rw[q36];refine run45 hg hby ?_
 cases hr:cG zL s with
 | ok x=>
  rw[hr]at hQ;intro t' cs k1 k2;refine rA (v:=.agg cs) rfl (dC (agV k2) (rA (v:=.agg [.int .i64 0,.int .i64 0]) rfl (dC ag2 (rA (v:=.int .i64 0) rfl (qB ?_)))))
  show oA _ _ _ (.ite (sD zA.one (cV (cellsOf cs))) (.ite true (.ret (.tup [.agg (cV (cellsOf cs)),_,_])) .fail) .fail) _ _
  rw[Qk k2];refine mA (by obtain⟨a,b,rfl,_⟩:=oX k2;exact k2.all) (mA rfl (hQ t' cs k1 k2))
 | er e a b=>
  rw[hr]at hQ;intro t' k1;exact rA (v:=.agg zV) rfl (dC rt47.ag (rA (v:=.agg [.int .i64 (a:Int),.int .i64 (b:Int)]) rfl (dC ag2 (rA (v:=.int .i64 (e:Int)) rfl (qB (mA rfl (mA rfl (hQ t' k1))))))))
end
end
section
variable [nC]
def zf1{t:Tr tA}:RD t zm7.d zE:=Kh (op:=0) (name:=[]) (v:=nS) (args:=[]) xQ xQ xQ
end
end Go.Proofs
namespace Go.Am
open Go Go.RowKit
section
variable {t:Tr tA}{C:iA}{W J:eF}{S el sz p:Nat}{Q:mB}{zs:List zA}
abbrev Cmp:=List zA->List zA->(zA->T)->T
def cmpC (g:Nat):Cmp:=fun a b K=>.call g [.agg a,.agg b] K
def zn8(C:iA)(S el p:Nat)(g:Cmp)(zs:List zA)(ne:Bool->Bool)(v0 v1:zA)(i:Int):T:=
 .opt (pC v0) fun a0=>.asI .i64 a0 fun n1=>.ite (fB i n1)
  (.opt (uC C S v0 (.int .i64 i)) fun a2=>.light (fun m=>cA C el ⟨0,m⟩ a2) fun a3=>.asG zs a3 fun X4=>
   .opt (uC C S v1 (.int .i64 i)) fun a5=>.light (fun m=>cA C el ⟨0,m⟩ a5) fun a6=>.asG zs a6 fun X7=>
   g (Bj zs X4 0) (Bj zs X7 0) fun a8=>.asB a8 fun b9=>.ite (ne b9) (.ret (.bool false)) (.jump p [v0,v1,.int .i64 (fA .i64 (i+1))]))
  (.ret (.bool true))
theorem zbn{g:Cmp}{ne:Bool->Bool}{ok:Bool}{ds:List D}{v0 v1:zA}(hS:gI C S el sz true)(hz:∀d∈ds,d.zs=zs)(hne:ne ok=false)
  (hg:∀d∈ds,∀cs cs' K,RD t d cs->RD t d cs'->oA C.base W J (K (.bool ok)) t Q->oA C.base W J (g cs cs' K) t Q) (hlen:ds.length<300000)
  (hj:∀i,oA C.base W J (zn8 C S el p g zs ne v0 v1 i) t Q->J p [v0,v1,.int .i64 i] t Q) (h0:aA t sz ds v0) (h1:aA t sz ds v1) (hQ:Q (.bool true) t) :
  ∀(k i:Nat),i+k=ds.length->J p [v0,v1,.int .i64 (i:Int)] t Q:=by
 intro k;induction k with
 | zero=>
  intro i hi;refine hj _ ?_
  unfold zn8;exact rA h0.len (qB (vB (fun e=>by grind [bE]) hQ))
 | succ k ih=>
  intro i hi;have hlt:i<ds.length:=by omega
  have hd:ds[i]?=some ds[i]:=ybd hlt
  have hm:ds[i]∈ds:=ycj hlt
  obtain⟨b,off,cs,g1,g2,g3,g4,g5⟩:=gI.at hS (by simp) h0 hd
  obtain⟨b',off',cs',f1,f2,f3,f4,f5⟩:=gI.at hS (by simp) h1 hd
  have hzz:=hz _ hm
  refine hj _ ?_
  unfold zn8;refine rA h0.len (qB (mA (bE.2 (by omega)) (rA g1 (yC g2 (dC (iW g5 hzz) (rA f1 (yC f2 (dC (iW f5 hzz) ?_))))))))
  rw[g5.mk hzz,f5.mk hzz];refine hg _ hm _ _ _ g5 f5 (iD (vB (by simp_all) (fC ?_)))
  rw[wrap_i64 (by omega) (by omega)]
  exact ih (i+1) (by omega)
end
end Go.Am
namespace Go.Proofs
open Go Go.Am
variable [nC]
variable {t tf:Tr tA}
def sam203{l:List Nat}{u v:zA}(hu:aA t 1 (cC l) u)(hv:aA t 1 (cC l) v)(hl:l.length<300000):kB yA F 145 [u,v] t=some (.bool true):=by
 have hn:pC u=some (.int .i64 (l.length:Int)):=by rw[hu.len,dR]
 have hn':pC v=some (.int .i64 (l.length:Int)):=by rw[hv.len,dR]
 refine iC.2 (w145 ?_)
 unfold t145 uI wC uZ;refine rA hn (qB (rA hn' (qB (vB (fun e=>absurd rfl (Ej.1 e)) (fC ?_)))))
 have loop:∀(m i:Nat),i+m=l.length->jp 145 2 [u,v,.int .i64 (i:Int)] t (fun v' t'=>v'=.bool true/\t'=t):=by
  intro m;induction m with
  | zero=>
   intro i hi;refine zl9 ?_
   unfold Yf uI uH kC wC yI uZ;exact rA hn (qB (vB (mP (by omega)) ⟨rfl,rfl⟩))
  | succ m ih=>
   intro i hi;obtain⟨x,hx⟩:=getElem?_of_lt (show i<l.length by omega)
   obtain⟨p,o,g1,g2⟩:=aA.idx (C:=yA) Au hu hx
   obtain⟨p',o',g3,g4⟩:=aA.idx (C:=yA) Au hv hx
   refine zl9 ?_
   unfold Yf uI uH kC wC yI uZ;refine rA hn (qB (mA (xP (by omega)) (rA g1 (yC g2 (qB (rA g3 (yC g4 (qB (vB (fun e=>absurd rfl (Ej.1 e)) (fC ?_))))))))))
   rw[wrap_i64 (by omega) (by omega)]
   exact ih (i+1) (by omega)
 exact loop l.length 0 (by omega)
def zk8{w:iJ}{cs ds:List zA}(hl:w.limbs.length<300000)(h:RD t w.d cs)(k:RD t w.d ds):kB yA F 82 [.agg cs,.agg ds] t=some (.bool true):=by
 obtain⟨u,rfl,hu⟩:=Sl h
 obtain⟨v,rfl,hv⟩:=Sl k
 refine iC.2 (w82 ?_)
 unfold t82 uB wC;refine mA (by rw[aZ];simp) (wB ?_)
 rw[q145,sam203 hu hv hl,uA];exact iD ⟨rfl,rfl⟩
def sam132{f:zF}{cs ds:List zA}(hl:f.n.limbs.length<300000/\f.d.limbs.length<300000)(h:RD t f.dd cs)(k:RD t f.dd ds):kB yA F 40 [.agg cs,.agg ds] t=some (.bool true):=by
 obtain⟨a,b,rfl,ha,hb⟩:=rd_frac h
 obtain⟨a',b',rfl,ha',hb'⟩:=rd_frac k
 refine iC.2 (w40 ?_)
 unfold t40 uB wC;refine wB ?_
 rw[q82,zk8 hl.1 (Ek (w:=f.n) ha) (Ek (w:=f.n) ha'),uA]
 refine iD (mA rfl (wB ?_))
 rw[q82,zk8 hl.2 (Ek (w:=f.d) hb) (Ek (w:=f.d) hb'),uA]
 exact iD ⟨rfl,rfl⟩
def sam94{x:eD}{cs ds:List zA}(hl:x.f.n.limbs.length<300000/\x.f.d.limbs.length<300000)(h:RD t x.d cs)(k:RD t x.d ds):kB yA F 15 [.agg cs,.agg ds] t=some (.bool true):=by
 obtain⟨a,b,rfl,ha,hb⟩:=oX h
 obtain⟨a',b',rfl,ha',hb'⟩:=oX k
 refine iC.2 (w15 ?_)
 unfold t15 uB wC;refine mA (kJ.2 rfl) (wB ?_)
 rw[q40,sam132 hl (Kg (f:=x.f) ha hb) (Kg (f:=x.f) ha' hb'),uA]
 refine iD (mA rfl ?_)
 rw[kJ.2 rfl];exact⟨rfl,rfl⟩
mutual
theorem sam51:∀(x:lA),lA.cpy x->∀cs ds,RD t x.d cs->RD t x.d ds->kB yA F 12 [.agg cs,.agg ds] t=some (.bool true)
 | .mk op name v args,h,cs,ds,hc,hd=>by
  obtain⟨a,b,c,rfl,ha,hb,he⟩:=nI hc
  obtain⟨a',b',c',rfl,ha',hb',he'⟩:=nI hd
  simp only[lA.op,lA.name,lA.v,lA.args]at ha hb he ha' hb' he' ⊢
  unfold lA.cpy at h;refine iC.2 (w12 ?_)
  unfold t12 uB wC uZ uY;refine mA (kJ.2 rfl) (mA ((sN _ _).2 rfl) (wB ?_))
  rw[q15,sam94 h.1 (He (x:=v) ha hb) (He (x:=v) ha' hb'),uA]
  refine iD (mA rfl (wB ?_))
  have:=sam95 args h.2.2
  have e95:kB yA F 33 [c,c'] t=some (.bool true):=by
   refine iC.2 (w33 ?_)
   unfold t33 uI wC uZ;refine rA he.len (qB (rA he'.len (qB (vB (fun e=>absurd rfl (Ej.1 e)) (fC ?_)))))
   refine zbn (C:=yA) (W:=Wq yA F jC) (J:=Jq yA F 33) (g:=cmpC 12) (ne:=not) (ok:=true) (ds:=args.map lA.d) sl29 (fun d hd=>?_) rfl (fun d hd cs cs' K h1 h2 hK=>?_) (by simp_all) (fun i hw=>j33_2 hw) he he' ⟨rfl,rfl⟩ args.length 0 (by simp)
   ·obtain⟨x,_,rfl⟩:=yaq.1 hd
    exact x.zs
   ·obtain⟨x,hx,rfl⟩:=yaq.1 hd
    refine wB ?_
    rw[q12,this x hx cs cs' h1 h2,uA];exact hK
  rw[q33,e95,uA];exact iD ⟨rfl,rfl⟩
theorem sam95:∀(l:List lA),lA.cpys l->∀x∈l,∀cs ds,RD t x.d cs->RD t x.d ds->kB yA F 12 [.agg cs,.agg ds] t=some (.bool true)
 | [],_,x,hx=>by cases hx
 | y::l,h,x,hx=>by
  unfold lA.cpys at h;rcases ybs.1 hx with e | hx
  ·rw[e];exact sam51 y h.1
  ·exact sam95 l h.2 x hx
end
end Go.Proofs
namespace Go.Proofs
open Go Go.Am
section
variable {K:sI->sI->Int->T}{cs ds:List zA}
variable [nC]
def RP.err{α:Type}:RP α->Nat | .ok _=>0 | .er e _ _=>e
def RP.pl{α:Type}:RP α->Nat × Nat | .ok _=>(0,0) | .er _ a b=>(a,b)
def RP.val{α:Type}(z:α):RP α->α | .ok x=>x | .er _ _ _=>z
def plV (p:Nat × Nat):List zA:=[.int .i64 (p.1:Int),.int .i64 (p.2:Int)]
def zle{t:Tr tA}{sz:Nat}:aA t sz [] .nilslice:=⟨[],.inl ⟨rfl,rfl⟩,cH.2 rfl⟩
def zf0{t:Tr tA}:RD t nS.d zV:=He zle zle
def agPl{p:Nat × Nat}:eK sV (.agg (plV p))=some (cellsOf (plV p)):=zO rfl
section
variable {t:Tr tA}{Q:mB}{s:List Nat}{J:eF}
def zja (hg:dJ t)(hby:∀b∈s,b<256)
  (hQ:∀t' cs,zB t t'->RD t' ((cG yL s).val zm7).d cs->oA yA.base (Wq yA F jC) J (K (cellsOf cs) (cellsOf (plV (cG yL s).pl)) ((cG yL s).err:Int)) t' Q) :
  oA yA.base (Wq yA F jC) J (.call 11 [.str s] fun a=>.opt (uX 0 a)<|uG vU fun X2=>.opt (uX 1 a)<|uG sV fun X=>.opt (uX 2 a)<|uI fun n=>.ite (jB (lF X2)) (.ite true (K X2 X n) .fail) .fail) t Q:=by
 refine wB ?_
 rw[q11];refine expr15 hg hby ?_
 have key:∀t' cs,zB t t'->RD t' ((cG yL s).val zm7).d cs->oA yA.base (Wq yA F jC) J (.opt (uX 0 (.tup [.agg cs,.agg (plV (cG yL s).pl),.int .i64 ((cG yL s).err:Int)]))<|uG vU fun X2=>.opt (uX 1 (.tup [.agg cs,.agg (plV (cG yL s).pl),.int .i64 ((cG yL s).err:Int)]))<|uG sV fun X=>.opt (uX 2 (.tup [.agg cs,.agg (plV (cG yL s).pl),.int .i64 ((cG yL s).err:Int)]))<|uI fun n=>.ite (jB (lF X2)) (.ite true (K X2 X n) .fail) .fail) t' Q:=by
  intro t' cs k1 k2;have hc:lF (cellsOf cs)=cs:=Ql k2
  refine rA (v:=.agg cs) rfl (dC (agE k2) (rA (v:=.agg (plV (cG yL s).pl)) rfl (dC agPl (rA (v:=.int .i64 ((cG yL s).err:Int)) rfl (qB (mA ?_ (mA rfl (hQ t' cs k1 k2))))))))
  show sD zA.one (lF (cellsOf cs))=true
  rw[hc];obtain⟨a,b,c,rfl,_⟩:=nI k2;exact k2.all
 cases hr:cG yL s with
 | ok x=>rw[hr]at key;exact fun t' cs k1 k2=>key t' cs k1 k2
 | er e a b=>rw[hr]at key;exact fun t' k1=>key t' zE k1 zf1
def zni (hg:dJ t)(hby:∀b∈s,b<256)
  (hQ:∀t' cs,zB t t'->RD t' ((cG zL s).val nS).d cs->oA yA.base (Wq yA F jC) J (K (cellsOf cs) (cellsOf (plV (cG zL s).pl)) ((cG zL s).err:Int)) t' Q) :
  oA yA.base (Wq yA F jC) J (.call 14 [.str s] fun a=>.opt (uX 0 a)<|uG Rb fun X2=>.opt (uX 1 a)<|uG sV fun X=>.opt (uX 2 a)<|uI fun n=>.ite (jB (dP X2)) (.ite true (K X2 X n) .fail) .fail) t Q:=by
 refine wB ?_
 rw[q14];refine znh hg hby ?_
 have key:∀t' cs,zB t t'->RD t' ((cG zL s).val nS).d cs->oA yA.base (Wq yA F jC) J (.opt (uX 0 (.tup [.agg cs,.agg (plV (cG zL s).pl),.int .i64 ((cG zL s).err:Int)]))<|uG Rb fun X2=>.opt (uX 1 (.tup [.agg cs,.agg (plV (cG zL s).pl),.int .i64 ((cG zL s).err:Int)]))<|uG sV fun X=>.opt (uX 2 (.tup [.agg cs,.agg (plV (cG zL s).pl),.int .i64 ((cG zL s).err:Int)]))<|uI fun n=>.ite (jB (dP X2)) (.ite true (K X2 X n) .fail) .fail) t' Q:=by
  intro t' cs k1 k2;have hc:dP (cellsOf cs)=cs:=Qk k2
  refine rA (v:=.agg cs) rfl (dC (agV k2) (rA (v:=.agg (plV (cG zL s).pl)) rfl (dC agPl (rA (v:=.int .i64 ((cG zL s).err:Int)) rfl (qB (mA ?_ (mA rfl (hQ t' cs k1 k2))))))))
  show sD zA.one (dP (cellsOf cs))=true
  rw[hc];obtain⟨a,b,rfl,_⟩:=oX k2;exact k2.all
 cases hr:cG zL s with
 | ok x=>rw[hr]at key;exact fun t' cs k1 k2=>key t' cs k1 k2
 | er e a b=>rw[hr]at key;exact fun t' k1=>key t' zV k1 zf0
def zj7{K:T}(k:oA yA.base (Wq yA F jC) J K t Q):oA yA.base (Wq yA F jC) J (.call 7 []<|uB fun b=>.ite (!b) wC K) t Q:=by
 refine wB ?_
 have h9:kB yA F 7 [] t=some (.bool true):=Gw (g:=zho) (by kernel_rfl) fun H=>rfl
 rw[q7,h9,uA];exact iD (vB (by decide) k)
def zoa{K:zA->T}{x:lA} (hx:lA.cpy x)(h:RD t x.d cs)(h2:RD t x.d ds)(k:oA yA.base (Wq yA F jC) J (K (.bool true)) t Q):oA yA.base (Wq yA F jC) J (.call 12 [.agg cs,.agg ds] K) t Q:=by
 refine wB ?_
 rw[q12,sam51 x hx cs ds h h2,uA];exact k
def zn9{K:zA->T}{x:eD} (hx:eD.cpy x)(h:RD t x.d cs)(h2:RD t x.d ds)(k:oA yA.base (Wq yA F jC) J (K (.bool true)) t Q):oA yA.base (Wq yA F jC) J (.call 15 [.agg cs,.agg ds] K) t Q:=by
 refine wB ?_
 rw[q15,sam94 hx h h2,uA];exact k
end
def zo3{s:List Nat}(h:s.length<=65536):iN s=nZ s:=by unfold iN;rw[yaa (by omega)]
end
section
variable [nC]
variable {t:Tr tA}
def pv36{f:zF}{u v:zA}(h1:aA t 1 (cC f.n.limbs) u)(h2:aA t 1 (cC f.d.limbs) v)(hf:f.ok):kB yA F 25 [.agg [.bool f.n.neg,u,.bool f.d.neg,v]] t=some (.int .i64 (Jo f:Nat)):=by
 have hs:=Za hf
 refine iC.2 (w25 ?_)
 unfold Jo at hs   ⊢
 simp (disch:=omega) only[uI,uZ,uW,t25,oA,h1.len,h2.len,uA,aB,dR,wrap_i64]
 simp
mutual
theorem pv37:∀(x:lA) (left:Int) (cs:List zA),x.ok -> -9007199254740992<=left->left<=9007199254740992->RD t x.d cs->kB yA F 8 [.agg cs,.int .i64 left] t=some (.int .i64 (Av x left))
 | .mk op name v args,left,cs,hx,hl1,hl2,h=>by
  obtain⟨a,b,c,rfl,ha,hb,hc⟩:=nI h
  simp only[lA.op,lA.name,lA.v,lA.args]at ha hb hc ⊢
  have hx':=hx
  unfold lA.ok at hx';have hf:=Za hx'.2.1
  have hn:=hx'.1
  unfold fG at hn;refine iC.2 (w8 ?_)
  simp (disch:=omega) only[uI,uZ,uY,uW,t8,oA,q25,pv36 ha hb hx'.2.1,uA,aB,HF,Jp,if_true,kX,wrap_i64,Int.tdiv_eq_ediv_of_nonneg]
  unfold Av;exact zlg args args left _ op name v _ _ c 0 hc rfl hx'.2.2.2 hx'.2.2.1 (by omega) hl1 hl2 (by omega)
theorem zlg:∀(l args:List lA) (left n:Int) (op:Nat) (name:List Nat) (v:eD) (a b c:zA) (i:Nat),aA t 9 (args.map lA.d) c->args.drop i=l->lA.oks l->args.length<fG->0<=n -> -9007199254740992<=left->left<=9007199254740992->n<=27021597764222976 →
  jp 8 2 [.int .i64 left,.int .i64 n,.int .i64 i,.int .u8 op,.str name,.int .u8 v.kind,.bool v.f.n.neg,a,.bool v.f.d.neg,b,.int .i64 v.i,c] t (fun v' t'=>v'=.int .i64 (Aw l left n)/\t'=t)
 | [],args,left,n,op,name,v,a,b,c,i,hc,hd,hok,hsz,hn,hl1,hl2,hn2=>by
  have:=OL hd
  refine j8_2 ?_
  simp only[uI,uG,kC,uZ,uY,uW,nE,t8_2,oA,hc.len,uA,aB,ybf,bE];grind [Aw]
 | x::l,args,left,n,op,name,v,a,b,c,i,hc,hd,hok,hsz,hn,hl1,hl2,hn2=>by
  obtain⟨h1,h2,h3⟩:=OM hd
  unfold fG at hsz;have hok':=hok
  unfold lA.oks at hok';refine j8_2 ?_
  obtain⟨pb,po,cs,g1,g2,g3,g4,g5⟩:=gI.at sl29 (by simp) hc (i:=i) (d:=x.d) (by simp[h1])
  simp only[uI,uG,kC,uZ,uY,uW,nE,t8_2,oA,hc.len,uA,aB,ybf,bE,kI,g1,g2,Mt];rw[yab (by omega)]
  unfold Aw;split
  ·rename_i hle
   obtain⟨a1,b1,c1,rfl,ha1,hb1,hc1⟩:=nI g5
   have hs:=GM x (left-n) hok'.1
   rw[iW g5 x.zs];simp only[uA,cellsOf,zir,zn5,Ih,Je];simp (disch:=omega) only[q8,yaz,yba,wrap_i64]
   rw[pv37 x (left-n) _ hok'.1 (by omega) (by omega) g5]
   simp (disch:=omega) only[uA,aB,wrap_i64]
   have:=zlg l args left (n+Av x (left-n)) op name v a b c (i+1) hc h2 hok'.2 hsz (by omega) hl1 hl2 (by omega)
   simp_all
  ·simp
end
end
section
variable {n:Nat}{f:zF}
theorem DC{ds es:List Nat}(h0:ds≠[])(hd:∀b∈ds,nD b=true)(hp:oO ds=false){s:List Nat}(hs:s=ds/\es=[]\/s=ds++47::es/\es≠[]/\es≠[48])(hd':∀b∈es,nD b=true)(hp':oO es=false)(hl:s.length<=200):uF s=.tok 2 s:=by
 have hf:bD s=ds/\wG s=es/\xG s=s.length:=by
  rcases hs with⟨rfl,rfl⟩ | ⟨rfl,h1,_⟩
  ·have hf:bD s=s:=by
    have:=sX (p:=nD) (a:=s) (r:=[]) hd (fun b r2 e=>by cases e)
    rwa [ycd]at this
   grind [wG,xG]
  ·have:=WS (r:=[]) h0 hd h1 hd' (fun b r2 e=>by cases e)
   rwa [ycd]at this
 have h47:∀b∈s,b≠45:=by
  rcases hs with⟨rfl,rfl⟩ | ⟨rfl,_,_⟩
  ·simp_all [Lb]
  ·intro b hb
   rcases yaf.1 hb with h | h
   ·simp_all [Lb]
   ·rcases ybs.1 h with rfl | h
    all_goals simp_all [Lb]
 have h48:es≠[48]:=by
  grind
 have hb:lK s=false:=by
  grind [lK,lR]
 have hdt:=zor h47
 obtain⟨x,r,e,hx⟩:∃x r,s=x::r/\nD x=true:=by
  obtain⟨x,r,rfl,hx⟩:=MP h0 hd
  grind
 have hn:=hf.2.2
 rw[e]at hb hdt hn ⊢
 unfold uF;simp only[(Lb hx).2.2.2.2.2.2,hx,hdt,hb,ybq,if_false,if_true,yay]
 rw[hn,List.take_length]
def zN (f:zF):List Nat:=kF (val 65536 f.n.limbs)++(if cU f.d then []else 47::kF (val 65536 f.d.limbs))
theorem MQ(s:List Nat):nR s [45]=decide (s.head?=some 45):=by
 unfold nR
 cases s with
 | nil=>rfl
 | cons x r=>
  rw[decide_eq_true (by simp)]
  simp only[ybn,ybx,List.take,ycn,List.head?_cons,Option.some.injEq];by_cases h:x=45
  ·subst h;rfl
  grind [zmo]
theorem ON {r:List Nat}:(kF n++r).head?≠some 45:=by
 obtain⟨x,r',e,hx⟩:=MP (Vd n) (Ia n)
 rw[Fe,e];intro h
 cases h
 cases hx
def Ki(neg:Bool):List Nat:=if neg then [109,105,110,117,115,32]else []
theorem GQ (h:f.d.neg=false):nK (qL f)=Ki f.n.neg++zN f/\(if nR (qL f) [45]then(qL f).drop 1 else qL f)=zN f:=by
 grind [nK,qL,zN,Dh,Hl,MQ,Ki,ON]
def GP{n:Int}:nK (xM n)=Ki (decide (n<0))++kF n.natAbs:=by
 unfold nK Ki;rw[MQ];by_cases h:n<0
 ·obtain⟨u,rfl,hu⟩:∃u:Nat,n = -(u:Int)/\0<u:=⟨n.natAbs,by omega,by omega⟩
  grind [BR]
 ·obtain⟨u,rfl⟩:∃u:Nat,n=(u:Int):=⟨n.toNat,by omega⟩
  rw[Tt,show(u:Int).natAbs=u by omega]
  have:(kF u).head?≠some 45:=by have:=ON (n:=u) (r:=[]);rwa [ycd]at this
  simp_all
def MY (hfit:f.fit)(hv:bM f=true):f.d.neg=false/\f.d.limbs=rC (val 65536 f.d.limbs)/\f.n.limbs=rC (val 65536 f.n.limbs)/\0<val 65536 f.d.limbs/\(f.n.neg=true->0<val 65536 f.n.limbs)/\Nat.gcd (val 65536 f.n.limbs) (val 65536 f.d.limbs)=1/\(cU f.d=true->val 65536 f.d.limbs=1):=by
 obtain⟨_,l1,l2⟩:=hfit
 unfold bM at hv;simp only[ybb,ycp,ycq,decide_eq_true_eq]at hv;obtain⟨⟨⟨⟨⟨⟨_,_⟩,w1⟩,w2⟩,hn⟩,hd⟩,hg⟩:=hv
 have nrm:∀ {b:Bool} {l:List Nat},rK b l=true->norm l:=by
  intro b l h hne;grind [rK]
 have e1:=Pc l1 (nrm w1) rfl
 have e2:=Pc l2 (nrm w2) rfl
 have one:cU f.d=true->val 65536 f.d.limbs=1:=by
  intro h;unfold cU at h;simp only[ybb,decide_eq_true_eq]at h;rw[h.2];rfl
 grind [Hj,rK,Nat.gcd_one_right]
theorem JK (hfit:f.fit)(hv:bM f=true):mR (zN f) f.n.neg=f:=by
 obtain⟨h1,h2,h3,h4,h5,h6,h7⟩:=MY hfit hv
 have hx:mR (zN f) f.n.neg=gM f.n.neg (val 65536 f.n.limbs) (val 65536 f.d.limbs):=by
  unfold mR zN;rw[Fe,Fe];by_cases h:cU f.d=true
  ·rw[yab h,ycd,OQ,h7 h]
   have:cN (vJ (val 65536 f.n.limbs))=vJ (val 65536 f.n.limbs):=by
    have:=sX (p:=fun b=>decide (b≠47)) (a:=vJ (val 65536 f.n.limbs)) (r:=[]) (fun b hb=>Qa (Ia _ b hb)) (fun b r' e=>by cases e)
    rwa [ycd]at this
   grind [Vc]
  grind [zjq,Ia,Vc]
 rw[hx];unfold gM;rw[h6,Nat.div_one,Nat.div_one,<- h2,<- h3];obtain⟨⟨a,l⟩,⟨b,m⟩⟩:=f
 simp only at h1 h5 ⊢
 rw[h1]
 cases a
 all_goals grind
def zhv (hfit:f.fit)(hv:bM f=true)(hl:(zN f).length<=200):uF (zN f)=.tok 2 (zN f):=by
 obtain⟨h1,h2,h3,h4,h5,h6,h7⟩:=MY hfit hv
 have e:zN f=vJ (val 65536 f.n.limbs)++(if cU f.d then []else 47::vJ (val 65536 f.d.limbs)):=by unfold zN;rw[Fe,Fe]
 by_cases h:cU f.d=true
 ·rw[yab h,ycd]at e
  exact DC (es:=[]) (Vd _) (Ia _) (DG _) (.inl ⟨e,rfl⟩) (by simp) rfl hl
 grind [DC,Vd,Ia,DG,zew]
def zqd (h:n<10^200):uF (kF n)=.tok 2 (kF n):=by
 rw[Fe];exact DC (es:=[]) (Vd _) (Ia _) (DG _) (.inl ⟨rfl,rfl⟩) (by simp) rfl (OR 199 n h)
end
section
variable {s s' w:List Nat}{c k:Nat}{R l l':List nF}{neg:Bool}{f:zF}{v:eD}{a:nF}
def Lx (s:List Nat)(l:List nF):Prop:=∀r o,Dv r->gU (s++r) o=(gU r true).map fun m=>l++m
theorem Lx.tok  (h:uF w=.tok k w):Lx w [(k,w)]:=by
 intro r o hr
 cases w with
 | nil=>have h:TR.bad 110=.tok k []:=h;cases h
 | cons b w=>
  grind [zgf,KK]
theorem Lx.bl  (h:Lx s l)(h':Lx s' l'):Lx (s++32::s') (l++l'):=by
 intro r o hr;rw[ybz,List.cons_append,h _ _ (fun c r' e=>by simp_all),zc3 (.inl rfl),h' _ _ hr]
 simp_all [Function.comp_def]
theorem Ow (hs:Er c=true)(r:List Nat)(o:Bool):gU (c::r) o=(gU r true).map fun m=>(4,[c])::m:=by
 have hc:c=40\/c=41\/c=44\/c=43\/c=45\/c=42\/c=47\/c=60\/c=61:=by simp_all [Er]
 grind [uF,vN,nD,KK]
theorem Lx.par  (h:Lx s l):Lx ([40]++s++[41]) ((4,[40])::(l++[(4,[41])])):=by
 intro r o hr;rw[show [40]++s++[41]++r=40::(s++(41::r)) by simp,Ow rfl,h _ _ (fun c r' e=>by grind),Ow rfl]
 simp_all [Function.comp_def]
theorem Lx.sg   (h:Lx s l)(hc:c=40\/c=41\/c=44):Lx (s++[c]) (l++[(4,[c])]):=by
 intro r o hr;rw[ybz,h _ _ (fun d r' e=>by simp_all),List.singleton_append,Ow (by rcases hc with rfl | rfl | rfl<;>rfl)]
 simp_all [Function.comp_def]
theorem Lx.app  (h:Lx s l)(h':Lx s' l')(hs:∃c r,s'=c::r/\(c=40\/c=41\/c=44)):Lx (s++s') (l++l'):=by
 intro r o hr;obtain⟨c,r',rfl,hc⟩:=hs
 rw[ybz,h _ _ (fun d r' e=>by simp_all),h' _ _ hr]
 simp_all [Function.comp_def]
theorem Lx.pre   (h:Lx s l)(hc:Er c=true):Lx (c::s) ((4,[c])::l):=by
 intro r o hr;rw[List.cons_append,Ow hc,h _ _ hr];simp_all [Function.comp_def]
def Lx.spc  (h:Lx s l):Lx (32::s) l:=by
 intro r o hr;rw[List.cons_append,zc3 (.inl rfl),h _ _ hr]
theorem Lx.one    (h:uF w=.tok k w)(h':Lx s l):Lx (w++32::s) ((k,w)::l):=(Lx.tok h).bl h'
def Lx.lex  (h:Lx s l):gU s false=some (l++[(5,[])]):=by
 have:=h [] false (fun c r e=>by cases e)
 rw[ycd]at this;rw[this];rfl
def vQ(neg:Bool):List nF:=if neg then [(1,zX)]else []
def bP (v:eD):List nF:=
 if v.kind=1 then [(1,if v.i=1 then Iy else Ja)]
 else if v.kind=2 then vQ v.f.n.neg++[(2,zN v.f)]
 else if v.kind=3 then(1,Ge)::(vQ v.f.n.neg++[(2,zN v.f)])
 else if v.kind=4 then [(3,fM v.i.toNat)]
 else vQ (decide (v.i<0))++[(2,kF v.i.natAbs),(1,if v.kind=5 then oV else pV)]
def Lx.minus   (h:Lx s l):Lx (Ki neg++s) (vQ neg++l):=by
 unfold Ki vQ
 cases neg
 ·exact h
 ·exact Lx.one (w:=zX) (by kernel_rfl) h
theorem IJ (h:tZ f=true):bM f=true/\f.d.neg=false/\(zN f).length<=200:=by
 have hd:f.d.neg=false:=by grind [tZ,bM]
 grind [tZ,GQ]
def MX (hfit:f.fit)(h:tZ f=true):Lx (nK (qL f)) (vQ f.n.neg++[(2,zN f)]):=by
 obtain⟨h1,h2,h3⟩:=IJ h
 rw[(GQ h2).1]
 exact(Lx.tok (zhv hfit h1 h3)).minus
theorem Sn (h:xH v=true):v.kind=1/\v.f=mJ/\(v.i=0\/v.i=1)\/(v.kind=2\/v.kind=3)/\v.i=0/\tZ v.f=true\/v.kind=4/\v.f=mJ/\0<=v.i/\v.i<65536\/(v.kind=5\/v.kind=6)/\v.f=mJ /\ -1048576<=v.i/\v.i<=1048576:=by
 unfold xH at h;split at h
 all_goals grind [EH]
theorem ET (hfit:v.f.fit)(h:xH v=true):Lx (sU v) (bP v):=by
 have hc:=Sn h
 obtain⟨kd,f,i⟩:=v
 simp only at hc hfit
 rcases hc with⟨rfl,_,hi⟩ | ⟨k,_,hf⟩ | ⟨rfl,_,h0,h1⟩ | ⟨k,_,h0,h1⟩
 ·show Lx (if i=1 then [116,114,117,101]else [102,97,108,115,101]) [(1,if i=1 then Iy else Ja)]
  split
  ·exact Lx.tok (by kernel_rfl)
  ·exact Lx.tok (by kernel_rfl)
 ·rcases k with rfl | rfl
  ·exact MX hfit hf
  ·exact Lx.one (w:=Ge) (by kernel_rfl) (MX hfit hf)
 ·exact Lx.tok (w:=fM i.toNat) (zjn (by omega))
 ·have hn:uF (kF i.natAbs)=.tok 2 (kF i.natAbs):=zqd (Nat.lt_of_lt_of_le (show i.natAbs<10^7 by omega) (yao (by omega) (by omega)))
  rcases k with rfl | rfl
  ·show Lx (nK (xM i)++[32,100,97,121,115]) _
   rw[GP,ybz];exact(Lx.one hn (Lx.tok (w:=oV) (k:=1) (by kernel_rfl))).minus
  ·show Lx (nK (xM i)++[32,109,111,110,116,104,115]) _
   rw[GP,ybz];exact(Lx.one hn (Lx.tok (w:=pV) (k:=1) (by kernel_rfl))).minus
section
variable {tk:List bC}{K:List nF}{n:Nat}
def dr_get (h:K.drop n=l++R){i:Nat}(hi:i<l.length):K[n+i]?=l[i]?:=by
 rw[<- yde,h,yco hi]
theorem oH  (h:K.drop n=a::R):K[n]?=some a:=by
 have:=dr_get (l:=[a]) (R:=R) h (i:=0) (by simp)
 simp_all
def dN (h:K.drop n=l++R):K.drop (n+l.length)=R:=by
 rw[<- List.drop_drop,h];simp
def xK  (h:K.drop n=a::R):K.drop (n+1)=R:=dN (l:=[a]) h
theorem Fo(hK:tk.map kt=K){q:Nat}{u:List Nat}(h:K[n]?=some (q,u))(hq:q=2\/q=3\/q=5)(w:List Nat):acc tk w n=false:=by
 rw[Qr hK h];rcases hq with rfl | rfl | rfl<;>rfl
def AK(R:List nF):Prop:=∀q u R',R=(q,u)::R'->u≠oV/\u≠pV
theorem DZ(hK:tk.map kt=K)  (h:K.drop n=R)(hw:∀q u R',R=(q,u)::R'->u≠w):acc tk w n=false:=by
 cases R with
 | nil=>
  grind [List.drop_eq_nil_iff,JS]
 | cons a R=>exact jJ hK (oH h) (hw a.1 a.2 R rfl)
def zb5(hK:tk.map kt=K)   (h:K.drop n=(2,s)::R)(hR:AK R):jV tk neg n=.ok ⟨2,mR s neg,0⟩ (n+1):=by
 unfold jV;rw[Nb hK (oH h)]
 show(if (acc tk oV (n+1)||acc tk pV (n+1))=true then _ else _)=_
 rw[DZ hK (xK h) fun q u R' e=>(hR q u R' e).1,DZ hK (xK h) fun q u R' e=>(hR q u R' e).2]
 rfl
theorem UT(hK:tk.map kt=K) {i:Int}  {b:Bool}(h:K.drop n=(2,s)::(1,if b=true then oV else pV)::R)(hs:gK s=false)(hi:mT s neg (-1048576) 1048576=some i):jV tk neg n=.ok ⟨if b=true then 5 else 6,mJ,i⟩ (n+2):=by
 have h1:=oH (xK h)
 unfold jV;rw[Nb hK (oH h)]
 show(if (acc tk oV (n+1)||acc tk pV (n+1))=true then _ else _)=_
 grind [jJ,yU]
def PA(hK:tk.map kt=K)   (h:K.drop n=vQ neg++(2,s)::R):eT tk n=(jV tk neg (n+(vQ neg).length)).bind fun v n1=>.ok (some v) n1:=by
 unfold eT
 cases neg
 ·have h1:=oH (show K.drop n=(2,s)::R from h)
  rw[Fo hK h1 (.inl rfl),Fo hK h1 (.inl rfl),Fo hK h1 (.inl rfl),Fo hK h1 (.inl rfl),Br hK h1,Br hK h1]
  rfl
 ·have h1:=oH (show K.drop n=(1,zX)::(2,s)::R from h)
  rw[jJ hK h1 (by decide),jJ hK h1 (by decide),jJ hK h1 (by decide),yU hK h1 (.inl rfl),Br hK h1]
  rfl
theorem OZ(hK:tk.map kt=K) (hfit:v.f.fit)(h:xH v=true) (hd:K.drop n=bP v++R)(hR:AK R):eT tk n=.ok (some v) (n+(bP v).length):=by
 have hc:=Sn h
 obtain⟨kd,f,i⟩:=v
 simp only at hc hfit
 rcases hc with⟨rfl,rfl,hi⟩ | ⟨k,rfl,hf⟩ | ⟨rfl,rfl,h0,h1⟩ | ⟨k,rfl,h0,h1⟩
 ·have h1:=oH (show K.drop n=(1,if i=1 then Iy else Ja)::R from hd)
  unfold eT;rcases hi with rfl | rfl
  ·rw[yaa (by omega)]at h1
   rw[jJ hK h1 (by decide),yU hK h1 (.inl rfl)]
   rfl
  ·rw[yab rfl]at h1
   rw[yU hK h1 (.inl rfl)]
   rfl
 ·obtain⟨v1,v2,_⟩:=IJ hf
  rcases k with rfl | rfl
  ·have hd:K.drop n=vQ f.n.neg++(2,zN f)::R:=by grind [bP]
   rw[PA hK hd,zb5 hK (dN hd) hR,JK hfit v1]
   grind [bP,PR.bind]
  ·have hd:K.drop n=(1,Ge)::(vQ f.n.neg++(2,zN f)::R):=by grind [bP]
   have h1:=oH hd
   unfold eT;rw[jJ hK h1 (by decide),jJ hK h1 (by decide),yU hK h1 (.inl rfl),Br hK h1]
   have hm:acc tk zX (n+1)=f.n.neg:=by
    have h2:=xK hd
    cases hn:f.n.neg with
    | false=>rw[hn]at h2;exact Fo hK (oH (show K.drop (n+1)=(2,zN f)::R from h2)) (.inl rfl) _
    | true=>rw[hn]at h2;exact yU hK (oH (show K.drop (n+1)=(1,zX)::(2,zN f)::R from h2)) (.inl rfl)
   rw[hm];have h3:(if f.n.neg=true then n+2 else n+1)=n+1+(vQ f.n.neg).length:=by unfold vQ;split<;>rfl
   show(lS tk 2 (if f.n.neg=true then n+2 else n+1)).bind _=_
   rw[h3,Nb hK (oH (dN (xK hd)))]
   show PR.ok (some (⟨3,mR (zN f) f.n.neg,0⟩:eD)) _=_
   grind [JK,bP]
 ·have h2:=oH (show K.drop n=(3,fM i.toNat)::R from hd)
  unfold eT;rw[Fo hK h2 (.inr (.inl rfl)),Fo hK h2 (.inr (.inl rfl)),Br hK h2,zjm hK h2,OS (by omega)]
  show PR.ok (some (⟨4,mJ,((i.toNat:Nat):Int)⟩:eD)) _=_
  rw[show((i.toNat:Nat):Int)=i by omega]
  rfl
 ·have e:bP ⟨kd,mJ,i⟩=vQ (decide (i<0))++[(2,kF i.natAbs),(1,if kd=5 then oV else pV)]:=by
   rcases k with rfl | rfl<;>rfl
  rw[e]at hd ⊢
  have hd:K.drop n=vQ (decide (i<0))++(2,kF i.natAbs)::(1,if decide (kd=5)=true then oV else pV)::R:=by grind
  have hi:mT (kF i.natAbs) (decide (i<0)) (-1048576) 1048576=some i:=by
   unfold mT;rw[Fe,Vc];have:(if decide (i<0)=true then -((i.natAbs:Nat):Int)else(i.natAbs:Nat))=i:=by
    grind
   simp only[this];rw[yab ⟨h0,h1⟩]
  rw[PA hK hd,UT hK (dN hd) (by rw[Fe];exact OQ _) hi]
  show PR.ok (some _) _=_
  grind
end
end
section
def rL (lev:Nat)(p:Nat × List nF):List nF:=if lev<=p.1 then p.2 else(4,[40])::(p.2++[(4,[41])])
def bF:Bool->List (Nat × List nF)->List nF
 | _,[]=>[]
 | b,p::l=>(if b then []else [(4,[44])])++p.2++bF false l
def sO(op:Nat)(i:Int):List nF:=(if op=19 then [(4,[44]),(1,jK i.toNat)]else [])++[(4,[41])]
def Ed (op:Nat):List nF:=if op=3 then [(1,Dj)]else if op=4 then [(1,Di)]else []
def Hb(op:Nat):nF:=(if op=15\/op=16 then 1 else 4,(bA op).word)
def lT(op:Nat)(name:List Nat)(v:eD)(l:List (Nat × List nF)):List nF:=
 if (bA op).style=1 then bP v else if (bA op).style=2 then [(1,(bA op).word)]
 else if (bA op).style=3 then Ed op++(1,name)::(1,wAt)::rL (bA op).left (l.getD 0 (0,[]))
 else if (bA op).style=4 then rL (bA op).left (l.getD 0 (0,[]))++Hb op::rL (bA op).right (l.getD 1 (0,[]))
 else if (bA op).style=5 then(1,yZ)::rL (bA op).left (l.getD 0 (0,[]))
 else(1,(bA op).word)::(4,[40])::((if (bA op).named then [(1,name),(4,[44])]else [])++(bF true l++sO op v.i))
mutual
def iE:lA->List nF
 | .mk op name v args=>lT op name v (mE args)
def mE:List lA->List (Nat × List nF)
 | []=>[]
 | y::l=>((bA y.op).level,iE y)::mE l
end
def zas:∀l:List lA,mE l=l.map fun y=>((bA y.op).level,iE y)
 | []=>by rw[mE];rfl
 | y::l=>by rw[mE,zas l];rfl
def Fg:List Nat:=[6,11,12,18,19,20,21,22,23,24,25,26]
def Ln:List Nat:=[7,8,9,10,13,14,15,16]
def JE:∀op,op<27->op≠0->op=1\/op=2\/op∈[3,4,5]\/op∈Ln\/op=17\/op∈Fg:=by decide
def NF:∀k∈[3,4,5],(bA k).style=3/\(bA k).left=7/\(bA k).level=7/\(bA k).named=true/\(bA k).least=1/\(bA k).most=1:=by decide +kernel
def CH:∀k∈Ln,(bA k).style=4/\(bA k).named=false/\(bA k).least=2/\(bA k).most=2:=by decide +kernel
def CG:∀k∈Fg,(bA k).style=6/\(bA k).level=7:=by decide +kernel
theorem Ug:(bA 17).style=5/\(bA 17).left=3/\(bA 17).level=3/\(bA 17).named=false/\(bA 17).least=1/\(bA 17).most=1:=by decide +kernel
theorem Ez:(bA 1).style=1/\(bA 1).level=7/\(bA 1).named=false/\(bA 1).most=0:=by decide +kernel
theorem Cc:(bA 2).style=2/\(bA 2).level=7/\(bA 2).named=false/\(bA 2).most=0:=by decide +kernel
structure Ma (op:Nat) (name:List Nat) (n:Nat):Prop where
 lt:op<27
 ne:op≠0
 lo:(bA op).least<=n
 hi:n<=(bA op).most
 nm:(bA op).named=true->mO name=true
 no:(bA op).named=false->name=[]
theorem zix{op:Nat}{name:List Nat}{n:Nat}(h:Eu op name n=true):Ma op name n:=by
 unfold Eu at h;simp only[ybb,decide_eq_true_eq,ycp,decide_eq_false_iff_not]at h;obtain⟨⟨⟨⟨h1,h2⟩,h3⟩,h4⟩,h5⟩:=h
 refine⟨h1,?_,h3,h4,fun e=>by rwa [yab e]at h5,fun e=>?_⟩
 ·rintro rfl;exact h2 rfl
 grind [sN]
def Pr{op:Nat}{name:List Nat}{v:eD}{args:List lA}{d:Nat}(h:vI (.mk op name v args) d=true):d<=24/\Ma op name args.length/\(op=1->xH v=true)/\(op≠1->bR op v=true/\∀y∈args,vI y (d+1)=true):=by
 grind [vI,zix,Vt]
def JW{w:List Nat}(h:mO w=true):uF w=.tok 1 w:=by
 unfold mO at h;grind [sN,uF]
def Lx.inn{lev n:Nat}{s:List Nat}{l:List nF}(h:Lx s l):Lx (qR lev (n,s)) (rL lev (n,l)):=by
 unfold qR rL;by_cases hl:lev<=n
 ·simp_all
 ·rw[yaa hl,yaa hl];exact h.par
def zh0{i:Nat}(h1:1<=i)(h2:i<=6):uF (jK i)=.tok 1 (jK i):=by
 have:i=1\/i=2\/i=3\/i=4\/i=5\/i=6:=by omega
 clear h1 h2
 rcases this with rfl | rfl | rfl | rfl | rfl | rfl
 ·exact(by kernel_rfl:uF (jK 1)=.tok 1 (jK 1))
 ·exact(by kernel_rfl:uF (jK 2)=.tok 1 (jK 2))
 ·exact(by kernel_rfl:uF (jK 3)=.tok 1 (jK 3))
 ·exact(by kernel_rfl:uF (jK 4)=.tok 1 (jK 4))
 ·exact(by kernel_rfl:uF (jK 5)=.tok 1 (jK 5))
 ·exact(by kernel_rfl:uF (jK 6)=.tok 1 (jK 6))
theorem Lx.close:Lx [41] [(4,[41])]:=fun r o _=>Ow rfl r o
theorem FN{op:Nat}{v:eD}(hc:bR op v=true):Lx (Ap op v.i) (sO op v.i)/\∃c r,Ap op v.i=c::r/\(c=40\/c=41\/c=44):=by
 unfold Ap sO;by_cases h:op=19
 ·rw[yab h,yab h]
  unfold bR at hc;rw[yab h]at hc;simp only[ybb,decide_eq_true_eq]at hc;refine⟨?_,_,_,rfl,by simp⟩
  exact((Lx.tok (zh0 (i:=v.i.toNat) (by omega) (by omega))).sg (c:=41) (by simp)).spc.pre rfl
 grind [Lx.close]
def QH{op:Nat}{v:eD}(hc:bR op v=true):∀l:List lA,(∀y∈l,Lx (eL y) (iE y))->Lx (oT false (pI l)++Ap op v.i) (bF false (mE l)++sO op v.i)/\∃c r,oT false (pI l)++Ap op v.i=c::r/\(c=40\/c=41\/c=44)
 | [],_=>by
  grind [pI,mE,oT,bF,FN]
 | y::l,h=>by
  have ih:=QH hc l fun z hz=>h z (ybr _ hz)
  have hy:=h y yby
  rw[pI,mE,oT,bF];refine⟨?_,_,_,rfl,by simp⟩
  have:=((hy.app ih.1 ih.2).spc).pre (c:=44) rfl
  simp_all
def zik{op:Nat}{v:eD}(hc:bR op v=true){l:List lA}(h:∀y∈l,Lx (eL y) (iE y)):Lx (oT true (pI l)++Ap op v.i) (bF true (mE l)++sO op v.i):=by
 cases l with
 | nil=>
  grind [pI,mE,oT,bF,FN]
 | cons y l=>
  have ih:=QH hc l fun z hz=>h z (ybr _ hz)
  have:=(h y yby).app ih.1 ih.2
  grind [pI,mE,oT,bF]
def zhp:∀ {op:Nat},op∈Ln->uF (bA op).word=.tok (Hb op).1 (bA op).word:=by
 intro op h;simp only[Ln,ybs,List.not_mem_nil,or_false]at h;rcases h with rfl | rfl | rfl | rfl | rfl | rfl | rfl | rfl<;>kernel_rfl
def zjz:∀ {op:Nat},op∈Fg->uF (bA op).word=.tok 1 (bA op).word:=by
 intro op h;simp only[Fg,ybs,List.not_mem_nil,or_false]at h;rcases h with rfl | rfl | rfl | rfl | rfl | rfl | rfl | rfl | rfl | rfl | rfl | rfl<;>kernel_rfl
def MN{op:Nat}{name:List Nat}{v:eD}{args:List lA}(hv:v.f.fit)(hh:Ma op name args.length)(h1:op=1->xH v=true)(h2:op≠1->bR op v=true)(ha:∀y∈args,Lx (eL y) (iE y)):Lx (rQ op name v (pI args)) (lT op name v (mE args)):=by
 have hin:∀ {i lev:Nat},i<args.length->Lx (qR lev ((pI args).getD i (0,[]))) (rL lev ((mE args).getD i (0,[]))):=fun {i lev} hi=>by
  rw[Jh,zas];rw[show(args.map fun y=>((bA y.op).level,eL y)).getD i (0,[])=((bA args[i].op).level,eL args[i]) by simp[hi],show(args.map fun y=>((bA y.op).level,iE y)).getD i (0,[])=((bA args[i].op).level,iE args[i]) by simp[hi]]
  exact(ha _ (ycj hi)).inn
 unfold rQ lT;rcases JE op hh.lt hh.ne with rfl | rfl | h | h | rfl | h
 ·grind [Ez,ET]
 ·rw[yaa (by grind [Cc]),yab Cc.1,yaa (by grind [Cc]),yab Cc.1]
  exact Lx.tok (by kernel_rfl)
 ·obtain⟨f1,f2,f3,f4,f5,f6⟩:=NF op h
  have hl:=hh.lo
  have hn:=JW (hh.nm f4)
  rw[f1,f2];have h0:=Lx.one hn (Lx.one (w:=wAt) (k:=1) (by kernel_rfl) (hin (i:=0) (lev:=7) (by omega)))
  simp only[ybs,List.not_mem_nil,or_false]at h;rcases h with rfl | rfl | rfl
  ·have:=Lx.one (w:=Dj) (k:=1) (by kernel_rfl) h0
   grind [Ed,bA,Ht,atF]
  ·have:=Lx.one (w:=Di) (k:=1) (by kernel_rfl) h0
   simp_all [Ed,bA,Ht,atF]
  simp_all [Ed,bA,Ht,atF]
 ·obtain⟨f1,f4,f5,f6⟩:=CH op h
  have hl:=hh.lo
  rw[f1];have:=(hin (i:=0) (lev:=(bA op).left) (by omega)).bl (Lx.one (zhp h) (hin (i:=1) (lev:=(bA op).right) (by omega)))
  grind [Hb]
 ·have hl:=hh.lo
  rw[Ug.1,Ug.2.1];have:=Lx.one (w:=yZ) (k:=1) (by kernel_rfl) (hin (i:=0) (lev:=3) (by grind [Ug]))
  simp_all [bA,Ht]
 ·obtain⟨f1,_⟩:=CG op h
  have hne:op≠1:=by rintro rfl;revert h;decide
  have hj:=zik (h2 hne) ha
  rw[f1];have hw:=zjz h
  by_cases hm:(bA op).named=true
  ·have:=(Lx.tok hw).app ((((Lx.tok (JW (hh.nm hm))).app (hj.spc.pre (c:=44) rfl) ⟨_,_,rfl,by simp⟩).pre (c:=40) rfl)) ⟨_,_,rfl,by simp⟩
   simp_all
  ·have:=(Lx.tok hw).app (hj.pre (c:=40) rfl) ⟨_,_,rfl,by simp⟩
   simp_all
mutual
def NX:∀(x:lA) (d:Nat),x.fit->vI x d=true->Lx (eL x) (iE x)
 | .mk op name v args,d,hf,h=>by
  obtain⟨h1,h2,h3,h4⟩:=Pr h
  rw[eL,iE];rw[lA.fit]at hf;by_cases h0:op=1
  ·have hm:=h2.hi
   have:args=[]:=List.eq_nil_of_length_eq_zero (by simp_all [Ez])
   subst this;exact MN hf.2.2.2.1.2.1 h2 h3 (fun e=>absurd h0 e) (by simp)
  ·exact MN hf.2.2.2.1.2.1 h2 h3 (fun e=>(h4 e).1) (NU args (d+1) hf.2.2.2.2.2 (h4 h0).2)
def NU:∀(l:List lA) (d:Nat),lA.fits l->(∀y∈l,vI y d=true)->∀y∈l,Lx (eL y) (iE y)
 | [],_,_,_,_,hy=>by cases hy
 | x::l,d,hf,h,y,hy=>by
  rw[lA.fits]at hf;rcases ybs.1 hy with e | hy
  ·rw[e];exact NX x d hf.1 (h x yby)
  ·exact NU l d hf.2 (fun z hz=>h z (ybr _ hz)) y hy
end
end
section
variable {A B R:List nF}{op q:Nat}{ops:List (List Nat × Nat)}{w:List Nat}{a b:lA}
def opW:List (List Nat × Nat):=[([42],6),([47],6),([43],5),([45],5),([60],4),([61],4),(wAnd,2),(wOr,1)]
def Qt (lev:Nat)(R:List nF):Prop:=∀q u R',R=(q,u)::R'->(∀p∈opW,lev<=p.2->u≠p.1)/\u≠oV/\u≠pV
theorem Qt.mono{lev lev':Nat} (h:Qt lev R)(hl:lev<=lev'):Qt lev' R:=fun q u R' e=>⟨fun p hp hh=>(h q u R' e).1 p hp (by omega),(h q u R' e).2⟩
def Qt.unit{lev:Nat} (h:Qt lev R):AK R:=fun q u R' e=>(h q u R' e).2
def qtB (lev:Nat)(u:List Nat):Bool:=opW.all (fun p => !decide (lev<=p.2)||decide (u≠p.1))&&(decide (u≠oV)&&decide (u≠pV))
theorem Ec{lev:Nat}{u:List Nat} (h:qtB lev u=true):Qt lev ((q,u)::R):=by
 intro q' u' R' e;grind [qtB]
def aV (tk:List bC)(o:PM lA):Nat->PM lA
 | 7=>o
 | 6=>zhj tk o
 | 5=>Aq tk o
 | 4=>lW tk o
 | 3=>lU tk o
 | 2=>Qh tk o
 | _=>iR tk o
def tK (K:List nF)(f:PM lA)(lev:Nat)(l:List nF)(x:lA):Prop:=∀n R,K.drop n=l++R->Qt lev R->f n=.ok x (n+l.length)
def Bg(l:List nF):Prop:=∃q u r,l=(q,u)::r/\(q=2\/q=3\/u≠yZ)
def Ch (tk:List bC)(K:List nF)(f:PM lA)(ops:List (List Nat × Nat))(lev:Nat)(l:List nF)(x:lA):Prop:=
 ∀n R,K.drop n=l++R->Qt lev R->∃x0 n0 k,f n=.ok x0 n0/\k<=l.length/\∀m,dT tk f ops (m+k) x0 n0=dT tk f ops m x (n+l.length)
section
variable {tk:List bC}{K:List nF}(hK:tk.map kt=K){o f:PM lA}{n lev:Nat}{l:List nF}{x:lA}
include hK
def Jx  (h:K.drop n=R)(hq:Qt lev R)(hl:(ops.all fun p=>opW.any fun q=>decide (q.1=p.1)&&decide (lev<=q.2))=true):aM tk ops n=none:=by
 unfold aM;rw[List.find?_eq_none.2]
 ·rfl
 ·intro p hp
  have:=ycb.1 hl p hp
  rw[List.any_eq_true]at this;obtain⟨q,h1,h2⟩:=this
  simp only[ybb,decide_eq_true_eq]at h2;rw[DZ hK h fun a u R' e=>by rw[<- h2.1];exact(hq a u R' e).1 q h1 h2.2]
  simp
theorem zcm (h:K.drop n=l++R)(hn:Bg l):acc tk yZ n=false:=by
 obtain⟨q,u,r,rfl,hq⟩:=hn
 have:=oH h
 grind [Fo,jJ]
omit hK in
theorem zcj(h:acc tk yZ n=false):∀m,kK tk m n=0
 | 0=>rfl
 | m+1=>by grind [kK]
theorem zn6(hr:tK K (aV tk o (lev+1)) (lev+1) l x)(h0:1<=lev)(h6:lev<=6)(hn:lev=3->Bg l):tK K (aV tk o lev) lev l x:=by
 intro n R hd hq;have h:=hr n R hd (hq.mono (by omega))
 have:lev=1\/lev=2\/lev=3\/lev=4\/lev=5\/lev=6:=by omega
 rcases this with rfl | rfl | rfl | rfl | rfl | rfl
 ·exact Vf (o:=Qh tk o) h (Jx hK (dN hd) hq (by decide))
 ·exact Vf (o:=lU tk o) h (Jx hK (dN hd) hq (by decide))
 ·have h:lW tk o n=.ok x (n+l.length):=h
  show lU tk o n=_
  unfold lU;rw[zcj (zcm hK hd (hn rfl)),yct,h]
  rfl
 ·have h:Aq tk o n=.ok x (n+l.length):=h
  show lW tk o n=_
  unfold lW;rw[h];show(match aM tk [([60],13),([61],14)] (n+l.length)with | none=>_ | some op=>_)=_
  rw[Jx hK (dN hd) hq (by decide)]
 ·exact Vf (o:=zhj tk o) h (Jx hK (dN hd) hq (by decide))
 ·exact Vf (o:=o) h (Jx hK (dN hd) hq (by decide))
theorem Km(hn:Bg l\/lev<=3):∀j lev',lev'+j=lev->1<=lev'->lev<=7->tK K (aV tk o lev) lev l x->tK K (aV tk o lev') lev' l x
 | 0,lev',h,_,_,hr=>by simp_all
 | j+1,lev',h,h1,h7,hr=>by
  have:=Km hn j (lev'+1) (by omega) (by omega) h7 hr
  grind [zn6]
omit hK in
def zqo (hr:tK K f lev l x):Ch tk K f ops lev l x:=fun n R hd hq=>⟨x,n+l.length,0,hr n R hd hq,by omega,fun m=>rfl⟩
theorem zca   (h:K[n]?=some (q,w))(hq:q=1\/q=4)(hf:(ops.find? fun p=>qF w p.1).map Prod.snd=some op):aM tk ops n=some op:=by
 grind [aM,Qr]
theorem zqn     (ha:Ch tk K f ops lev A a)(hb:tK K f lev B b)(hq:q=1\/q=4)(hw:qtB lev w=true)(hf:(ops.find? fun p=>qF w p.1).map Prod.snd=some op):Ch tk K f ops lev (A++(q,w)::B) (cZ op a b):=by
 intro n R hd hR;rw[ybz,List.cons_append]at hd;obtain⟨x0,n0,k,h1,h2,h3⟩:=ha n _ hd (Ec hw)
 have hd1:=dN hd
 have h4:=hb _ R (xK hd1) hR
 refine⟨x0,n0,k+1,h1,by grind,fun m=>?_⟩
 rw[show m+(k+1)=m+1+k by omega,h3,dT,zca hK (oH hd1) hq hf]
 show(f (n+A.length+1)).bind _=_
 rw[h4];show dT tk f ops m (cZ op a b) _=_
 grind
theorem ch_end (h:Ch tk K f ops (lev+1) l x)(hl:(ops.all fun p=>opW.any fun q=>decide (q.1=p.1)&&decide (lev<=q.2))=true):tK K (zS tk f ops) lev l x:=by
 intro n R hd hq;obtain⟨x0,n0,k,h1,h2,h3⟩:=h n R hd (hq.mono (by omega))
 have hlen:n+l.length<=tk.length\/l=[]:=by
  rw[zli hK];by_cases hn:n<=K.length
  ·grind [List.length_append]
  ·rw[ybt (by omega)]at hd
   simp_all
 have hk:k<=tk.length:=by
  grind
 unfold zS;rw[h1];show dT tk f ops tk.length x0 n0=_
 rw[show tk.length=(tk.length-k)+k by omega,h3]
 cases tk.length-k with
 | zero=>rfl
 | succ m=>rw[dT,Jx hK (dN hd) hq hl]
omit hK in
theorem JN:∀(m n:Nat),tk.length<=m+n->kK tk (m+1) n=kK tk m n
 | 0,n,h=>by
  grind [kK,JS]
 | m+1,n,h=>by
  unfold kK;rw[JN m (n+1) (by omega)]
omit hK in
def EM:∀(k:Nat) (x:lA),Gb (k+1) x=unX 17 [] (Gb k x)
 | 0,x=>rfl
 | k+1,x=>by
  show Gb (k+1) (unX 17 [] x)=_
  rw[EM k];rfl
omit hK in
def zhx(h:acc tk yZ n=true)(hn:n<tk.length):lU tk o n=(lU tk o (n+1)).bind fun y n'=>.ok (unX 17 [] y) n':=by
 have e:kK tk tk.length n=kK tk tk.length (n+1)+1:=by
  obtain⟨m,hm⟩:∃m,tk.length=m+1:=⟨tk.length-1,by omega⟩
  rw[hm];rw[JN m (n+1) (by omega)]
  conv=>lhs;unfold kK
  rw[yab h]
 unfold lU;rw[e,show n+(kK tk tk.length (n+1)+1)=n+1+kK tk tk.length (n+1) by omega]
 cases lW tk o (n+1+kK tk tk.length (n+1))with
 | er e i=>rfl
 | ok x n'=>
  show PR.ok _ _=PR.ok _ _
  rw[EM]
theorem not_rd{y:lA}(h:tK K (lU tk o) 3 l y):tK K (lU tk o) 3 ((1,yZ)::l) (unX 17 [] y):=by
 intro n R hd hq;have h1:=oH hd
 have hn:n<tk.length:=by grind
 rw[zhx (yU hK h1 (.inl rfl)) hn,h (n+1) R (xK hd) hq]
 show PR.ok _ _=PR.ok _ _
 rw[ybn,Nat.add_assoc,yap 1]
theorem zhm{k:Nat}(h:tK K (iR tk (xI tk k)) 1 l x):tK K (xI tk (k+1)) 7 ((4,[40])::(l++[(4,[41])])) x:=by
 intro n R hd hq;rw[List.cons_append,ybz]at hd;show fN tk (xI tk k) n=_
 rw[zit hK (oH hd),h (n+1) _ (xK hd) (Ec (by decide))]
 show(pH tk [41] (n+1+l.length)).bind _=_
 rw[Fc hK (oH (dN (xK hd))) (.inr rfl)]
 show PR.ok _ _=PR.ok _ _
 grind
theorem zqj    (ha:tK K (Aq tk o) 5 A a)(hb:tK K (Aq tk o) 5 B b)(hq:q=1\/q=4)(hw:qtB 5 w=true)(hf:(([([60],13),([61],14)]:List (List Nat × Nat)).find? fun p=>qF w p.1).map Prod.snd=some op):tK K (lW tk o) 4 (A++(q,w)::B) (cZ op a b):=by
 intro n R hd hR;rw[ybz,List.cons_append]at hd;have hd1:=dN hd
 unfold lW;rw[ha n _ hd (Ec hw)]
 show(match aM tk [([60],13),([61],14)] (n+A.length)with | none=>_ | some op=>_)=_
 rw[zca hK (oH hd1) hq hf]
 show(Aq tk o (n+A.length+1)).bind _=_
 rw[hb _ R (xK hd1) (hR.mono (by omega))]
 show PR.ok _ _=PR.ok _ _
 grind
end
end
section
variable {v:eD}{op:Nat}{w:List Nat}
def EG (h:Fx v=true):v=nS:=by
 obtain⟨k,f,i⟩:=v
 unfold Fx at h;simp only[ybb,decide_eq_true_eq]at h;obtain⟨⟨rfl,rfl⟩,h3⟩:=h
 rw[EH h3];rfl
theorem Lf  (h:bR op v=true):v=⟨0,mJ,((if op=19 then v.i.toNat else 0:Nat):Int)⟩/\(op=19->1<=v.i.toNat/\v.i.toNat<=6):=by
 unfold bR at h;by_cases h9:op=19
 ·rw[yab h9]at h
  simp only[ybb,decide_eq_true_eq]at h;have:=EG h.2
  obtain⟨k,f,i⟩:=v
  cases this
  grind [mJ]
 ·rw[yaa h9]at h
  rw[EG h,yaa h9];exact⟨rfl,fun e=>absurd e h9⟩
def Oi:List (List Nat):=[yZ,Iy,Ja,Ge,zX,Iz,Dj,Di]
theorem zhy (h:mO w=true):∀u∈Oi,w≠u:=by
 have e:(Oi.all fun u => !mO u)=true:=by kernel_rfl
 grind
section
variable {tk:List bC}{K:List nF}(hK:tk.map kt=K){o e:PM lA}{n:Nat}
include hK
theorem zco:∀(l acc:List lA) (n:Nat) (R:List nF),(∀y∈l,tK K e 1 (iE y) y)->K.drop n=bF false (mE l)++R->Qt 1 R->Bi tk e l.length acc n=.ok (acc++l) (n+(bF false (mE l)).length)
 | [],acc,n,R,_,_,_=>by
  show PR.ok acc n=_
  grind [mE,bF]
 | y::l,acc,n,R,h,hd,hR=>by
  have hd:K.drop n=(4,[44])::(iE y++(bF false (mE l)++R)):=by grind [mE,bF]
  have hq:Qt 1 (bF false (mE l)++R):=by
   cases l with
   | nil=>grind [mE,bF]
   | cons z l=>rw[mE,bF];exact Ec (by decide)
  show(pH tk [44] n).bind _=_
  rw[Fc hK (oH hd) (.inr rfl)]
  show(e (n+1)).bind _=_
  rw[h y yby (n+1) _ (xK hd) hq]
  show Bi tk e l.length (acc++[y]) (n+1+(iE y).length)=_
  rw[zco l (acc++[y]) _ R (fun z hz=>h z (ybr _ hz)) (dN (xK hd)) hR,mE,bF]
  grind
theorem zbg:∀(j:Nat) (l acc:List lA) (n:Nat) (R:List nF),l.length<=j->(l.length<j->∃R',R=(4,[41])::R')->(∀y∈l,tK K e 1 (iE y) y)->K.drop n=bF false (mE l)++R->Qt 1 R->kV tk e j acc n=.ok (acc++l) (n+(bF false (mE l)).length)
 | 0,l,acc,n,R,hj,_,_,_,_=>by
  have:l=[]:=List.eq_nil_of_length_eq_zero (by omega)
  subst this;show PR.ok acc n=_
  grind [mE,bF]
 | j+1,[],acc,n,R,_,h1,_,hd,_=>by
  obtain⟨R',rfl⟩:=h1 (by simp)
  rw[mE,bF]at hd ⊢
  unfold kV;rw[jJ hK (oH (show K.drop n=(4,[41])::R' from hd)) (by decide)]
  simp
 | j+1,y::l,acc,n,R,hj,h1,h,hd,hR=>by
  have hd:K.drop n=(4,[44])::(iE y++(bF false (mE l)++R)):=by grind [mE,bF]
  have hq:Qt 1 (bF false (mE l)++R):=by
   cases l with
   | nil=>grind [mE,bF]
   | cons z l=>rw[mE,bF];exact Ec (by decide)
  unfold kV;rw[yU hK (oH hd) (.inr rfl),yab rfl,h y yby (n+1) _ (xK hd) hq]
  show kV tk e j (acc++[y]) (n+1+(iE y).length)=_
  rw[zbg j l (acc++[y]) _ R (by simp_all) (fun hl=>h1 (by simp_all)) (fun z hz=>h z (ybr _ hz)) (dN (xK hd)) hR,mE,bF]
  grind
theorem zou{i:Nat}(h1:1<=i)(h2:i<=6)(h:K[n]?=some (1,jK i)):aN tk lM 6 6 1 n=.ok i (n+1):=by
 have:i=1\/i=2\/i=3\/i=4\/i=5\/i=6:=by omega
 clear h1 h2
 have hy:acc tk (jK i) n=true:=yU hK h (.inl rfl)
 have hn:∀w,jK i≠w->acc tk w n=false:=fun w hw=>jJ hK h hw
 rcases this with rfl | rfl | rfl | rfl | rfl | rfl
 ·have hy:acc tk (lM 1) n=true:=hy
  simp[aN,hy]
 ·have hy:acc tk (lM 2) n=true:=hy
  grind [aN,lM]
 ·have hy:acc tk (lM 3) n=true:=hy
  grind [aN,lM]
 ·have hy:acc tk (lM 4) n=true:=hy
  grind [aN,lM]
 ·have hy:acc tk (lM 5) n=true:=hy
  grind [aN,lM]
 ·have hy:acc tk (lM 6) n=true:=hy
  grind [aN,lM]
def cfOf (op:Nat):CF:=⟨(bA op).word,op,(bA op).named,(bA op).least,(bA op).most⟩
omit hK in
def DO:∀ {op:Nat},op∈Fg->(fZ.find? fun f=>qF (bA op).word f.word)=some (cfOf op)/\mO (bA op).word=false/\(bA op).word∉Oi/\1<=(bA op).least/\(bA op).least<=(bA op).most/\(op=19->(bA op).most=(bA op).least):=by
 intro op h;simp only[Fg,ybs,List.not_mem_nil,or_false]at h;rcases h with rfl | rfl | rfl | rfl | rfl | rfl | rfl | rfl | rfl | rfl | rfl | rfl<;>exact⟨by kernel_rfl,by kernel_rfl,by decide +kernel,by decide +kernel,by decide +kernel,by decide +kernel⟩
omit hK in
theorem zqq (hw:K[n]?=some (1,(bA op).word))(hK:tk.map kt=K)(h:op∈Fg):fN tk o n=restP tk (iR tk o) (cfOf op) (n+1):=by
 obtain⟨h1,h2,h3,_⟩:=DO h
 have ne:∀u∈Oi,(bA op).word≠u:=fun u hu e=>h3 (e ▸ hu)
 unfold fN;rw[Le hK hw (by decide) (by
  intro hm;simp only[ybs,List.not_mem_nil,or_false]at hm;rcases hm with e | e | e | e<;>exact ne _ (by decide) e)]
 show(if acc tk [40] n=true then _ else _)=_
 have hn:nT tk n=false:=by
  unfold nT;rw[Rt hK hw,h2,yay]
 have h40:acc tk [40] n=false:=jJ hK hw (by
  intro e;rw[e]at h1
  cases h1)
 rw[h40,jJ hK hw (ne Iz (by decide)),jJ hK hw (ne Dj (by decide)),jJ hK hw (ne Di (by decide)),hn]
 have hf:(fZ.find? fun f=>acc tk f.word n)=some (cfOf op):=by
  grind [Qr]
 show gZ tk (iR tk o) n=_
 unfold gZ;rw[hf];rfl
def zot {R:List nF}(hw:mO w=true)(hd:K.drop n=(1,w)::(4,[44])::R):(kU tk n).bind (fun w n2=>(pH tk [44] n2).bind fun _ n3=>.ok w n3)=.ok w (n+2):=by
 rw[JV hK (oH hd) hw]
 show(pH tk [44] (n+1)).bind _=_
 rw[Fc hK (oH (xK hd)) (.inr rfl)]
 rfl
theorem zqp {name:List Nat} {args:List lA}{k:Nat}(h:op∈Fg)(hh:Ma op name args.length)(hc:bR op v=true)(ha:∀y∈args,tK K (iR tk (xI tk k)) 1 (iE y) y) :
  tK K (xI tk (k+1)) 7 (lT op name v (mE args)) (.mk op name v args):=by
 intro n R hd hR;obtain⟨f1,_⟩:=CG op h
 obtain⟨c1,c2,c3,c4,c5,c6⟩:=DO h
 obtain⟨v1,v2⟩:=Lf hc
 have hlo:=hh.lo
 have hhi:=hh.hi
 have e0:lT op name v (mE args)=(1,(bA op).word)::(4,[40])::((if (bA op).named then [(1,name),(4,[44])]else [])++(bF true (mE args)++sO op v.i)):=by
  grind [lT]
 rw[e0]at hd ⊢
 have hd:K.drop n=(1,(bA op).word)::(4,[40])::((if (bA op).named then [(1,name),(4,[44])]else [])++(bF true (mE args)++(sO op v.i++R))):=by grind
 obtain⟨y,l1,l2,rfl,hl1⟩:∃y l1 l2,args=y::(l1++l2)/\l1.length=(bA op).least-1:=by
  cases args with
  | nil=>grind
  | cons y l=>
   refine⟨y,l.take ((bA op).least-1),l.drop ((bA op).least-1),by rw[List.take_append_drop],?_⟩
   grind
 show fN tk (xI tk k) n=_
 rw[zqq (oH hd) hK h]
 unfold restP;have hd2:=xK hd
 rw[Fc hK (oH hd2) (.inr rfl)]
 have hd3:=xK hd2
 generalize hpre:(if (bA op).named=true then [(1,name),(4,[44])]else []:List nF)=pre at hd3 ⊢
 have hnm:(if (cfOf op).named then(kU tk (n+1+1)).bind fun w n2=>(pH tk [44] n2).bind fun _ n3=>.ok w n3 else .ok [] (n+1+1):PR (List Nat))=.ok name (n+1+1+pre.length):=by
  show(if (bA op).named then _ else _)=_
  cases hn:(bA op).named with
  | true=>
   rw[hn]at hpre;subst hpre;exact zot hK (hh.nm hn) hd3
  | false=>
   rw[hn]at hpre;subst hpre;rw[hh.no hn];rfl
 show PR.bind (if (cfOf op).named then _ else _) _=_
 rw[hnm];have hd4:=dN hd3
 have harg:bF true (mE (y::(l1++l2)))=iE y++(bF false (mE l1)++bF false (mE l2)):=by
  have happ:∀a b:List lA,bF false (mE (a++b))=bF false (mE a)++bF false (mE b):=by
   intro a b;induction a with
   | nil=>grind [mE,bF]
   | cons z a ih=>grind [mE,bF]
  grind [mE,bF]
 rw[harg,ybz,ybz]at hd4;have hT:∃r,sO op v.i++R=(4,[44])::r\/sO op v.i++R=(4,[41])::r:=by
  grind [sO]
 have qT:Qt 1 (sO op v.i++R):=by
  obtain⟨r,e | e⟩:=hT <;> (rw[e];exact Ec (by decide))
 have qA:∀l:List lA,∀R,Qt 1 R->Qt 1 (bF false (mE l)++R):=fun l R h=>by
  cases l with
  | nil=>grind [mE,bF]
  | cons z l=>rw[mE,bF];exact Ec (by decide)
 show(iR tk (xI tk k) (n+1+1+pre.length)).bind _=_
 rw[ha y yby _ _ hd4 (qA _ _ (qA _ _ qT))]
 have hd5:=dN hd4
 show(Bi tk _ ((bA op).least-1) [y] _).bind _=_
 rw[<- hl1,zco hK l1 [y] _ _ (fun z hz=>ha z (ybr _ (ydc _ hz))) hd5 (qA _ _ qT)]
 have hd6:=dN hd5
 show(kV tk _ ((bA op).most-(bA op).least) ([y]++l1) _).bind _=_
 simp only[ybn,ybg]at hhi hlo;rw[zbg hK _ l2 ([y]++l1) _ _ (by omega) (fun hlt=>by
  have h9:op≠19:=fun e=>by omega
  grind [sO]) (fun z hz=>ha z (ybr _ (ycf _ hz))) hd6 qT]
 have hd7:=dN hd6
 generalize hN:n+1+1+pre.length+(iE y).length+(bF false (mE l1)).length+(bF false (mE l2)).length=N at hd7 ⊢
 have hlen:N+(sO op v.i).length=n+((1,(bA op).word)::(4,[40])::(pre++(bF true (mE (y::(l1++l2)))++sO op v.i))).length:=by
  grind
 by_cases h9:op=19
 ·obtain⟨m1,m2⟩:=v2 h9
  have ht:sO op v.i=[(4,[44]),(1,jK v.i.toNat),(4,[41])]:=by grind [sO]
  rw[ht]at hd7 hlen;show PR.bind (if op=19 then _ else _) _=_
  rw[yab h9,Fc hK (oH hd7) (.inr rfl)]
  show(aN tk lM 6 6 1 (N+1)).bind _=_
  rw[zou hK m1 m2 (oH (xK hd7))]
  show(pH tk [41] (N+1+1)).bind _=_
  rw[Fc hK (oH (xK (xK hd7))) (.inr rfl),ht,<- hlen]
  show PR.ok (lA.mk op name ⟨0,mJ,((v.i.toNat:Nat):Int)⟩ ([y]++l1++l2)) _=_
  rw[yab h9]at v1;rw[<- v1];rfl
 ·have ht:sO op v.i=[(4,[41])]:=by grind [sO]
  rw[ht]at hd7 hlen;show PR.bind (if op=19 then _ else _) _=_
  rw[yaa h9];show(pH tk [41] N).bind _=_
  rw[Fc hK (oH hd7) (.inr rfl),ht,<- hlen]
  show PR.ok (lA.mk op name ⟨0,mJ,((0:Nat):Int)⟩ ([y]++l1++l2)) _=_
  simp_all
end
end
end Go.Proofs
