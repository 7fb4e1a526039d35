/- The lexer: words, dates, numbers. -/
import Derived.Test.YtefajchlhjcgpaaGreatDoorB23
set_option linter.all false
noncomputable section
set_option maxRecDepth 100000
namespace Go.Proofs
open Go Go.Am
variable [rC]
section
variable {t:Tr tA}{Q:mB}{s:List Nat}
theorem nK(s:List Nat):(Int.ofNat (aA s))=(s.length:Int):=by rw[lD];rfl
def GK(hs:s.length<4000000000000000000):lB yA F 120 [.str s,.func (.func 169) [] []] t=some (.str (iE bE s)):=by
 refine kC.2 (w120 ?_)
 simp only[uZ,t120,oA];exact Ql (fun n=>Nc) (fun {a m R}=>by rw[q169]) rfl hs s.length 0 (by omega) (fun j x hj=>by omega)
theorem zez{n:Nat}:lB yA F 175 [.int .u8 (n:Int)] t=some (.bool (decide (n≠10))):=by
 refine kC.2 (w175 ?_)
 unfold t175;refine⟨?_,rfl⟩
 rw[lE];congr 1
 grind
def zek(hs:s.length<4000000000000000000):lB yA F 120 [.str s,.func (.func 175) [] []] t=some (.str (iE (fun x=>decide (x≠10)) s)):=by
 refine kC.2 (w120 ?_)
 simp only[uZ,t120,oA];exact Ql (fun n=>zez) (fun {a m R}=>by rw[q175]) rfl hs s.length 0 (by omega) (fun j x hj=>by omega)
theorem Xq(p:Nat->Bool)(s:List Nat):(iE p s).length<=s.length:=(List.takeWhile_sublist _).length_le
theorem zax(p:Nat->Bool)(s:List Nat):iE p s=s.take (iE p s).length:=by
 unfold iE;induction s with
 | nil=>rfl
 | cons a s ih=>
  grind [List.takeWhile_cons]
theorem RN(hs:s.length<4000000000000000000):lB yA F 225 [.str s] t=some (.tup [.str (if 24<(iE mL s).length then []else iE mL s),.int .i64 (if 24<(iE mL s).length then 111 else 0)]):=by
 refine kC.2 (w225 ?_)
 unfold t225 uS;refine xB ?_
 rw[q120,GH hs,vA];refine eD ?_
 rw[nK];by_cases h:24<(iE mL s).length
 ·rw[yab h,yab h]
  exact pA (by grind [dC]) ⟨rfl,rfl⟩
 ·rw[yaa h,yaa h]
  exact zB (by grind [dC]) ⟨rfl,rfl⟩
theorem HX:lB yA F 261 [.str s] t=some (.bool (kR s)):=by
 refine kC.2 (w261 ?_)
 unfold t261;rw[nK];unfold kR;by_cases h:1<s.length
 ·cases s with
  | nil=>simp at h
  | cons x r=>
   have hx:=lK (s:=x::r) (i:=0) (x:=x) rfl
   refine pA (by grind [dC]) (rA hx (rB ⟨?_,rfl⟩))
   rw[lE,decide_eq_true h];congr 1
   grind
 ·refine zB (by grind [dC]) ⟨?_,rfl⟩
  simp[h]
theorem zgo:lB yA F 226 [.str s] t=some (.bool (mP s)):=by
 have loop:10<=s.length->∀(k i:Nat),i+k=10->jp 226 2 [.str s,.int .i64 (i:Int)] t (fun v t'=>v=.bool (((List.range 10).drop i).all fun i=>lP i (s.getD i 0))/\t'=t):=by
  intro hl k;induction k with
  | zero=>
   intro i hi;refine zi6 ?_
   unfold Wg uQ19 gG;refine zB (by grind [dC]) ⟨?_,rfl⟩
   grind [List.drop_eq_nil_of_le]
  | succ k ih=>
   intro i hi;have hx:s[i]?=some s[i]:=ybd (by omega)
   have hd:s.getD i 0=s[i]:=by grind
   have e:((List.range 10).drop i).all (fun i=>lP i (s.getD i 0))=(lP i s[i]&&((List.range 10).drop (i+1)).all fun i=>lP i (s.getD i 0)):=by
    grind [List.drop_eq_getElem_cons]
   have e3:vC (i:Int)=.int .i64 ((i+1:Nat):Int):=by
    show zA.int .i64 (fA .i64 ((i:Int)+1))=_
    rw[wrap_i64 (by omega) (by omega)];rfl
   have next:lP i s[i]=true->jp 226 2 [.str s,vC (i:Int)] t (fun v t'=>v=.bool (((List.range 10).drop i).all fun i=>lP i (s.getD i 0))/\t'=t):=fun h=>by
    rw[e,h,ycn,e3];grind
   have sep:(i=4\/i=7)->wp 226 (uQ19 s (i:Int)) t (fun v t'=>v=.bool (((List.range 10).drop i).all fun i=>lP i (s.getD i 0))/\t'=t):=fun h47=>by
    unfold uQ19 uU bB;refine rA (lK hx) (rB ?_)
    have hda:lP i s[i]=decide (s[i]=45):=by unfold lP;rw[yab h47]
    by_cases h45:s[i]=45
    ·grind [zB,lE,jC]
    ·refine pA (by grind [lE]) ⟨?_,rfl⟩
     simp_all
   refine zi6 ?_
   unfold Wg uQ19 uU uB bB;refine pA (by grind [dC]) ?_
   by_cases h4:i=4
   ·exact pA (by grind [lE]) (sep (.inl h4))
   refine zB (by grind [lE]) ?_
   by_cases h7:i=7
   ·exact pA (by grind [lE]) (sep (.inr h7))
   refine zB (by grind [lE]) (rA (lK hx) (rB (xB ?_)))
   rw[q169];show oD (lB yA F 169 [.int .u8 (s[i]:Int)] t) _
   rw[Nc,vA];have hda:lP i s[i]=bE s[i]:=by unfold lP;rw[yaa (by omega)]
   refine sD ?_
   cases hb:bE s[i]with
   | true=>grind [zB,jC]
   | false=>
    refine pA rfl ⟨?_,rfl⟩
    simp_all
 refine kC.2 (w226 ?_)
 unfold t226 bB;rw[nK];unfold mP;by_cases h:10<=s.length
 ·refine zB (by grind [dC]) (jC ?_)
  rw[decide_eq_true h,ycn];exact loop h 10 0 rfl
 ·refine pA (by grind [dC]) ⟨?_,rfl⟩
  grind
theorem YE(h:mP s=true):mP (s.take 10)=true/\(s.take 10).length=10:=by
 grind [mP]
theorem YF(hg:bK t)(hd:mP s=true):lB yA F 227 [.str s] t=some (.tup [.str (if bU s then []else s.take 10),.int .i64 (if bU s then 113 else 0)]):=by
 obtain⟨h1,h2⟩:=YE hd
 have hl:10<=s.length:=by grind
 have tail:(decide (10<s.length)&&sY s 10)=false->wp 227 (uQ6 s) t fun v' t'=>v'=.tup [.str (if bU s then []else s.take 10),.int .i64 (if bU s then 113 else 0)]/\t'=t:=by
  intro hf;have hb:bU s=decide (Ba (s.take 10)=none):=by unfold bU;rw[hf,Bool.false_or]
  unfold uQ6 uS uI;have hs:=pZ (s:=s) (k:=10) (by omega)
  refine rA hs (eD (xB ?_))
  rw[q138,OQ hg h2 h1,vA];refine rA rfl (rB (rA rfl (rB ?_)))
  rw[hb]
  cases hx:Ba (s.take 10)with
  | none=>exact pA (by decide) ⟨rfl,rfl⟩
  | some n=>exact zB (fun h=>by cases h) (rA hs (eD ⟨rfl,rfl⟩))
 refine kC.2 (w227 ?_)
 unfold t227 uQ6 uU uB;rw[nK];by_cases h10:10<s.length
 ·have hx:s[10]?=some s[10]:=ybd h10
  refine pA (by grind [dC]) (rA (lK hx) (rB (xB ?_)))
  rw[q121];show oD (lB yA F 121 [.int .u8 (s[10]:Int)] t) _
  rw[AF,vA];refine sD ?_
  have hf:sY s 10=mL s[10]:=by unfold sY;rw[hx]
  cases hb:mL s[10]with
  | true=>
   refine pA rfl ⟨?_,rfl⟩
   grind [bU]
  | false=>
   refine zB (by simp) (tail ?_)
   rw[hf,hb,yay]
 ·exact zB (by grind [dC]) (tail (by grind))
theorem zbg(hs:s.length<1000000):lB yA F 228 [.str s] t=some (.tup [.str (if iN s then []else s.take (kH s)),.int .i64 (if iN s then 112 else 0)]):=by
 have hfl:=Xq bE s
 have hfirst:(xF s).length<=s.length:=hfl
 have hsecond:(xF s).length+1+(bH s).length<=s.length\/bH s=[]:=by
  grind [bH,Xq]
 have hnl:kH s<=s.length:=by
  grind [kH]
 have tail:decide (200<kH s)=false->sY s (kH s)=false->wp 228 (uQ11 (xF s) (bH s) s (kH s:Int)) t fun v' t'=>v'=.tup [.str (if iN s then []else s.take (kH s)),.int .i64 (if iN s then 112 else 0)]/\t'=t:=by
  intro h1 h2;have hb:iN s=(kR (xF s)||kR (bH s)||decide (bH s=[48])):=by unfold iN;rw[h1,h2,Bool.false_or,Bool.false_or]
  unfold uQ11 uB uS;refine xB ?_
  rw[q261,HX,vA];refine sD ?_
  cases p1:kR (xF s)with
  | true=>rw[hb,p1];exact pA rfl ⟨rfl,rfl⟩
  | false=>
   refine zB (by simp) (xB ?_)
   rw[q261,HX,vA];refine sD ?_
   cases p2:kR (bH s)with
   | true=>rw[hb,p1,p2];exact pA rfl ⟨rfl,rfl⟩
   | false=>
    refine zB (by simp) ?_
    rw[hb,p1,p2]
    cases p3:wG (bH s) [48]with
    | true=>
     rw[decide_eq_true ((gK _ _).1 p3)]
     exact pA rfl ⟨rfl,rfl⟩
    | false=>
     rw[decide_eq_false fun e=>by grind [gK]];exact zB (by simp) (rA (pZ hnl) (eD ⟨rfl,rfl⟩))
 have p17:jp 228 17 [.str s,.str (xF s),.int .i64 (kH s:Int),.str (bH s)] t fun v' t'=>v'=.tup [.str (if iN s then []else s.take (kH s)),.int .i64 (if iN s then 112 else 0)]/\t'=t:=by
  refine zmp ?_
  unfold EJ uQ11 uU uB;rw[nK];by_cases h:kH s<s.length
  ·have hx:s[kH s]?=some s[kH s]:=ybd h
   refine pA (by grind [dC]) (rA (lK hx) (rB (xB ?_)))
   rw[q121];show oD (lB yA F 121 [.int .u8 (s[kH s]:Int)] t) _
   rw[AF,vA];refine sD ?_
   have hf:sY s (kH s)=mL s[kH s]:=by unfold sY;rw[hx]
   by_cases h2:200<kH s
   ·refine pA (by grind [dC]) ⟨?_,rfl⟩
    grind [iN]
   ·refine zB (by grind [dC]) ?_
    cases hb:mL s[kH s]with
    | true=>
     refine pA rfl ⟨?_,rfl⟩
     grind [iN]
    | false=>exact zB (by simp) (tail (decide_eq_false h2) (by rw[hf,hb]))
  ·have hf:sY s (kH s)=false:=by unfold sY;rw[List.getElem?_eq_none (by omega)]
   refine zB (by grind [dC]) ?_
   by_cases h2:200<kH s
   ·refine pA (by grind [dC]) ⟨?_,rfl⟩
    grind [iN]
   ·exact zB (by grind [dC]) (tail (decide_eq_false h2) hf)
 have p13:jp 228 13 [.str s,.str (xF s),.int .i64 ((xF s).length:Int),.str (bH s)] t fun v' t'=>v'=.tup [.str (if iN s then []else s.take (kH s)),.int .i64 (if iN s then 112 else 0)]/\t'=t:=by
  refine zmq ?_
  unfold EK;grind [gK,zB,jC,kH,pA,nK,wrap_i64]
 refine kC.2 (w228 ?_)
 unfold t228 uU uS;refine xB ?_
 rw[q120,GK (by omega),vA]
 refine eD ?_
 rw[nK,nK];show wp 228 (.ite (jB ((xF s).length:Int) (s.length:Int)) _ (.jump 13 [.str s,.str (xF s),uZ ((xF s).length:Int),.str []])) t _
 by_cases h:(xF s).length<s.length
 ·have hx:s[(xF s).length]?=some s[(xF s).length]:=ybd h
  refine pA (by grind [dC]) (rA (lK hx) (rB ?_))
  by_cases h47:s[(xF s).length]=47
  ·have e:uW (((iE bE s).length:Int)+1)=(((xF s).length+1:Nat):Int):=by
    grind [xF,wrap_i64]
   have h2:bH s=iE bE (s.drop ((xF s).length+1)):=by unfold bH;rw[yab (by rw[hx,h47])]
   refine pA (by grind [lE]) ?_
   rw[e];refine rA (Er (by omega)) (eD (xB ?_))
   rw[q120,GK (by grind),vA,<- h2]
   exact eD (jC p13)
  ·have h2:bH s=[]:=by unfold bH;rw[yaa (by simp_all)]
   refine zB (by grind [lE]) (jC ?_)
   rw[h2]at p13;exact p13
 grind [zB,dC,jC]
end
end Go.Proofs
namespace Go.Proofs
open Go Go.Am
section
variable {b:Nat}
variable [rC]
theorem zfu(c:Nat):∀s:List Nat,(jU c s).isSome=s.contains c:=by
 intro s;induction s with
 | nil=>rfl
 | cons x r ih=>
  rw[List.contains_cons,<- ih];have e:jU c (x::r)=bif Nat.beq x c then some 0 else ob (jU c r) fun n=>some (n+1):=rfl
  rw[e]
  cases h:Nat.beq x c with
  | true=>simp_all
  | false=>
   have:¬ c=x:=fun e=>by simp_all
   have h2:(c == x)=false:=by grind
   rw[cond_false,h2,Bool.false_or]
   cases jU c r<;>rfl
abbrev fH(sp:Nat)(src:List Nat)(ln cl off:Nat):pF:=aC sp none [.int .i64 (ln:Int),.int .i64 (cl:Int),.str src,.int .i64 (off:Int)]
section
variable {tf t:Tr tA}{A B:List pF}{Q:mB}{sp ln cl off:Nat}{src:List Nat}
def g0  : pC yA 239 0 (.ptr b 0)=some (.ptr b 0):=by kernel_rfl
def g1  : pC yA 239 1 (.ptr b 0)=some (.ptr b 2):=by kernel_rfl
def g2  : pC yA 239 2 (.ptr b 0)=some (.ptr b 3):=by kernel_rfl
def p0  : pC yA 39 0 (.ptr b 0)=some (.ptr b 0):=by kernel_rfl
def p1  : pC yA 39 1 (.ptr b 0)=some (.ptr b 1):=by kernel_rfl
def zh9(h:yB yA.base tf t (A++fH sp src ln cl off::B)):iA yA 9 ⟨0,t⟩ (.ptr sp 2)=some (.str src):=(yB.cel h).load1 yL rfl rfl
def Lm(h:yB yA.base tf t (A++fH sp src ln cl off::B)):iA yA 3 ⟨0,t⟩ (.ptr sp 3)=some (.int .i64 (off:Int)):=(yB.cel h).load1 iJ rfl rfl
def sc_ln(h:yB yA.base tf t (A++fH sp src ln cl off::B)):iA yA 3 ⟨0,t⟩ (.ptr sp 0)=some (.int .i64 (ln:Int)):=(yB.cel h).load1 iJ rfl rfl
def sc_cl(h:yB yA.base tf t (A++fH sp src ln cl off::B)):iA yA 3 ⟨0,t⟩ (.ptr sp 1)=some (.int .i64 (cl:Int)):=(yB.cel h).load1 iJ rfl rfl
theorem sc_pl(h:yB yA.base tf t (A++fH sp src ln cl off::B)):iA yA 39 ⟨0,t⟩ (.ptr sp 0)=some (.agg [.int .i64 (ln:Int),.int .i64 (cl:Int)]):=by
 have:=(yB.cel h).at.load (j:=0) (n:=2) bS rfl rfl (by simp)
 simp_all
theorem Ll{ln' cl' off' j:Nat}{x:Nat}(h:yB yA.base tf t (A++fH sp src ln cl off::B))(hj:j<4)(he:yM [.int .i64 (ln:Int),.int .i64 (cl:Int),.str src,.int .i64 (off:Int)] j [.int .i64 (x:Int)]=[.int .i64 (ln':Int),.int .i64 (cl':Int),.str src,.int .i64 (off':Int)]) :
  ∃t',(∀q,sC yA 3 (.ptr sp j) (.int .i64 (x:Int)) ⟨q,t⟩=some (pD,⟨q,t'⟩))/\yB yA.base tf t' (A++fH sp src ln' cl' off'::B):=by
 obtain⟨t',h1,h2⟩:=yB.setCel (j:=j) (v:=.int .i64 (x:Int)) h iJ rfl (by show j+1<=4;omega) rfl
 refine⟨t',h1,?_⟩
 have:(zA.int .i64 (x:Int)).cells=[.int .i64 (x:Int)]:=rfl
 simp_all
def Hu(h:yB yA.base tf t (A++fH sp src ln cl off::B))(ho:off<=src.length):lB yA F 174 [.ptr sp 0] t=some (.str (src.drop off)):=by
 refine kC.2 (w174 ?_)
 unfold t174 uI uS oC;exact rA nl (rA g1 (aB (zh9 h) (eD (rA nl (rA g2 (aB (Lm h) (rB (rA (Er ho) (eD ⟨rfl,rfl⟩)))))))))
theorem FJ{n:Nat}(h:yB yA.base tf t (A++fH sp src ln cl off::B))(h1:off+n<1000000)(h2:cl+n<1000000)(hQ:∀t',yB yA.base tf t' (A++fH sp src ln (cl+n) (off+n)::B)->Q (.tup []) t'):Wc yA F 173 [.ptr sp 0,.int .i64 (n:Int)] t Q:=by
 refine w173 ?_
 unfold t173 uI oC;have e1:uW ((off:Int)+(n:Int))=((off+n:Nat):Int):=by grind [wrap_i64]
 have e2:uW ((cl:Int)+(n:Int))=((cl+n:Nat):Int):=by grind [wrap_i64]
 refine rA nl (rA g2 (aB (Lm h) (rB (rA nl (rA g2 (gC fun b _ _=>?_))))))
 rw[e1];obtain⟨t1,k1,k2⟩:=Ll (j:=3) (x:=off+n) (ln':=ln) (cl':=cl) (off':=off+n) h (by omega) rfl
 refine⟨_,_,k1 b,rA nl (rA g0 (rA p1 (aB (sc_cl k2) (rB (rA nl (rA g0 (rA p1 (gC fun b _ _=>?_))))))))⟩
 rw[e2];obtain⟨t2,m1,m2⟩:=Ll (j:=1) (x:=cl+n) (ln':=ln) (cl':=cl+n) (off':=off+n) k2 (by omega) rfl
 exact⟨_,_,m1 b,hQ t2 m2⟩
theorem VZ(h:yB yA.base tf t (A++fH sp src ln cl off::B))(h1:off<900000)(h2:ln<900000)(hQ:∀t',yB yA.base tf t' (A++fH sp src (ln+1) 1 (off+1)::B)->Q (.tup []) t'):Wc yA F 172 [.ptr sp 0] t Q:=by
 refine w172 ?_
 unfold t172 uI oC;have e:∀n:Nat,n<900000->vC (n:Int)=.int .i64 ((n+1:Nat):Int):=fun n hn=>by
  grind [wrap_i64]
 refine rA nl (rA g2 (aB (Lm h) (rB (rA nl (rA g2 (gC fun b _ _=>?_))))))
 rw[e off h1];obtain⟨t1,k1,k2⟩:=Ll (j:=3) (x:=off+1) (ln':=ln) (cl':=cl) (off':=off+1) h (by omega) rfl
 refine⟨_,_,k1 b,rA nl (rA g0 (rA p0 (aB (sc_ln k2) (rB (rA nl (rA g0 (rA p0 (gC fun b _ _=>?_))))))))⟩
 rw[e ln h2];obtain⟨t2,m1,m2⟩:=Ll (j:=0) (x:=ln+1) (ln':=ln+1) (cl':=cl) (off':=off+1) k2 (by omega) rfl
 refine⟨_,_,m1 b,rA nl (rA g0 (rA p1 (gC fun b _ _=>?_)))⟩
 obtain⟨t3,n1,n2⟩:=Ll (j:=1) (x:=1) (ln':=ln+1) (cl':=1) (off':=off+1) m2 (by omega) rfl
 exact⟨_,_,n1 b,hQ t3 n2⟩
theorem DL{s w:List Nat}{k:Nat}(h:rH s=.tok k w):w.length<=s.length/\w=s.take w.length:=by
 cases s with
 | nil=>cases h
 | cons b r=>
  grind [rH,zax]
theorem zd0(hg:bK tf)(h:yB yA.base tf t (A++fH sp src ln cl off::B))(hoff:off<src.length)(hlen:src.length<=65536)(hcl:cl<200000)(hby:∀b∈src,b<256)
  (hQ:∀t',match rH (src.drop off)with
   | .bad e=>yB yA.base tf t' (A++fH sp src ln cl off::B)->Q (.tup [.agg [.int .u8 0,.str [],.int .i64 (ln:Int),.int .i64 (cl:Int)],.int .i64 (e:Int)]) t'
   | .tok k w=>yB yA.base tf t' (A++fH sp src ln (cl+w.length) (off+w.length)::B)->Q (.tup [.agg [.int .u8 (k:Int),.str w,.int .i64 (ln:Int),.int .i64 (cl:Int)],.int .i64 0]) t'):Wc yA F 176 [.ptr sp 0] t Q:=by
 have hgt:=hg.mono h.tle
 have hx:src[off]?=some src[off]:=ybd hoff
 have hdrop:src.drop off=src[off]::src.drop (off+1):=ybl hoff
 have hb256:=hby src[off] (ycj _)
 have hdl:(src.drop off).length<=65536:=by grind
 have j37:∀(k e:Nat) (w:List Nat),(e≠0->rH (src.drop off)=.bad e)->(e=0->rH (src.drop off)=.tok k w)->jp 176 37 [.ptr sp 0,.int .u8 (k:Int),.str w,.int .i64 (e:Int),.int .u8 0,.str [],.int .i64 0,.int .i64 0,.int .i64 (ln:Int),.int .i64 (cl:Int)] t Q:=by
  intro k e w h1 h2;refine zms ?_
  unfold EM;by_cases h0:e=0
  ·have ht:=h2 h0
   subst h0;refine zB (by decide) (xB ?_)
   rw[q173,nK];obtain⟨l1,_⟩:=DL ht
   rw[ydj]at l1;refine FJ h (by omega) (by omega) fun t' h'=>pA rfl (pA rfl ?_)
   have:=hQ t'
   rw[ht]at this;exact this h'
  ·have ht:=h1 h0
   refine pA (by grind [lE]) (pA rfl (pA rfl ?_))
   have:=hQ t
   rw[ht]at this;exact this h
 have hq1:vS src[off]=false->(bE src[off]=true->mP (src.drop off)=false)->wp 176 (uQ2 (src[off]:Int) (.ptr sp 0) (cellsOf [.int .i64 (ln:Int),.int .i64 (cl:Int)])) t Q:=by
  intro hl hd;unfold uQ2 uB uS uI;refine xB ?_
  rw[q169];show oD (lB yA F 169 [.int .u8 (src[off]:Int)] t) _
  rw[Nc,vA];refine sD ?_
  cases hdg:bE src[off]with
  | true=>
   have hda:=hd hdg
   refine pA rfl (xB ?_)
   rw[q174,Hu h (by omega),vA]
   refine eD (xB ?_)
   rw[q228,zbg (by omega),vA]
   have ht:rH (src.drop off)=if iN (src.drop off)then .bad 112 else .tok 2 ((src.drop off).take (kH (src.drop off))):=by
    grind [rH]
   refine rA rfl (eD (rA rfl (rB (jC ?_))))
   cases hb:iN (src.drop off)with
   | true=>exact j37 2 112 [] (fun _=>by grind) (fun e=>by cases e)
   | false=>exact j37 2 0 _ (fun e=>absurd rfl e) (fun _=>by grind)
  | false=>
   refine zB (by simp) (xB ?_)
   have hgp:yA.prims.get 229=some (rL Mb):=by kernel_rfl
   have hix:lB yA F 229 [.str [40,41,44,43,45,42,47,60,61],.int .u8 (src[off]:Int)] t=some (.int .i64 (match jU src[off] [40,41,44,43,45,42,47,60,61]with | some n=>.ofNat n | none=>.negSucc 0)):=by
    refine Fdzx hgp fun H=>?_
    show wB (Nat.blt src[off] 256) _=_
    rw[nC.2 hb256];rfl
   rw[q229];show oD (lB yA F 229 [.str [40,41,44,43,45,42,47,60,61],.int .u8 (src[off]:Int)] t) _
   rw[hix,vA];refine rB ?_
   have hsg:Iu src[off]=(jU src[off] [40,41,44,43,45,42,47,60,61]).isSome:=by rw[zfu];rfl
   have ht:rH (src.drop off)=if Iu src[off]then .tok 4 [src[off]]else .bad 110:=by
    grind [rH]
   cases hi:jU src[off] [40,41,44,43,45,42,47,60,61]with
   | some n=>
    refine pA (by grind [jQ]) (xB ?_)
    rw[q174,Hu h (by omega),vA]
    have hs1:=pZ (s:=src.drop off) (k:=1) (by grind)
    refine eD (rA hs1 (eD (jC ?_)))
    have:(src.drop off).take 1=[src[off]]:=by grind
    rw[this];exact j37 4 0 _ (fun e=>absurd rfl e) (fun _=>by grind)
   | none=>
    refine zB (by decide) (jC ?_)
    exact j37 0 110 _ (fun _=>by grind) (fun e=>by cases e)
 refine w176 ?_
 unfold t176 uQ2 uI uU uB uS uG oC;refine rA nl (rA g0 (aB (sc_pl h) (bC (X:=cellsOf [.int .i64 (ln:Int),.int .i64 (cl:Int)]) (cO rfl) (pA rfl (rA nl (rA g1 (aB (zh9 h) (eD (rA nl (rA g2 (aB (Lm h) (rB (rA (lK hx) (rB (xB ?_)))))))))))))))
 rw[q119];show oD (lB yA F 119 [.int .u8 (src[off]:Int)] t) _
 rw[Sf,vA];refine sD ?_
 cases hl:vS src[off]with
 | true=>
  refine pA rfl (xB ?_)
  rw[q174,Hu h (by omega),vA]
  refine eD (xB ?_)
  rw[q225,RN (by omega),vA]
  have ht:rH (src.drop off)=if 24<(iE mL (src.drop off)).length then .bad 111 else .tok 1 (iE mL (src.drop off)):=by
   grind [rH]
  refine rA rfl (eD (rA rfl (rB (jC ?_))))
  by_cases h24:24<(iE mL (src.drop off)).length
  ·rw[yab h24,yab h24]
   exact j37 1 111 [] (fun _=>by rw[ht,yab h24]) (fun e=>by cases e)
  ·rw[yaa h24,yaa h24]
   exact j37 1 0 _ (fun e=>absurd rfl e) (fun _=>by rw[ht,yaa h24])
 | false=>
  refine zB (by simp) (xB ?_)
  rw[q169];show oD (lB yA F 169 [.int .u8 (src[off]:Int)] t) _
  rw[Nc,vA];refine sD ?_
  cases hdg:bE src[off]with
  | false=>exact zB (by simp) (hq1 hl (fun h=>by grind))
  | true=>
   refine pA rfl (xB ?_)
   rw[q174,Hu h (by omega),vA]
   refine eD (xB ?_)
   rw[q226,zgo,vA];refine sD ?_
   cases hda:mP (src.drop off)with
   | false=>exact zB (by simp) (hq1 hl (fun _=>hda))
   | true=>
    refine pA rfl (xB ?_)
    rw[q174,Hu h (by omega),vA]
    refine eD (xB ?_)
    rw[q227,YF hgt hda,vA];have ht:rH (src.drop off)=if bU (src.drop off)then .bad 113 else .tok 3 ((src.drop off).take 10):=by
     grind [rH]
    refine rA rfl (eD (rA rfl (rB (jC ?_))))
    cases hb:bU (src.drop off)with
    | true=>exact j37 3 113 [] (fun _=>by grind) (fun e=>by cases e)
    | false=>exact j37 3 0 _ (fun e=>absurd rfl e) (fun _=>by grind)
end
end
section
variable {acc:List eC}{v:zA}
variable [rC]
def xH (l:Nat)(r:fM):pF where
 blks:=[l]
 ok:=fun _ t=>t.get l=some (.loop r)
 keep:=fun h _ k=>by simp_all
 live:=fun h k hk=>by simp_all
def el136:Gw yA 136 149 4:=⟨⟨_,aS,rfl,rfl⟩,⟨_,Pq,rfl,rfl,by decide,by decide⟩,fun y h=>by rw[Pq]at h;cases h;rfl⟩
theorem tok_rd{t:Tr tA}(x:eC):RD t x.d x.cs:=by
 simp_all [eC.d,eC.cs,zO,cG,cH]
abbrev iO(a0 a1 a2 a6:Nat)(pl pc e:Nat)(acc:List eC)(v:zA):List pF:=
 [aC a0 none [.nilslice],aC a1 none [.int .i64 (pl:Int),.int .i64 (pc:Int)],aC a2 none [.int .i64 (e:Int)],aC a6 none [v],jO yA.base 4 (acc.map eC.d) v]
section
variable {tf t:Tr tA}{Q:mB}{sp ln cl off a0 a1 a2 a6 l:Nat}{src:List Nat}{r:fM}{L:List pF}
def yB.delLp(h:yB yA.base tf t (L++[xH l r])):yB yA.base tf (t.del l) L:=by
 have h1:=h.low l (by simp[xH])
 have h2:l∉L.flatMap pF.blks:=by
  have:=yB.notin (A:=L) (B:=[]) (o:=xH l r) h (k:=l) (by simp[xH])
  rwa [ycd]at this
 have h3:=yB.drop (A:=L) (B:=[]) (o:=xH l r) h
 rw[ycd]at h3;exact h3.other h2 h1.2 fun c hc=>by rw[Tr.get_del,yaa hc]
theorem yB.setLp(h:yB yA.base tf t L)(hn:t.get l=none)(hb:yA.base<=l):yB yA.base tf (t.set l (.loop r)) (L++[xH l r]):=by
 have:=yB.add (A:=L) (B:=[]) (o':=xH l r) (t':=t.set l (.loop r)) (by rwa [ycd]) (fun k hk=>by rw[Tr.get_set,yaa (fun e=>hk (by simp[xH,e]))]) (fun k hk=>by grind [xH]) (by show(t.set l (.loop r)).get l=_;rw[Tr.get_set,yab rfl]) (by simp[xH]) (h.tle.trans (nO hn _).1)
 exact this
def YldR (l:Nat)(r:fM)(a0 a1 a2 a6:Nat):Prop:=∀args t1 Q1,args.length=2->t1.get l=some (.loop r)->Jq yA F 63 2 ([.ptr a0 0,.ptr a1 0,.ptr a2 0,.ptr a6 0]++args) (t1.del l) (fun v t2=>t2.get l=none->∃b,v=.bool b/\Q1 v (t2.set l (.loop (hO b r))))->Wq yA F wD (yo+l) args t1 Q1
def ze2(h1:r.state=.ready)(h2:r.pending=none):hO true r=r:=by
 obtain⟨a,b,c,d,e,f,g,h,i⟩:=r
 have h1:a=.ready:=h1
 have h2:b=none:=h2
 subst h1;subst h2;rfl
theorem Un  {x:eC}(hy:YldR l r a0 a1 a2 a6)(hr1:r.state=.ready)(hr2:r.pending=none)(hlen:acc.length<300000)
  (h:yB yA.base tf t (iO a0 a1 a2 a6 0 0 0 acc v++L++[xH l r])) (hQ:∀tf' t' v',bA tf tf'->yB yA.base tf' t' (iO a0 a1 a2 a6 0 0 0 (acc++[x]) v'++L++[xH l r])->Q (.bool true) t') :
  Wq yA F wD (yo+l) [.agg x.cs,.int .i64 0] t Q:=by
 have hl:t.get l=some (.loop r):=h.ok (xH l r) (by simp)
 have hlb:=(h.low l (by simp[xH])).1
 refine hy _ _ _ rfl hl ?_
 have h1:=yB.delLp h
 refine j63_2 ?_
 unfold zk1;refine pA rfl (zB (by decide) ?_)
 have lv:iA yA 136 ⟨0,t.del l⟩ (.ptr a6 0)=some v:=(yB.cel (A:=[_,_,_]) h1).load1 aS rfl rfl
 refine aB lv (gC fun b hb _=>?_)
 have hf:kL (fun i=>some (i*4,4)) [(0,.agg x.cs)] (xI [.int .u8 0,.str [],.int .i64 0,.int .i64 0] 1)=some [x.cs].flatten:=by
  rw[Nl (sz:=4) (z:=[.int .u8 0,.str [],.int .i64 0,.int .i64 0]) (v:=.agg x.cs) rfl rfl];rfl
 obtain⟨tf1,t1,k1,k2,k3,k4⟩:=litN (C:=yA) (T:=136) (el:=149) (sz:=4) (n:=1) (ds:=[x.d]) (cl:=[x.cs]) (ps:=[(0,.agg x.cs)]) aS rfl Pq rfl rfl (by decide) hf (Md rfl) rfl (cG.2 ⟨_,_,rfl,tok_rd x,cH.2 rfl⟩) h1 hb
 refine⟨_,_,k1,gC fun c hc hcb=>?_⟩
 obtain⟨t2,v2,m1,m2,m3⟩:=yB.append1 (A:=[aC a0 none [.nilslice],aC a1 none [.int .i64 0,.int .i64 0],aC a2 none [.int .i64 0],aC a6 none [v]]) (B:=L) (cs:=[]) el136 k3 k4 (by grind) hc hcb
 refine⟨_,_,m1,gC fun q _ _=>?_⟩
 have hcell:v2.cells=[v2]:=by
  have:=m2.ok (jO yA.base 4 (acc.map eC.d++[x.d]) v2) (by simp)
  rcases this with⟨e,_⟩ | ⟨b,cl,c,e,_⟩ <;> (subst e;rfl)
 obtain⟨t3,n1,n2⟩:=yB.setCel (A:=[aC a0 none [.nilslice],aC a1 none [.int .i64 0,.int .i64 0],aC a2 none [.int .i64 0]]) (j:=0) (v:=v2) m2 aS (by simp_all) (by simp_all) (by grind [vI])
 refine⟨_,_,n1 q,fun hn=>⟨true,rfl,?_⟩⟩
 rw[ze2 hr1 hr2];have e:yM [v] 0 v2.cells=[v2]:=by rw[hcell];rfl
 rw[e]at n2;refine hQ tf1 _ v2 k2 ?_
 have hs:=yB.setLp (r:=r) n2 hn hlb
 simp_all
theorem zdp  {e pl pc:Nat}(hy:YldR l r a0 a1 a2 a6)(he:e≠0)
  (h:yB yA.base tf t (iO a0 a1 a2 a6 0 0 0 acc v++L++[xH l r])) (hQ:∀t',yB yA.base tf t' (iO a0 a1 a2 a6 pl pc e acc v++L++[xH l (hO false r)])->Q (.bool false) t') :
  Wq yA F wD (yo+l) [.agg [.int .u8 0,.str [],.int .i64 (pl:Int),.int .i64 (pc:Int)],.int .i64 (e:Int)] t Q:=by
 have hl:t.get l=some (.loop r):=h.ok (xH l r) (by simp)
 have hlb:=(h.low l (by simp[xH])).1
 refine hy _ _ _ rfl hl ?_
 have h1:=yB.delLp h
 refine j63_2 ?_
 unfold zk1;refine pA rfl (pA (by grind [lE]) (gC fun q _ _=>?_))
 obtain⟨t1,n1,n2⟩:=yB.setCel (A:=[]) (j:=0) (v:=.nilslice) h1 aS rfl (by show 0+1<=1;omega) rfl
 have hs:same 10 (.agg [.int .i64 (pl:Int),.int .i64 (pc:Int)]) (.agg [.int .i64 (pl:Int),.int .i64 (pc:Int)])=true:=by
  show(same 9 (.int .i64 (pl:Int)) (.int .i64 (pl:Int))&&(same 9 (.int .i64 (pc:Int)) (.int .i64 (pc:Int))&&true))=true
  grind [Ho]
 refine⟨_,_,n1 q,pA hs (gC fun q _ _=>?_)⟩
 obtain⟨t2,m1,m2⟩:=yB.setCel (A:=[_]) (j:=0) (v:=.agg [.int .i64 (pl:Int),.int .i64 (pc:Int)]) n2 bS rfl (by show 0+2<=2;omega) rfl
 refine⟨_,_,m1 q,gC fun q _ _=>?_⟩
 obtain⟨t3,p1,p2⟩:=yB.setCel (A:=[_,_]) (j:=0) (v:=.int .i64 (e:Int)) m2 wZ rfl (by show 0+1<=1;omega) rfl
 exact⟨_,_,p1 q,fun hn=>⟨false,rfl,hQ _ (yB.setLp p2 hn hlb)⟩⟩
def Ow{args:List zA}:eK (.func (.yld l) [] []) args=some (yo+l,args):=rfl
abbrev opB(op:Option (Nat × Nat)):Bool:=op.isSome
def zd1{bx:Nat}(hy:YldR l r a0 a1 a2 a6)(hr1:r.state=.ready)(hr2:r.pending=none)(hlen:src.length<=65536)(hby:∀b∈src,b<256) :
  ∀(k off ln cl:Nat) (op:Option (Nat × Nat)) (i0 i1:Int) (acc:List eC) (v:zA) (tf t:Tr tA),src.length-off<k->off<=src.length->ln<=off+1->cl<=off+1->acc.length<=2*off->(op.isSome=true->acc.length+1<=2*off)->(∀p,op=some p->i0=(p.1:Int)/\i1=(p.2:Int)) →
   bK tf->iC tf bx none [.str src]->yB yA.base tf t (iO a0 a1 a2 a6 0 0 0 acc v++[fH sp src ln cl off]++[xH l r]) →
   (match nM k (src.drop off) ln cl op with
    | .ok m=>∀tf' t' v' ln' cl' off',bA tf tf'->yB yA.base tf' t' (iO a0 a1 a2 a6 0 0 0 (acc++m) v'++[fH sp src ln' cl' off']++[xH l r])->Q (.tup []) t'
    | .er e pl pc=>∀tf' t' v' acc' ln' cl' off',bA tf tf'->yB yA.base tf' t' (iO a0 a1 a2 a6 pl pc e acc' v'++[fH sp src ln' cl' off']++[xH l (hO false r)])->Q (.tup []) t') →
   jp 171 2 [.func (.yld l) [] [],.ptr bx 0,.ptr sp 0,.bool op.isSome,.int .i64 i0,.int .i64 i1] t Q:=by
 intro k;induction k with
 | zero=>intro off;omega
 | succ k ih=>
  intro off ln cl op i0 i1 acc v tf t hk hoff hln hcl hacc hacc2 hop hg hbx h hQ;have ho:=Lm (A:=iO a0 a1 a2 a6 0 0 0 acc v) (B:=[xH l r]) (by simpa using h)
  have hA:yB yA.base tf t (iO a0 a1 a2 a6 0 0 0 acc v++fH sp src ln cl off::[xH l r]):=by simpa using h
  have hlb:∀ {t},bA tf t->iA yA 9 ⟨0,t⟩ (.ptr bx 0)=some (.str src):=fun hl=>(iC.le hbx hl).load1 yL rfl rfl
  refine j171_2 ?_
  unfold zh5 uI uU uB uS uG uA11;refine rA g2 (aB ho (rB (aB (hlb h.tle) (eD ?_))))
  rw[nK];by_cases hlt:off<src.length
  ·have hx:src[off]?=some src[off]:=ybd hlt
   have hdrop:src.drop off=src[off]::src.drop (off+1):=ybl hlt
   rw[hdrop]at hQ;unfold nM at hQ;refine pA (by rw[dC];exact decide_eq_true (by omega)) (aB (hlb h.tle) (eD (rA g2 (aB ho (rB (rA (lK hx) (rB ?_)))))))
   by_cases h10:src[off]=10
   ·rw[yab h10]at hQ
    refine pA (by rw[lE,h10];rfl) ?_
    have nlg:∀(acc':List eC) (v':zA) (tf1 t1:Tr tA),acc'.length<=2*(off+1)->bA tf tf1->yB yA.base tf1 t1 (iO a0 a1 a2 a6 0 0 0 acc' v'++[fH sp src ln cl off]++[xH l r]) →
      (match nM k (src.drop (off+1)) (ln+1) 1 none with
       | .ok m=>∀tf' t' v' ln' cl' off',bA tf1 tf'->yB yA.base tf' t' (iO a0 a1 a2 a6 0 0 0 (acc'++m) v'++[fH sp src ln' cl' off']++[xH l r])->Q (.tup []) t'
       | .er e pl pc=>∀tf' t' v' acc' ln' cl' off',bA tf1 tf'->yB yA.base tf' t' (iO a0 a1 a2 a6 pl pc e acc' v'++[fH sp src ln' cl' off']++[xH l (hO false r)])->Q (.tup []) t') →
      wp 171 (.call 172 [.ptr sp 0] fun _=>.jump 2 [.func (.yld l) [] [],.ptr bx 0,.ptr sp 0,.bool false,uZ i0,uZ i1]) t1 Q:=by
     intro acc' v' tf1 t1 ha hle h1 hQ1;refine xB ?_
     rw[q172];refine VZ (A:=iO a0 a1 a2 a6 0 0 0 acc' v') (B:=[xH l r]) (by simpa using h1) (by omega) (by omega) fun t2 h2=>?_
     exact jC (ih (off+1) (ln+1) 1 none i0 i1 acc' v' tf1 t2 (by omega) (by omega) (by omega) (by omega) ha (fun h=>by cases h) (fun p hp=>by cases hp) (hg.mono hle) (iC.le hbx hle) (by simpa using h2) hQ1)
    cases op with
    | some p=>
     obtain⟨e0,e1⟩:=hop p rfl
     subst e0 e1
     refine pA rfl (pA rfl (nV Ow ?_))
     refine Un (x:=endT p) (L:=[fH sp src ln cl off]) hy hr1 hr2 (by omega) h fun tf1 t1 v1 k1 k2=>?_
     refine sD (zB (by simp) (nlg (acc++[endT p]) v1 tf1 t1 (by have:=hacc2 rfl;simp;omega) k1 k2 ?_))
     unfold LR.close at hQ;revert hQ
     generalize nM k (src.drop (off+1)) (ln+1) 1 none=res
     intro hQ
     cases res with
     | ok m=>exact fun tf' t' v' ln' cl' off' q1 q2=>hQ tf' t' v' ln' cl' off' (k1.trans q1) (by simpa using q2)
     | er e pl pc=>exact fun tf' t' v' acc' ln' cl' off' q1 q2=>hQ tf' t' v' acc' ln' cl' off' (k1.trans q1) q2
    | none=>
     refine zB (by simp) (nlg acc v tf t (by omega) (bA.refl _) h ?_)
     exact hQ
   rw[yaa h10]at hQ;refine zB (by rw[lE];simp;omega) ?_
   have blank:∀n:Nat,off+n<=src.length->0<n->(match nM k (src.drop (off+n)) ln (cl+n) op with
     | .ok m=>∀tf' t' v' ln' cl' off',bA tf tf'->yB yA.base tf' t' (iO a0 a1 a2 a6 0 0 0 (acc++m) v'++[fH sp src ln' cl' off']++[xH l r])->Q (.tup []) t'
     | .er e pl pc=>∀tf' t' v' acc' ln' cl' off',bA tf tf'->yB yA.base tf' t' (iO a0 a1 a2 a6 pl pc e acc' v'++[fH sp src ln' cl' off']++[xH l (hO false r)])->Q (.tup []) t') →
     wp 171 (.call 173 [.ptr sp 0,.int .i64 (n:Int)] fun _=>.jump 2 [.func (.yld l) [] [],.ptr bx 0,.ptr sp 0,.bool op.isSome,uZ i0,uZ i1]) t Q:=by
    intro n hn hn0 hQ1;refine xB ?_
    rw[q173];refine FJ hA (by omega) (by omega) fun t2 h2=>?_
    exact jC (ih (off+n) ln (cl+n) op i0 i1 acc v tf t2 (by omega) hn (by omega) (by omega) (by omega) (fun h=>by have:=hacc2 h;omega) hop hg hbx (by simpa using h2) hQ1)
   by_cases h32:src[off]=32
   ·rw[yab (.inl h32)]at hQ
    exact pA (by rw[lE,h32];rfl) (blank 1 (by omega) (by omega) hQ)
   refine zB (by rw[lE];simp;omega) ?_
   by_cases h9:src[off]=9
   ·rw[yab (.inr h9)]at hQ
    exact pA (by rw[lE,h9];rfl) (blank 1 (by omega) (by omega) hQ)
   rw[yaa (by simp[h32,h9])]at hQ
   refine zB (by rw[lE];simp;omega) ?_
   by_cases h35:src[off]=35
   ·rw[yab h35]at hQ
    have hrl:=Xq (fun x=>decide (x≠10)) (src.drop off)
    rw[ydj]at hrl;have hr0:0<(iE (fun x=>decide (x≠10)) (src.drop off)).length:=by
     rw[hdrop];unfold iE;rw[List.takeWhile_cons,yab (by simp[h10])];simp
    refine pA (by rw[lE,h35];rfl) (xB ?_)
    rw[q174,Hu hA (by omega),vA]
    refine eD (xB ?_)
    rw[q120,zek (by rw[ydj];omega),vA]
    refine eD ?_
    rw[nK];rw[<- hdrop]at hQ;rw[List.drop_drop]at hQ;exact blank _ (by omega) hr0 hQ
   rw[yaa h35]at hQ;refine zB (by rw[lE];simp;omega) (xB ?_)
   rw[<- hdrop]at hQ;rw[q176];refine zd0 hg hA hlt hlen (by omega) hby fun t1=>?_
   cases htk:rH (src.drop off)with
   | bad e=>
    rw[htk]at hQ;intro h1;have he:e≠0:=by
     intro e0;subst e0;rw[hdrop]at htk;unfold rH at htk;simp only at htk
     repeat (split at htk<;>try (cases htk;done))
    refine rA rfl (bC (X:=cellsOf [.int .u8 0,.str [],.int .i64 (ln:Int),.int .i64 (cl:Int)]) (cO rfl) (rA rfl (rB (pA rfl (nV Ow ?_)))))
    refine zdp (pl:=ln) (pc:=cl) (L:=[fH sp src ln cl off]) hy he (by simpa using h1) fun t2 h2=>?_
    exact sD (pA rfl (hQ tf t2 v acc ln cl off (bA.refl _) h2))
   | tok kd w=>
    rw[htk]at hQ;intro h1;obtain⟨lw,_⟩:=DL htk
    rw[ydj]at lw;have hw0:0<w.length:=by
     rw[hdrop]at htk;unfold rH at htk;simp only at htk
     split at htk
     ·rename_i hl
      split at htk
      ·cases htk
      ·cases htk
       unfold iE;rw[List.takeWhile_cons,yab (by unfold mL;rw[hl];rfl)];simp
     split at htk
     ·rename_i hd
      split at htk
      ·cases htk
      ·cases htk;rw[yda,ybn];omega
     split at htk
     ·rename_i hd _
      split at htk
      ·cases htk
      ·cases htk
       have:0<kH (src[off]::src.drop (off+1)):=by
        have:0<(xF (src[off]::src.drop (off+1))).length:=by
         unfold xF iE;rw[List.takeWhile_cons,yab (by assumption)];simp
        unfold kH;split<;>omega
       rw[yda,ybn];omega
     split at htk
     ·cases htk;simp
     ·cases htk
    refine rA rfl (bC (X:=cellsOf [.int .u8 (kd:Int),.str w,.int .i64 (ln:Int),.int .i64 (cl:Int)]) (cO rfl) (rA rfl (rB (pA rfl (nV Ow ?_)))))
    refine Un (acc:=acc) (v:=v) (x:=⟨kd,w,ln,cl⟩) (L:=[fH sp src ln (cl+w.length) (off+w.length)]) hy hr1 hr2 (by omega) (by simpa using h1) fun tf2 t2 v2 k1 k2=>?_
    have hA2:yB yA.base tf2 t2 (iO a0 a1 a2 a6 0 0 0 (acc++[⟨kd,w,ln,cl⟩]) v2++fH sp src ln (cl+w.length) (off+w.length)::[xH l r]):=by simpa using k2
    refine sD (zB (by simp) (zB (by decide) (rA g0 (aB (sc_pl hA2) (bC (X:=cellsOf [.int .i64 (ln:Int),.int .i64 ((cl+w.length:Nat):Int)]) (cO rfl) (pA rfl (jC ?_)))))))
    refine ih (off+w.length) ln (cl+w.length) (some (ln,cl+w.length)) _ _ (acc++[⟨kd,w,ln,cl⟩]) v2 tf2 t2 (by omega) (by omega) (by omega) (by omega) (by simp;omega) (fun _=>by simp;omega) (fun p hp=>by cases hp;exact⟨rfl,rfl⟩) (hg.mono k1) (iC.le hbx k1) k2 ?_
    have hdd:(src.drop off).drop w.length=src.drop (off+w.length):=by rw[List.drop_drop]
    simp only[hdd]at hQ;unfold LR.cons at hQ;revert hQ
    generalize nM k (src.drop (off+w.length)) ln (cl+w.length) (some (ln,cl+w.length))=res
    intro hQ
    cases res with
    | ok m=>exact fun tf' t' v' ln' cl' off' q1 q2=>hQ tf' t' v' ln' cl' off' (k1.trans q1) (by simpa using q2)
    | er e pl pc=>exact fun tf' t' v' acc' ln' cl' off' q1 q2=>hQ tf' t' v' acc' ln' cl' off' (k1.trans q1) q2
  ·have hdrop:src.drop off=[]:=ybt (by omega)
   rw[hdrop]at hQ;unfold nM at hQ;refine zB (by rw[dC];simp;omega) ?_
   cases op with
   | some p=>
    obtain⟨e0,e1⟩:=hop p rfl
    subst e0 e1
    refine pA rfl (pA rfl (nV Ow ?_))
    refine Un (x:=endT p) (L:=[fH sp src ln cl off]) hy hr1 hr2 (by omega) h fun tf1 t1 v1 k1 k2=>?_
    exact sD (hQ tf1 t1 v1 ln cl off k1 k2)
   | none=>
    refine zB (by simp) ?_
    have:=hQ tf t v ln cl off (bA.refl _) (by simpa using h)
    exact this
end
end
section
variable [rC]
def oM (s:List Nat):LR:=if 65536<s.length then .er 3 0 0 else Fq s
section
variable {t:Tr tA}{Q:mB}{s:List Nat}
theorem lex_ok(hg:bK t)(hby:∀b∈s,b<256)
  (hQ:match oM s with
   | .ok m=>∀t' v,bA t t'->cA t' 4 (m.map eC.d) v->Q (.tup [v,.agg [.int .i64 0,.int .i64 0],.int .i64 0]) t'
   | .er e a b=>∀t',bA t t'->Q (.tup [.nilslice,.agg [.int .i64 (a:Int),.int .i64 (b:Int)],.int .i64 (e:Int)]) t'):Wc yA F 63 [.str s] t Q:=by
 have ho:yB yA.base t t []:=⟨bA.refl _,by simp,by simp,by simp⟩
 refine w63 ?_
 unfold t63;refine gC fun a0 h0 b0=>?_
 obtain⟨t1,e1,e2,e3,e4⟩:=dO (C:=yA) aS h0
 have o1:=yB.newCel (A:=[]) (B:=[]) ho h0 b0 e2 e3 e4
 refine⟨_,_,e1,gC fun a1 h1 b1=>?_⟩
 obtain⟨t2,f1,f2,f3,f4⟩:=dO (C:=yA) bS h1
 have o2:=yB.newCel (A:=[_]) (B:=[]) o1 h1 b1 f2 f3 f4
 refine⟨_,_,f1,gC fun a2 h2 b2=>?_⟩
 obtain⟨t3,k1,k2,k3,k4⟩:=dO (C:=yA) wZ h2
 have o3:=yB.newCel (A:=[_,_]) (B:=[]) o2 h2 b2 k2 k3 k4
 refine⟨_,_,k1,?_⟩
 rw[nK];have ends:∀ {tf t':Tr tA} {L:List pF} {v:zA} {a b e:Nat},zA.one v=true->yB yA.base tf t' ([aC a0 none [v],aC a1 none [.int .i64 (a:Int),.int .i64 (b:Int)],aC a2 none [.int .i64 (e:Int)]]++L) →
   iA yA 136 ⟨0,t'⟩ (.ptr a0 0)=some v/\iA yA 39 ⟨0,t'⟩ (.ptr a1 0)=some (.agg [.int .i64 (a:Int),.int .i64 (b:Int)])/\iA yA 34 ⟨0,t'⟩ (.ptr a2 0)=some (.int .i64 (e:Int)):=by
  intro tf t' L v a b e _ h;refine⟨(yB.cel (A:=[]) h).load1 aS rfl rfl,?_,(yB.cel (A:=[_,_]) h).load1 wZ rfl rfl⟩
  have:=(yB.cel (A:=[_]) h).at.load (j:=0) (n:=2) bS rfl rfl (by simp)
  simp_all
 by_cases hl:65536<s.length
 ·have hx:oM s=.er 3 0 0:=by unfold oM;rw[yab hl]
  rw[hx]at hQ;refine pA (by grind [dC]) (pA rfl (gC fun q _ _=>?_))
  obtain⟨t4,n1,n2⟩:=yB.setCel (A:=[]) (j:=0) (v:=.nilslice) o3 aS rfl (by show 0+1<=1;omega) rfl
  refine⟨_,_,n1 q,gC fun q _ _=>?_⟩
  obtain⟨t5,m1,m2⟩:=yB.setCel (A:=[_]) (j:=0) (v:=.agg [.int .i64 0,.int .i64 0]) n2 bS rfl (by show 0+2<=2;omega) rfl
  refine⟨_,_,m1 q,gC fun q _ _=>?_⟩
  obtain⟨t6,p1,p2⟩:=yB.setCel (A:=[_,_]) (j:=0) (v:=.int .i64 3) m2 wZ rfl (by show 0+1<=1;omega) rfl
  obtain⟨l1,l2,l3⟩:=ends (L:=[]) (a:=0) (b:=0) (e:=3) (v:=.nilslice) rfl p2
  exact⟨_,_,p1 q,aB l1 (aB l2 (aB l3 (hQ t6 p2.tle)))⟩
 ·have hx:oM s=Fq s:=by unfold oM;rw[yaa hl]
  rw[hx]at hQ;refine zB (by grind [dC]) (gC fun a6 h6 b6=>?_)
  obtain⟨t4,n1,n2,n3,n4⟩:=dO (C:=yA) aS h6
  have o4:=yB.newCel (A:=[_,_,_]) (B:=[]) o3 h6 b6 n2 n3 n4
  refine⟨_,_,n1,xB ?_⟩
  rw[q125];refine w125 ?_
  unfold t125;refine gC fun bx hbx bbx=>?_
  obtain⟨t5,m1,⟨cc,m2,m2'⟩,m3,m4⟩:=Tv (v:=.str s) hbx
  have o5:=o4.junk hbx m4
  have hfb:=o4.tfn hbx
  obtain⟨p1,p2⟩:=o5.froze (fun hm=>o4.fresh hbx hm) m2 hfb
  generalize htf:t.set bx (tA.cells cc (zA.str s).cells.length none)=tf1 at p1 p2
  have hcb:iC tf1 bx none [.str s]:=⟨cc,by rw[<- htf,Tr.get_set,yab rfl];rfl,m2'⟩
  refine⟨_,_,m1,?_⟩
  show oA _ _ _ (.range (uQ yA) (.func (.func 171) [] [.ptr bx 0]) 2 2 [.ptr a0 0,.ptr a1 0,.ptr a2 0,.ptr a6 0] _ _) _ _
  refine⟨Nat.le_add_right _ _,fun l r hl0 hlb hr1 hr2 hy=>?_⟩
  have hra:Cm (uQ yA) (.func (.func 171) [] [.ptr bx 0]) l=some (171,[.func (.yld l) [] [],.ptr bx 0]):=by
   unfold Cm;simp only[zA.asFunc,qA];have:uQ yA 171=true:=by kernel_rfl
   rw[this];rfl
  rw[hra,vA];show Wq yA F wD 171 _ _ _
  rw[q171];have o6:=yB.setLp (r:=r) p1 hl0 hlb
  have hyr:YldR l r a0 a1 a2 a6:=fun args t1 Q1 h1 h2 h3=>hy args t1 Q1 h1 h2 h3
  refine w171 ?_
  unfold t171 uS;have lb:iA yA 9 ⟨0,t5.set l (.loop r)⟩ (.ptr bx 0)=some (.str s):=(iC.le hcb o6.tle).load1 yL rfl rfl
  refine pA rfl (aB lb (eD (pA rfl (gC fun sp hsp bsp=>?_))))
  obtain⟨t7,r1,r2,r3,r4⟩:=dO (C:=yA) ty239 hsp
  have o7:=yB.newCel (A:=[_,_,_,_]) (B:=[xH l r]) o6 hsp bsp r2 r3 r4
  refine⟨_,_,r1,gC fun q _ _=>?_⟩
  obtain⟨t8,s1,s2⟩:=yB.setCel (A:=[_,_,_,_]) (j:=0) (v:=.agg [.int .i64 1,.int .i64 1,.str s,.int .i64 0]) o7 ty239 rfl (by show 0+4<=4;omega) rfl
  refine⟨_,_,s1 q,jC ?_⟩
  have o8:yB yA.base tf1 t8 (iO a0 a1 a2 a6 0 0 0 [] .nilslice++[fH sp s 1 1 0]++[xH l r]):=
   yB.add (A:=[aC a0 none [.nilslice],aC a1 none [.int .i64 0,.int .i64 0],aC a2 none [.int .i64 0],aC a6 none [.nilslice]]) (B:=[fH sp s 1 1 0,xH l r]) (o':=jO yA.base 4 (([]:List eC).map eC.d) .nilslice) s2 (fun _ _=>rfl) (fun k hk=>by simp[jO,Di]at hk) (.inl ⟨rfl,rfl⟩) (by simp[jO,Di]) s2.tle
  refine zd1 hyr hr1 hr2 (by omega) hby (s.length+1) 0 1 1 none 0 0 [] .nilslice tf1 t8 (by omega) (by omega) (by omega) (by omega) (by simp) (fun h=>by cases h) (fun p hp=>by cases hp) (hg.mono p2) hcb o8 ?_
  rw[ycr];unfold Fq at hQ;revert hQ
  generalize nM (s.length+1) s 1 1 none=res
  intro hQ
  cases res with
  | ok m=>
   intro tf' t' v' ln' cl' off' u1 u2;rw[yah]at u2;refine .inl ⟨u2.ok (xH l r) (by simp),?_⟩
   have u3:=yB.delLp u2
   have lv:iA yA 136 ⟨0,t'.del l⟩ (.ptr a6 0)=some v':=(yB.cel (A:=[_,_,_]) u3).load1 aS rfl rfl
   have hv:uV yA.base tf' (t'.del l) 4 (m.map eC.d) v':=u3.ok (jO yA.base 4 (m.map eC.d) v') (by simp)
   have hone:zA.one v'=true:=hv.one
   have hcell:v'.cells=[v']:=by
    rcases hv with⟨e,_⟩ | ⟨b,cl,c,e,_⟩ <;> (subst e;rfl)
   refine aB lv (pA rfl (gC fun q _ _=>?_))
   obtain⟨t9,x1,x2⟩:=yB.setCel (A:=[]) (j:=0) (v:=v') u3 aS (by simp_all) (by simp_all) (by grind [vI])
   have e9:yM [zA.nilslice] 0 v'.cells=[v']:=by rw[hcell];rfl
   rw[e9]at x2;refine⟨_,_,x1 q,gC fun q _ _=>?_⟩
   obtain⟨t19,y1,y2⟩:=yB.setCel (A:=[_]) (j:=0) (v:=.agg [.int .i64 0,.int .i64 0]) x2 bS rfl (by show 0+2<=2;omega) rfl
   refine⟨_,_,y1 q,gC fun q _ _=>?_⟩
   obtain⟨t911,z1,z2⟩:=yB.setCel (A:=[_,_]) (j:=0) (v:=.int .i64 0) y2 wZ rfl (by show 0+1<=1;omega) rfl
   obtain⟨l1,l2,l3⟩:=ends (L:=[_,_,_]) (a:=0) (b:=0) (e:=0) hone z2
   refine⟨_,_,z1 q,aB l1 (aB l2 (aB l3 ?_))⟩
   obtain⟨tf2,w1,w2,w3⟩:=yB.freezeL (A:=[_,_,_,_]) (B:=[fH sp s ln' cl' off']) z2
   exact hQ t911 v' (p2.trans (u1.trans z2.tle)) (w3.mono w2.tle)
  | er e pl pc=>
   intro tf' t' v' acc' ln' cl' off' u1 u2;refine .inr ⟨u2.ok (xH l (hO false r)) (by simp),?_⟩
   have u3:=yB.delLp u2
   obtain⟨l1,l2,l3⟩:=ends (L:=[_,_,_]) (v:=.nilslice) rfl u3
   exact aB l1 (aB l2 (aB l3 (hQ _ (p2.trans (u1.trans u3.tle)))))
def qT(s:List Nat):Nat:=(s.reverse.takeWhile fun b=>decide (b≠10)).length
theorem zme(hl:s.length<1000000):lB yA F 127 [.str s,.int .u8 10] t=some (.int .i64 ((s.length:Int)-1-(qT s:Int))):=by
 have loop:∀(k:Nat),k<=s.length->qT s=(s.length-k)+qT (s.take k)->jp 180 2 [.str s,.int .u8 10,.int .i64 ((k:Int)-1)] t fun v t'=>v=.int .i64 ((s.length:Int)-1-(qT s:Int))/\t'=t:=by
  intro k;induction k with
  | zero=>
   intro hk he;refine zjc ?_
   unfold Wo;refine zB (by rw[jQ];simp) ⟨?_,rfl⟩
   rw[List.take_zero]at he;have:qT []=0:=rfl
   grind
  | succ k ih=>
   intro hk he;have hx:s[k]?=some s[k]:=ybd (by omega)
   have e1:((k+1:Nat):Int)-1=(k:Int):=by omega
   refine zjc ?_
   unfold Wo uU;rw[e1];refine pA (by grind [jQ]) (rA (lK hx) (rB ?_))
   have hc:qT (s.take (k+1))=if s[k]=10 then 0 else qT (s.take k)+1:=by
    unfold qT;rw[zQ hx,List.reverse_append,List.reverse_singleton,List.singleton_append,List.takeWhile_cons];grind
   by_cases h10:s[k]=10
   ·rw[yab h10]at hc
    refine pA (by grind [lE]) ⟨?_,rfl⟩
    grind
   grind [zB,lE,jC,wrap_i64]
 refine kC.2 (w127 ?_)
 unfold t127 uI;refine xB ?_
 have h87:lB yA F 180 [.str s,.int .u8 10] t=some (.int .i64 ((s.length:Int)-1-(qT s:Int))):=by
  refine kC.2 (w180 ?_)
  unfold t180;rw[nK];have e2:uW ((s.length:Int)-1)=(s.length:Int)-1:=wrap_i64 (by omega) (by omega)
  grind [jC]
 rw[q180,h87,vA];exact rB ⟨rfl,rfl⟩
def atL (s:List Nat):Nat:=eW 10 s+1
def atC (s:List Nat):Nat:=qT s+1
theorem zgr(s:List Nat):eW 10 s<=s.length:=by
 induction s with
 | nil=>exact ybk _
 | cons b s ih=>
  grind [eW]
def WM(s:List Nat):qT s<=s.length:=by
 unfold qT;have:=(List.takeWhile_sublist (fun b=>decide (b≠10)) (l:=s.reverse)).length_le
 rwa [List.length_reverse]at this
theorem at_pv(hl:s.length<900000){n:Nat}(hn:n<=s.length):lB yA F 64 [.str s,.int .i64 (n:Int)] t=some (.agg [.int .i64 (atL (s.take n):Int),.int .i64 (atC (s.take n):Int)]):=by
 refine kC.2 (w64 ?_)
 unfold t64 uI uS;have e0:(bif jB (Int.ofNat (aA s)) (n:Int)then Int.ofNat (aA s)else(n:Int))=(n:Int):=by
  grind [nK,dC]
 rw[e0];have hlen:(s.take n).length=n:=by simp_all
 refine zB (by rw[dC];simp) (rA (pZ hn) (eD (xB ?_)))
 have hgp:yA.prims.get 126=some (rL Ra):=by kernel_rfl
 have hcn:lB yA F 126 [.str (s.take n),.str [10]] t=some (.int .i64 (eW 10 (s.take n):Int)):=Fdzx hgp fun H=>rfl
 rw[q126,hcn,vA];refine rB (xB ?_)
 rw[q127];show oD (lB yA F 127 [.str (s.take n),.int .u8 10] t) _
 rw[zme (by omega),vA]
 have h1:=zgr (s.take n)
 have h2:=WM (s.take n)
 have e1:vC (eW 10 (s.take n):Int)=.int .i64 (atL (s.take n):Int):=by
  show zA.int .i64 (fA .i64 ((eW 10 (s.take n):Int)+1))=_
  rw[wrap_i64 (by omega) (by omega)];rfl
 have e2:uW (Int.ofNat (aA (s.take n))-(((s.take n).length:Int)-1-(qT (s.take n):Int)))=(atC (s.take n):Int):=by
  grind [atC,nK,wrap_i64]
 refine rB (pA rfl (pA rfl ?_))
 rw[e1,e2];exact⟨rfl,rfl⟩
end
end
section
variable {y:mD}{cs':List zA}{e k':Int}
variable [rC]
def L3 (b0 b1 b2:Nat)(z:List zA)(a b k:Int):List pF:=[aC b0 none z,aC b1 none [.int .i64 a,.int .i64 b],aC b2 none [.int .i64 k]]
structure RT (T:Nat) (z:List zA) (cf:jI->List zA):Prop where
 ty:∃y,yA.tys.get T=some y/\y.desc.isAgg=true/\y.zero=z/\y.size=z.length
 one:fD zA.one z=true
 ag:wK z (.agg z)=some (cellsOf z)
 cf:cf (cellsOf z)=z
section
variable {t tf:Tr tA}{Q:mB}{s:List Nat}{T:Nat}{z:List zA}{cf:jI->List zA}{J:mF}{A B:List pF}{b0 b1 b2:Nat}{cs:List zA}{a b k:Int}{W:mF}
theorem ldS (h:yB yA.base tf t (A++aC b0 none cs::B))(hT:yA.tys.get T=some y)(ha:y.desc.isAgg=true)(hs:y.size=cs.length):iA yA T ⟨0,t⟩ (.ptr b0 0)=some (.agg cs):=by
 have:=h.cel.at.load (j:=0) (n:=cs.length) hT ha hs (by omega)
 simp_all
def stS  (h:yB yA.base tf t (A++aC b0 none cs::B))(hT:yA.tys.get T=some y)(hs:y.size=cs.length)(hl:cs'.length=cs.length)(hone:fD zA.one cs'=true):∃t',(∀q,sC yA T (.ptr b0 0) (.agg cs') ⟨q,t⟩=some (pD,⟨q,t'⟩))/\yB yA.base tf t' (A++aC b0 none cs'::B):=by
 obtain⟨t',h1,h2⟩:=yB.setCel (j:=0) (v:=.agg cs') h hT (by show cs'.length=_;omega) (by show 0+cs'.length<=_;omega) hone
 refine⟨t',h1,?_⟩
 have hov:yM cs 0 cs'=cs':=by
  unfold yM;rw[List.take_zero,yah,ybt (by omega),ycd]
 have h2:yB yA.base tf t' (A++aC b0 none (yM cs 0 cs')::B):=h2
 rwa [hov]at h2
def stI (h:yB yA.base tf t (A++aC b0 none [.int .i64 k]::B)):∃t',(∀q,sC yA 34 (.ptr b0 0) (.int .i64 k') ⟨q,t⟩=some (pD,⟨q,t'⟩))/\yB yA.base tf t' (A++aC b0 none [.int .i64 k']::B):=by
 obtain⟨t',h1,h2⟩:=yB.setCel (j:=0) (v:=.int .i64 k') h wZ rfl (by show 0+1<=1;omega) rfl
 exact⟨t',h1,h2⟩
def ag2{a b:Int}:wK [.int .i64 0,.int .i64 0] (.agg [.int .i64 a,.int .i64 b])=some (cellsOf [.int .i64 a,.int .i64 b]):=cO rfl
theorem zld(hR:RT T z cf)(hl:cs.length=z.length)(h:yB yA.base tf t (A++L3 b0 b1 b2 cs a b k))(hQ:Q (.tup [.agg cs,.agg [.int .i64 a,.int .i64 b],.int .i64 k]) t):oA yA.base W J (tRe T (.ptr b0 0) (.ptr b1 0) (.ptr b2 0)) t Q:=by
 obtain⟨y,h1,h2,h3,h4⟩:=hR.ty
 unfold tRe;refine aB (ldS h h1 h2 (by omega)) (aB (v:=.agg [.int .i64 a,.int .i64 b]) ?_ (aB (v:=.int .i64 k) ?_ hQ))
 ·exact ldS (A:=A++[aC b0 none cs]) (B:=[aC b2 none [.int .i64 k]]) (by simpa[L3]using h) bS rfl rfl
 ·have h':yB yA.base tf t ((A++[aC b0 none cs,aC b1 none [.int .i64 a,.int .i64 b]])++aC b2 none [.int .i64 k]::[]):=by grind [L3]
  exact h'.cel.load1 wZ rfl rfl
def set0(hR:RT T z cf) (hl:cs.length=z.length)(hl':cs'.length=z.length)(hone:fD zA.one cs'=true)(h:yB yA.base tf t (A++L3 b0 b1 b2 cs a b k)):∃t',(∀q,sC yA T (.ptr b0 0) (.agg cs') ⟨q,t⟩=some (pD,⟨q,t'⟩))/\yB yA.base tf t' (A++L3 b0 b1 b2 cs' a b k):=by
 obtain⟨y,h1,h2,h3,h4⟩:=hR.ty
 exact stS h h1 (by omega) (by omega) hone
theorem set1{a' b':Int}(h:yB yA.base tf t (A++L3 b0 b1 b2 cs a b k)):∃t',(∀q,sC yA 39 (.ptr b1 0) (.agg [.int .i64 a',.int .i64 b']) ⟨q,t⟩=some (pD,⟨q,t'⟩))/\yB yA.base tf t' (A++L3 b0 b1 b2 cs a' b' k):=by
 obtain⟨t',h1,h2⟩:=stS (A:=A++[aC b0 none cs]) (B:=[aC b2 none [.int .i64 k]]) (cs:=[.int .i64 a,.int .i64 b]) (b0:=b1) (cs':=[.int .i64 a',.int .i64 b']) (by simpa[L3]using h) bS rfl rfl rfl
 grind [L3]
theorem set2 (h:yB yA.base tf t (A++L3 b0 b1 b2 cs a b k)):∃t',(∀q,sC yA 34 (.ptr b2 0) (.int .i64 k') ⟨q,t⟩=some (pD,⟨q,t'⟩))/\yB yA.base tf t' (A++L3 b0 b1 b2 cs a b k'):=by
 obtain⟨t',h1,h2⟩:=stI (A:=A++[aC b0 none cs,aC b1 none [.int .i64 a,.int .i64 b]]) (B:=[]) (k':=k') (by simpa[L3]using h)
 grind [L3]
def ld1(h:yB yA.base tf t (A++L3 b0 b1 b2 cs a b k)):iA yA 39 ⟨0,t⟩ (.ptr b1 0)=some (.agg [.int .i64 a,.int .i64 b]):=
 ldS (A:=A++[aC b0 none cs]) (B:=[aC b2 none [.int .i64 k]]) (by simpa[L3]using h) bS rfl rfl
theorem ld2(h:yB yA.base tf t (A++L3 b0 b1 b2 cs a b k)):iA yA 34 ⟨0,t⟩ (.ptr b2 0)=some (.int .i64 k):=by
 have h':yB yA.base tf t ((A++[aC b0 none cs,aC b1 none [.int .i64 a,.int .i64 b]])++aC b2 none [.int .i64 k]::[]):=by grind [L3]
 exact h'.cel.load1 wZ rfl rfl
theorem clo_ok(hR:RT T z cf){x y:Int}(hl:cs.length=z.length)(h:yB yA.base tf t (A++L3 b0 b1 b2 cs a b k))(hQ:∀t',yB yA.base tf t' (A++L3 b0 b1 b2 z x y e)->Q (.tup []) t') :
  oA yA.base W J (tR3 T z (.ptr b0 0) (.ptr b2 0) (.ptr b1 0) (.iface 143 (.agg [.int .i64 x,.int .i64 y,.int .i64 e]))) t Q:=by
 unfold tR3;refine rA (v:=.bool true) (by kernel_rfl) (sD (pA rfl ?_))
 obtain⟨t1,h1,h2⟩:=set0 hR (cs':=z) hl rfl hR.one h
 refine gC fun q _ _=>⟨_,_,h1 q,?_⟩
 obtain⟨t2,h3,h4⟩:=set2 (k':=120) h2
 refine gC fun q _ _=>⟨_,_,h3 q,?_⟩
 refine rA (v:=.tup [.agg [.int .i64 x,.int .i64 y,.int .i64 e],.bool true]) (by kernel_rfl) (rA (v:=.agg [.int .i64 x,.int .i64 y,.int .i64 e]) rfl (bC (X:=cellsOf [.int .i64 x,.int .i64 y,.int .i64 e]) (cO rfl) (rA (v:=.bool true) rfl (sD (pA rfl (pA rfl ?_))))))
 obtain⟨t3,h5,h6⟩:=set1 (a':=x) (b':=y) h4
 refine gC fun q _ _=>⟨_,_,h5 q,?_⟩
 refine pA (by simp_all [same,zN,lE]) ?_
 obtain⟨t4,h7,h8⟩:=set2 (k':=e) h6
 refine gC fun q _ _=>⟨_,_,h7 q,?_⟩
 exact hQ _ h8
def zia  : same 10 (.int .i64 e) (.int .i64 e)=true:=by simp[same,zN,lE]
def same_2{a b:Int}:same 10 (.agg [.int .i64 a,.int .i64 b]) (.agg [.int .i64 a,.int .i64 b])=true:=by simp[same,same.sames,zN,lE]
def tail13{α:Type}{rd:Tr tA->α->zA->Prop}{good:Tr tA->α->List zA->Prop}{P:rM}{r:PR α}{g:Nat}(hR:RT T z cf)(hL:P.L=L3 b0 b1 b2 z 0 0 0)(h:St P tf t 0 0)
  (hQ:match r with
   | .ok x _=>∀tf' t' cs,bA tf tf'->bA tf' t'->good tf' x cs->Q (.tup [.agg cs,.agg [.int .i64 0,.int .i64 0],.int .i64 0]) t'
   | .er e i=>∀t',bA tf t'->Q (.tup [.agg z,.agg [.int .i64 ((aI P i).line:Int),.int .i64 ((aI P i).col:Int)],.int .i64 (e:Int)]) t')
  (hcall:∀Q E,Ok P rd 0 tf r Q E->zG yA F wD yH E g [.ptr P.bp 0] t Q) (hg:Nat.blt g pn=true)
  (hrd:∀tf' x v,rd tf' x v->∃cs,v=.agg cs/\cs.length=z.length/\wK z (.agg cs)=some (cellsOf cs)/\cf (cellsOf cs)=cs/\fD zA.one cs=true/\good tf' x cs) :
  oA yA.base (zG yA F wD yH fun v t'=>oA yA.base (Wq yA F wD) noJ (tR3 T z (.ptr b0 0) (.ptr b2 0) (.ptr b1 0) v) t' fun _ t''=>oA yA.base (Wq yA F wD) noJ (tRe T (.ptr b0 0) (.ptr b1 0) (.ptr b2 0)) t'' Q) noJ
   (tR13 T z cf (.func (.func g) [] []) (.ptr b0 0) (.ptr b1 0) (.ptr b2 0) (.ptr P.bp 0)) t Q:=by
 unfold tR13;have hf:eK (.func (.func g) [] []) [.ptr P.bp 0]=some (g,[.ptr P.bp 0]):=by
  unfold eK;simp only[zA.asFunc,qA,hg,cD];rfl
 refine nV hf (hcall _ _ ?_)
 cases r with
 | er e i=>
  intro tf' t' n' d' hle hst;have ho:yB yA.base tf' t' ([dX P n' d']++L3 b0 b1 b2 z 0 0 0):=by rw[<- hL];exact hst.ob
  refine clo_ok hR rfl ho fun t2 ho2=>?_
  refine zld hR rfl ho2 ?_
  exact hQ t2 (hle.trans ho2.tle)
 | ok x n=>
  intro tf' t' v hle hst hv;obtain⟨cs,rfl,h1,h2,h3,h4,h5⟩:=hrd _ _ _ hv
  have ho:yB yA.base tf' t' ([dX P n 0]++L3 b0 b1 b2 z 0 0 0):=by rw[<- hL];exact hst.ob
  refine bC h2 (pA rfl ?_)
  rw[h3];obtain⟨t1,k1,k2⟩:=set0 hR (cs':=cs) rfl h1 h4 ho
  refine gC fun q _ _=>⟨_,_,k1 q,?_⟩
  obtain⟨t2,k3,k4⟩:=set1 (a':=0) (b':=0) k2
  refine gC fun q _ _=>⟨_,_,k3 q,?_⟩
  obtain⟨t3,k5,k6⟩:=set2 (k':=0) k4
  refine gC fun q _ _=>⟨_,_,k5 q,?_⟩
  exact zld hR h1 k6 (hQ tf' t3 cs hle k6.tle h5)
theorem zk7{p1:zA}(hR:RT T z cf)(hg:bK t)(hby:∀b∈s,b<256)(hgood:∀m,oM s=.ok m->s.length<900000/\m.length<300000/\∀x∈m,sZ x)
  (hE:∀e a b,oM s=.er e a b->e≠0/\∀t',bA t t'->Q (.tup [.agg z,.agg [.int .i64 (a:Int),.int .i64 (b:Int)],.int .i64 (e:Int)]) t')
  (hT:∀m,oM s=.ok m->∀tf1 t1 P b0 b1 b2,P.tk=m->P.el=atL s->P.ec=atC s->P.L=L3 b0 b1 b2 z 0 0 0->bA t tf1->St P tf1 t1 0 0->J 11 [p1,.ptr b0 0,.ptr b1 0,.ptr b2 0,.ptr P.bp 0] t1 Q) :
  oA yA.base (Wq yA F wD) J (tRun T z cf s p1) t Q:=by
 obtain⟨y,y1,y2,y3,y4⟩:=hR.ty
 unfold tRun;refine gC fun c0 hc0 hb0=>?_
 obtain⟨u0,a1,a2,a3,a4⟩:=dO (C:=yA) y1 hc0
 refine⟨_,_,a1,?_⟩
 have o0:yB yA.base t t []:=⟨bA.refl _,by simp,by simp,by simp⟩
 have o1:=yB.newCel (A:=[]) (B:=[]) o0 hc0 hb0 a2 a3 a4
 refine gC fun c1 hc1 hb1=>?_
 obtain⟨u1,a5,a6,a7,a8⟩:=dO (C:=yA) bS hc1
 refine⟨_,_,a5,?_⟩
 have o2:=yB.newCel (A:=[aC c0 none y.zero]) (B:=[]) o1 hc1 hb1 a6 a7 a8
 refine gC fun c2 hc2 hb2=>?_
 obtain⟨u2,a9,a10,a11,a12⟩:=dO (C:=yA) wZ hc2
 refine⟨_,_,a9,?_⟩
 have o3:=yB.newCel (A:=[aC c0 none y.zero,aC c1 none [.int .i64 0,.int .i64 0]]) (B:=[]) o2 hc2 hb2 a10 a11 a12
 rw[y3]at o3;have o3:yB yA.base t u2 (L3 c0 c1 c2 z 0 0 0):=o3
 refine xB ?_
 rw[q63];refine Wc.objs (R:=fun v t'=>match oM s with
   | .ok m=>∃v',v=.tup [v',.agg [.int .i64 0,.int .i64 0],.int .i64 0]/\cA t' 4 (m.map eC.d) v'
   | .er e a b=>v=.tup [.nilslice,.agg [.int .i64 (a:Int),.int .i64 (b:Int)],.int .i64 (e:Int)]) (lex_ok hg hby ?_) o3 fun v tf1 t1 hle ho hv=>?_
 ·grind
 cases hx:oM s with
 | er e a b=>
  rw[hx]at hv;have hv:v=.tup [.nilslice,.agg [.int .i64 (a:Int),.int .i64 (b:Int)],.int .i64 (e:Int)]:=hv
  subst hv;obtain⟨hne,hQ⟩:=hE e a b hx
  refine rA (v:=.nilslice) rfl (rA (v:=.agg [.int .i64 (a:Int),.int .i64 (b:Int)]) rfl (bC ag2 (rA (v:=.int .i64 (e:Int)) rfl (rB ?_))))
  obtain⟨t2,k1,k2⟩:=set1 (A:=[]) (a':=(a:Int)) (b':=(b:Int)) ho
  refine gC fun q _ _=>⟨_,_,k1 q,?_⟩
  obtain⟨t3,k3,k4⟩:=set2 (k':=(e:Int)) k2
  refine gC fun q _ _=>⟨_,_,k3 q,?_⟩
  refine aB (ld2 k4) (rB (pA (by grind [lE]) ?_))
  refine aB (ldS (A:=[]) k4 y1 y2 y4) (bC hR.ag (aB (ld1 k4) (bC ag2 (aB (ld2 k4) (rB ?_)))))
  rw[hR.cf];obtain⟨t4,k5,k6⟩:=set0 hR (cs':=z) rfl rfl hR.one k4
  refine gC fun q _ _=>⟨_,_,k5 q,?_⟩
  refine aB (ld1 k6) (pA same_2 (aB (ld2 k6) (pA zia ?_)))
  obtain⟨t5,k7,k8⟩:=set1 (a':=(a:Int)) (b':=(b:Int)) k6
  refine gC fun q _ _=>⟨_,_,k7 q,?_⟩
  refine aB (ld2 k8) (pA zia ?_)
  obtain⟨t6,k9,k10⟩:=set2 (k':=(e:Int)) k8
  refine gC fun q _ _=>⟨_,_,k9 q,?_⟩
  refine zld (W:=Wq yA F wD) (J:=J) hR rfl k10 (hQ t6 (hle.trans k10.tle))
 | ok m=>
  rw[hx]at hv;obtain⟨v',rfl,hv'⟩:=hv
  obtain⟨g0,g1,g2⟩:=hgood m hx
  refine rA (v:=v') rfl (rA (v:=.agg [.int .i64 0,.int .i64 0]) rfl (bC ag2 (rA (v:=.int .i64 0) rfl (rB ?_))))
  obtain⟨t2,k1,k2⟩:=set1 (A:=[]) (a':=0) (b':=0) ho
  refine gC fun q _ _=>⟨_,_,k1 q,?_⟩
  obtain⟨t3,k3,k4⟩:=set2 (k':=0) k2
  refine gC fun q _ _=>⟨_,_,k3 q,?_⟩
  refine aB (ld2 k4) (rB (zB (by simp[lE]) (xB ?_)))
  rw[q64,nK,at_pv g0 (ybk _),vA,List.take_length]
  refine bC ag2 (pA (by
   obtain⟨cl,he,_⟩:=hv'
   rcases he with⟨rfl,_⟩ | ⟨b,off,cap,rfl,_⟩<;>rfl) ?_)
  refine gC fun c8 hc8 hb8=>?_
  obtain⟨u8,m1,m2,m3,m4⟩:=Tv (v:=.agg [v',.int .i64 0,.int .i64 0,.int .i64 (atL s:Int),.int .i64 (atC s:Int)]) hc8
  refine⟨_,_,m1,jC ?_⟩
  have o8:=yB.newCel (A:=[]) (B:=L3 c0 c1 c2 z 0 0 0) k4 hc8 hb8 m2 m3 m4
  exact hT m hx tf1 u8 ⟨m,c8,v',atL s,atC s,L3 c0 c1 c2 z 0 0 0⟩ c0 c1 c2 rfl rfl rfl rfl hle ⟨hv',o8,g1,yaw _,g2,hg.mono hle⟩
end
end
section
variable {m:List eC}{a b e:Nat}{α:Type}
variable [rC]
def t40_eq(s:List Nat)(p1:zA):t29 s p1=tRun 31 zE cE s p1:=rfl
def zar(v1 v4 v5 v6 v8:zA):Vv v1 v4 v5 v6 v8=tR13 31 zE cE v1 v4 v5 v6 v8:=rfl
def zd8(v0 v1 v2 v3:zA):Qa v0 v1 v2 v3=tR3 31 zE v0 v1 v2 v3:=rfl
def zd9(v4 v5 v6:zA):Qb v4 v5 v6=tRe 31 v4 v5 v6:=rfl
def rt50:RT 31 zE cE:=⟨⟨_,vZ,rfl,rfl,rfl⟩,rfl,cO rfl,rfl⟩
def tokE (m:List eC)(s:List Nat)(i:Nat):eC:=(m[i]?).getD ⟨0,[],atL s,atC s⟩
theorem zl3{s:List Nat} (h:oM s=.ok m):s.length<900000/\m.length<300000/\∀x∈m,sZ x:=by
 unfold oM at h;split at h
 ·cases h
 ·obtain⟨h1,h2⟩:=ze6 _ _ _ _ _ _ h
  grind
theorem ze7{s:List Nat} (h:oM s=.er e a b):e≠0:=by
 unfold oM at h;split at h
 ·grind
 ·exact zl2 _ _ _ _ _ _ _ _ h
inductive RP (α:Type) where
 | ok (x:α)
 | er (e l c:Nat)
def tP {α:Type}(top:List eC->PR α)(s:List Nat):RP α:=
 match oM s with
 | .er e a b=>.er e a b
 | .ok m=>match top m with
  | .ok x _=>.ok x
  | .er e i=>.er e (tokE m s i).line (tokE m s i).col
def GN {top:List eC->PR α}{s:List Nat} (h:oM s=.ok m):tP top s=match top m with | .ok x _=>.ok x | .er e i=>.er e (tokE m s i).line (tokE m s i).col:=by unfold tP;rw[h]
def GO {top:List eC->PR α}{s:List Nat} (h:oM s=.er e a b):tP top s=.er e a b:=by unfold tP;rw[h]
section
variable {t:Tr tA}{Q:mB}{s:List Nat}
def run40(hg:bK t)(hby:∀b∈s,b<256)(hQ:match tP pM s with
  | .ok x=>∀t' cs,bA t t'->RD t' x.d cs->Q (.tup [.agg cs,.agg [.int .i64 0,.int .i64 0],.int .i64 0]) t'
  | .er e a b=>∀t',bA t t'->Q (.tup [.agg zE,.agg [.int .i64 (a:Int),.int .i64 (b:Int)],.int .i64 (e:Int)]) t'):Wc yA F 29 [.str s,.func (.func 30) [] []] t Q:=by
 refine w29 _ _ ?_
 rw[t40_eq];refine zk7 rt50 hg hby (fun m hm=>zl3 hm) (fun e a b h=>⟨ze7 h,?_⟩) (fun m hm tf1 t1 P b0 b1 b2 e1 e2 e3 e4 hle hst=>⟨rfl,tl29 _ _ _ _ _ ?_⟩)
 ·rw[GO h]at hQ;exact hQ
 ·rw[zar]
  simp only[zd8,zd9];refine tail13 (rd:=sL) (good:=fun tf' x cs=>RD tf' x.d cs) (r:=pM P.tk) rt50 e4 hst ?_ (fun Q E hk=>by rw[pE 30];exact zkp hst hk) (by kernel_rfl) (fun tf' x v ⟨cs,h1,h2⟩=>⟨cs,h1,Gb h2,dQ h2,zg4 h2,by obtain⟨a,b,c,rfl,_⟩:=qH h2;exact h2.all,h2⟩)
  rw[GN hm]at hQ;rw[e1]
  cases hr:pM m with
  | ok x n=>
   rw[hr]at hQ;exact fun tf' t' cs k1 k2 k3=>hQ t' cs (hle.trans (k1.trans k2)) (k3.mono k2)
  | er e i=>
   rw[hr]at hQ;have ht:aI P i=tokE m s i:=by unfold aI tokE;rw[e1,e2,e3]
   intro t' k1;rw[ht];exact hQ t' (hle.trans k1)
def expr15(hg:bK t)(hby:∀b∈s,b<256)(hQ:match tP pM s with
  | .ok x=>∀t' cs,bA t t'->RD t' x.d cs->Q (.tup [.agg cs,.agg [.int .i64 0,.int .i64 0],.int .i64 0]) t'
  | .er e a b=>∀t',bA t t'->Q (.tup [.agg zE,.agg [.int .i64 (a:Int),.int .i64 (b:Int)],.int .i64 (e:Int)]) t'):Wc yA F 11 [.str s] t Q:=by
 refine w11 ?_
 unfold t11 eF kD uA4;refine xB ?_
 rw[q29];refine run40 hg hby ?_
 cases hr:tP pM s with
 | ok x=>
  rw[hr]at hQ;intro t' cs k1 k2;refine rA (v:=.agg cs) rfl (bC (dQ k2) (rA (v:=.agg [.int .i64 0,.int .i64 0]) rfl (bC ag2 (rA (v:=.int .i64 0) rfl (rB ?_)))))
  show oA _ _ _ (.ite (fD zA.one (cE (cellsOf cs))) (.ite true (.ret (.tup [.agg (cE (cellsOf cs)),_,_])) .fail) .fail) _ _
  rw[zg4 k2];refine pA (by obtain⟨a,b,c,rfl,_⟩:=qH k2;exact k2.all) (pA rfl (hQ t' cs k1 k2))
 | er e a b=>
  rw[hr]at hQ;intro t' k1;exact rA (v:=.agg zE) rfl (bC rt50.ag (rA (v:=.agg [.int .i64 (a:Int),.int .i64 (b:Int)]) rfl (bC ag2 (rA (v:=.int .i64 (e:Int)) rfl (rB (pA rfl (pA rfl (hQ t' k1))))))))
end
end
section
variable [rC]
def zdo{t:Tr tA}:RD t zj7.d zE:=Ik (op:=0) (name:=[]) (v:=eS) (args:=[]) sP sP sP
end
end Go.Proofs
namespace Go.Am
open Go Go.RowKit
section
variable {t:Tr tA}{C:lA}{W J:mF}{S el sz p:Nat}{Q:mB}{zs:List zA}
abbrev Cmp:=List zA->List zA->(zA->T)->T
def cmpC (g:Nat):Cmp:=fun a b K=>.call g [.agg a,.agg b] K
def zk6(C:lA)(S el p:Nat)(g:Cmp)(zs:List zA)(ne:Bool->Bool)(v0 v1:zA)(i:Int):T:=
 .opt (qC v0) fun a0=>.asI .i64 a0 fun n1=>.ite (jB i n1)
  (.opt (tC C S v0 (.int .i64 i)) fun a2=>.light (fun m=>iA C el ⟨0,m⟩ a2) fun a3=>.asG zs a3 fun X4=>
   .opt (tC C S v1 (.int .i64 i)) fun a5=>.light (fun m=>iA C el ⟨0,m⟩ a5) fun a6=>.asG zs a6 fun X7=>
   g (bZ zs X4 0) (bZ zs X7 0) fun a8=>.asB a8 fun b9=>.ite (ne b9) (.ret (.bool false)) (.jump p [v0,v1,.int .i64 (fA .i64 (i+1))]))
  (.ret (.bool true))
theorem zaw{g:Cmp}{ne:Bool->Bool}{ok:Bool}{ds:List D}{v0 v1:zA}(hS:dH C S el sz true)(hz:∀d∈ds,d.zs=zs)(hne:ne ok=false)
  (hg:∀d∈ds,∀cs cs' K,RD t d cs->RD t d cs'->oA C.base W J (K (.bool ok)) t Q->oA C.base W J (g cs cs' K) t Q) (hlen:ds.length<300000)
  (hj:∀i,oA C.base W J (zk6 C S el p g zs ne v0 v1 i) t Q->J p [v0,v1,.int .i64 i] t Q) (h0:cA t sz ds v0) (h1:cA t sz ds v1) (hQ:Q (.bool true) t) :
  ∀(k i:Nat),i+k=ds.length->J p [v0,v1,.int .i64 (i:Int)] t Q:=by
 intro k;induction k with
 | zero=>
  intro i hi;refine hj _ ?_
  unfold zk6;exact rA h0.len (rB (zB (fun e=>by grind [gE]) hQ))
 | succ k ih=>
  intro i hi;have hlt:i<ds.length:=by omega
  have hd:ds[i]?=some ds[i]:=ybd hlt
  have hm:ds[i]∈ds:=ycj hlt
  obtain⟨b,off,cs,g1,g2,g3,g4,g5⟩:=dH.at hS (by simp) h0 hd
  obtain⟨b',off',cs',f1,f2,f3,f4,f5⟩:=dH.at hS (by simp) h1 hd
  have hzz:=hz _ hm
  refine hj _ ?_
  unfold zk6;refine rA h0.len (rB (pA (gE.2 (by omega)) (rA g1 (aB g2 (bC (iS g5 hzz) (rA f1 (aB f2 (bC (iS f5 hzz) ?_))))))))
  rw[g5.mk hzz,f5.mk hzz];refine hg _ hm _ _ _ g5 f5 (sD (zB (by simp_all) (jC ?_)))
  rw[wrap_i64 (by omega) (by omega)]
  exact ih (i+1) (by omega)
end
end Go.Am
namespace Go.Proofs
open Go Go.Am
variable [rC]
variable {t tf:Tr tA}
def sam203{l:List Nat}{u v:zA}(hu:cA t 1 (cC l) u)(hv:cA t 1 (cC l) v)(hl:l.length<300000):lB yA F 145 [u,v] t=some (.bool true):=by
 have hn:qC u=some (.int .i64 (l.length:Int)):=by rw[hu.len,eO]
 have hn':qC v=some (.int .i64 (l.length:Int)):=by rw[hv.len,eO]
 refine kC.2 (w145 ?_)
 unfold t145 uI bB uZ;refine rA hn (rB (rA hn' (rB (zB (fun e=>absurd rfl (cM.1 e)) (jC ?_)))))
 have loop:∀(m i:Nat),i+m=l.length->jp 145 2 [u,v,.int .i64 (i:Int)] t (fun v' t'=>v'=.bool true/\t'=t):=by
  intro m;induction m with
  | zero=>
   intro i hi;refine Zx ?_
   unfold Qe uI uH vC bB gG uZ;exact rA hn (rB (zB (pK (by omega)) ⟨rfl,rfl⟩))
  | succ m ih=>
   intro i hi;obtain⟨x,hx⟩:=getElem?_of_lt (show i<l.length by omega)
   obtain⟨p,o,g1,g2⟩:=cA.idx (C:=yA) kV hu hx
   obtain⟨p',o',g3,g4⟩:=cA.idx (C:=yA) kV hv hx
   refine Zx ?_
   unfold Qe uI uH vC bB gG uZ;refine rA hn (rB (pA (sK (by omega)) (rA g1 (aB g2 (rB (rA g3 (aB g4 (rB (zB (fun e=>absurd rfl (cM.1 e)) (jC ?_))))))))))
   rw[wrap_i64 (by omega) (by omega)]
   exact ih (i+1) (by omega)
 exact loop l.length 0 (by omega)
def Xn{w:pJ}{cs ds:List zA}(hl:w.limbs.length<300000)(h:RD t w.d cs)(k:RD t w.d ds):lB yA F 82 [.agg cs,.agg ds] t=some (.bool true):=by
 obtain⟨u,rfl,hu⟩:=Hx h
 obtain⟨v,rfl,hv⟩:=Hx k
 refine kC.2 (w82 ?_)
 unfold t82 uB bB;refine pA (by rw[xV];simp) (xB ?_)
 rw[q145,sam203 hu hv hl,vA];exact sD ⟨rfl,rfl⟩
def zib{f:eE}{cs ds:List zA}(hl:f.n.limbs.length<300000/\f.d.limbs.length<300000)(h:RD t f.dd cs)(k:RD t f.dd ds):lB yA F 40 [.agg cs,.agg ds] t=some (.bool true):=by
 obtain⟨a,b,rfl,ha,hb⟩:=rd_frac h
 obtain⟨a',b',rfl,ha',hb'⟩:=rd_frac k
 refine kC.2 (w40 ?_)
 unfold t40 uB bB;refine xB ?_
 rw[q82,Xn hl.1 (qU (w:=f.n) ha) (qU (w:=f.n) ha'),vA]
 refine sD (pA rfl (xB ?_))
 rw[q82,Xn hl.2 (qU (w:=f.d) hb) (qU (w:=f.d) hb'),vA]
 exact sD ⟨rfl,rfl⟩
def sam94{x:zF}{cs ds:List zA}(hl:x.f.n.limbs.length<300000/\x.f.d.limbs.length<300000)(h:RD t x.d cs)(k:RD t x.d ds):lB yA F 15 [.agg cs,.agg ds] t=some (.bool true):=by
 obtain⟨a,b,rfl,ha,hb⟩:=Ez h
 obtain⟨a',b',rfl,ha',hb'⟩:=Ez k
 refine kC.2 (w15 ?_)
 unfold t15 uB bB;refine pA (lI.2 rfl) (xB ?_)
 rw[q40,zib hl (Cr (f:=x.f) ha hb) (Cr (f:=x.f) ha' hb'),vA]
 refine sD (pA rfl ?_)
 rw[lI.2 rfl];exact⟨rfl,rfl⟩
mutual
theorem sam51:∀(x:mA),mA.cpy x->∀cs ds,RD t x.d cs->RD t x.d ds->lB yA F 12 [.agg cs,.agg ds] t=some (.bool true)
 | .mk op name v args,h,cs,ds,hc,hd=>by
  obtain⟨a,b,c,rfl,ha,hb,he⟩:=qH hc
  obtain⟨a',b',c',rfl,ha',hb',he'⟩:=qH hd
  simp only[mA.op,mA.name,mA.v,mA.args]at ha hb he ha' hb' he' ⊢
  unfold mA.cpy at h;refine kC.2 (w12 ?_)
  unfold t12 uB bB uZ uY;refine pA (lI.2 rfl) (pA ((gK _ _).2 rfl) (xB ?_))
  rw[q15,sam94 h.1 (Fl (x:=v) ha hb) (Fl (x:=v) ha' hb'),vA]
  refine sD (pA rfl (xB ?_))
  have:=sam95 args h.2.2
  have e95:lB yA F 33 [c,c'] t=some (.bool true):=by
   refine kC.2 (w33 ?_)
   unfold t33 uI bB uZ;refine rA he.len (rB (rA he'.len (rB (zB (fun e=>absurd rfl (cM.1 e)) (jC ?_)))))
   refine zaw (C:=yA) (W:=Wq yA F wD) (J:=Jq yA F 33) (g:=cmpC 12) (ne:=not) (ok:=true) (ds:=args.map mA.d) Es (fun d hd=>?_) rfl (fun d hd cs cs' K h1 h2 hK=>?_) (by simp_all) (fun i hw=>j33_2 hw) he he' ⟨rfl,rfl⟩ args.length 0 (by simp)
   ·obtain⟨x,_,rfl⟩:=yaq.1 hd
    exact x.zs
   ·obtain⟨x,hx,rfl⟩:=yaq.1 hd
    refine xB ?_
    rw[q12,this x hx cs cs' h1 h2,vA];exact hK
  rw[q33,e95,vA];exact sD ⟨rfl,rfl⟩
theorem sam95:∀(l:List mA),mA.cpys l->∀x∈l,∀cs ds,RD t x.d cs->RD t x.d ds->lB yA F 12 [.agg cs,.agg ds] t=some (.bool true)
 | [],_,x,hx=>by cases hx
 | y::l,h,x,hx=>by
  unfold mA.cpys at h;rcases ybs.1 hx with e | hx
  ·rw[e];exact sam51 y h.1
  ·exact sam95 l h.2 x hx
end
end Go.Proofs
namespace Go.Proofs
open Go Go.Am
section
variable [rC]
def RP.err{α:Type}:RP α->Nat | .ok _=>0 | .er e _ _=>e
def RP.pl{α:Type}:RP α->Nat × Nat | .ok _=>(0,0) | .er _ a b=>(a,b)
def RP.val{α:Type}(z:α):RP α->α | .ok x=>x | .er _ _ _=>z
def plV (p:Nat × Nat):List zA:=[.int .i64 (p.1:Int),.int .i64 (p.2:Int)]
def agPl{p:Nat × Nat}:wK xZ (.agg (plV p))=some (cellsOf (plV p)):=cO rfl
section
variable {t:Tr tA}{Q:mB}{s:List Nat}{J:mF}
def zg9{K:T}(k:oA yA.base (Wq yA F wD) J K t Q):oA yA.base (Wq yA F wD) J (.call 7 []<|uB fun b=>.ite (!b) bB K) t Q:=by
 refine xB ?_
 have h9:lB yA F 7 [] t=some (.bool true):=Fdzx (g:=Qy) (by kernel_rfl) fun H=>rfl
 rw[q7,h9,vA];exact sD (zB (by decide) k)
end
def zl4{s:List Nat}(h:s.length<=65536):oM s=Fq s:=by unfold oM;rw[yaa (by omega)]
end
section
variable [rC]
variable {t:Tr tA}
def pv36{f:eE}{u v:zA}(h1:cA t 1 (cC f.n.limbs) u)(h2:cA t 1 (cC f.d.limbs) v)(hf:f.ok):lB yA F 25 [.agg [.bool f.n.neg,u,.bool f.d.neg,v]] t=some (.int .i64 (Hm f:Nat)):=by
 have hs:=Xi hf
 refine kC.2 (w25 ?_)
 unfold Hm at hs   ⊢
 simp (disch:=omega) only[uI,uZ,uW,t25,oA,h1.len,h2.len,vA,zC,eO,wrap_i64]
 simp
mutual
theorem pv37:∀(x:mA) (left:Int) (cs:List zA),x.ok -> -9007199254740992<=left->left<=9007199254740992->RD t x.d cs->lB yA F 8 [.agg cs,.int .i64 left] t=some (.int .i64 (oZ x left))
 | .mk op name v args,left,cs,hx,hl1,hl2,h=>by
  obtain⟨a,b,c,rfl,ha,hb,hc⟩:=qH h
  simp only[mA.op,mA.name,mA.v,mA.args]at ha hb hc ⊢
  have hx':=hx
  unfold mA.ok at hx';have hf:=Xi hx'.2.1
  have hn:=hx'.1
  unfold nG at hn;refine kC.2 (w8 ?_)
  simp (disch:=omega) only[uI,uZ,uY,uW,t8,oA,q25,pv36 ha hb hx'.2.1,vA,zC,GC,Ho,if_true,eV,wrap_i64,Int.tdiv_eq_ediv_of_nonneg]
  unfold oZ;exact zik args args left _ op name v _ _ c 0 hc rfl hx'.2.2.2 hx'.2.2.1 (by omega) hl1 hl2 (by omega)
theorem zik:∀(l args:List mA) (left n:Int) (op:Nat) (name:List Nat) (v:zF) (a b c:zA) (i:Nat),cA t 9 (args.map mA.d) c->args.drop i=l->mA.oks l->args.length<nG->0<=n -> -9007199254740992<=left->left<=9007199254740992->n<=27021597764222976 →
  jp 8 2 [.int .i64 left,.int .i64 n,.int .i64 i,.int .u8 op,.str name,.int .u8 v.kind,.bool v.f.n.neg,a,.bool v.f.d.neg,b,.int .i64 v.i,c] t (fun v' t'=>v'=.int .i64 (nZ l left n)/\t'=t)
 | [],args,left,n,op,name,v,a,b,c,i,hc,hd,hok,hsz,hn,hl1,hl2,hn2=>by
  have:=OM hd
  refine j8_2 ?_
  simp only[uI,uG,vC,uZ,uY,uW,kD,t8_2,oA,hc.len,vA,zC,ybf,gE];grind [nZ]
 | x::l,args,left,n,op,name,v,a,b,c,i,hc,hd,hok,hsz,hn,hl1,hl2,hn2=>by
  obtain⟨h1,h2,h3⟩:=BF hd
  unfold nG at hsz;have hok':=hok
  unfold mA.oks at hok';refine j8_2 ?_
  obtain⟨pb,po,cs,g1,g2,g3,g4,g5⟩:=dH.at Es (by simp) hc (i:=i) (d:=x.d) (by simp[h1])
  simp only[uI,uG,vC,uZ,uY,uW,kD,t8_2,oA,hc.len,vA,zC,ybf,gE,sI,g1,g2,Ku];rw[yab (by omega)]
  unfold nZ;split
  ·rename_i hle
   obtain⟨a1,b1,c1,rfl,ha1,hb1,hc1⟩:=qH g5
   have hs:=FK x (left-n) hok'.1
   rw[iS g5 x.zs];simp only[vA,cellsOf,Si,zk4,Gl,Hd];simp (disch:=omega) only[q8,yaz,yba,wrap_i64]
   rw[pv37 x (left-n) _ hok'.1 (by omega) (by omega) g5]
   simp (disch:=omega) only[vA,zC,wrap_i64]
   have:=zik l args left (n+oZ x (left-n)) op name v a b c (i+1) hc h2 hok'.2 hsz (by omega) hl1 hl2 (by omega)
   simp_all
  ·simp
end
end
section
theorem zb1(s:List Nat):tS s [45]=decide (s.head?=some 45):=by
 unfold tS
 cases s with
 | nil=>rfl
 | cons x r=>
  rw[decide_eq_true (by simp)]
  simp only[ybn,ybx,List.take,ycn,List.head?_cons,Option.some.injEq];by_cases h:x=45
  ·subst h;rfl
  grind [eqS_ne]
theorem zgf{n:Nat}{r:List Nat}:(oG n++r).head?≠some 45:=by
 obtain⟨x,r',e,hx⟩:=zfw (znl n) (zgn n)
 rw[zgi,e];intro h
 cases h
 cases hx
def Yw(neg:Bool):List Nat:=if neg then [109,105,110,117,115,32]else []
def TU{n:Int}:zK (nL n)=Yw (decide (n<0))++oG n.natAbs:=by
 unfold zK Yw;rw[zb1];by_cases h:n<0
 ·obtain⟨u,rfl,hu⟩:∃u:Nat,n = -(u:Int)/\0<u:=⟨n.natAbs,by omega,by omega⟩
  grind [Sd]
 ·obtain⟨u,rfl⟩:∃u:Nat,n=(u:Int):=⟨n.toNat,by omega⟩
  rw[Na,show(u:Int).natAbs=u by omega]
  have:(oG u).head?≠some 45:=by have:=zgf (n:=u) (r:=[]);rwa [ycd]at this
  simp_all
end
section
def Lx (s:List Nat)(l:List gL):Prop:=∀r o,stopR r->mK (s++r) o=(mK r true).map fun m=>l++m
theorem JT{c:Nat}(hs:Iu c=true)(r:List Nat)(o:Bool):mK (c::r) o=(mK r true).map fun m=>(4,[c])::m:=by
 have hc:c=40\/c=41\/c=44\/c=43\/c=45\/c=42\/c=47\/c=60\/c=61:=by simp_all [Iu]
 grind [rH,vS,bE,JU]
theorem Lx.par{s:List Nat}{l:List gL}(h:Lx s l):Lx ([40]++s++[41]) ((4,[40])::(l++[(4,[41])])):=by
 intro r o hr;rw[show [40]++s++[41]++r=40::(s++(41::r)) by simp,JT rfl,h _ _ (fun c r' e=>by grind),JT rfl]
 simp_all [Function.comp_def]
theorem UZ{v:zF}(h:yQ v=true):v.kind=1/\v.f=aK/\(v.i=0\/v.i=1)\/(v.kind=2\/v.kind=3)/\v.i=0/\Ia v.f=true\/v.kind=4/\v.f=aK/\0<=v.i/\v.i<65536\/(v.kind=5\/v.kind=6)/\v.f=aK /\ -1048576<=v.i/\v.i<=1048576:=by
 unfold yQ at h;split at h
 all_goals grind [CN]
end
section
variable {n op:Nat}{name:List Nat}
def inK (lev:Nat)(p:Nat × List gL):List gL:=if lev<=p.1 then p.2 else(4,[40])::(p.2++[(4,[41])])
def zlj(op:Nat):gL:=(if op=15\/op=16 then 1 else 4,(sB op).word)
def Od:List Nat:=[6,11,12,18,19,20,21,22,23,24,25,26]
def Dj:List Nat:=[7,8,9,10,13,14,15,16]
theorem NH:∀k∈[3,4,5],(sB k).style=3/\(sB k).left=7/\(sB k).level=7/\(sB k).named=true/\(sB k).least=1/\(sB k).most=1:=by decide +kernel
theorem zf5:∀k∈Dj,(sB k).style=4/\(sB k).named=false/\(sB k).least=2/\(sB k).most=2:=by decide +kernel
theorem NG:∀k∈Od,(sB k).style=6/\(sB k).level=7:=by decide +kernel
theorem NF:(sB 17).style=5/\(sB 17).left=3/\(sB 17).level=3/\(sB 17).named=false/\(sB 17).least=1/\(sB 17).most=1:=by decide +kernel
theorem Sq:(sB 1).style=1/\(sB 1).level=7/\(sB 1).named=false/\(sB 1).most=0:=by decide +kernel
theorem NC:(sB 2).style=2/\(sB 2).level=7/\(sB 2).named=false/\(sB 2).most=0:=by decide +kernel
structure HeadF (op:Nat) (name:List Nat) (n:Nat):Prop where
 lt:op<27
 ne:op≠0
 lo:(sB op).least<=n
 hi:n<=(sB op).most
 nm:(sB op).named=true->gN name=true
 no:(sB op).named=false->name=[]
theorem zfz   (h:Cz op name n=true):HeadF op name n:=by
 unfold Cz at h;simp only[ybb,decide_eq_true_eq,ycp,decide_eq_false_iff_not]at h;obtain⟨⟨⟨⟨h1,h2⟩,h3⟩,h4⟩,h5⟩:=h
 refine⟨h1,?_,h3,h4,fun e=>by rwa [yab e]at h5,fun e=>?_⟩
 ·rintro rfl;exact h2 rfl
 grind [gK]
def Tb  {v:zF}{args:List mA}{d:Nat}(h:sJ (.mk op name v args) d=true):d<=24/\HeadF op name args.length/\(op=1->yQ v=true)/\(op≠1->Dg op v=true/\∀y∈args,sJ y (d+1)=true):=by
 grind [sJ,zfz,Ue]
theorem Lx.inn{lev:Nat}{s:List Nat}{l:List gL}(h:Lx s l):Lx (yN lev (n,s)) (inK lev (n,l)):=by
 unfold yN inK;by_cases hl:lev<=n
 ·simp_all
 ·rw[yaa hl,yaa hl];exact h.par
end
section
def opW:List (List Nat × Nat):=[([42],6),([47],6),([43],5),([45],5),([60],4),([61],4),(wAnd,2),(wOr,1)]
def Qt (lev:Nat)(R:List gL):Prop:=∀q u R',R=(q,u)::R'->(∀p∈opW,lev<=p.2->u≠p.1)/\u≠Pe/\u≠Pc
def qtB (lev:Nat)(u:List Nat):Bool:=opW.all (fun p => !decide (lev<=p.2)||decide (u≠p.1))&&(decide (u≠Pe)&&decide (u≠Pc))
def RdBy (K:List gL)(f:PM mA)(lev:Nat)(l:List gL)(x:mA):Prop:=∀n R,K.drop n=l++R->Qt lev R->f n=.ok x (n+l.length)
def noNot(l:List gL):Prop:=∃q u r,l=(q,u)::r/\(q=2\/q=3\/u≠wNot)
def Ch (tk:List eC)(K:List gL)(f:PM mA)(ops:List (List Nat × Nat))(lev:Nat)(l:List gL)(x:mA):Prop:=
 ∀n R,K.drop n=l++R->Qt lev R->∃x0 n0 k,f n=.ok x0 n0/\k<=l.length/\∀m,oY tk f ops (m+k) x0 n0=oY tk f ops m x (n+l.length)
end
section
def CM{v:zF}(h:Ea v=true):v=eS:=by
 obtain⟨k,f,i⟩:=v
 unfold Ea at h;simp only[ybb,decide_eq_true_eq]at h;obtain⟨⟨rfl,rfl⟩,h3⟩:=h
 rw[CN h3];rfl
theorem zct{op:Nat}{v:zF}(h:Dg op v=true):v=⟨0,aK,((if op=19 then v.i.toNat else 0:Nat):Int)⟩/\(op=19->1<=v.i.toNat/\v.i.toNat<=6):=by
 unfold Dg at h;by_cases h9:op=19
 ·rw[yab h9]at h
  simp only[ybb,decide_eq_true_eq]at h;have:=CM h.2
  obtain⟨k,f,i⟩:=v
  cases this
  grind [aK]
 ·rw[yaa h9]at h
  rw[CM h,yaa h9];exact⟨rfl,fun e=>absurd e h9⟩
end
section
def lvOps(lev:Nat):List (List Nat × Nat):=match lev with
 | 6=>[([42],9),([47],10)]
 | 5=>[([43],7),([45],8)]
 | 2=>[(wAnd,15)]
 | 1=>[(wOr,16)]
 | _=>[]
section
variable {tk:List eC}{K:List gL}(hK:tk.map kt=K){n k:Nat}
include hK
omit hK in
omit hK in
def zc1:∀ {op:Nat},op∈[7,8,9,10,15,16]->(sB op).level∈[1,2,5,6]/\(sB op).left=(sB op).level/\(sB op).right=(sB op).level+1/\qtB ((sB op).level+1) (sB op).word=true/\((zlj op).1=1\/(zlj op).1=4)/\(((lvOps (sB op).level).all fun p=>opW.any fun q=>decide (q.1=p.1)&&decide ((sB op).level<=q.2))=true):=by decide +kernel
omit hK in
omit hK in
def zgv:∀ {op:Nat},op∈[13,14]->(sB op).level=4/\(sB op).left=5/\(sB op).right=5/\qtB 5 (sB op).word=true/\(zlj op).1=4:=by decide +kernel
end
end
section
def UY{v:zF}(h:yQ v=true):v.f.n.limbs.length<300000/\v.f.d.limbs.length<300000:=by
 rcases UZ h with⟨_,e,_⟩ | ⟨_,_,e⟩ | ⟨_,e,_⟩ | ⟨_,e,_⟩
 ·rw[e];decide
 ·unfold Ia at e
  simp only[ybb,decide_eq_true_eq]at e;omega
 ·rw[e];decide
 ·rw[e];decide
mutual
/-- what can be written can be compared -/
theorem OA:∀(x:mA) (d:Nat),x.fit->sJ x d=true->mA.cpy x
 | .mk op name v args,d,hf,h=>by
  obtain⟨h1,h2,h3,h4⟩:=Tb h
  rw[mA.fit]at hf;rw[mA.cpy];have hm:=h2.hi
  have hk:∀op,op<27->(sB op).most<=3:=by decide +kernel
  have hk:=hk op h2.lt
  have hv:v.f.n.limbs.length<300000/\v.f.d.limbs.length<300000:=by
   by_cases h0:op=1
   ·exact UY (h3 h0)
   ·rw[(zct (h4 h0).1).1]
    show(0:Nat)<300000/\(0:Nat)<300000
    decide
  refine⟨hv,by omega,?_⟩
  by_cases h0:op=1
  ·simp_all [Sq,mA.cpys]
  ·exact NY args (d+1) hf.2.2.2.2.2 (h4 h0).2
theorem NY:∀(l:List mA) (d:Nat),mA.fits l->(∀y∈l,sJ y d=true)->mA.cpys l
 | [],_,_,_=>by grind [mA.cpys]
 | x::l,d,hf,h=>by
  rw[mA.fits]at hf;rw[mA.cpys];exact⟨OA x d hf.1 (h x yby),NY l d hf.2 fun y hy=>h y (ybr _ hy)⟩
end
variable [rC]
variable {t:Tr tA}
end
section
variable [rC]
variable {t tf:Tr tA}
theorem dif145{l l':List Nat}{u v:zA}(hu:cA t 1 (cC l) u)(hv:cA t 1 (cC l') v)(hl:l.length<300000)(hne:l≠l'):lB yA F 145 [u,v] t=some (.bool false):=by
 have hn:qC u=some (.int .i64 (l.length:Int)):=by rw[hu.len,eO]
 have hn':qC v=some (.int .i64 (l'.length:Int)):=by rw[hv.len,eO]
 refine kC.2 (w145 ?_)
 unfold t145 uI bB uZ;refine rA hn (rB (rA hn' (rB ?_)))
 by_cases hle:l.length=l'.length
 ·refine zB (fun e=>absurd (by omega) (cM.1 e)) (jC ?_)
  have loop:∀(m i:Nat),i+m=l.length->l.drop i≠l'.drop i->jp 145 2 [u,v,.int .i64 (i:Int)] t (fun v' t'=>v'=.bool false/\t'=t):=by
   intro m;induction m with
   | zero=>
    simp_all
   | succ m ih=>
    intro i hi hd;obtain⟨x,hx⟩:=getElem?_of_lt (show i<l.length by omega)
    obtain⟨y,hy⟩:=getElem?_of_lt (show i<l'.length by omega)
    obtain⟨p,o,g1,g2⟩:=cA.idx (C:=yA) kV hu hx
    obtain⟨p',o',g3,g4⟩:=cA.idx (C:=yA) kV hv hy
    refine Zx ?_
    unfold Qe uI uH vC bB gG uZ;refine rA hn (rB (pA (sK (by omega)) (rA g1 (aB g2 (rB (rA g3 (aB g4 (rB ?_))))))))
    by_cases hxy:x=y
    ·subst hxy
     refine zB (fun e=>absurd rfl (cM.1 e)) (jC ?_)
     rw[wrap_i64 (by omega) (by omega)]
     refine ih (i+1) (by omega) fun e=>hd ?_
     obtain⟨k1,k2⟩:=ybc.1 hx
     obtain⟨k3,k4⟩:=ybc.1 hy
     rw[ybl k1,ybl k3,k2,k4,e]
    ·exact pA (cM.2 (by omega)) ⟨rfl,rfl⟩
  exact loop l.length 0 (by omega) hne
 ·exact pA (cM.2 (by omega)) ⟨rfl,rfl⟩
theorem dif82{w w':pJ}{cs ds:List zA}(hl:w.limbs.length<300000)(hne:w≠w')(h:RD t w.d cs)(k:RD t w'.d ds):lB yA F 82 [.agg cs,.agg ds] t=some (.bool false):=by
 obtain⟨u,rfl,hu⟩:=Hx h
 obtain⟨v,rfl,hv⟩:=Hx k
 refine kC.2 (w82 ?_)
 unfold t82 uB bB;by_cases hn:w.neg=w'.neg
 ·have hll:w.limbs≠w'.limbs:=fun e=>hne (by cases w;simp_all)
  refine pA (by grind [xV]) (xB ?_)
  rw[q145,dif145 hu hv hl hll,vA];exact sD ⟨rfl,rfl⟩
 ·exact zB (by grind [xV]) ⟨rfl,rfl⟩
theorem dif40{f f':eE}{cs ds:List zA}(hl:f.n.limbs.length<300000/\f.d.limbs.length<300000)(hne:f≠f')(h:RD t f.dd cs)(k:RD t f'.dd ds):lB yA F 40 [.agg cs,.agg ds] t=some (.bool false):=by
 obtain⟨a,b,rfl,ha,hb⟩:=rd_frac h
 obtain⟨a',b',rfl,ha',hb'⟩:=rd_frac k
 refine kC.2 (w40 ?_)
 unfold t40 uB bB;refine xB ?_
 have m1:=qU (w:=f.n) ha
 have m2:=qU (w:=f'.n) ha'
 by_cases hn:f.n=f'.n
 ·have hd:f.d≠f'.d:=fun e=>hne (by cases f;simp_all)
  rw[<- hn]at m2;have e:=Xn hl.1 m1 m2
  rw[hn]at e;rw[q82,hn,e,vA];refine sD (pA rfl (xB ?_))
  rw[q82,dif82 hl.2 hd (qU (w:=f.d) hb) (qU (w:=f'.d) hb'),vA]
  exact sD ⟨rfl,rfl⟩
 ·rw[q82,dif82 hl.1 hn m1 m2,vA]
  exact sD (zB (by simp) ⟨rfl,rfl⟩)
theorem dif15{x x':zF}{cs ds:List zA}(hl:x.f.n.limbs.length<300000/\x.f.d.limbs.length<300000)(hne:x≠x')(h:RD t x.d cs)(k:RD t x'.d ds):lB yA F 15 [.agg cs,.agg ds] t=some (.bool false):=by
 obtain⟨a,b,rfl,ha,hb⟩:=Ez h
 obtain⟨a',b',rfl,ha',hb'⟩:=Ez k
 refine kC.2 (w15 ?_)
 unfold t15 uB bB;by_cases hk:x.kind=x'.kind
 ·refine pA (lI.2 (by omega)) (xB ?_)
  have m1:=Cr (f:=x.f) ha hb
  have m2:=Cr (f:=x'.f) ha' hb'
  by_cases hf:x.f=x'.f
  ·have hi:x.i≠x'.i:=fun e=>hne (by cases x;simp_all)
   rw[<- hf]at m2;have e:=zib hl m1 m2
   rw[hf]at e;rw[q40,hf,e,vA];refine sD (pA rfl ?_)
   rw[show kB x.i x'.i=false from Bool.eq_false_iff.2 (uJ hi)]
   exact⟨rfl,rfl⟩
  ·rw[q40,dif40 hl hf m1 m2,vA]
   exact sD (zB (by simp) ⟨rfl,rfl⟩)
 ·exact zB (uJ (by omega)) ⟨rfl,rfl⟩
mutual
theorem dif12:∀(x x':mA),mA.cpy x->x≠x'->∀cs ds,RD t x.d cs->RD t x'.d ds->lB yA F 12 [.agg cs,.agg ds] t=some (.bool false)
 | .mk op name v args,.mk op' name' v' args',h,hne,cs,ds,hc,hd=>by
  obtain⟨a,b,c,rfl,ha,hb,he⟩:=qH hc
  obtain⟨a',b',c',rfl,ha',hb',he'⟩:=qH hd
  simp only[mA.op,mA.name,mA.v,mA.args]at ha hb he ha' hb' he' ⊢
  unfold mA.cpy at h;refine kC.2 (w12 ?_)
  unfold t12 uB bB uZ uY;by_cases ho:op=op'
  ·refine pA (lI.2 (by omega)) ?_
   by_cases hn:name=name'
   ·refine pA ((gK _ _).2 hn) (xB ?_)
    have m1:=Fl (x:=v) ha hb
    have m2:=Fl (x:=v') ha' hb'
    by_cases hv:v=v'
    ·have hx:args≠args':=fun e=>hne (by simp_all)
     have h2:=h.2.2
     have hlen:=h.2.1
     rw[<- hv]at m2;have e:=sam94 h.1 m1 m2
     rw[hv]at e;rw[q15,hv,e,vA];refine sD (pA rfl (xB ?_))
     have e33:lB yA F 33 [c,c'] t=some (.bool false):=by
      refine kC.2 (w33 ?_)
      unfold t33 uI bB uZ;have l1:=he.len
      have l2:=he'.len
      rw[ybf]at l1 l2;refine rA l1 (rB (rA l2 (rB ?_)))
      by_cases hle:args.length=args'.length
      ·refine zB (fun e=>absurd (by omega) (cM.1 e)) (jC ?_)
       exact dif33 args args args' 0 h2 h2 hlen hle rfl hx he he'
      ·exact pA (cM.2 (by omega)) ⟨rfl,rfl⟩
     rw[q33,e33,vA];exact sD ⟨rfl,rfl⟩
    ·rw[q15,dif15 h.1 hv m1 m2,vA]
     exact sD (zB (by simp) ⟨rfl,rfl⟩)
   ·exact zB (fun e=>hn ((gK _ _).1 e)) ⟨rfl,rfl⟩
  ·exact zB (uJ (by omega)) ⟨rfl,rfl⟩
theorem dif33:∀(l args args':List mA) (i:Nat),mA.cpys l->mA.cpys args->args.length<300000->args.length=args'.length->args.drop i=l->l≠args'.drop i->∀ {u v:zA},cA t 9 (args.map mA.d) u->cA t 9 (args'.map mA.d) v->jp 33 2 [u,v,.int .i64 (i:Int)] t (fun v' t'=>v'=.bool false/\t'=t)
 | [],args,args',i,_,_,hm,hle,hd,hne,u,v,hu,hv=>by
  simp_all
 | x::l,args,args',i,hc,hc',hm,hle,hd,hne,u,v,hu,hv=>by
  obtain⟨h1,h2,h3⟩:=BF hd
  unfold mA.cpys at hc;obtain⟨y,hy⟩:∃y,args'[i]?=some y:=⟨_,ybd (by omega)⟩
  obtain⟨pb,po,cs,g1,g2,g3,g4,g5⟩:=dH.at Es (by simp) hu (i:=i) (d:=x.d) (by simp[h1])
  obtain⟨pb',po',cs',k1,k2,k3,k4,k5⟩:=dH.at Es (by simp) hv (i:=i) (d:=y.d) (by simp[hy])
  have l1:=hu.len
  rw[ybf]at l1;refine j33_2 ?_
  unfold t33_2 uI uG uB vC bB gG uZ;refine rA l1 (rB (pA (sK (by omega)) (rA g1 (aB g2 (bC (iS g5 x.zs) (rA k1 (aB k2 (bC (iS k5 y.zs) (xB ?_)))))))))
  have e1:kD (cellsOf cs)=.agg cs:=by obtain⟨a,b,c,rfl,_⟩:=qH g5;rfl
  have e2:kD (cellsOf cs')=.agg cs':=by obtain⟨a,b,c,rfl,_⟩:=qH k5;rfl
  rw[q12,e1,e2];by_cases hxy:x=y
  ·have k5':RD t x.d cs':=by simp_all
   rw[sam51 x hc.1 cs cs' g5 k5',vA];refine sD (zB (by decide) (jC ?_))
   rw[wrap_i64 (by omega) (by omega)]
   refine dif33 l args args' (i+1) hc.2 hc' hm hle h2 (fun e=>hne ?_) hu hv
   obtain⟨j1,j2⟩:=ybc.1 hy
   rw[ybl j1,j2,<- e,hxy]
  ·rw[dif12 x y hc.1 hxy cs cs' g5 k5,vA]
   exact sD (pA (by decide) ⟨rfl,rfl⟩)
end
end
section
variable {a b lev n n' op:Nat}{x:mA}{s w:List Nat}{o:PM mA}
abbrev ct(c:Nat)(s:List Nat):Nat:=s.count c
def zmw(t:eC):Bool:=decide (t.text=[40])
def pB (tk:List eC)(n:Nat):Nat:=(tk.take n).countP zmw
theorem gZ(tk:List eC)(n:Nat):pB tk n<=pB tk (n+1):=by
 grind [pB]
theorem Ig{tk:List eC} (h:a<=b):pB tk a<=pB tk b:=by
 induction h with
 | refl=>omega
 | step _ ih=>grind [gZ]
theorem zif{tk:List eC} (h:acc tk [40] n=true):pB tk (n+1)=pB tk n+1:=by
 grind [acc,pB,List.take_add_one,zmw,gK]
def nJ (lev:Nat)(x:mA):Nat:=ct 40 (gF x)+if lev<=(sB x.op).level then 0 else 1
def BS  (h:a<=b):nJ a x<=nJ b x:=by unfold nJ;split<;>split<;>omega
theorem BT   : ct 40 (yN lev ((sB x.op).level,gF x))=nJ lev x:=by
 grind [nJ,yN]
theorem BP(n:Nat):ct 40 (oG n)=0:=List.count_eq_zero.2 fun h=>by have:=Je n _ h;omega
def OU(b:Bool)(l:List Nat):ct 40 (nX b l)=0:=by
 have:=BP (val 65536 l)
 unfold nX Ft ct at *
 cases b<;>simp[this]
def zgq(f:eE):ct 40 (lM f)=0:=by
 have h1:=OU f.n.neg f.n.limbs
 have h2:=OU f.d.neg f.d.limbs
 unfold lM ct at *
 split<;>simp[h1,h2,List.count_cons]
theorem OV (h:ct 40 s=0):ct 40 (zK s)=0:=by
 grind [zK,List.drop_sublist]
theorem znq(n:Int):ct 40 (nL n)=0:=by
 by_cases h:n<0
 ·obtain⟨u,rfl,hu⟩:∃u:Nat,n = -(u:Int)/\0<u:=⟨n.natAbs,by omega,by omega⟩
  grind [BP,Sd]
 ·obtain⟨u,rfl⟩:∃u:Nat,n=(u:Int):=⟨n.toNat,by omega⟩
  rw[Na];exact BP u
theorem ct_val(v:zF):ct 40 (qV v)=0:=by
 have h1:=OV (zgq v.f)
 have h2:=OV (znq v.i)
 have h3:ct 40 (fW v.i.toNat)=0:=List.count_eq_zero.2 fun h=>by
  simp only[fW,ymdS,d1,ybs,List.not_mem_nil,or_false]at h;omega
 unfold qV Eg;split
 ·split<;>rfl
 ·split
  ·exact h1
  ·split
   ·simp_all
   ·split
    ·exact h3
    ·split
     ·simp_all
     ·split
      all_goals simp_all
theorem OW (h:gN w=true):ct 40 w=0:=by
 unfold gN at h
 cases w with
 | nil=>rfl
 | cons x r=>
  simp only[ybb,decide_eq_true_eq]at h;have h3:=(gK _ _).1 h.1.2
  refine List.count_eq_zero.2 fun hm=>?_
  rw[<- h3]at hm;have:=ycb.1 List.all_takeWhile _ hm
  cases this
theorem znp(n:Nat):ct 40 (bX n)=0:=by
 unfold bX;split
 ·have e:∀n,n<7->ct 40 (rU.getD n [])=0:=by decide
  simp_all
 ·rfl
theorem Yj:∀op,op∈Dj\/op∈[3,4,5]\/op∈Od->op<27:=fun op h=>by
 simp only[Dj,Od,ybs,List.not_mem_nil,or_false]at h;omega
theorem Nz:∀op,op<27->ct 40 (sB op).word=0:=by decide +kernel
section
variable {tk:List eC}
def PA (tk:List eC)(lev:Nat)(f:PM mA):Prop:=∀n x n',f n=.ok x n'->pB tk n+nJ lev x<=pB tk n'
def bind_ok{α β:Type}{r:PR α}{g:α->Nat->PR β}{b:β} (h:r.bind g=.ok b n):∃a m,r=.ok a m/\g a m=.ok b n:=by
 cases r with
 | er e i=>cases h
 | ok a m=>exact⟨a,m,rfl,h⟩
theorem Gc  {u:Unit}(h:iK tk w n=.ok u n'):acc tk w n=true/\n'=n+1:=by
 grind [iK]
theorem JD  (h:cX tk n=.ok s n'):gN s=true/\n'=n+1:=by
 grind [cX,xY]
theorem zju (h:op∈Dj)(x y:mA):ct 40 (gF (kY op x y))=nJ (sB op).left x+nJ (sB op).right y:=by
 grind [zf5,Nz,Yj,BT,kY,gF,kK,bI]
theorem ct_at (h:op∈[3,4,5]) (hw:gN w=true)(x:mA):ct 40 (gF (unX op w x))=nJ 7 x:=by
 simp_all [NH,Nz,Yj,BT,OW,unX,gF,kK,bI]
theorem ct_not(x:mA):ct 40 (gF (unX 17 [] x))=nJ 3 x:=by
 grind [NF,Nz,BT,unX,gF,kK,bI]
def dW(l:List mA):Nat:=(l.map fun x=>ct 40 (gF x)).sum
theorem OX:∀(l:List mA) (b:Bool),ct 40 (nU b (bI l))=dW l
 | [],b=>by rw[bI,nU];rfl
 | x::l,b=>by
  rw[bI,nU];have:=OX l false
  unfold dW ct at *
  rw[ycm,List.sum_cons,List.count_append,List.count_append,this]
  cases b<;>simp[List.count_cons]
theorem znr (h:op∈Od) (hw:(sB op).named=true->gN w=true)(v:zF)(l:List mA):ct 40 (gF (.mk op w v l))=1+dW l:=by
 grind [NG,Nz,Yj,OX,znp,gF,kK,Lc,OW]
theorem Tn {ops:List (List Nat × Nat)} (ho:PA tk (lev+1) o)(hops:∀p∈ops,p.2∈[7,8,9,10,15,16]/\(sB p.2).level=lev):PA tk lev (aU tk o ops):=by
 have loop:∀(m n:Nat) (x:mA) (k:Nat) (y:mA) (n':Nat),k+nJ lev x<=pB tk n->oY tk o ops m x n=.ok y n'->k+nJ lev y<=pB tk n':=by
  intro m;induction m with
  | zero=>intro n x k y n' h hr;cases hr;exact h
  | succ m ih=>
   intro n x k y n' h hr;rw[oY]at hr
   cases ho':lO tk ops n with
   | none=>simp_all
   | some op=>
    rw[ho']at hr;obtain⟨z,n1,g1,g2⟩:=bind_ok hr
    have hz:=ho _ _ _ g1
    have hop:op∈[7,8,9,10,15,16]/\(sB op).level=lev:=by
     grind [lO,Option.map_eq_some_iff]
    obtain⟨c1,c2,c3,_⟩:=zc1 hop.1
    have hb:op∈Dj:=by
     grind [Dj]
    refine ih _ _ k _ _ ?_ g2
    have e:=zju hb x z
    have hs:=gZ tk n
    have:nJ lev (kY op x z)=nJ lev x+nJ (lev+1) z:=by
     show ct 40 _+(if lev<=(sB op).level then 0 else 1)=_
     simp_all
    omega
 intro n x n' h;unfold aU at h;obtain⟨y,n1,h1,h2⟩:=bind_ok h
 have:=ho _ _ _ h1
 exact loop _ _ _ _ _ _ (by have:=BS (x:=y) (show lev<=lev+1 by omega);omega) h2
def sum_pa (ho:PA tk 7 o):PA tk 5 (sumP tk o):=Tn (Tn (lev:=6) ho (by decide +kernel)) (by decide +kernel)
theorem znv (ho:PA tk 7 o):PA tk 4 (Ji tk o):=by
 have hs:=sum_pa ho
 intro n x n' h;unfold Ji at h;obtain⟨a,n1,h1,h2⟩:=bind_ok h
 have g1:=hs _ _ _ h1
 cases hop:lO tk [([60],13),([61],14)] n1 with
 | none=>
  simp only[hop]at h2
  cases h2;have:=BS (x:=x) (show 4<=5 by omega)
  omega
 | some op=>
  simp only[hop]at h2;obtain⟨b,n2,h3,h4⟩:=bind_ok h2
  have g2:=hs _ _ _ h3
  cases h4;have hop:op∈[13,14]:=by
   grind [lO]
  obtain⟨c1,c2,c3,_⟩:=zgv hop
  have hb:op∈Dj:=by
   grind [Dj]
  have e:=zju hb a b
  have st:=gZ tk n1
  have:nJ 4 (kY op a b)=nJ 5 a+nJ 5 b:=by
   show ct 40 _+(if 4<=(sB op).level then 0 else 1)=_
   simp_all
  omega
theorem zlt (ho:PA tk 7 o):PA tk 3 (Mj tk o):=by
 have hc:=znv ho
 intro n x n' h;unfold Mj at h;obtain⟨a,n1,h1,h2⟩:=bind_ok h
 cases h2;have g1:=hc _ _ _ h1
 have hw:∀(k:Nat) (y:mA),nJ 3 (Km k y)<=nJ 3 y:=by
  intro k;induction k with
  | zero=>intro y;exact ybk _
  | succ k ih=>
   intro y;refine Nat.le_trans (ih _) ?_
   show ct 40 (gF (unX 17 [] y))+(if 3<=(sB 17).level then 0 else 1)<=_
   grind [ct_not,NF]
 have k1:=hw (fR tk tk.length n) a
 have k2:=BS (x:=a) (show 3<=4 by omega)
 have k3:=Ig (tk:=tk) (show n<=n+fR tk tk.length n by omega)
 omega
def AV (ho:PA tk 7 o):PA tk 1 (Ax tk o):=Tn (Tn (lev:=2) (zlt ho) (by decide +kernel)) (by decide +kernel)
end
end
section
variable {o:PM mA}{x:mA}{n:Nat}{s:List Nat}
variable [rC]
section
variable {tk:List eC}
theorem JE{e:PM mA}(he:PA tk 1 e):∀(m:Nat) (l:List mA) (n:Nat) (l':List mA) (n' k:Nat),k+dW l<=pB tk n->Ij tk e m l n=.ok l' n'->k+dW l'<=pB tk n'
 | 0,l,n,l',n',k,h,hr=>by cases hr;exact h
 | m+1,l,n,l',n',k,h,hr=>by
  obtain⟨u,n1,h1,h2⟩:=bind_ok (show(iK tk [44] n).bind _=_ from hr)
  obtain⟨x,n2,h3,h4⟩:=bind_ok h2
  obtain⟨_,rfl⟩:=Gc h1
  have g:=he _ _ _ h3
  have st:=gZ tk n
  refine JE he m _ _ _ _ k ?_ h4
  grind [dW,nJ]
theorem FE{e:PM mA}(he:PA tk 1 e):∀(m:Nat) (l:List mA) (n:Nat) (l':List mA) (n' k:Nat),k+dW l<=pB tk n->Cf tk e m l n=.ok l' n'->k+dW l'<=pB tk n'
 | 0,l,n,l',n',k,h,hr=>by cases hr;exact h
 | m+1,l,n,l',n',k,h,hr=>by
  unfold Cf at hr;split at hr
  ·obtain⟨x,n2,h3,h4⟩:=bind_ok hr
   have g:=he _ _ _ h3
   have st:=gZ tk n
   refine FE he m _ _ _ _ k ?_ h4
   grind [dW,nJ]
  simp_all
def WX:∀f∈Be,f.op∈Od/\(sB f.op).named=f.named:=by decide +kernel
theorem zn0{e:PM mA}(he:PA tk 1 e):PA tk 7 (nY tk e):=by
 intro n x n' h;unfold nY at h;split at h
 ·cases h
 rename_i f hf;obtain⟨c1,c2⟩:=WX f (List.mem_of_find?_eq_some hf)
 obtain⟨u,n1,h1,h⟩:=bind_ok h
 obtain⟨a1,rfl⟩:=Gc h1
 obtain⟨w,n2,h2,h⟩:=bind_ok h
 have hw:(f.named=true->gN w=true)/\n+1+1<=n2:=by
  split at h2
  ·obtain⟨w',m1,g1,g2⟩:=bind_ok h2
   obtain⟨u,m2,g3,g4⟩:=bind_ok g2
   obtain⟨k1,rfl⟩:=JD g1
   obtain⟨_,rfl⟩:=Gc g3
   grind
  simp_all
 obtain⟨y,n3,h3,h⟩:=bind_ok h
 obtain⟨l1,n4,h4,h⟩:=bind_ok h
 obtain⟨l2,n5,h5,h⟩:=bind_ok h
 obtain⟨m,n6,h6,h⟩:=bind_ok h
 obtain⟨u',n7,h7,h⟩:=bind_ok h
 obtain⟨_,rfl⟩:=Gc h7
 cases h;have hm:n5<=n6:=by
  split at h6
  ·obtain⟨u,m1,g1,g2⟩:=bind_ok h6
   obtain⟨_,rfl⟩:=Gc g1
   have:=PN _ _ _ _ _ g2
   omega
  simp_all
 have p0:=zif a1
 have p1:=gZ tk n
 have p2:=Ig (tk:=tk) hw.2
 have g3:=he _ _ _ h3
 have e1:dW [y]=ct 40 (gF y):=by unfold dW;simp
 have g4:=JE he _ _ _ _ _ (pB tk n2) (by grind [nJ]) h4
 have g5:=FE he _ _ _ _ _ (pB tk n2) g4 h5
 have p3:=Ig (tk:=tk) hm
 have p4:=gZ tk n6
 have hc:=znr c1 (w:=w) (fun e=>hw.1 (by simp_all)) ⟨0,aK,m⟩ l2
 show pB tk n+(ct 40 (gF (.mk f.op w ⟨0,aK,m⟩ l2))+(if 7<=(sB f.op).level then 0 else 1))<=_
 grind [NG]
theorem zn5 (ho:PA tk 7 o){op:Nat}(h:op∈[3,4,5]):PA tk 7 (atP tk o op):=by
 intro n x n' hr;unfold atP at hr;obtain⟨w,n1,h1,hr⟩:=bind_ok hr
 obtain⟨u,n2,h2,hr⟩:=bind_ok hr
 obtain⟨y,n3,h3,hr⟩:=bind_ok hr
 cases hr;obtain⟨k1,rfl⟩:=JD h1
 obtain⟨_,rfl⟩:=Gc h2
 have g:=ho _ _ _ h3
 have p:=Ig (tk:=tk) (show n<=n+1+1 by omega)
 show pB tk n+(ct 40 (gF (unX op w y))+(if 7<=(sB op).level then 0 else 1))<=_
 grind [ct_at,NH]
theorem zfs (ho:PA tk 7 o):PA tk 7 (Ai tk o):=by
 intro n x n' h;unfold Ai at h;obtain⟨v,n1,h1,h⟩:=bind_ok h
 have hu:=Ig (tk:=tk) (PD _ _ _ h1)
 have go:∀ {f:PM mA} {m:Nat},n1<=m->PA tk 7 f->f m=.ok x n'->pB tk n+nJ 7 x<=pB tk n':=fun {f m} hm hf hr=>by
  have:=hf _ _ _ hr
  have:=Ig (tk:=tk) hm
  omega
 cases v with
 | some v=>
  cases h;have e:ct 40 (gF (Jh v))=0:=by grind [Jh,gF,kK,Sq,ct_val]
  show pB tk n+(ct 40 (gF (Jh v))+(if 7<=(sB 1).level then 0 else 1))<=_
  grind [Sq]
 | none=>
  dsimp only at h
  split at h
  ·rename_i ha
   obtain⟨y,n2,h2,h⟩:=bind_ok h
   obtain⟨u,n3,h3,h⟩:=bind_ok h
   cases h;obtain⟨_,rfl⟩:=Gc h3
   have g:=AV ho _ _ _ h2
   grind [zif,gZ,nJ]
  split at h
  ·cases h
   have e:ct 40 (gF (.mk 2 [] eS []))=0:=by grind [gF,kK,NC,Nz]
   have p1:=gZ tk n1
   show pB tk n+(ct 40 (gF (.mk 2 [] eS []))+(if 7<=(sB 2).level then 0 else 1))<=_
   grind [NC]
  split at h
  ·exact go (by omega) (zn5 ho (by decide)) h
  split at h
  ·exact go (by omega) (zn5 ho (by decide)) h
  split at h
  ·exact go (ybk _) (zn5 ho (by decide)) h
  ·exact go (ybk _) (zn0 (AV ho)) h
def IE:∀k,PA tk 7 (vU tk k)
 | 0=>fun n x n' h=>by cases h
 | k+1=>fun n x n' h=>zfs (IE k) n x n' h
theorem zko  (h:pM tk=.ok x n):ct 40 (gF x)<=tk.countP zmw:=by
 unfold pM at h;obtain⟨y,n1,h1,h⟩:=bind_ok h
 obtain⟨u,n2,h2,h⟩:=bind_ok h
 cases h;have g:=AV (IE 101) _ _ _ h1
 grind [pB,List.take_sublist,nJ]
end
theorem ze8:∀(s:List Nat) (o:Bool) (l:List gL),mK s o=some l->l.countP (fun t=>decide (t.2=[40]))<=ct 40 s:=by
 refine zbo ?_ ?_ ?_ ?_ ?_ ?_
 ·intro o l h
  rw[ze9]at h
  cases h
  cases o<;>simp
 ·intro r ih o l h
  rw[zl5]at h
  cases hr:mK r false with
  | none=>simp_all
  | some m=>
   rw[hr]at h;have:=ih false m hr
   cases h;unfold ct at *
   cases o<;>simp[List.countP_cons,List.count_cons]<;>omega
 ·grind [zl6]
 ·grind [zfa,List.drop_sublist]
 ·intro b r kd w ht ih o l h
  rw[JU ht]at h
  cases hr:mK ((b::r).drop w.length) true with
  | none=>simp_all
  | some m=>
   grind [zkq]
 grind [zfb]
def zeq {m:List eC}  (h:Fq s=.ok m)(ht:pM m=.ok x n):ct 40 (gF x)<=ct 40 s:=by
 have h1:=ze8 s false _ (zl7 h)
 have h2:=zko ht
 rw[List.countP_map]at h1;exact Nat.le_trans h2 h1
def mI (s:List Nat):Prop:=ct 40 s=ct 41 s/\∀j,ct 41 (s.take j)<=ct 40 (s.take j)
theorem mI.app{a b:List Nat}(ha:mI a)(hb:mI b):mI (a++b):=by
 obtain⟨a1,a2⟩:=ha
 obtain⟨b1,b2⟩:=hb
 refine⟨by simp_all,fun j=>?_⟩
 grind [List.take_append]
theorem mI.none (h0:ct 40 s=0)(h1:ct 41 s=0):mI s:=by
 refine⟨by omega,fun j=>?_⟩
 grind [List.take_sublist]
theorem mI.par (h:mI s):mI (40::(s++[41])):=by
 obtain⟨h1,h2⟩:=h
 refine⟨by simp_all,fun j=>?_⟩
 cases j with
 | zero=>simp[ct]
 | succ j=>
  grind [List.take_append,List.take_sublist]
end
section
variable [rC]
def wI(s:List Nat):Prop:=∀b∈s,b≠40/\b≠41
def wI.bal{s:List Nat}(h:wI s):mI s:=by
 have h0:ct 40 s=0:=List.count_eq_zero.2 fun hm=>(h _ hm).1 rfl
 have h1:ct 41 s=0:=List.count_eq_zero.2 fun hm=>(h _ hm).2 rfl
 exact mI.none h0 h1
theorem wI.app{a b:List Nat}(ha:wI a)(hb:wI b):wI (a++b):=fun x hx=>(yaf.1 hx).elim (ha x) (hb x)
def zih(n:Nat):wI (oG n):=fun b hb=>by have:=Je n b hb;omega
theorem IR(f:eE):wI (lM f):=by
 have hw:∀b l,wI (nX b l):=fun b l=>wI.app (by cases b <;> (intro x hx;simp_all)) (zih _)
 refine wI.app (hw _ _) ?_
 split
 ·intro b hb;cases hb
 ·exact wI.app (a:=[47]) (fun x hx=>by simp_all) (hw _ _)
theorem IN{s:List Nat}(h:wI s):wI (zK s):=by
 unfold zK;split
 ·exact wI.app (fun x hx=>by grind) fun x hx=>h x (List.mem_of_mem_drop hx)
 ·exact h
theorem IQ(n:Int):wI (zK (nL n)):=by
 rw[TU];exact wI.app (by unfold Yw;split <;> (intro x hx;grind)) (zih _)
theorem zig(v:zF):wI (qV v):=by
 unfold qV Eg;split
 ·split <;> (intro x hx;grind)
 ·split
  ·exact IN (IR _)
  ·split
   ·exact wI.app (fun x hx=>by grind) (IN (IR _))
   ·split
    ·intro x hx;simp only[fW,ymdS,d1,ybs,List.not_mem_nil,or_false]at hx;omega
    ·split
     ·exact wI.app (IQ _) fun x hx=>by grind
     ·split
      ·exact wI.app (IQ _) fun x hx=>by grind
      ·intro x hx;cases hx
theorem IP{w:List Nat}(h:gN w=true):wI w:=by
 unfold gN at h
 cases w with
 | nil=>simp_all
 | cons x r=>
  simp only[ybb,decide_eq_true_eq]at h;have h3:=(gK _ _).1 h.1.2
  intro b hb;rw[<- h3]at hb;have:=ycb.1 List.all_takeWhile _ hb
  constructor <;> (rintro rfl;cases this)
theorem zlq:∀op,op<27->wI (sB op).word:=by
 have e:∀op,op<27->((sB op).word.all fun b=>decide (b≠40)&&decide (b≠41))=true:=by decide +kernel
 intro op h b hb;grind
theorem zlr(n:Nat):wI (bX n):=by
 have e:∀n,n<7->((rU.getD n []).all fun b=>decide (b≠40)&&decide (b≠41))=true:=by decide
 unfold bX;split
 ·rename_i h
  intro b hb;grind
 ·intro b hb;cases hb
theorem mI.inn{lev n:Nat}{s:List Nat}(h:mI s):mI (yN lev (n,s)):=by
 unfold yN;split
 ·exact h
 ·exact h.par
theorem zfx{op:Nat}{name:List Nat}{v:zF}{l:List (Nat × List Nat)}(hop:op<27)(hn:(sB op).named=true->gN name=true)(ha:∀p∈l,mI p.2):mI (kK op name v l):=by
 have hin:∀i lev,mI (yN lev (l.getD i (0,[]))):=fun i lev=>by
  grind [mI.none,mI.inn]
 have hj:∀(b:Bool) (l:List (Nat × List Nat)),(∀p∈l,mI p.2)->mI (nU b l):=by
  intro b l;induction l generalizing b with
  | nil=>intro _;exact mI.none rfl rfl
  | cons p l ih=>
   intro h;rw[nU];exact(((wI.bal (by cases b <;> (intro x hx;grind))).app (h p yby))).app (ih false fun q hq=>h q (ybr _ hq))
 have hw:=(zlq op hop).bal
 unfold kK;split
 ·exact(zig v).bal
 split
 ·exact hw
 split
 ·rename_i h3
  have hnm:(sB op).named=true:=by
   have e:∀op,op<27->(sB op).style=3->(sB op).named=true:=by decide +kernel
   simp_all
  exact((hw.app (IP (hn hnm)).bal).app (wI.bal fun x hx=>by grind)).app (hin 0 _)
 split
 ·exact(hin 0 _).app (((wI.bal (s:=[32]) fun x hx=>by simp_all).app hw).app (wI.bal (s:=[32]) fun x hx=>by simp_all) |>.app (hin 1 _))
 split
 ·exact hw.app (hin 0 _)
 ·have hN:mI (if (sB op).named then name++[44,32]else []):=by
   split
   ·rename_i h;exact(IP (hn h)).bal.app (wI.bal fun x hx=>by grind)
   grind [mI.none]
  have hT:mI (if op=19 then [44,32]++bX v.i.toNat else []):=by
   split
   ·exact(wI.bal (s:=[44,32]) fun x hx=>by grind).app (zlr _).bal
   grind [mI.none]
  have:=hw.app (((hN.app ((hj true l ha).app hT))).par)
  grind [Lc]
mutual
theorem DQ:∀(x:mA) (d:Nat),sJ x d=true->mI (gF x)
 | .mk op name v args,d,h=>by
  obtain⟨h1,h2,h3,h4⟩:=Tb h
  rw[gF];by_cases h0:op=1
  ·subst h0
   unfold kK;rw[yab Sq.1];exact(zig v).bal
  ·refine zfx h2.lt h2.nm fun p hp=>?_
   rw[Hg]at hp;obtain⟨y,hy,rfl⟩:=yaq.1 hp
   exact DN args (d+1) (h4 h0).2 y hy
theorem DN:∀(l:List mA) (d:Nat),(∀y∈l,sJ y d=true)->∀y∈l,mI (gF y)
 | [],_,_,_,hy=>by cases hy
 | x::l,d,h,y,hy=>by
  rcases ybs.1 hy with e | hy
  ·rw[e];exact DQ x d (h x yby)
  ·exact DN l d (fun z hz=>h z (ybr _ hz)) y hy
end
def rQ(s:List Nat):Nat->Int->Nat->Int
 | 0,_,_ => -1
 | k+1,n,i=>match s[i]? with
  | none => -1
  | some b=>if b=40 then rQ s k (n+1) (i+1)else if b=41 then(if n-1=0 then(i:Int)else rQ s k (n-1) (i+1))else rQ s k n (i+1)
theorem Tl{c:Nat}{s:List Nat}{i b:Nat}(h:s[i]?=some b):ct c (s.take (i+1))=ct c (s.take i)+if b=c then 1 else 0:=by
 grind [List.take_add_one]
theorem Rp{s:List Nat}(hb:mI s):∀(k:Nat) (n:Int) (i a:Nat),i+k=s.length->(n:Int)=(ct 40 (s.take i):Int)-ct 41 (s.take i)-a->1<=n->∃j:Nat,i<=j/\s[j]?=some 41/\rQ s (k+1) n i=(j:Int)
 | 0,n,i,a,hi,hn,h1=>by
  have h2:=hb.1
  grind
 | k+1,n,i,a,hi,hn,h1=>by
  have hx:s[i]?=some s[i]:=ybd (by omega)
  have e0:=Tl (c:=40) hx
  have e1:=Tl (c:=41) hx
  rw[rQ,hx];dsimp only
  by_cases h40:s[i]=40
  ·rw[yab h40]
   rw[yab h40]at e0;rw[yaa (by omega)]at e1
   obtain⟨j,g1,g2,g3⟩:=Rp hb k (n+1) (i+1) a (by omega) (by omega) (by omega)
   grind
  ·rw[yaa h40]
   rw[yaa h40]at e0;by_cases h41:s[i]=41
   ·rw[yab h41]
    rw[yab h41]at e1;by_cases h0:n-1=0
    ·grind
    ·rw[yaa h0]
     obtain⟨j,g1,g2,g3⟩:=Rp hb k (n-1) (i+1) a (by omega) (by omega) (by omega)
     grind
   ·rw[yaa h41]
    rw[yaa h41]at e1;obtain⟨j,g1,g2,g3⟩:=Rp hb k n (i+1) a (by omega) (by omega) h1
    grind
def ze1{s:List Nat}(hb:mI s){i:Nat}(h:s[i]?=some 40):∃j:Nat,i<j/\s[j]?=some 41/\rQ s (s.length+1-i) 0 i=(j:Int):=by
 have hi:=(ybc.1 h).1
 have e0:=Tl (c:=40) h
 have e1:=Tl (c:=41) h
 simp only[yab,yaa (show ¬ (40:Nat)=41 by omega)]at e0 e1
 have hp:=hb.2 i
 obtain⟨j,g1,g2,g3⟩:=Rp hb (s.length-(i+1)) 1 (i+1) (ct 40 (s.take i)-ct 41 (s.take i)) (by omega) (by omega) (by omega)
 refine⟨j,by omega,g2,?_⟩
 rw[show s.length+1-i=(s.length-(i+1)+1)+1 by omega,rQ,h]
 exact g3
def without(s:List Nat)(i j:Nat):List Nat:=s.take i++(s.take j).drop (i+1)++s.drop (j+1)
theorem RO{s:List Nat}{i j:Nat}(h:s[i]?=some 40)(hj:i<j)(h2:s[j]?=some 41):ct 40 (without s i j)+1=ct 40 s:=by
 have hl:=(ybc.1 h2).1
 have e:s=s.take i++(40::((s.take j).drop (i+1)++(41::s.drop (j+1)))):=by
  grind [List.take_append_drop,List.drop_eq_getElem_cons]
 grind [without]
end
section
variable {x:mA}{cs:List zA}
variable [rC]
variable {t:Tr tA}
theorem Ro{s:List Nat}(hl:s.length<=1000):∀(k:Nat) (n:Int) (i:Nat),i+k=s.length+1 -> -2000<=n-(k:Int)->n+(k:Int)<=2000->jp 10 2 [.str s,.int .i64 n,.int .i64 (i:Int)] t (fun v t'=>v=.int .i64 (rQ s k n i)/\t'=t)
 | 0,n,i,h,_,_=>by
  refine j10_2 ?_
  unfold zk3 uU uZ;exact zB (fun e=>by grind [nK,pK]) ⟨rfl,rfl⟩
 | k+1,n,i,h,hn,hn'=>by
  refine j10_2 ?_
  unfold zk3 uU uZ vC uW;by_cases hi:i<s.length
  ·have hx:s[i]?=some s[i]:=ybd hi
   refine pA (by grind [nK,sK]) (rA (lK hx) (rB ?_))
   have e:rQ s (k+1) n i=if s[i]=40 then rQ s k (n+1) (i+1)else if s[i]=41 then(if n-1=0 then(i:Int)else rQ s k (n-1) (i+1))else rQ s k n (i+1):=by rw[rQ,hx]
   rw[e];rw[wrap_i64 (n:=n+1) (by omega) (by omega),wrap_i64 (n:=(i:Int)+1) (by omega) (by omega),wrap_i64 (n:=n-1) (by omega) (by omega)]
   by_cases h40:s[i]=40
   ·rw[yab h40]
    exact pA (eP (by omega)) (jC (Ro hl k (n+1) (i+1) (by omega) (by omega) (by omega)))
   ·rw[yaa h40]
    refine zB (uJ (by omega)) ?_
    by_cases h41:s[i]=41
    ·rw[yab h41]
     refine pA (eP (by omega)) ?_
     by_cases h0:n-1=0
     ·rw[yab h0]
      exact pA (eP h0) ⟨rfl,rfl⟩
     ·rw[yaa h0]
      exact zB (uJ h0) (jC (Ro hl k (n-1) (i+1) (by omega) (by omega) (by omega)))
    ·rw[yaa h41]
     exact zB (uJ (by omega)) (jC (Ro hl k n (i+1) (by omega) (by omega) (by omega)))
  ·have hx:s[i]?=none:=List.getElem?_eq_none (by omega)
   have e:rQ s (k+1) n i = -1:=by rw[rQ,hx]
   rw[e];exact zB (by grind [nK,pK]) ⟨rfl,rfl⟩
theorem Zk{s:List Nat}  {J:mF}{Z:T}{a b c:zA}{i:Nat}{Q:mB}(hs:s=gF x)(hlt:qB 256 s)(hl:s.length<=1000)(hx:x.fit)(hP:sJ x 1=true)(hg:bK t)(hcs:cs=[.int .u8 x.op,.str x.name,.int .u8 x.v.kind,.bool x.v.f.n.neg,a,.bool x.v.f.d.neg,b,.int .i64 x.v.i,c])(hr:RD t x.d cs)(hi:s[i]?=some 40)
  (hQ:∀t',bA t t'->oA yA.base (Wq yA F wD) J Z t' Q) :
  oA yA.base (Wq yA F wD) J (.call 10 [.str s,uZ i]<|uI fun n=>.ite (jB n 0) bB (.opt (iD yA 9 iG (.str s) none (some (uZ i)))<|uS fun s34=>.opt (iD yA 9 iG (.str s) (some (vC i)) (some (uZ n)))<|uS fun s1=>.opt (wJ s34 s1)<|uS fun s38=>.opt (iD yA 9 iG (.str s) (some (vC n)) none)<|uS fun s2=>.opt (wJ s38 s2)<|uS fun s3=>.heavy (yI yA 31) fun a43=>.heavy (yI yA 39) fun a44=>.call 11 [.str s3] fun a=>.opt (uX 0 a)<|uG nN fun X47=>.opt (uX 1 a)<|uG xZ fun X=>.opt (uX 2 a)<|uI fun n=>.heavy (sC yA 31 a43 (kD X47)) fun _=>.heavy (sC yA 39 a44 (uA4 X)) fun _=>.ite (kB n 0) (.light (fun m=>iA yA 31 ⟨0,m⟩ a43)<|uG nN fun X=>.call 12 [.agg cs,(kD X)]<|uB fun b=>.ite b bB Z) Z)) t Q:=by
 have hi':=(ybc.1 hi).1
 obtain⟨j,j1,j2,j3⟩:=ze1 (by grind [DQ]) hi
 have hj:=(ybc.1 j2).1
 unfold uI uS uG uB bB uZ vC;refine xB ?_
 rw[q10];refine w10 ?_
 unfold t10 uZ;refine jC (Jq.mono (Ro hl (s.length+1-i) 0 i (by omega) (by omega) (by omega)) fun v t' hv=>?_)
 obtain⟨rfl,e⟩:=hv
 rw[j3,e];clear e
 refine rB (zB (pK (by omega)) ?_)
 rw[wrap_i64 (by omega) (by omega),wrap_i64 (by omega) (by omega)]
 refine rA (pZ (by omega)) (eD ?_)
 have e1:iD yA 9 iG (.str s) (some (.int .i64 ((i:Int)+1))) (some (.int .i64 (j:Int)))=some (.str ((s.take j).drop (i+1))):=FG (a:=i+1) (by omega) (by omega)
 have e2:iD yA 9 iG (.str s) (some (.int .i64 ((j:Int)+1))) none=some (.str (s.drop (j+1))):=Er (k:=j+1) (by omega)
 have b1:(s.take i).length<=s.length:=List.length_take_le' _ _
 have b2:((s.take j).drop (i+1)).length<=s.length:=by grind
 have b3:(s.drop (j+1)).length<=s.length:=by simp_all
 refine rA e1 (eD (rA (uP (by omega)) (eD (rA e2 (eD (rA (uP (by grind)) (eD ?_)))))))
 have hw:s.take i++(s.take j).drop (i+1)++s.drop (j+1)=without s i j:=rfl
 rw[hw];have hct:=RO hi j1 j2
 have hby:∀b∈without s i j,b<256:=fun b hb=>by
  refine hlt b ?_
  grind
 have hwl:(without s i j).length<=3000:=by grind
 generalize without s i j=s' at *
 refine gC fun c0 hc0 hb0=>?_
 obtain⟨u0,a1,a2,a3,a4⟩:=dO (C:=yA) vZ hc0
 refine⟨_,_,a1,?_⟩
 have o0:yB yA.base t t []:=⟨bA.refl _,by simp,by simp,by simp⟩
 have o1:=yB.newCel (A:=[]) (B:=[]) o0 hc0 hb0 a2 a3 a4
 refine gC fun c1 hc1 hb1=>?_
 obtain⟨u1,a5,a6,a7,a8⟩:=dO (C:=yA) bS hc1
 refine⟨_,_,a5,?_⟩
 have o2:=yB.newCel (A:=[aC c0 none zE]) (B:=[]) o1 hc1 hb1 a6 a7 a8
 refine xB ?_
 rw[q11];refine Wc.objs (R:=fun v t'=>∃ds,v=.tup [.agg ds,.agg (plV (tP pM s').pl),.int .i64 ((tP pM s').err:Int)]/\RD t' ((tP pM s').val zj7).d ds) (expr15 hg hby ?_) o2 fun v tf1 t1 hle ho hv=>?_
 ·cases tP pM s' with
  | ok x=>exact fun t' ds k1 k2=>⟨k1,ds,rfl,k2⟩
  | er e a b=>exact fun t' k1=>⟨k1,zE,rfl,zdo⟩
 obtain⟨ds,rfl,hd⟩:=hv
 have hE:kD (cellsOf ds)=.agg ds:=congrArg zA.agg (zg4 hd)
 refine rA (v:=.agg ds) rfl (bC (dQ hd) (rA (v:=.agg (plV (tP pM s').pl)) rfl (bC agPl (rA (v:=.int .i64 ((tP pM s').err:Int)) rfl (rB ?_)))))
 rw[hE];have hz:(9:Nat)=ds.length:=by obtain⟨p,q,r,rfl,_⟩:=qH hd;rfl
 refine gC fun m2 _ _=>?_
 obtain⟨t2,g1,g2⟩:=stS (A:=[]) (B:=[aC c1 none [.int .i64 0,.int .i64 0]]) ho vZ rfl (by simp_all) hd.all
 refine⟨_,_,g1 m2,?_⟩
 refine gC fun m3 _ _=>?_
 obtain⟨t3,g3,g4⟩:=stS (A:=[aC c0 none ds]) (B:=[]) (cs':=plV (tP pM s').pl) g2 bS rfl rfl rfl
 refine⟨_,_,g3 m3,?_⟩
 have hle3:bA t t3:=hle.trans g4.tle
 have hne:x≠(tP pM s').val zj7:=by
  intro e
  cases hlx:oM s' with
  | er e' a b=>
   rw[GO hlx]at e;rw[e]at hP;exact(Tb hP).2.1.ne rfl
  | ok m=>
   rw[GN hlx]at e;rw[zl4 (by omega)]at hlx
   cases htp:pM m with
   | er e' k=>
    rw[htp]at e;rw[e]at hP;exact(Tb hP).2.1.ne rfl
   | ok z k=>
    rw[htp]at e;have:=zeq hlx htp
    have e:x=z:=e
    grind
 by_cases h0:((tP pM s').err:Int)=0
 ·refine pA (lI.2 h0) (aB (ldS (A:=[]) g4 vZ rfl hz) (bC (dQ hd) (xB ?_)))
  rw[hE,q12,dif12 x _ (OA x 1 hx hP) hne cs ds (hr.mono hle3) (hd.mono g4.tle),vA]
  grind [sD,zB]
 grind [zB,uJ]
theorem JZ{s:List Nat}{x:mA}{a b c:zA}(hs:s=gF x)(hlt:qB 256 s)(hl:s.length<=1000)(hx:x.fit)(hP:sJ x 1=true):∀(k i:Nat) (t:Tr tA),i+k=s.length->bK t->RD t x.d [.int .u8 x.op,.str x.name,.int .u8 x.v.kind,.bool x.v.f.n.neg,a,.bool x.v.f.d.neg,b,.int .i64 x.v.i,c] →
  jp 3 2 [.str s,.int .i64 (i:Int),.int .u8 x.op,.str x.name,.int .u8 x.v.kind,.bool x.v.f.n.neg,a,.bool x.v.f.d.neg,b,.int .i64 x.v.i,c] t (fun v _=>v=.bool true)
 | 0,i,t,h,_,_=>by
  refine j3_2 ?_
  unfold t3_2 uU gG;exact zB (by grind [nK,pK]) rfl
 | k+1,i,t,h,hg,hr=>by
  have hxi:s[i]?=some s[i]:=ybd (by omega)
  have next:∀t',bA t t'->wp 3 (uQ9 s (i:Int) x.op x.name x.v.kind x.v.f.n.neg a x.v.f.d.neg b x.v.i c) t' (fun v _=>v=.bool true):=fun t' h'=>by
   unfold uQ9 vC uY uZ;refine jC ?_
   rw[wrap_i64 (by omega) (by omega)]
   exact JZ hs hlt hl hx hP k (i+1) t' (by omega) (hg.mono h') (hr.mono h')
  refine j3_2 ?_
  unfold t3_2 uU gG;refine pA (by grind [nK,sK]) (rA (lK hxi) (rB ?_))
  by_cases h40:s[i]=40
  ·have hi:s[i]?=some 40:=by rw[hxi,h40]
   refine zB (fun e=>absurd (by omega) (cM.1 e)) ?_
   by_cases h0:i=0
   ·refine zB (pK (by omega)) ?_
    exact Zk hs hlt hl hx hP hg rfl hr hi next
   ·have hp:s[i-1]?=some s[i-1]:=ybd (by omega)
    have hidx:bG yA 9 (.str s) (uZ (uW ((i:Int)-1)))=some (.int .u8 (s[i-1]:Int)):=by
     grind [wrap_i64,lK]
    refine pA (sK (by omega)) (rA hidx (rB ?_))
    by_cases h32:s[i-1]=32
    ·refine zB (fun e=>absurd (by omega) (cM.1 e)) ?_
     exact Zk hs hlt hl hx hP hg rfl hr hi next
    ·refine pA (cM.2 (by omega)) (rA hidx (rB ?_))
     by_cases h4:s[i-1]=40
     ·refine zB (fun e=>absurd (by omega) (cM.1 e)) ?_
      exact Zk hs hlt hl hx hP hg rfl hr hi next
     grind [pA,cM,bA.refl]
  grind [pA,cM,bA.refl]
theorem zfe  (hx:x.fit)(hg:bK t)(hM:rN t)(hW:iT t)(hr:RD t x.d cs):Wc yA F 3 [.agg cs] t (fun v _=>v=.bool true):=by
 have hr0:=hr
 obtain⟨a,b,c,rfl,ha,hb,hc⟩:=qH hr
 refine w3 ?_
 unfold t3 uI uB gG uS bB uZ uY;refine zg9 (xB ?_)
 rw[q8,pv37 x 400 _ (mA.fit_ok hx) (by omega) (by omega) hr0,vA]
 refine rB ?_
 by_cases h2:400<oZ x 400
 ·exact pA (sK h2) rfl
 refine zB (pK h2) (xB ?_)
 rw[q9];refine zf9 hx hM hW hr0 fun t1 h1 hlt=>?_
 unfold Ta
 cases hP:sJ x 1 with
 | false=>
  rw[yaa (by simp)]
  exact rA rfl (eD (rA rfl (rB (pA (by decide) rfl))))
 | true=>
  rw[yab rfl];by_cases hl:65536<(gF x).length
  ·rw[yab hl]
   exact rA rfl (eD (rA rfl (rB (pA (by decide) rfl))))
  ·rw[yaa hl]
   refine rA rfl (eD (rA rfl (rB (zB (by decide) ?_))))
   by_cases h10:1000<(gF x).length
   ·exact pA (by grind [nK,sK]) rfl
   ·refine zB (by grind [nK,pK]) (jC ?_)
    exact JZ rfl (hlt hP hl) (by omega) hx hP _ 0 t1 (ybw _) (hg.mono h1) (hr0.mono h1)
end
end Go.Proofs
namespace Go.Am
open Go Go.RowKit Go.Proofs
def fleast3{w:World}(hL:zI w){ds:Array Value}{x:mA}(hx:x.fit)
  (hk:Has w.heap.size ds.toList) (hr:RD (kI w) x.d (ds.toList.map (av w.heap.size))) :
  Calls Tryz.prog 3 #[.agg ds] w fun e w'=>e=.returned (.bool true)/\Below w.heap.size w w':=
 SQ hL 3 [.agg (ds.toList.map (av w.heap.size))] _ (by intro _;kernel_rfl) (.single (zev hk)) ⟨_,zfe hx (zb5 hL) (MS hL) (MT hL) hr,fun v t h=>h⟩
end Go.Am
