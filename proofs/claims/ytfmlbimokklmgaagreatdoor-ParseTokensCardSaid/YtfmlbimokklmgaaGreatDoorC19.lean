/- What the lexer gives: few tokens, each of its form. -/
import Derived.Test.YtfmlbimokklmgaaGreatDoorC18
set_option linter.all false
noncomputable section
namespace Go.Proofs
open Go Go.Am
variable {p:Nat->Bool}{r s:List Nat}{b:Nat}{m:List wC}
def Ld   : ∀b∈uD p s,p b=true:=by
 intro b hb;unfold uD at hb;induction s with
 | nil=>cases hb
 | cons x s ih=>
  rw[List.takeWhile_cons]at hb;split at hb
  ·rcases ybs.1 hb with rfl | h
   ·assumption
   ·exact ih h
  ·cases hb
def Lc   : ∃r,s=uD p s++r/\∀b r',r=b::r'->p b=false:=by
 refine⟨s.dropWhile p,(List.takeWhile_append_dropWhile).symm,fun b r' h=>?_⟩
 have:=List.head?_dropWhile_not p s
 rw[h]at this;simpa using this
def aX {a:List Nat}(h:∀b∈a,p b=true)(hr:∀b r',r=b::r'->p b=false):uD p (a++r)=a:=by
 unfold uD;induction a with
 | nil=>
  cases r with
  | nil=>rfl
  | cons b r'=>rw[yah,List.takeWhile_cons,hr b r' rfl];rfl
 | cons x a ih=>
  rw[List.cons_append,List.takeWhile_cons,h x yby,yab rfl,ih fun b hb=>h b (ybr _ hb)]
def AA (h:pD b=true):decide (b≠47)=true:=by
 unfold pD at h;simp only[ybb,decide_eq_true_eq]at h ⊢
 omega
def Rv(f q:List Nat):(f++q)[f.length]?=q.head?:=by
 rw[ybp (ybk _),Nat.sub_self]
 cases q<;>rfl
def Ow(f q:List Nat):(f++q).take f.length=f:=by simp
def Sg(f q:List Nat)(b:Nat):(f++b::q).drop (f.length+1)=q:=by
 rw[List.drop_append,ybt (by omega),show f.length+1-f.length=1 from by omega];rfl
def ziu   (he:s=b::r)(hd:pD b=true)(h:wI s=false):bR (s.take (dE s))/\0<(s.take (dE s)).length:=by
 unfold wI at h;simp only[yal,decide_eq_false_iff_not]at h;obtain⟨⟨⟨⟨h1,h2⟩,h3⟩,h4⟩,h5⟩:=h
 have hf:bC s≠[]:=by
  intro e;unfold bC uD at e;rw[he,List.takeWhile_cons,hd,yab rfl]at e
  cases e
 obtain⟨q,hq1,hq2⟩:=Lc (p:=pD) (s:=s)
 have hq1:s=bC s++q:=hq1
 have hall:∀x∈bC s,pD x=true:=Ld
 have hpos:0<(bC s).length:=List.length_pos_iff.2 hf
 have hgd:s[(bC s).length]?=q.head?:=by
  have:=Rv (bC s) q
  rwa [<- hq1]at this
 by_cases hs:eE s=[]
 ·have hl:dE s=(bC s).length:=yab hs
  have ht:s.take (dE s)=bC s:=by rw[hl];have:=Ow (bC s) q;rwa [<- hq1]at this
  rw[ht];have hc:oN (bC s)=bC s:=by
   have:=aX (p:=fun b=>decide (b≠47)) (a:=bC s) (r:=[]) (fun b hb=>AA (hall b hb)) (fun _ _ e=>by cases e)
   rwa [ycd]at this
  refine⟨⟨by rw[hl]at h1;omega,by rw[hc];exact hall,by rw[hc];exact hf,by rw[hc];exact h3,fun hh=>?_⟩,hpos⟩
  unfold vH at hh;have:=AA (hall 47 (by simpa using hh))
  simp at this
 ·have hl:dE s=(bC s).length+1+(eE s).length:=yaa hs
  have hsl:s[(bC s).length]?=some 47:=by
   cases Decidable.em (s[(bC s).length]?=some 47)with
   | inl h=>exact h
   | inr h=>exact absurd (yaa h) hs
  rw[hgd]at hsl;obtain⟨u,rfl⟩:∃u,q=47::u:=by
   cases q with
   | nil=>cases hsl
   | cons x u=>rw[List.head?_cons]at hsl;cases hsl;exact⟨u,rfl⟩
  have hsec:eE s=uD pD u:=by
   unfold eE;rw[yab (by rw[hgd];exact hsl)]
   congr 1
   have:=Sg (bC s) u 47
   rwa [<- hq1]at this
  obtain⟨w,hw1,_⟩:=Lc (p:=pD) (s:=u)
  rw[<- hsec]at hw1;have hall2:∀x∈eE s,pD x=true:=by rw[hsec];exact Ld
  have ht:s.take (dE s)=bC s++47::eE s:=by
   have e:s=(bC s++47::eE s)++w:=by rw[ybz,List.cons_append,<- hw1];exact hq1
   rw[hl];have:=Ow (bC s++47::eE s) w
   rw[<- e]at this;rw[ybg,ybn,show(bC s).length+((eE s).length+1)=(bC s).length+1+(eE s).length from by omega]at this
   exact this
  rw[ht];have hc:oN (bC s++47::eE s)=bC s:=aX (fun b hb=>AA (hall b hb)) (fun b r' e=>by cases e;rfl)
  have hcb:vO (bC s++47::eE s)=eE s:=by
   unfold vO;rw[hc];exact Sg _ _ _
  refine⟨⟨?_,by rw[hc];exact hall,by rw[hc];exact hf,by rw[hc];exact h3,fun _=>?_⟩,by rw[ybg];omega⟩
  ·rw[hl]at h1;simp only[ybg,ybn];omega
  ·rw[hcb]
   exact⟨hs,hall2,h4,h5⟩
def Bn {k:Nat}{w:List Nat}(h:vF s=.tok k w):0<w.length/\(k=2->bR w)/\(k=3->Sm w)/\k≠5:=by
 unfold vF at h;split at h
 ·cases h
 ·rename_i b r
  split at h
  ·rename_i hb
   split at h
   ·cases h
   ·cases h
    refine⟨?_,fun e=>by omega,fun e=>by omega,by omega⟩
    unfold uD;rw[List.takeWhile_cons,yab (by unfold yJ;rw[hb];rfl)]
    simp
  ·split at h
   ·rename_i hb
    simp only[ybb]at hb;split at h
    ·cases h
    ·rename_i hd
     cases h;have hl:10<=(b::r).length:=by
      have:=hb.2
      unfold bG at this;simp only[ybb,decide_eq_true_eq]at this;exact this.1
     have hlt:((b::r).take 10).length=10:=by rw[yda];omega
     refine⟨by omega,fun e=>by omega,fun _=>⟨hlt,?_,?_⟩,by omega⟩
     ·have:=hb.2
      unfold bG at this ⊢
      simp only[ybb,decide_eq_true_eq]at this ⊢
      refine⟨by omega,?_⟩
      have h2:=this.2
      rw[ycb]at h2 ⊢
      intro i hi;have hi':=List.mem_range.1 hi
      have:=h2 i hi
      rw[List.getD_eq_getElem?_getD,List.getElem?_take_of_lt hi',<- List.getD_eq_getElem?_getD];exact this
     ·have hd:pN (b::r)=false:=by simpa using hd
      unfold pN at hd;simp only[yal,decide_eq_false_iff_not]at hd
      cases hx:Aq ((b::r).take 10)with
      | none=>exact absurd hx hd.2
      | some n=>exact⟨n,rfl⟩
   ·split at h
    ·rename_i hb
     split at h
     ·cases h
     ·rename_i hn
      cases h;have hn:wI (b::r)=false:=by simpa using hn
      obtain⟨h1,h2⟩:=ziu rfl hb hn
      exact⟨h2,fun _=>h1,fun e=>by omega,by omega⟩
    ·split at h
     ·cases h
      exact⟨by simp,fun e=>by omega,fun e=>by omega,by omega⟩
     ·cases h
def bad_ne {e:Nat}(h:vF s=.bad e):e≠0:=by
 unfold vF at h;repeat' split at h
 all_goals first | (cases h;decide) | cases h
def Zw(p:Nat × Nat):dX (endT p):=⟨fun e=>(by cases e),fun e=>(by cases e)⟩
def MJ{t:wC}{r:LR} (h:r.cons t=.ok m):∃m',r=.ok m'/\m=t::m':=by
 cases r with
 | ok l=>cases h;exact⟨l,rfl,rfl⟩
 | er _ _ _=>cases h
def MQ{op:Option (Nat × Nat)}{r:LR} (h:LR.close op r=.ok m):∃m',r=.ok m'/\m.length<=m'.length+1/\∀x∈m,x∈m'\/dX x:=by
 cases op with
 | none=>exact⟨m,h,by omega,fun x hx=>.inl hx⟩
 | some p=>
  obtain⟨m',h1,rfl⟩:=MJ h
  refine⟨m',h1,by simp,fun x hx=>?_⟩
  rcases ybs.1 hx with rfl | hx
  ·exact .inr (Zw p)
  ·exact .inl hx
def zc5:∀(k:Nat) (s:List Nat) (ln cl:Nat) (op:Option (Nat × Nat)) (m:List wC),iM k s ln cl op=.ok m->m.length<=s.length+1/\∀x∈m,dX x:=by
 intro k;induction k with
 | zero=>intro s ln cl op m h;cases h;exact⟨by simp,by simp⟩
 | succ k ih=>
  intro s ln cl op m h;unfold iM at h;split at h
  ·cases ‹_+1=0›
  ·obtain⟨m',h1,h2,h3⟩:=MQ h
   cases h1;exact⟨h2,fun x hx=>(h3 x hx).elim (fun h=>by cases h) id⟩
  ·rename_i b r heq
   cases heq;split at h
   ·obtain⟨m',h1,h2,h3⟩:=MQ h
    obtain⟨g1,g2⟩:=ih _ _ _ _ _ h1
    exact⟨by rw[ybn];omega,fun x hx=>(h3 x hx).elim (g2 x) id⟩
   ·split at h
    ·obtain⟨g1,g2⟩:=ih _ _ _ _ _ h
     exact⟨by rw[ybn];omega,g2⟩
    ·split at h
     ·obtain⟨g1,g2⟩:=ih _ _ _ _ _ h
      refine⟨Nat.le_trans g1 ?_,g2⟩
      rw[ydj];omega
     ·split at h
      ·cases h
      ·rename_i kd w ht
       obtain⟨m',h1,rfl⟩:=MJ h
       obtain⟨g1,g2⟩:=ih _ _ _ _ _ h1
       obtain⟨f1,f2,f3,_⟩:=Bn ht
       rw[ydj]at g1;refine⟨by simp only[ybn]at g1 ⊢;omega,fun x hx=>?_⟩
       rcases ybs.1 hx with rfl | hx
       ·exact⟨f2,f3⟩
       ·exact g2 x hx
def zjb:∀(k:Nat) (s:List Nat) (ln cl:Nat) (op:Option (Nat × Nat)) (e a b:Nat),iM k s ln cl op=.er e a b->e≠0:=by
 have hcons:∀(t:wC) (r:LR) (e a b:Nat),r.cons t=.er e a b->r=.er e a b:=by
  intro t r e a b h
  cases r with
  | ok l=>cases h
  | er _ _ _=>cases h;rfl
 have hclose:∀(op:Option (Nat × Nat)) (r:LR) (e a b:Nat),LR.close op r=.er e a b->r=.er e a b:=by
  intro op r e a b h
  cases op with
  | none=>exact h
  | some p=>exact hcons _ _ _ _ _ h
 intro k;induction k with
 | zero=>intro s ln cl op e a b h;cases h
 | succ k ih=>
  intro s ln cl op e a b h;unfold iM at h;split at h
  ·cases ‹_+1=0›
  ·have:=hclose _ _ _ _ _ h;cases this
  ·rename_i x r heq
   cases heq;split at h
   ·exact ih _ _ _ _ _ _ _ (hclose _ _ _ _ _ h)
   ·split at h
    ·exact ih _ _ _ _ _ _ _ h
    ·split at h
     ·exact ih _ _ _ _ _ _ _ h
     ·split at h
      ·rename_i ht
       cases h;exact bad_ne ht
      ·exact ih _ _ _ _ _ _ _ (hcons _ _ _ _ _ h)
end Go.Proofs
set_option maxRecDepth 100000
namespace Go.Proofs
open Go Go.Am
variable {m:List wC}{a b e:Nat}{α:Type}
variable [fC]
def t40_eq(s:List Nat)(p1:zA):t40 s p1=tRun 50 zE cE s p1:=rfl
def QH(v1 v4 v5 v6 v8:zA):Um v1 v4 v5 v6 v8=tR13 50 zE cE v1 v4 v5 v6 v8:=rfl
def zbw(v0 v1 v2 v3:zA):Pf v0 v1 v2 v3=tR3 50 zE v0 v1 v2 v3:=rfl
def zbz(v4 v5 v6:zA):Pi v4 v5 v6=tRe 50 v4 v5 v6:=rfl
def t45_eq(s:List Nat)(p1:zA):t45 s p1=tRun 47 zV cV s p1:=rfl
def QG(v1 v4 v5 v6 v8:zA):Ul v1 v4 v5 v6 v8=tR13 47 zV cV v1 v4 v5 v6 v8:=rfl
def zbv(v0 v1 v2 v3:zA):Pe v0 v1 v2 v3=tR3 47 zV v0 v1 v2 v3:=rfl
def zby(v4 v5 v6:zA):Ph v4 v5 v6=tRe 47 v4 v5 v6:=rfl
def rt50:RT 50 zE cE:=⟨⟨_,Gt,rfl,rfl,rfl⟩,rfl,uO rfl,rfl⟩
def rt47:RT 47 zV cV:=⟨⟨_,ty47,rfl,rfl,rfl⟩,rfl,uO rfl,rfl⟩
def cX (m:List wC)(s:List Nat)(i:Nat):wC:=(m[i]?).getD ⟨0,[],atL s,atC s⟩
def Hz{s:List Nat} (h:oI s=.ok m):s.length<900000/\m.length<300000/\∀x∈m,dX x:=by
 unfold oI at h;split at h
 ·cases h
 ·obtain⟨h1,h2⟩:=zc5 _ _ _ _ _ _ h
  exact⟨by omega,by omega,h2⟩
def Rf{s:List Nat} (h:oI s=.er e a b):e≠0:=by
 unfold oI at h;split at h
 ·cases h;decide
 ·exact zjb _ _ _ _ _ _ _ _ h
inductive RP (α:Type) where
 | ok (x:α)
 | er (e l c:Nat)
def xE {α:Type}(top:List wC->PR α)(s:List Nat):RP α:=
 match oI s with
 | .er e a b=>.er e a b
 | .ok m=>match top m with
  | .ok x _=>.ok x
  | .er e i=>.er e (cX m s i).line (cX m s i).col
def Bs {top:List wC->PR α}{s:List Nat} (h:oI s=.ok m):xE top s=match top m with | .ok x _=>.ok x | .er e i=>.er e (cX m s i).line (cX m s i).col:=by unfold xE;rw[h]
def Ek {top:List wC->PR α}{s:List Nat} (h:oI s=.er e a b):xE top s=.er e a b:=by unfold xE;rw[h]
section
variable {t:Tr vA}{Q:qB}{s:List Nat}
def run40(hg:bI t)(hby:∀b∈s,b<256)(hQ:match xE oJ s with
  | .ok x=>∀t' cs,bA t t'->RD t' x.d cs->Q (.tup [.agg cs,.agg [.int .i64 0,.int .i64 0],.int .i64 0]) t'
  | .er e a b=>∀t',bA t t'->Q (.tup [.agg zE,.agg [.int .i64 (a:Int),.int .i64 (b:Int)],.int .i64 (e:Int)]) t'):Wc yA F 40 [.str s,.func (.func 41) [] []] t Q:=by
 refine w40 _ _ ?_
 rw[t40_eq];refine Wh rt50 hg hby (fun m hm=>Hz hm) (fun e a b h=>⟨Rf h,?_⟩) (fun m hm tf1 t1 P b0 b1 b2 e1 e2 e3 e4 hle hst=>⟨rfl,tl40 _ _ _ _ _ ?_⟩)
 ·rw[Ek h]at hQ;exact hQ
 ·rw[QH]
  simp only[zbw,zbz];refine Uj (rd:=lL) (good:=fun tf' x cs=>RD tf' x.d cs) (r:=oJ P.tk) rt50 e4 hst ?_ (fun Q E hk=>by rw[pE 41];exact zhp hst hk) (by kernel_rfl) (fun tf' x v ⟨cs,h1,h2⟩=>⟨cs,h1,Fp h2,yQ h2,Cy h2,by obtain⟨a,b,c,rfl,_⟩:=aJ h2;exact h2.all,h2⟩)
  rw[Bs hm]at hQ;rw[e1]
  cases hr:oJ m with
  | ok x n=>
   rw[hr]at hQ;exact fun tf' t' cs k1 k2 k3=>hQ t' cs (hle.trans (k1.trans k2)) (k3.mono k2)
  | er e i=>
   rw[hr]at hQ;have ht:qF P i=cX m s i:=by unfold qF cX;rw[e1,e2,e3]
   intro t' k1;rw[ht];exact hQ t' (hle.trans k1)
def run45(hg:bI t)(hby:∀b∈s,b<256)(hQ:match xE pJ s with
  | .ok x=>∀t' cs,bA t t'->RD t' x.d cs->Q (.tup [.agg cs,.agg [.int .i64 0,.int .i64 0],.int .i64 0]) t'
  | .er e a b=>∀t',bA t t'->Q (.tup [.agg zV,.agg [.int .i64 (a:Int),.int .i64 (b:Int)],.int .i64 (e:Int)]) t'):Wc yA F 45 [.str s,.func (.func 46) [] []] t Q:=by
 refine w45 _ _ ?_
 rw[t45_eq];refine Wh rt47 hg hby (fun m hm=>Hz hm) (fun e a b h=>⟨Rf h,?_⟩) (fun m hm tf1 t1 P b0 b1 b2 e1 e2 e3 e4 hle hst=>⟨rfl,tl45 _ _ _ _ _ ?_⟩)
 ·rw[Ek h]at hQ;exact hQ
 ·rw[QG]
  simp only[zbv,zby];refine Uj (rd:=rdXV) (good:=fun tf' x cs=>RD tf' x.d cs) (r:=pJ P.tk) rt47 e4 hst ?_ (fun Q E hk=>by rw[pE 46];exact zho hst hk) (by kernel_rfl) (fun tf' x v ⟨cs,h1,h2⟩=>⟨cs,h1,by obtain⟨a,b,rfl,_⟩:=bV h2;rfl,agV h2,Iy h2,by obtain⟨a,b,rfl,_⟩:=bV h2;exact h2.all,h2⟩)
  rw[Bs hm]at hQ;rw[e1]
  cases hr:pJ m with
  | ok x n=>
   rw[hr]at hQ;exact fun tf' t' cs k1 k2 k3=>hQ t' cs (hle.trans (k1.trans k2)) (k3.mono k2)
  | er e i=>
   rw[hr]at hQ;have ht:qF P i=cX m s i:=by unfold qF cX;rw[e1,e2,e3]
   intro t' k1;rw[ht];exact hQ t' (hle.trans k1)
def expr15(hg:bI t)(hby:∀b∈s,b<256)(hQ:match xE oJ s with
  | .ok x=>∀t' cs,bA t t'->RD t' x.d cs->Q (.tup [.agg cs,.agg [.int .i64 0,.int .i64 0],.int .i64 0]) t'
  | .er e a b=>∀t',bA t t'->Q (.tup [.agg zE,.agg [.int .i64 (a:Int),.int .i64 (b:Int)],.int .i64 (e:Int)]) t'):Wc yA F 15 [.str s] t Q:=by
 refine w15 ?_
 unfold t15;refine yB ?_
 rw[q40];refine run40 hg hby ?_
 cases hr:xE oJ s with
 | ok x=>
  rw[hr]at hQ;intro t' cs k1 k2;refine qA (v:=.agg cs) rfl (nC (yQ k2) (qA (v:=.agg [.int .i64 0,.int .i64 0]) rfl (nC ag2 (qA (v:=.int .i64 0) rfl (tB ?_)))))
  show rA _ _ _ (.ite (kB zA.one (cE (cellsOf cs))) (.ite true (.ret (.tup [.agg (cE (cellsOf cs)),_,_])) .fail) .fail) _ _
  rw[Cy k2];refine sA (by obtain⟨a,b,c,rfl,_⟩:=aJ k2;exact k2.all) (sA rfl (hQ t' cs k1 k2))
 | er e a b=>
  rw[hr]at hQ;intro t' k1;exact qA (v:=.agg zE) rfl (nC rt50.ag (qA (v:=.agg [.int .i64 (a:Int),.int .i64 (b:Int)]) rfl (nC ag2 (qA (v:=.int .i64 (e:Int)) rfl (tB (sA rfl (sA rfl (hQ t' k1))))))))
def zhc(hg:bI t)(hby:∀b∈s,b<256)(hQ:match xE pJ s with
  | .ok x=>∀t' cs,bA t t'->RD t' x.d cs->Q (.tup [.agg cs,.agg [.int .i64 0,.int .i64 0],.int .i64 0]) t'
  | .er e a b=>∀t',bA t t'->Q (.tup [.agg zV,.agg [.int .i64 (a:Int),.int .i64 (b:Int)],.int .i64 (e:Int)]) t'):Wc yA F 18 [.str s] t Q:=by
 refine w18 ?_
 unfold t18;refine yB ?_
 rw[q45];refine run45 hg hby ?_
 cases hr:xE pJ s with
 | ok x=>
  rw[hr]at hQ;intro t' cs k1 k2;refine qA (v:=.agg cs) rfl (nC (agV k2) (qA (v:=.agg [.int .i64 0,.int .i64 0]) rfl (nC ag2 (qA (v:=.int .i64 0) rfl (tB ?_)))))
  show rA _ _ _ (.ite (kB zA.one (cV (cellsOf cs))) (.ite true (.ret (.tup [.agg (cV (cellsOf cs)),_,_])) .fail) .fail) _ _
  rw[Iy k2];refine sA (by obtain⟨a,b,rfl,_⟩:=bV k2;exact k2.all) (sA rfl (hQ t' cs k1 k2))
 | er e a b=>
  rw[hr]at hQ;intro t' k1;exact qA (v:=.agg zV) rfl (nC rt47.ag (qA (v:=.agg [.int .i64 (a:Int),.int .i64 (b:Int)]) rfl (nC ag2 (qA (v:=.int .i64 (e:Int)) rfl (tB (sA rfl (sA rfl (hQ t' k1))))))))
end
end Go.Proofs
namespace Go.Proofs
open Go Go.Am
variable [fC]
def rdDef(tf:Tr vA)(x:nG)(v:zA):Prop:=∃cs,v=.agg cs/\RD tf x.d cs
def rdRow(tf:Tr vA)(x:oH)(v:zA):Prop:=∃cs,v=.agg cs/\RD tf x.d cs
def rdCl (tf:Tr vA)(x:dF)(v:zA):Prop:=∃cs,v=.agg cs/\RD tf x.d cs
def def_rd{t:Tr vA}(x:nG):RD t x.d [.str x.name,.int .u8 (x.kind:Int),.bool x.fact]:=
 dJ.2 ⟨[[.str x.name],[.int .u8 (x.kind:Int)],[.bool x.fact]],rfl,aC.2 ⟨_,_,rfl,cK.2 rfl,aC.2 ⟨_,_,rfl,bK.2 rfl,aC.2 ⟨_,_,rfl,eY.2 rfl,sF.2 rfl⟩⟩⟩⟩
def zfj{t:Tr vA}{a b k:Int}{f:jH}{cs:List zA}(h:RD t f.dd cs):RD t (oH.d ⟨a,b,k,f⟩) ([.int .i64 a,.int .i64 b,.int .i64 k]++cs):=
 dJ.2 ⟨[[.int .i64 a],[.int .i64 b],[.int .i64 k],cs],by simp,aC.2 ⟨_,_,rfl,bK.2 rfl,aC.2 ⟨_,_,rfl,bK.2 rfl,aC.2 ⟨_,_,rfl,bK.2 rfl,aC.2 ⟨_,_,rfl,h,sF.2 rfl⟩⟩⟩⟩⟩
def MS{t:Tr vA}{a b:List Nat}{f u k:Int}{o:Bool}{x y:fA}{cx cy:List zA}(hx:RD t x.d cx)(hy:RD t y.d cy):RD t (dF.d ⟨a,b,f,u,k,o,x,y⟩) ([.str a,.str b,.int .i64 f,.int .i64 u,.int .i64 k,.bool o]++(cx++cy)):=
 dJ.2 ⟨[[.str a],[.str b],[.int .i64 f],[.int .i64 u],[.int .i64 k],[.bool o],cx,cy],by simp,aC.2 ⟨_,_,rfl,cK.2 rfl,aC.2 ⟨_,_,rfl,cK.2 rfl,aC.2 ⟨_,_,rfl,bK.2 rfl,aC.2 ⟨_,_,rfl,bK.2 rfl,aC.2 ⟨_,_,rfl,bK.2 rfl,aC.2 ⟨_,_,rfl,eY.2 rfl,aC.2 ⟨_,_,rfl,hx,aC.2 ⟨_,_,rfl,hy,sF.2 rfl⟩⟩⟩⟩⟩⟩⟩⟩⟩
def Tj{t:Tr vA}:RD t nR.d zE:=Hw (op:=0) (name:=[]) (v:=cJ) (args:=[]) mP mP mP
section
variable {P:eI}{tf t:Tr vA}{n d:Nat}{Q E:qB}{J:wF}{o:PM fA}
def def_ok{fact:Bool}(h:St P tf t n d)(hk:Ok P rdDef d tf (yV P.tk fact n) Q E):gI yA F E 89 [.ptr P.bp 0,.bool fact] t Q:=by
 refine w89 _ _ ?_
 unfold t89;refine yB ?_
 rw[pE 58];unfold yV at hk;refine Ew h (hk.bind fun w n1 tf1 t1 v hr hle hst hrd hk1=>?_)
 cases hrd;refine iF (yB ?_)
 rw[pE 110];refine MT (f:=Fe) (g:=111) (most:=6) (fun t hg i hi=>zjk hg hi) (by kernel_rfl) (by kernel_rfl) (by omega) hst (hk1.bind fun k n2 tf2 t2 v2 hr2 hle2 hst2 hrd2 hk2=>?_)
 cases hrd2;exact tB (sA rfl (sA rfl (Ok.now hk2 hst2 ⟨_,rfl,def_rd ⟨w,k,fact⟩⟩)))
def zft(h:St P tf t n d)(hk:Ok P rdInt d tf (bQ P.tk n) Q E):gI yA F E 112 [.ptr P.bp 0] t Q:=by
 refine w112 _ ?_
 unfold t112;refine yB ?_
 rw[pW 72];refine De h fun t1 h1=>rD (yB ?_)
 unfold bQ at hk;generalize acc P.tk xJ n=neg at hk h1
 change St P tf t1 (if neg=true then n+1 else n) d at h1
 generalize (if neg=true then n+1 else n)=m at hk h1
 rw[pQ 71,Hm h1,pA];refine nC (zQ _) (sA rfl ?_)
 have hkd:wE P.tk 2 m=decide ((qF P m).kind=2):=Mi (by omega)
 have htx:aF P.tk m=(qF P m).text:=Ug
 dsimp only at hk
 cases h2:decide ((qF P m).kind=2)with
 | false=>
  have h2':¬ (qF P m).kind=2:=of_decide_eq_false h2
  rw[hkd,h2]at hk;simp only[ycl,Bool.true_or,if_true]at hk;refine sA ?_ (yB (Ok.fail h1 hk))
  show(!aB ((qF P m).kind:Int) 2)=true
  rw[tF,decide_eq_false (by omega)];rfl
 | true=>
  have h2':(qF P m).kind=2:=of_decide_eq_true h2
  have hnum:bR (qF P m).text:=by
   have:=h1.num (n:=m) (by rw[hkd,h2])
   rwa [htx]at this
  refine sB ?_ ?_
  ·show ¬ (!aB ((qF P m).kind:Int) 2)=true
   rw[tF,decide_eq_true (by omega)];simp
  refine yB ?_
  show oE yA F mB vE E 66 [.str (qF P m).text,.str [47]] t1 _
  rw[pQ 66,AI (by have:=hnum.1;omega),pA,MD]
  refine rD ?_
  rw[hkd,htx,h2]at hk;simp only[Bool.not_true,Bool.false_or]at hk
  cases hs:vH (qF P m).text with
  | true=>
   rw[hs,yab rfl]at hk;exact sA rfl (yB (Ok.fail h1 hk))
  | false=>
   rw[hs,yaa (by simp)]at hk
   refine sB (by simp) (jC (zjv _ _ _ _ _ _ ?_))
   unfold CZ;obtain⟨i,hi,hj⟩:=xY.int (s:=(qF P m).text) (neg:=neg) (lo := -2147483648) (hi:=2147483647) (t:=t1) hnum hs (by omega) (by omega)
   refine yB ?_
   show oE yA F mB vE E 102 [.str (qF P m).text,.bool neg,.int .i64 (-2147483648),.int .i64 2147483647] t1 _
   rw[pQ 102,hi,pA];refine qA rfl (tB (qA rfl (rD ?_)))
   cases hv:fL (qF P m).text neg (-2147483648) 2147483647 with
   | none=>
    rw[hv]at hk;exact sA rfl (yB (Ok.fail h1 hk))
   | some j=>
    rw[hv]at hk;have:=hj j hv
    subst this;refine sB (by simp) (jC (zju _ _ ?_))
    unfold CY;have hlt:m<P.tk.length:=by
     rw[<- hkd]at h2;unfold wE at h2
     cases hx:P.tk[m]? with
     | none=>rw[hx]at h2;cases h2
     | some x=>exact(ybc.1 hx).1
    have hlen:=h1.len
    refine qA nl (qA f1 (vC h1.l1 (tB (qA nl (qA f1 (iC fun b _ _=>?_))))))
    obtain⟨t3,k1,k2⟩:=h1.set1 (n':=m+1) (by omega)
    have e:iA .i64 ((m:Int)+1)=((m+1:Nat):Int):=by rw[gC (by omega) (by omega)];rfl
    rw[e];exact⟨_,_,k1 b,Ok.now hk k2 rfl⟩
def row_ok{two:Bool}(h:St P tf t n d)(hk:Ok P rdRow d tf (eV P.tk two n) Q E):gI yA F E 90 [.ptr P.bp 0,.bool two] t Q:=by
 refine w90 _ _ ?_
 unfold t90;refine yB ?_
 rw[pE 112];unfold eV at hk;have tail:∀(a b:Int) (z0 z1 z2:Int) (n2:Nat) (tf2 t2:Tr vA),St P tf2 t2 n2 d->Ok P rdRow d tf2 ((iE P.tk Og n2).bind fun _ n3=>(cM P.tk n3).bind fun d n4=>(iE P.tk wIs n4).bind fun _ n5=>
   (fun(neg:Bool)=>(uF P.tk 2 (if neg then n5+1 else n5)).bind fun s n6=>.ok ⟨a,b,d,tI s neg⟩ n6) (acc P.tk xJ n5)) Q E →
   wH E 90 11 [.ptr P.bp 0,.int .i64 z0,.int .i64 z1,.int .i64 z2,.bool false,.nilslice,.bool false,.nilslice,.int .i64 a,.int .i64 b,.int .i64 0,.bool false,.nilslice,.bool false,.nilslice] t2 Q:=by
  intro a b z0 z1 z2 n2 tf2 t2 h2 hk2;refine j90_11 _ _ _ _ _ _ _ _ _ _ _ _ _ _ _ ?_
  unfold zey;refine Al h2 hk2 fun n3 tf3 t3 hle3 hst3 hk3=>?_
  refine yB ?_
  rw[pE 73];refine Ng xY hst3 (hk3.bind fun dd n4 tf4 t4 v4 hr4 hle4 hst4 hrd4 hk4=>?_)
  cases hrd4;refine tB (sA rfl (Al hst4 hk4 fun n5 tf5 t5 hle5 hst5 hk5=>?_))
  refine yB ?_
  rw[pW 72];refine De hst5 fun t6 h6=>rD (yB ?_)
  dsimp only at hk5
  generalize acc P.tk xJ n5=neg at hk5 h6
  change St P tf5 t6 (if neg=true then n5+1 else n5) d at h6
  rw[pE 59];refine Bp (k:=2) (by omega) h6 (hk5.bind fun s n7 tf7 t7 v7 hr7 hle7 hst7 hrd7 hk7=>?_)
  obtain⟨x,_,e,rfl⟩:=hrd7
  obtain⟨g1,g2,_⟩:=Oy hr7
  have hn:=h6.num g1
  rw[<- g2]at hn;subst e;refine nC (zQ _) (Zd xY hst7 hn fun tf8 t8 cs k1 k2 k3=>?_)
  obtain⟨u,v,rfl,hz,_⟩:=Ze k3
  refine nC hz (sA k3.all (sA (zfj (a:=a) (b:=b) (k:=dd) k3).all ?_))
  exact Ok.now (Ok.mono hk7 k1) k2 ⟨_,rfl,zfj k3⟩
 refine zft h (hk.bind fun a n1 tf1 t1 v hr hle hst hrd hk1=>?_)
 cases hrd;refine tB (sA rfl ?_)
 cases two with
 | true=>
  rw[yab rfl]at hk1;refine sA rfl (yB ?_)
  rw[pE 112];refine zft hst (hk1.bind fun b n2 tf2 t2 v2 hr2 hle2 hst2 hrd2 hk2=>?_)
  cases hrd2;exact tB (sA rfl (jC (tail a b 0 0 0 n2 tf2 t2 hst2 hk2)))
 | false=>
  rw[yaa (by simp)]at hk1
  exact sB (by simp) (jC (tail a 0 0 0 0 n1 tf1 t1 hst hk1))
def zao(h:St P tf t n 0)(hk:Ok P rdCl 0 tf (vV P.tk n) Q E):gI yA F E 91 [.ptr P.bp 0] t Q:=by
 refine w91 _ ?_
 unfold t91;refine sA rfl (sA rfl (yB ?_))
 rw[pE 58];unfold vV at hk;refine Ew h (hk.bind fun a n1 tf1 t1 v1 hr1 hle1 hst1 hrd1 hk1=>?_)
 cases hrd1;refine iF (sA rfl (yB ?_))
 rw[pE 58];refine Ew hst1 (hk1.bind fun b n2 tf2 t2 v2 hr2 hle2 hst2 hrd2 hk2=>?_)
 cases hrd2;refine iF (sA rfl (Al hst2 hk2 fun n3 tf3 t3 hle3 hst3 hk3=>yB ?_))
 rw[pE 73];refine Ng xY hst3 (hk3.bind fun f n4 tf4 t4 v4 hr4 hle4 hst4 hrd4 hk4=>?_)
 cases hrd4;refine tB (sA rfl (Al hst4 hk4 fun n5 tf5 t5 hle5 hst5 hk5=>yB ?_))
 rw[pW 72];have tail:∀(u:Int) (n6:Nat) (tf6 t6:Tr vA),St P tf6 t6 n6 0->Ok P rdCl 0 tf6 ((iE P.tk Og n6).bind fun _ n7=>(cM P.tk n7).bind fun k n8=>
   if acc P.tk wOff n8 then .ok ⟨a,b,f,u,k,true,nR,nR⟩ (n8+1)else
   (iE P.tk wWhen n8).bind fun _ n9=>(nS P.tk n9).bind fun x n10=>(iE P.tk zha n10).bind fun _ n11=>(nS P.tk n11).bind fun y n12=>.ok ⟨a,b,f,u,k,false,x,y⟩ n12) Q E →
   wH E 91 19 ([.ptr P.bp 0]++([.str [],.str [],.int .i64 0,.int .i64 0,.int .i64 0,.bool false]++(zE++zE))++([.str a,.str b,.int .i64 f,.int .i64 u,.int .i64 0,.bool false]++(zE++zE))) t6 Q:=by
  intro u n6 tf6 t6 h6 hk6;refine j91_19 _ _ _ _ _ _ _ _ _ _ _ _ _ _ _ _ _ _ _ _ _ _ _ _ _ _ _ _ _ _ _ _ _ _ _ _ _ _ _ _ _ _ _ _ _ _ _ _ _ ?_
  unfold zex;refine Al h6 hk6 fun n7 tf7 t7 hle7 hst7 hk7=>yB ?_
  rw[pE 73];refine Ng xY hst7 (hk7.bind fun k n8 tf8 t8 v8 hr8 hle8 hst8 hrd8 hk8=>?_)
  cases hrd8;refine tB (sA rfl (vP hst8 (fun ha t9 h9=>?_) fun ha t9 h9=>?_))
  ·rw[ha,yab rfl]at hk8
   have hrd:=MS (t:=tf8) (a:=a) (b:=b) (f:=f) (u:=u) (k:=k) (o:=true) (Tj (t:=tf8)) (Tj (t:=tf8))
   exact sA rfl (sA hrd.all (Ok.now hk8 h9 ⟨_,rfl,hrd⟩))
  ·rw[ha,yaa (by simp)]at hk8
   refine Al h9 hk8 fun n9 tf9 t9' hle9 hst9 hk9=>yB ?_
   rw[pE 42];refine Zq xY _ _ _ _ _ hst9 (hk9.bind fun x n10 tf10 t10 v10 hr10 hle10 hst10 hrd10 hk10=>?_)
   obtain⟨cx,rfl,hx⟩:=hrd10
   refine nC (yQ hx) ?_
   have ex:[zA.int .u8 ((cellsOf cx).i 0),.str ((cellsOf cx).s 1),.int .u8 ((cellsOf cx).i 2),.bool ((cellsOf cx).b 3),(cellsOf cx).v 4,.bool ((cellsOf cx).b 5),(cellsOf cx).v 6,.int .i64 ((cellsOf cx).i 7),(cellsOf cx).v 8]=cx:=Cy hx
   refine sA (by rw[ex];obtain⟨a,b,c,rfl,_⟩:=aJ hx;exact hx.all) ?_
   refine Al hst10 hk10 fun n11 tf11 t11 hle11 hst11 hk11=>yB ?_
   rw[pE 42];refine Zq xY _ _ _ _ _ hst11 (hk11.bind fun y n12 tf12 t12 v12 hr12 hle12 hst12 hrd12 hk12=>?_)
   obtain⟨cy,rfl,hy⟩:=hrd12
   refine nC (yQ hy) ?_
   have ey:[zA.int .u8 ((cellsOf cy).i 0),.str ((cellsOf cy).s 1),.int .u8 ((cellsOf cy).i 2),.bool ((cellsOf cy).b 3),(cellsOf cy).v 4,.bool ((cellsOf cy).b 5),(cellsOf cy).v 6,.int .i64 ((cellsOf cy).i 7),(cellsOf cy).v 8]=cy:=Cy hy
   refine sA (by rw[ey];obtain⟨a,b,c,rfl,_⟩:=aJ hy;exact hy.all) ?_
   have hrd:=MS (t:=tf12) (a:=a) (b:=b) (f:=f) (u:=u) (k:=k) (o:=false) (hx.mono (hle11.trans hle12)) hy
   have exy:[zA.str a,.str b,.int .i64 f,.int .i64 u,.int .i64 k,.bool false,.int .u8 ((cellsOf cx).i 0),.str ((cellsOf cx).s 1),.int .u8 ((cellsOf cx).i 2),.bool ((cellsOf cx).b 3),(cellsOf cx).v 4,.bool ((cellsOf cx).b 5),(cellsOf cx).v 6,.int .i64 ((cellsOf cx).i 7),(cellsOf cx).v 8,.int .u8 ((cellsOf cy).i 0),.str ((cellsOf cy).s 1),.int .u8 ((cellsOf cy).i 2),.bool ((cellsOf cy).b 3),(cellsOf cy).v 4,.bool ((cellsOf cy).b 5),(cellsOf cy).v 6,.int .i64 ((cellsOf cy).i 7),(cellsOf cy).v 8]=[.str a,.str b,.int .i64 f,.int .i64 u,.int .i64 k,.bool false]++(cx++cy):=by
    rw[<- ex,<- ey];rfl
   rw[exy];exact sA hrd.all (Ok.now hk12 hst12 ⟨_,rfl,hrd⟩)
 refine De hst5 fun t6 h6=>rD ?_
 cases ha:acc P.tk wEnd n5 with
 | true=>
  rw[ha,yab rfl]at hk5;rw[ha,yab rfl]at h6;exact sB (by simp) (jC (tail 65536 (n5+1) tf5 t6 h6 hk5))
 | false=>
  rw[ha,yaa (by simp)]at hk5
  rw[ha,yaa (by simp)]at h6
  refine sA rfl (yB ?_)
  rw[pE 73];refine Ng xY h6 (hk5.bind fun u n6 tf6 t7 v6 hr6 hle6 hst6 hrd6 hk6=>?_)
  cases hrd6;exact tB (sA rfl (jC (tail u n6 tf6 t7 hst6 hk6)))
end
end Go.Proofs
namespace Go.Am
open Go Go.RowKit
variable {sz:Nat}{cl:List (List zA)}{v:zA}{cd:Lo}
section
variable {t tf:Tr vA}{C:lA}{base:Nat}
def LK (cd:Lo)(base:Nat)(t:Tr vA)(sz:Nat)(cl:List (List zA))(v:zA):Prop:=
 (v=.nilslice/\cl=[])\/∃b c,v=.slice b 0 cl.length cl.length/\base<=b/\t.get b=some (.cells c (cl.length*sz) (some cd)) ∧
  ∀(i:Nat) cs,cl[i]?=some cs->cs.length=sz/\∀(j:Nat) a,cs[j]?=some a->c.get (i*sz+j)=some a
def ZR{T el:Nat}(hT:vQ C T el sz){cm:List (List zA)}{x:zA}(hv:LK (.sz sz) C.base t sz cl v)(hx:qN t sz x cm)(hone:∀a∈cm.flatten,zA.one a=true)(hpos:0<cm.length)(hl:cl.length+cm.length<400000){n:Nat}(hn:t.get n=none)(hbase:C.base<=n) :
  ∃t',fG C T T v x ⟨n,t⟩=some (.slice n 0 (cl.length+cm.length) (cl.length+cm.length),⟨n+1,t'⟩)/\LK (.sz sz) C.base t' sz (cl++cm) (.slice n 0 (cl.length+cm.length) (cl.length+cm.length))/\(∀c,c≠n->¬ fM v c->t'.get c=t.get c):=by
 obtain⟨⟨y,hy1,hy2,hy3⟩,⟨z,hz1,hz2,hz3,hz4,hz5⟩,hnb⟩:=hT
 have hcode:bM el z=.sz sz:=by rw[NB.code hnb hz1,hz2]
 have hall:=hx.len
 obtain⟨hf,hlen⟩:=hx.first (n:=n)
 have hflat:=Ag hall
 have hfl:zB cm.flatten=cm.length*sz:=by rw[qD];exact hflat
 have base:fG C T T v x ⟨n,t⟩=(match v.asSlice with
  | some s=>bif Nat.ble (s.2.2.1+cm.length) s.2.2.2 then rY C ⟨n,t⟩ z cm.length cm.flatten s else fW C ⟨n,t⟩ el z cm.length cm.flatten s
  | none=>xB (Nat.beq v.tag 5) (nT ⟨n,t⟩ el z cm.length cm.flatten)):=by
  unfold fG wX;rw[hy1,oA,oA,hy3];simp only[ycl,rE];rw[hy2,oA,hz1,oA,hlen,oA,hz2,hf,oA];rfl
 have ok:dU z cl.length cl.length cm.length cm.flatten=true:=by
  unfold dU;have h1:Nat.blt (cl.length+cm.length+cl.length) 1000000000=true:=qC.2 (by omega)
  have h2:Nat.blt ((cl.length+cm.length+cl.length)*z.bytes) 1000000000=true:=qC.2 (by
   have:=ydb (show cl.length+cm.length+cl.length<=800000 by omega) hz4
   omega)
  have h3:Nat.blt z.bytes 1000000000=true:=qC.2 (by omega)
  have h4:(!Nat.beq z.size 0)=true:=by
   cases hq:Nat.beq z.size 0 with
   | true=>have:=kC.1 hq;omega
   | false=>rfl
  have h5:Nat.beq (zB cm.flatten) (cm.length*z.size)=true:=by rw[hfl,hz2];exact kC.2 rfl
  have h6:Nat.beq (zB z.zero) z.size=true:=by rw[hz3,hz2];exact kC.2 rfl
  rw[h1,h2,h3,h4,h5,h6];rfl
 rcases hv with⟨rfl,rfl⟩ | ⟨b,c,rfl,hb0,hb2,hb3⟩
 ·refine⟨t.set n (.cells (Tr.ofList cm.flatten) (zB cm.flatten) (some (.sz sz))),?_,.inr ⟨n,Tr.ofList cm.flatten,by simp,hbase,?_,fun i cs hi=>⟨hall i cs hi,fun j a hj=>?_⟩⟩,fun c hc _=>(cN hn _).2 c hc⟩
  ·rw[base]
   simp only[zA.asSlice];show xB true (nT ⟨n,t⟩ el z cm.length cm.flatten)=_
   rw[rE];unfold nT;have:Nat.beq cm.length 0=false:=by
    cases hq:Nat.beq cm.length 0 with
    | true=>have:=kC.1 hq;omega
    | false=>rfl
   have ok:dU z 0 0 cm.length cm.flatten=true:=ok
   rw[this,cond_false,ok,rE,hcode];simp only[ybx,ybw];rfl
  ·rw[Tr.get_set,yab rfl,hfl];simp
  ·rw[Tr.get_ofList];exact cU hall i j cs a hi hj
 ·have hbn:b≠n:=by intro e;rw[e,hn]at hb2;cases hb2
  refine⟨(t.del b).set n (.cells (c.setMany cm.flatten (cl.length*z.size)) ((cl.length+cm.length)*z.size) (some (.sz sz))),?_,.inr ⟨n,c.setMany cm.flatten (cl.length*z.size),by simp,hbase,?_,fun i cs hi=>?_⟩,fun k hk1 hk2=>?_⟩
  ·rw[base]
   simp only[zA.asSlice];have:Nat.ble (cl.length+cm.length) cl.length=false:=by
    cases hq:Nat.ble (cl.length+cm.length) cl.length with
    | true=>have:=qE.1 hq;omega
    | false=>rfl
   rw[this,cond_false];unfold fW;simp only[];rw[show ∀x,(!(Nat.beq 0 1&&x))=true from fun _=>rfl,rE,ok,rE]
   unfold mD;rw[hb2,oA];simp only[vA.asCells,oA];unfold Fj;simp only[];have g1:loEq (.sz sz) (bM el z)=true:=by rw[hcode];exact Ya.2 rfl
   have g2:Nat.ble (cl.length*z.size) (cl.length*sz)=true:=qE.2 (by rw[hz2];exact ybk _)
   have g3:Nat.ble (cl.length*sz) ((cl.length+cm.length)*z.size)=true:=qE.2 (by rw[hz2];exact ybi _ (by omega))
   have g4:kB zA.one cm.flatten=true:=by rw[nI];exact ycb.2 hone
   have g5:(!Nat.blt b C.base)=true:=by
    cases hq:Nat.blt b C.base with
    | true=>have:=qC.1 hq;omega
    | false=>rfl
   rw[g1,g2,g3,g4,g5];simp only[hz2];rfl
  ·rw[Tr.get_set,yab rfl,hz2,ybg]
  ·rw[List.getElem?_append]at hi
   split at hi
   ·rename_i hlt
    obtain⟨k1,k2⟩:=hb3 i cs hi
    refine⟨k1,fun j a hj=>?_⟩
    have hjl:j<sz:=by rw[<- k1];exact(ybc.1 hj).1
    have:i*sz+j<cl.length*sz:=by
     have:=ybi sz (show i+1<=cl.length by omega)
     rw[ybo]at this;omega
    rw[Tr.get_setMany,hz2,yaa (by omega)]
    exact k2 j a hj
   ·rename_i hge
    have k1:=hall _ cs hi
    refine⟨k1,fun j a hj=>?_⟩
    have hf1:=cU hall _ j cs a hi hj
    have hlt:=(ybc.1 hf1).1
    have e:i*sz=cl.length*sz+(i-cl.length)*sz:=by rw[<- ybo];congr 1;omega
    rw[Tr.get_setMany,hz2,yab (by omega),show i*sz+j-cl.length*sz=(i-cl.length)*sz+j by omega]
    exact hf1
  ·rw[Tr.get_set,yaa hk1,Tr.get_del,yaa (fun e=>hk2 (Co.2 e))]
theorem LK.off    (h:LK cd base t sz cl v){t':Tr vA}(hk:∀k∈kI v,t'.get k=t.get k):LK cd base t' sz cl v:=by
 rcases h with h | ⟨b,c,rfl,h1,h2,h3⟩
 ·exact .inl h
 ·exact .inr ⟨b,c,rfl,h1,by rw[hk b (by simp[kI])];exact h2,h3⟩
theorem LK.live    (h:LK cd base t sz cl v):∀k∈kI v,∃y,t.get k=some y:=by
 intro k hk;rcases h with⟨rfl,_⟩ | ⟨b,c,rfl,h1,h2,h3⟩
 ·cases hk
 ·have:k=b:=by simpa[kI]using hk
  subst this;exact⟨_,h2⟩
end
end Go.Am
namespace Go.Proofs
open Go Go.Am
variable {b el j sz:Nat}{cl:List (List zA)}{cs:List zA}{v:zA}
variable [fC]
def xI (base sz:Nat)(cl:List (List zA))(v:zA):jE where
 blks:=kI v
 ok:=fun _ t=>LK (.sz sz) base t sz cl v
 keep:=fun h _ k=>h.off fun b hb=>(k b hb).1
 live:=fun h k hk=>h.live k hk
section
variable {base:Nat}{tf t:Tr vA}{C:lA}{A B:List jE}
theorem cA.appendK{T n:Nat}  {x:zA}(hT:vQ C T el sz)(h:cA C.base tf t (A++xI C.base sz cl v::B))(hx:qN t sz x [cs])(hone:∀a∈cs,zA.one a=true)(hl:cl.length+1<400000)(hn:t.get n=none)(hbase:C.base<=n) :
  ∃t' v',fG C T T v x ⟨n,t⟩=some (v',⟨n+1,t'⟩)/\cA C.base tf t' (A++xI C.base sz (cl++[cs]) v'::B)/\zA.one v'=true/\v'.cells=[v']:=by
 have hv:LK (.sz sz) C.base t sz cl v:=h.ok (xI C.base sz cl v) (by simp)
 obtain⟨t',k1,k2,k3⟩:=ZR hT hv hx (by simpa using hone) (by simp) (by simpa using hl) hn hbase
 refine⟨t',_,k1,cA.upd (o:=xI C.base sz cl v) h (fun k h1 h2=>k3 k ?_ (fun e=>h1 (Ez.2 e))) (fun k hk=>?_) k2 (by simp[xI,kI]) (fun k u hu=>?_),rfl,rfl⟩
 ·grind [xI,kI]
 ·grind [xI,kI]
 ·have hvk:∀k∈kI v,tf.get k=none:=fun k hk=>(h.low k (by simp[xI,hk])).2
  have e1:k≠n:=fun e=>by rw[e,h.tfn hn]at hu;cases hu
  have e2:¬ fM v k:=fun e=>by rw[hvk k (Ez.2 e)]at hu;cases hu
  rw[k3 k e1 e2];exact h.tle _ _ hu
def LK.idx{T i:Nat}{agg:Bool}   (hT:fI C T el sz agg)(h:LK (.sz sz) base t sz cl v)(hi:cl[i]?=some cs) :
  ∃b,v=.slice b 0 cl.length cl.length/\sC C T v (.int .i64 (i:Int))=some (.ptr b (i*sz))/\At t b (i*sz) cs:=by
 rcases h with⟨rfl,rfl⟩ | ⟨b,c,rfl,h1,h2,h3⟩
 ·simp at hi
 ·have:=Bi (off:=0) (n:=cl.length) (cap:=cl.length) (b:=b) hT (ybc.1 hi).1
  rw[ybw]at this;exact⟨b,rfl,this,_,_,_,h2,(h3 i cs hi).2⟩
theorem cA.cellsK{n:Nat} (h:cA base tf t (A++xI base sz cl (.slice b 0 n n)::B)) :
  n=cl.length/\(∀(i:Nat) cs,cl[i]?=some cs->cs.length=sz)/\cA base tf t (A++cB b (some (.sz sz)) cl.flatten::B):=by
 have hv:LK (.sz sz) base t sz cl (.slice b 0 n n):=h.ok (xI base sz cl (.slice b 0 n n)) (by simp)
 rcases hv with⟨hv,_⟩ | ⟨b',c,hv,h1,h2,h3⟩
 ·cases hv
 ·cases hv
  have hall:∀(i:Nat) cs,cl[i]?=some cs->cs.length=sz:=fun i cs hi=>(h3 i cs hi).1
  refine⟨rfl,hall,cA.upd (o:=xI base sz cl (.slice b 0 cl.length cl.length)) (o':=cB b (some (.sz sz)) cl.flatten) h (fun _ _ _=>rfl) (fun k hk=>.inl ?_) ?_ (by simp[cB]) h.tle⟩
  ·grind [cB,xI,kI]
  ·refine⟨c,by rw[h2,Ag hall],fun j a hj=>?_⟩
   have hf:=Ag hall
   have hj':=(ybc.1 hj).1
   have hsz:0<sz:=by
    rcases yav sz with e | e
    ·subst e;simp at hf;simp[hf]at hj'
    ·exact e
   have hi:j / sz<cl.length:=by rw[Nat.div_lt_iff_lt_mul hsz];omega
   obtain⟨k1,k2⟩:=h3 (j / sz) cl[j / sz] (ybd hi)
   have hm:=ycy j hsz
   have hg:=cU hall (j / sz) (j%sz) cl[j / sz] cl[j / sz][j%sz] (ybd hi) (ybd (by omega))
   have e:j / sz*sz+j%sz=j:=by rw[ybh];exact ych j sz
   rw[e]at hg;rw[hg]at hj
   cases hj;have:=k2 (j%sz) _ (ybd (by omega))
   rwa [e]at this
theorem cA.listK  (hall:∀(i:Nat) cs,cl[i]?=some cs->cs.length=sz)(h:cA base tf t (A++cB b (some (.sz sz)) cl.flatten::B)) :
  cA base tf t (A++xI base sz cl (.slice b 0 cl.length cl.length)::B):=by
 obtain⟨c,h2,h3⟩:cC t b (some (.sz sz)) cl.flatten:=h.ok (cB b (some (.sz sz)) cl.flatten) (by simp)
 have hlow:=h.low b (by simp[cB])
 refine cA.upd (o:=cB b (some (.sz sz)) cl.flatten) (o':=xI base sz cl (.slice b 0 cl.length cl.length)) h (fun _ _ _=>rfl) (fun k hk=>.inl ?_) (.inr ⟨b,c,rfl,hlow.1,by rw[h2,Ag hall],fun i cs hi=>⟨hall i cs hi,fun j a hj=>h3 _ _ (cU hall i j cs a hi hj)⟩⟩) (by simp[xI,kI]) h.tle
 grind [cB,xI,kI]
end
def el23:vQ yA 23 77 3:=⟨⟨_,ty23,rfl,rfl⟩,⟨_,ty77,rfl,rfl,by decide,by decide⟩,fun y h=>by rw[ty77]at h;cases h;rfl⟩
def el24:vQ yA 24 130 3:=⟨⟨_,Gu,rfl,rfl⟩,⟨_,zhl,rfl,rfl,by decide,by decide⟩,fun y h=>by rw[zhl]at h;cases h;rfl⟩
def el25:vQ yA 25 72 24:=⟨⟨_,ty25,rfl,rfl⟩,⟨_,ty72,rfl,rfl,by decide,by decide⟩,fun y h=>by rw[ty72]at h;cases h;rfl⟩
def el128:vQ yA 128 155 7:=⟨⟨_,Km,rfl,rfl⟩,⟨_,zhj,rfl,rfl,by decide,by decide⟩,fun y h=>by rw[zhj]at h;cases h;rfl⟩
section
variable {P:eI}{tf t:Tr vA}{n d:Nat}{Q E:qB}{J W:wF}
def St.dropL:∀ {X:List jE},St (P.wL (X++P.L)) tf t n d->St P tf t n d:=by
 intro X h;refine⟨h.ts,?_,h.len,h.le,h.good,h.glob⟩
 have:=h.ob
 change cA yA.base tf t (qG P n d::(X++P.L))at this
 clear h
 induction X with
 | nil=>exact this
 | cons x X ih=>exact ih (cA.drop (A:=[qG P n d]) (o:=x) this)
def Hk(S:Nat)(pv:zA)(g:zA->Option zA)(ad v:zA)(cs:List zA):T:=
 .heavy (eC yA S 1 [(0,.agg cs)]) fun a13=>.light (fun m=>mA yA S ⟨0,m⟩ ad) fun a14=>.ite (same 10 a14 v) (.heavy (fG yA S S v a13) fun a15=>
  .opt (rF pv) fun a16=>.opt (g a16) fun a17=>.heavy (lB yA S a17 a15) fun _=>.ret (.tup [])) .fail
def FX   (h:j<cs.length):jJ cs j [v]=cs.set j v:=by
 refine List.ext_getElem? fun k=>?_
 rw[Es (by show j+1<=cs.length;omega),ycw]
 show(if j<=k/\k<j+1 then [v][k-j]? else _)=_
 split
 ·have:k=j:=by omega
  subst this;simp[h]
 ·rw[yaa (by omega)]
def GG{T:Nat} {t:Tr vA}(hT:vQ yA T el sz)(hcs:cs.length=sz)(hs:sz<1000)(hb:t.get b=none):∃t',eC yA T 1 [(0,.agg cs)] ⟨b,t⟩=some (.slice b 0 1 1,⟨b+1,t'⟩)/\qN t' sz (.slice b 0 1 1) [cs]/\bA t t'/\yG b t t':=by
 obtain⟨⟨y,hy1,hy2,_⟩,⟨z,hz1,hz2,hz3,_⟩,_⟩:=hT
 exact Fc (n:=1) hy1 hy2 hz1 hz2 hz3 (by omega) ((Fo (sz:=sz) (z:=z.zero) (v:=.agg cs) (by rw[<- qD,hz3]) hcs).trans (by show some cs=_;simp)) (Eu hcs) rfl hb
theorem FH{T pb:Nat}{y:nD}{A0 A B:List jE}{l:List D}{dd:D}{pc:List zA}{pv:zA}{g:zA->Option zA}{lo:Option Lo}(hT:vQ yA T el sz)(hy:yA.tys.get T=some y)(ha:y.desc.isAgg=false)(hs1:y.size=1)(hcs:cs.length=sz)(hs:sz<1000)
  (hpv:rF pv=some pv) (hg:g pv=some (.ptr pb j))
  (h:cA yA.base tf t (A0++cB pb lo pc::(A++wD yA.base sz l v::B))) (hj:pc[j]?=some v) (hrd:RD tf dd cs) (hl:l.length+1<400000)
  (hQ:∀t' v',cA yA.base tf t' (A0++cB pb lo (pc.set j v')::(A++wD yA.base sz (l++[dd]) v'::B))->Q (.tup []) t') :
  rA yA.base W J (Hk T pv g (.ptr pb j) v cs) t Q:=by
 refine iC fun b hb hbase=>?_
 obtain⟨t1,h1,h2,h3,h4⟩:=GG hT hcs hs hb
 have o1:=h.junk hb h4
 have hc:cC t1 pb lo pc:=o1.cel
 have e:∀(o o':jE),A0++o::(A++o'::B)=(A0++o::A)++o'::B:=fun o o'=>by simp
 rw[e]at o1;have hv:tR yA.base tf t1 sz l v:=o1.ok (wD yA.base sz l v) (by simp)
 refine⟨_,_,h1,vC (hc.load1 hy ha hj) (sA hv.same (iC fun b2 hb2 hbase2=>?_))⟩
 obtain⟨t2,k1,k2,k3,k4⟩:=NX hT (m:=[dd]) hv h2 (aC.2 ⟨cs,[],rfl,hrd,sF.2 rfl⟩) (by
  have:=hrd.all
  rw[nI,ycb]at this;simpa using this) (by simp) (by simpa using hl) hb2 hbase2 o1.tle
 refine⟨_,_,k1,qA hpv (qA hg (iC fun b3 _ _=>?_))⟩
 have o2:cA yA.base tf t2 ((A0++cB pb lo pc::A)++wD yA.base sz (l++[dd]) (.slice b2 0 (l.length+[dd].length) (l.length+[dd].length))::B):=by
  refine cA.upd (o:=wD yA.base sz l v) o1 (fun k h1 h2=>k4 k ?_ (fun e=>h1 (Ez.2 e))) (fun k hk=>?_) k2 (by simp[wD,kI]) k3
  all_goals grind [wD,kI]
 rw[<- e]at o2;have hjl:=(ybc.1 hj).1
 obtain⟨t3,m1,m2⟩:=cA.setCel (j:=j) (v:=.slice b2 0 (l.length+[dd].length) (l.length+[dd].length)) o2 hy (by rw[hs1];rfl) (by
  show j+1<=pc.length
  omega) rfl
 refine⟨_,_,m1 b3,?_⟩
 have e2:jJ pc j (zA.cells (.slice b2 0 (l.length+[dd].length) (l.length+[dd].length)))=pc.set j (.slice b2 0 (l.length+[dd].length) (l.length+[dd].length)):=FX hjl
 rw[e2]at m2;exact hQ t3 _ m2
end
end Go.Proofs
namespace Go.Proofs
open Go Go.Am
section
variable {tf':Tr vA}{tcl:List (List zA)}{R:List D}{rv:zA}{X:List jE}{α:Type}{w:List Nat}{K:zA->T}{Q':qB}{b:Nat}
variable [fC]
section
variable {tk:List wC}
def TT:∀k,Up (aN tk k):=by
 intro k;induction k with
 | zero=>intro n a n' h;cases h
 | succ k ih=>exact JW ih
def KZ:Up (nS tk):=LF (TT 101)
def Nf{f:Bool}:Up (yV tk f):=bE Ex fun _=>bE (MU _ _) fun _=>kL
def JA:Up (bQ tk):=by
 intro n a n' h;unfold bQ at h;have key:∀m,n<=m->(if (!wE tk 2 m||vH (aF tk m))=true then(.er 120 m:PR Int)else match fL (aF tk m) (acc tk xJ n) (-2147483648) 2147483647 with | none=>.er 121 m | some i=>.ok i (m+1))=.ok a n'->n<=n':=by
  intro m hm h;split at h
  ·cases h
  ·split at h<;>cases h
   omega
 refine key _ ?_ h
 split<;>omega
def Wl{two:Bool}:Up (eV tk two):=by
 have hr:∀a b d,Up (fun n5=>(fun(neg:Bool)=>(uF tk 2 (if neg then n5+1 else n5)).bind fun s n6=>(.ok (⟨a,b,d,tI s neg⟩:oH) n6:PR oH)) (acc tk xJ n5)):=by
  intro a b d n x n' h;obtain⟨s,n1,e1,e2⟩:=PR.bind_ok h
  have:=Ox _ _ _ e1
  cases e2
  split at this<;>omega
 refine bE JA fun a=>?_
 cases two with
 | true=>exact bE JA fun b=>bE xO fun _=>bE It fun d=>bE xO fun _=>hr a b d
 | false=>exact bE kL fun b=>bE xO fun _=>bE It fun d=>bE xO fun _=>hr a b d
def AL:Up (vV tk):=by
 refine bE Ex fun a=>bE Ex fun b=>bE xO fun _=>bE It fun f=>bE xO fun _=>?_
 have h1:Up (fun n5=>(if acc tk wEnd n5 then .ok 65536 (n5+1)else cM tk n5:PR Int)):=by
  intro n a n' h;dsimp only at h
  split at h
  ·cases h;omega
  ·exact It _ _ _ h
 refine bE h1 fun u=>bE xO fun _=>bE It fun k=>?_
 intro n x n' h;dsimp only at h
 split at h
 ·cases h;omega
 ·exact bE xO (fun _=>bE KZ fun x=>bE xO fun _=>bE KZ fun y=>kL (a:=(⟨a,b,f,u,k,false,x,y⟩:dF))) _ _ _ h
def QE:Up (Bq tk):=by
 refine bE Ex fun w n a n' h=>?_
 split at h
 ·cases h;omega
 ·exact bE xO (fun _=>kL (a:=(⟨w,false,[]⟩:bH))) _ _ _ h
end
def Gi(tf:Tr vA)(T:List bH)(tcl:List (List zA))(R:List D)(rv:zA):Prop:=
 (T=[]/\tcl=[]/\R=[]/\rv=.nilslice)\/∃A x clA,T=A++[x]/\tcl=clA++[[.str x.name,.bool x.two,rv]]/\zD tf (A.map bH.d) clA/\R=x.rows.map oH.d
theorem Gi.mono{tf:Tr vA}{T:List bH}   (h:Gi tf T tcl R rv)(hl:bA tf tf'):Gi tf' T tcl R rv:=by
 rcases h with h | ⟨A,x,clA,h1,h2,h3,h4⟩
 ·exact .inl h
 ·exact .inr ⟨A,x,clA,h1,h2,zD.mono hl _ _ h3,h4⟩
theorem Gi.len{tf:Tr vA}{T:List bH}   (h:Gi tf T tcl R rv):tcl.length=T.length:=by
 rcases h with⟨rfl,rfl,_⟩ | ⟨A,x,clA,rfl,rfl,h3,h4⟩
 ·rfl
 ·have:=h3.length
  simp_all
def vM(pb:Nat)(nm dv tv rv cv:zA)(D:List D)(tcl:List (List zA))(R C:List Am.D):List jE:=
 [cB pb none [nm,dv,tv,cv],wD yA.base 3 D dv,xI yA.base 3 tcl tv,wD yA.base 7 R rv,wD yA.base 24 C cv]
def rX(P:eI)(pb:Nat)(p:zG)(tf t:Tr vA)(n:Nat):Prop:=
 ∃dv tv rv cv tcl R,Gi tf p.tables tcl R rv/\St (P.wL (vM pb (.str p.name) dv tv rv cv (p.defs.map nG.d) tcl R (p.clauses.map dF.d)++P.L)) tf t n 0/\p.defs.length<=n/\p.tables.length<=n/\R.length<=n/\p.clauses.length<=n
def pL (P:eI)(pb:Nat)(tf:Tr vA)(r:PR zG)(Q E:qB):Prop:=
 match r with
 | .ok p n=>∀tf' t',bA tf tf'->rX P pb p tf' t' n->Q (.tup []) t'
 | .er e i=>∀tf' t' n' d',bA tf tf'->St P tf' t' n' d'->E (Sd P e i) t'
section
variable {P:eI}{tf t:Tr vA}{n d pb:Nat}{Q E:qB}{J W:wF}
theorem pL.mono{r:PR zG}(h:pL P pb tf r Q E) (hl:bA tf tf'):pL P pb tf' r Q E:=by
 cases r with
 | ok a n=>exact fun tf2 t' k1 k2=>h tf2 t' (hl.trans k1) k2
 | er e i=>exact fun tf2 t' n' d' k1 k2=>h tf2 t' n' d' (hl.trans k1) k2
def pL.bind  {rd1:Tr vA->α->zA->Prop}{r:PR α}{f:α->Nat->PR zG}{Q1:qB}(h:pL P pb tf (r.bind f) Q E)
  (k:∀a n1 tf1 t1 v,r=.ok a n1->bA tf tf1->St (P.wL (X++P.L)) tf1 t1 n1 0->rd1 tf1 a v->pL P pb tf1 (f a n1) Q E->Q1 v t1):Ok (P.wL (X++P.L)) rd1 0 tf r Q1 E:=by
 cases r with
 | ok a n=>exact fun tf' t' v h1 h2 h3=>k a n tf' t' v rfl h1 h2 h3 (pL.mono h h1)
 | er e i=>exact fun tf' t' n' d' h1 h2=>h tf' t' n' d' h1 h2.dropL
def pL.exp   {f:Unit->Nat->PR zG} (hst:St (P.wL (X++P.L)) tf t n 0)(h:pL P pb tf ((iE P.tk w n).bind f) Q' E)
  (k:∀n1 tf1 t1,n<=n1->bA tf tf1->St (P.wL (X++P.L)) tf1 t1 n1 0->pL P pb tf1 (f () n1) Q' E->rA yA.base (oE yA F mB vE E) J (K (.tup [])) t1 Q) :
  rA yA.base (oE yA F mB vE E) J (.heavy (eC yA 93 1 [(0,.str w)]) fun a=>.call 57 [.ptr P.bp 0,a] K) t Q:=by
 refine Fq (P:=P.wL (X++P.L)) hst ?_
 refine h.bind fun a n1 tf1 t1 v hr hle hst1 hrd hk=>?_
 cases hrd;exact k n1 tf1 t1 (xO _ _ _ hr) hle hst1 hk
def Nq  {Y Z:T}(h:St (P.wL (X++P.L)) tf t n d)(k1:acc P.tk w n=true->∀t',St (P.wL (X++P.L)) tf t' (n+1) d->rA yA.base (oE yA F mB vE E) J Y t' Q)(k2:acc P.tk w n=false->∀t',St (P.wL (X++P.L)) tf t' n d->rA yA.base (oE yA F mB vE E) J Z t' Q) :
  rA yA.base (oE yA F mB vE E) J (.call 72 [.ptr P.bp 0,.str w] fun a=>.asB a fun b=>.ite b Y Z) t Q:=vP (P:=P.wL (X++P.L)) h k1 k2
def pL.name  {f:List Nat->Nat->PR zG} (hst:St (P.wL (X++P.L)) tf t n 0)(h:pL P pb tf ((uJ P.tk n).bind f) Q' E)
  (k:∀w n1 tf1 t1,n<=n1->bA tf tf1->St (P.wL (X++P.L)) tf1 t1 n1 0->pL P pb tf1 (f w n1) Q' E->rA yA.base (oE yA F mB vE E) J (K (.str w)) t1 Q) :
  rA yA.base (oE yA F mB vE E) J (.call 58 [.ptr P.bp 0] K) t Q:=by
 refine yB ?_
 rw[pE 58];refine Ew (P:=P.wL (X++P.L)) hst (h.bind fun a n1 tf1 t1 v hr hle hst1 hrd hk=>?_)
 cases hrd;exact k a n1 tf1 t1 (Ex _ _ _ hr) hle hst1 hk
def gF(k:Nat)(hk:k=0\/k=1\/k=2\/k=3)  : mC yA 27 k (.ptr b 0)=some (.ptr b k):=by
 rcases hk with rfl | rfl | rfl | rfl<;>kernel_rfl
def gT(k:Nat)(hk:k=1\/k=2){o:Nat}:mC yA 130 k (.ptr b o)=some (.ptr b (o+k)):=by
 rcases hk with rfl | rfl<;>kernel_rfl
def FI{T el sz j g:Nat}{y:nD}{A B:List jE}{l:List D}{pc zs:List zA}{v:zA} {rd:Tr vA->α->zA->Prop}{r:PR α}{k:α->Nat->PR zG}{dd:α->D}{fc:zH->List zA}{args:List zA}
  (hT:vQ yA T el sz) (hy:yA.tys.get T=some y) (ha:y.desc.isAgg=false) (hs1:y.size=1) (hs:sz<1000) (hjj:j=0\/j=1\/j=2\/j=3)
  (hrd:∀tf a w,rd tf a w->∃cs,w=.agg cs/\RD tf (dd a) cs/\nK zs (.agg cs)=some (cellsOf cs)/\fc (cellsOf cs)=cs/\cs.length=sz)
  (hst:St (P.wL ((cB pb none pc::(A++wD yA.base sz l v::B))++P.L)) tf t n 0) (hj:pc[j]?=some v) (hl:l.length+1<400000)
  (hW:∀a m R,oE yA F mB vE E g a m R=gI yA F E g a m R)
  (hcall:∀Q',Ok (P.wL ((cB pb none pc::(A++wD yA.base sz l v::B))++P.L)) rd 0 tf r Q' E->gI yA F E g args t Q')
  (hk:pL P pb tf (r.bind k) Q E)
  (hQ:∀a n1 tf' t' v',r=.ok a n1->bA tf tf'->St (P.wL ((cB pb none (pc.set j v')::(A++wD yA.base sz (l++[dd a]) v'::B))++P.L)) tf' t' n1 0->pL P pb tf' (k a n1) Q E->Q (.tup []) t') :
  rA yA.base (oE yA F mB vE E) J (.opt (rF (.ptr pb 0)) fun a7=>.opt (mC yA 27 j a7) fun a8=>.light (fun m=>mA yA T ⟨0,m⟩ a8) fun a9=>.call g args fun a10=>.asG zs a10 fun X=>
   .light (fun m=>mA yA T ⟨0,m⟩ a8) fun a12=>.ite (same 10 a12 a9) (Hk T (.ptr pb 0) (mC yA 27 j) a8 a9 (fc X)) .fail) t Q:=by
 have hc:cC t pb none pc:=hst.ob.cel (A:=[qG P n 0])
 refine qA nl (qA (gF j hjj) (vC (hc.load1 hy ha hj) (yB ?_)))
 rw[hW];refine hcall _ (hk.bind fun a n1 tf1 t1 w hr hle hst1 hrd1 hk1=>?_)
 obtain⟨cs,rfl,c1,c2,c3,c4⟩:=hrd _ _ _ hrd1
 have hc1:cC t1 pb none pc:=hst1.ob.cel (A:=[qG P n1 0])
 have o1:cA yA.base tf1 t1 ([qG P n1 0]++cB pb none pc::(A++wD yA.base sz l v::(B++P.L))):=by
  have:=hst1.ob
  change cA yA.base tf1 t1 (qG P n1 0::((cB pb none pc::(A++wD yA.base sz l v::B))++P.L))at this
  simpa using this
 have hv:tR yA.base tf1 t1 sz l v:=o1.ok (wD yA.base sz l v) (by simp)
 refine nC c2 (vC (hc1.load1 hy ha hj) (sA hv.same ?_))
 rw[c3];refine FH hT hy ha hs1 c4 hs nl (gF j hjj) o1 hj c1 hl fun t2 v' o2=>?_
 refine hQ a n1 tf1 t2 v' hr hle ⟨hst1.ts,?_,hst1.len,hst1.le,hst1.good,hst1.glob⟩ hk1
 show cA yA.base tf1 t2 (qG P n1 0::((cB pb none (pc.set j v')::(A++wD yA.base sz (l++[dd a]) v'::B))++P.L))
 simpa using o2
end
end
section
variable {p:zG}{x:bH}{rv:zA}
variable [fC]
section
variable {P:eI}{tf t:Tr vA}{n d pb:Nat}{Q E:qB}{J W:wF}
def LW{fact:Bool} (hp:rX P pb p tf t n)(h0:∀a n1,yV P.tk fact n=.ok a n1->p.defs.length+1<=n1)
  (hk:pL P pb tf ((yV P.tk fact n).bind fun d n1=>.ok ⟨p.name,p.defs++[d],p.tables,p.clauses⟩ n1) Q E) :
  rA yA.base (oE yA F mB vE E) J (.opt (rF (.ptr pb 0)) fun a7=>.opt (mC yA 27 1 a7) fun a8=>.light (fun m=>mA yA 23 ⟨0,m⟩ a8) fun a9=>.call 89 [.ptr P.bp 0,.bool fact] fun a10=>.asG [.str [],.int .u8 0,.bool false] a10 fun X=>
   .light (fun m=>mA yA 23 ⟨0,m⟩ a8) fun a12=>.ite (same 10 a12 a9) (Hk 23 (.ptr pb 0) (mC yA 27 1) a8 a9 [.str (X.s 0),.int .u8 (X.i 1),.bool (X.b 2)]) .fail) t Q:=by
 obtain⟨dv,tv,rv,cv,tcl,R,hT,hst,b1,b2,b3,b4⟩:=hp
 have hl:=hst.len
 have hle:=hst.le
 refine FI (A:=[]) (fc:=fun X=>[.str (X.s 0),.int .u8 (X.i 1),.bool (X.b 2)]) el23 ty23 rfl rfl (by omega) (by omega) (dd:=nG.d) (rd:=rdDef) ?_ hst rfl (by rw[ybf];have:(P.wL (vM pb (.str p.name) dv tv rv cv (p.defs.map nG.d) tcl R (p.clauses.map dF.d)++P.L)).tk=P.tk:=rfl;rw[this]at hl hle;omega) (fun _ _ _=>by rw[pE 89]) (fun Q' hQ'=>def_ok (P:=P.wL (vM pb (.str p.name) dv tv rv cv (p.defs.map nG.d) tcl R (p.clauses.map dF.d)++P.L)) hst hQ') hk ?_
 ·rintro tf a w ⟨cs,rfl,h⟩
  have:=Wx h
  exact⟨cs,rfl,h,tV h rfl,by rw[this];rfl,by rw[this];rfl⟩
 ·intro a n1 tf' t' v' hr hle' hst' hk'
  have hd:=Nf _ _ _ hr
  refine hk' tf' t' (bA.refl _) ⟨v',tv,rv,cv,tcl,R,hT.mono hle',?_,by simpa using h0 _ _ hr,Nat.le_trans b2 hd,Nat.le_trans b3 hd,Nat.le_trans b4 hd⟩
  simpa[vM]using hst'
def zkt (hp:rX P pb p tf t n)(h0:∀a n1,vV P.tk n=.ok a n1->p.clauses.length+1<=n1)
  (hk:pL P pb tf ((vV P.tk n).bind fun c n1=>.ok ⟨p.name,p.defs,p.tables,p.clauses++[c]⟩ n1) Q E) :
  rA yA.base (oE yA F mB vE E) J (.opt (rF (.ptr pb 0)) fun a7=>.opt (mC yA 27 3 a7) fun a8=>.light (fun m=>mA yA 25 ⟨0,m⟩ a8) fun a9=>.call 91 [.ptr P.bp 0] fun a10=>.asG [(.str []),(.str []),(.int .i64 0),(.int .i64 0),(.int .i64 0),(.bool false),(.int .u8 0),(.str []),(.int .u8 0),(.bool false),.nilslice,(.bool false),.nilslice,(.int .i64 0),.nilslice,(.int .u8 0),(.str []),(.int .u8 0),(.bool false),.nilslice,(.bool false),.nilslice,(.int .i64 0),.nilslice] a10 fun X=>
   .light (fun m=>mA yA 25 ⟨0,m⟩ a8) fun a12=>.ite (same 10 a12 a9) (Hk 25 (.ptr pb 0) (mC yA 27 3) a8 a9 [(.str (X.s 0)),(.str (X.s 1)),(.int .i64 (X.i 2)),(.int .i64 (X.i 3)),(.int .i64 (X.i 4)),(.bool (X.b 5)),(.int .u8 (X.i 6)),(.str (X.s 7)),(.int .u8 (X.i 8)),(.bool (X.b 9)),(X.v 10),(.bool (X.b 11)),(X.v 12),(.int .i64 (X.i 13)),(X.v 14),(.int .u8 (X.i 15)),(.str (X.s 16)),(.int .u8 (X.i 17)),(.bool (X.b 18)),(X.v 19),(.bool (X.b 20)),(X.v 21),(.int .i64 (X.i 22)),(X.v 23)]) .fail) t Q:=by
 obtain⟨dv,tv,rv,cv,tcl,R,hT,hst,b1,b2,b3,b4⟩:=hp
 have hl:=hst.len
 have hle:=hst.le
 refine FI (A:=[wD yA.base 3 (p.defs.map nG.d) dv,xI yA.base 3 tcl tv,wD yA.base 7 R rv]) (B:=[]) (fc:=fun X=>[(.str (X.s 0)),(.str (X.s 1)),(.int .i64 (X.i 2)),(.int .i64 (X.i 3)),(.int .i64 (X.i 4)),(.bool (X.b 5)),(.int .u8 (X.i 6)),(.str (X.s 7)),(.int .u8 (X.i 8)),(.bool (X.b 9)),(X.v 10),(.bool (X.b 11)),(X.v 12),(.int .i64 (X.i 13)),(X.v 14),(.int .u8 (X.i 15)),(.str (X.s 16)),(.int .u8 (X.i 17)),(.bool (X.b 18)),(X.v 19),(.bool (X.b 20)),(X.v 21),(.int .i64 (X.i 22)),(X.v 23)]) el25 ty25 rfl rfl (by omega) (by omega) (dd:=dF.d) (rd:=rdCl) ?_ hst rfl (by rw[ybf];have:(P.wL (vM pb (.str p.name) dv tv rv cv (p.defs.map nG.d) tcl R (p.clauses.map dF.d)++P.L)).tk=P.tk:=rfl;rw[this]at hl hle;omega) (fun _ _ _=>by rw[pE 91]) (fun Q' hQ'=>zao (P:=P.wL (vM pb (.str p.name) dv tv rv cv (p.defs.map nG.d) tcl R (p.clauses.map dF.d)++P.L)) hst hQ') hk ?_
 ·rintro tf a w ⟨cs,rfl,h⟩
  obtain⟨a1,a2,a3,a4,a5,a6,rfl,_⟩:=Wy h
  exact⟨_,rfl,h,tV h (dF.zs _),rfl,rfl⟩
 ·intro a n1 tf' t' v' hr hle' hst' hk'
  have hd:=AL _ _ _ hr
  refine hk' tf' t' (bA.refl _) ⟨dv,tv,rv,v',tcl,R,hT.mono hle',?_,Nat.le_trans b1 hd,Nat.le_trans b2 hd,Nat.le_trans b3 hd,by simpa using h0 _ _ hr⟩
  simpa[vM]using hst'
def zcf {A:List bH} {n4:Int}(hp:rX P pb p tf t n)(hA:p.tables=A++[x])(hn4:n4=((A.length+1:Nat):Int))(h0:∀a n1,eV P.tk x.two n=.ok a n1->x.rows.length+1<=n1)
  (hk:pL P pb tf ((eV P.tk x.two n).bind fun r n1=>.ok ⟨p.name,p.defs,tX p.tables r,p.clauses⟩ n1) Q E) :
  rA yA.base (oE yA F mB vE E) J (.opt (rF (.ptr pb 0)) fun a41=>.opt (mC yA 27 2 a41) fun a42=>.light (fun m=>mA yA 24 ⟨0,m⟩ a42) fun a43=>.opt (sC yA 24 a43 (.int .i64 (iA .i64 (n4-1)))) fun a44=>.opt (rF a44) fun a45=>.opt (mC yA 130 2 a45) fun a46=>.light (fun m=>mA yA 128 ⟨0,m⟩ a46) fun a47=>.opt (rF a44) fun a48=>.opt (mC yA 130 1 a48) fun a49=>.light (fun m=>mA yA 4 ⟨0,m⟩ a49) fun a50=>.asB a50 fun b51=>.call 90 [.ptr P.bp 0,.bool b51] fun a52=>
   .asG [(.int .i64 0),(.int .i64 0),(.int .i64 0),(.bool false),.nilslice,(.bool false),.nilslice] a52 fun X53=>
   .light (fun m=>mA yA 128 ⟨0,m⟩ a46) fun a54=>.ite (same 10 a54 a47) (Hk 128 a44 (mC yA 130 2) a46 a47 [(.int .i64 (X53.i 0)),(.int .i64 (X53.i 1)),(.int .i64 (X53.i 2)),(.bool (X53.b 3)),(X53.v 4),(.bool (X53.b 5)),(X53.v 6)]) .fail) t Q:=by
 obtain⟨dv,tv,rv,cv,tcl,R,hT,hst,b1,b2,b3,b4⟩:=hp
 rcases hT with⟨hT,_⟩ | ⟨A',x',clA,hT,htcl,hrA,hR⟩
 ·rw[hT]at hA;simp at hA
 obtain⟨rfl,e⟩:=List.append_inj' (hA.symm.trans hT) rfl
 cases e
 have hl:=hst.len
 have hle:=hst.le
 have hlA:clA.length=A.length:=by simpa using hrA.length
 have hLK:LK (.sz 3) yA.base t 3 tcl tv:=hst.ob.ok (xI yA.base 3 tcl tv) (by simp[vM,eI.wL])
 have hi:tcl[A.length]?=some [.str x.name,.bool x.two,rv]:=by rw[htcl,<- hlA];simp
 obtain⟨b,etv,hidx,hat⟩:=LK.idx sl24 hLK hi
 subst etv;have hlA2:A.length<100000000:=by
  have:A.length<p.tables.length:=by rw[hA];simp
  change n<=P.tk.length at hle
  change P.tk.length<300000 at hl
  omega
 have hc:cC t pb none [.str p.name,dv,.slice b 0 tcl.length tcl.length,cv]:=hst.ob.cel (A:=[qG P n 0])
 obtain⟨_,hall,hob2⟩:=cA.cellsK (A:=[qG P n 0,cB pb none [.str p.name,dv,.slice b 0 tcl.length tcl.length,cv],wD yA.base 3 (p.defs.map nG.d) dv]) hst.ob
 have hst2:St (P.wL ([cB pb none [.str p.name,dv,.slice b 0 tcl.length tcl.length,cv],wD yA.base 3 (p.defs.map nG.d) dv,cB b (some (.sz 3)) tcl.flatten,wD yA.base 7 R rv,wD yA.base 24 (p.clauses.map dF.d) cv]++P.L)) tf t n 0:=⟨hst.ts,hob2,hst.len,hst.le,hst.good,hst.glob⟩
 have hc2:cC t b (some (.sz 3)) tcl.flatten:=hob2.cel
 have g1:=cU hall A.length 1 _ (.bool x.two) hi rfl
 have g2:=cU hall A.length 2 _ rv hi rfl
 have e4:iA .i64 (n4-1)=(A.length:Int):=by rw[hn4,gC (by omega) (by omega)];omega
 refine qA nl (qA (gF 2 (by omega)) (vC (hc.load1 Gu rfl rfl) (qA (by rw[e4];exact hidx) (qA nl (qA (gT 2 (by omega)) (vC (hc2.load1 Km rfl g2) (qA nl (qA (gT 1 (by omega)) (vC (hc2.load1 ty4 rfl g1) (rD (yB ?_)))))))))))
 rw[pE 90];refine row_ok (P:=P.wL ([cB pb none [.str p.name,dv,.slice b 0 tcl.length tcl.length,cv],wD yA.base 3 (p.defs.map nG.d) dv,cB b (some (.sz 3)) tcl.flatten,wD yA.base 7 R rv,wD yA.base 24 (p.clauses.map dF.d) cv]++P.L)) hst2 (hk.bind fun r n1 tf1 t1 w hr hle1 hst1 hrd1 hk1=>?_)
 obtain⟨cs,rfl,hrd⟩:=hrd1
 obtain⟨u,v,rfl,_⟩:=Ww hrd
 have o1:cA yA.base tf1 t1 ([qG P n1 0,cB pb none [.str p.name,dv,.slice b 0 tcl.length tcl.length,cv],wD yA.base 3 (p.defs.map nG.d) dv]++cB b (some (.sz 3)) tcl.flatten::([]++wD yA.base 7 R rv::(wD yA.base 24 (p.clauses.map dF.d) cv::P.L))):=hst1.ob
 have hc3:cC t1 b (some (.sz 3)) tcl.flatten:=o1.cel
 have hv:tR yA.base tf1 t1 7 R rv:=o1.ok (wD yA.base 7 R rv) (by simp)
 refine nC (tV hrd (oH.zs _)) (vC (hc3.load1 Km rfl g2) (sA hv.same ?_))
 have hRl:R.length=x.rows.length:=by rw[hR,ybf]
 refine FH el128 Km rfl rfl rfl (by omega) nl (gT 2 (by omega)) o1 g2 hrd (by
  change n<=P.tk.length at hle
  change P.tk.length<300000 at hl
  omega) fun t2 v' o2=>?_
 have ef:tcl.flatten.set (A.length*3+2) v'=(clA++[[.str x.name,.bool x.two,v']]).flatten:=by
  have hj:=(ybc.1 g2).1
  rw[<- FX hj,zdr hall hi (by show 2+1<=3;omega)]
  congr 1
  rw[htcl,DW hlA];rfl
 rw[ef]at o2;have hall2:∀(i:Nat) cs,(clA++[[.str x.name,.bool x.two,v']])[i]?=some cs->cs.length=3:=by
  intro i cs hi;rw[List.getElem?_append]at hi;split at hi
  ·rename_i hlt
   exact hall i cs (by rw[htcl,yco hlt];exact hi)
  ·exact Eu (sz:=3) rfl _ _ hi
 have o3:=cA.listK hall2 o2
 have elen:(clA++[[zA.str x.name,.bool x.two,v']]).length=tcl.length:=by rw[htcl];simp
 rw[elen]at o3;have hd:=Wl _ _ _ hr
 refine hk1 tf1 t2 (bA.refl _) ⟨dv,_,v',cv,clA++[[.str x.name,.bool x.two,v']],R++[r.d],.inr ⟨A,⟨x.name,x.two,x.rows++[r]⟩,clA,?_,rfl,zD.mono hle1 _ _ hrA,by rw[hR];simp⟩,⟨hst1.ts,o3,hst1.len,hst1.le,hst1.good,hst1.glob⟩,Nat.le_trans b1 hd,?_,by have:=h0 _ _ hr;simpa[hRl]using this,Nat.le_trans b4 hd⟩
 ·show tX p.tables r=_
  rw[hA];simp[tX]
 ·show(tX p.tables r).length<=n1
  rw[hA];simp[tX]
  rw[hA]at b2;simp at b2;omega
def zbr{t:Tr vA}  (h:aA t 7 (x.rows.map oH.d) rv):RD t x.d [.str x.name,.bool x.two,rv]:=
 dJ.2 ⟨[[.str x.name],[.bool x.two],[rv]],rfl,aC.2 ⟨_,_,rfl,cK.2 rfl,aC.2 ⟨_,_,rfl,eY.2 rfl,aC.2 ⟨_,_,rfl,tP.2 ⟨_,rfl,h⟩,sF.2 rfl⟩⟩⟩⟩
def CK{T:List bH}{tcl:List (List zA)}{R:List D} {tf':Tr vA}(h:Gi tf T tcl R rv)(hle:bA tf tf')(hr:aA tf' 7 R rv):zD tf' (T.map bH.d) tcl:=by
 rcases h with⟨rfl,rfl,_⟩ | ⟨A,x,clA,rfl,rfl,h3,rfl⟩
 ·exact sF.2 rfl
 ·rw[List.map_append]
  exact zD.app (zD.mono hle _ _ h3) (aC.2 ⟨_,_,rfl,zbr hr,sF.2 rfl⟩)
def CL {w:List Nat}{two:Bool}(hp:rX P pb p tf t n)(h0:p.tables.length+1<=n)
  (hk:pL P pb tf (.ok ⟨p.name,p.defs,p.tables++[⟨w,two,[]⟩],p.clauses⟩ n) Q E):wH E 60 23 [.ptr pb 0,.str w,.bool two] t Q:=by
 obtain⟨dv,tv,rv,cv,tcl,R,hT,hst,b1,b2,b3,b4⟩:=hp
 refine j60_23 _ _ _ ?_
 unfold ze2;have hl:=hst.len
 have hle:=hst.le
 change n<=P.tk.length at hle
 change P.tk.length<300000 at hl
 have hc:cC t pb none [.str p.name,dv,tv,cv]:=hst.ob.cel (A:=[qG P n 0])
 obtain⟨tf',hle1,o1,hrs⟩:=cA.freezeL (A:=[qG P n 0,cB pb none [.str p.name,dv,tv,cv],wD yA.base 3 (p.defs.map nG.d) dv,xI yA.base 3 tcl tv]) (B:=wD yA.base 24 (p.clauses.map dF.d) cv::P.L) hst.ob
 refine qA nl (qA (gF 2 (by omega)) (vC (hc.load1 Gu rfl rfl) (sA rfl (iC fun b hb hbase=>?_))))
 obtain⟨t1,h1,h2,h3,h4⟩:=GG (cs:=[.str w,.bool two,.nilslice]) el24 rfl (by omega) hb
 refine⟨_,_,h1,iC fun b2 hb2 hbase2=>?_⟩
 have o2:=o1.junk hb h4
 obtain⟨t2,v',k1,k2,k3,c1⟩:=cA.appendK (A:=[qG P n 0,cB pb none [.str p.name,dv,tv,cv],wD yA.base 3 (p.defs.map nG.d) dv]) (B:=wD yA.base 24 (p.clauses.map dF.d) cv::P.L) el24 o2 h2 (by intro a ha;simp at ha;rcases ha with rfl | rfl | rfl<;>rfl) (by rw[hT.len];omega) hb2 hbase2
 refine⟨_,_,k1,qA nl (qA (gF 2 (by omega)) (iC fun b3 _ _=>?_))⟩
 obtain⟨t3,m1,m2⟩:=cA.setCel (A:=[qG P n 0]) (j:=2) (v:=v') k2 Gu (by rw[c1];rfl) (by rw[c1];show 2+1<=4;omega) (by rw[c1];simpa[kB]using k3)
 rw[c1]at m2;refine⟨_,_,m1 b3,?_⟩
 have o4:=cA.add (A:=[qG P n 0,cB pb none [.str p.name,dv,v',cv],wD yA.base 3 (p.defs.map nG.d) dv,xI yA.base 3 (tcl++[[.str w,.bool two,.nilslice]]) v']) (B:=wD yA.base 24 (p.clauses.map dF.d) cv::P.L) (o':=wD yA.base 7 [] .nilslice) m2 (fun k _=>rfl) (fun k hk=>by cases hk) (.inl ⟨rfl,rfl⟩) (by simp[wD,kI]) m2.tle
 refine hk tf' t3 hle1 ⟨dv,v',.nilslice,cv,tcl++[[.str w,.bool two,.nilslice]],[],.inr ⟨p.tables,⟨w,two,[]⟩,tcl,rfl,rfl,CK hT hle1 hrs,rfl⟩,?_,b1,by simpa using h0,by simp,b4⟩
 exact⟨hst.ts.mono hle1,o4,hst.len,hst.le,hst.good,hst.glob.mono hle1⟩
def zi9 (hp:rX P pb p tf t n)(hk:pL P pb tf (wW P.tk p n) Q E):gI yA F E 60 [.ptr P.bp 0,.ptr pb 0] t Q:=by
 have hp0:=hp
 obtain⟨dv,tv,rv,cv,tcl,R,hT,hst,b1,b2,b3,b4⟩:=hp
 refine w60 _ _ ?_
 unfold t60;have hc:cC t pb none [.str p.name,dv,tv,cv]:=hst.ob.cel (A:=[qG P n 0])
 have hLK:LK (.sz 3) yA.base t 3 tcl tv:=hst.ob.ok (xI yA.base 3 tcl tv) (by simp[vM,eI.wL])
 have hlen:oC tv=some (.int .i64 (p.tables.length:Int)):=by
  rw[<- hT.len];rcases hLK with⟨rfl,rfl⟩ | ⟨b,c,rfl,_⟩<;>rfl
 unfold wW at hk;have at1:∀(a:Nat) (t1:Tr vA),n<=a->St (P.wL (vM pb (.str p.name) dv tv rv cv (p.defs.map nG.d) tcl R (p.clauses.map dF.d)++P.L)) tf t1 a 0->rX P pb p tf t1 a:=fun a t1 ha h=>⟨dv,tv,rv,cv,tcl,R,hT,h,by omega,by omega,by omega,by omega⟩
 refine qA nl (qA (gF 2 (by omega)) (vC (hc.load1 Gu rfl rfl) (qA hlen (tB ?_))))
 refine Nq hst (fun ha t1 h1=>?_) (fun ha t1 h1=>?_)
 ·rw[yab ha]at hk
  exact LW (at1 _ _ (by omega) h1) (fun a n1 hr=>by have:=Nf _ _ _ hr;omega) hk
 rw[ha,yaa (by simp)]at hk
 refine Nq h1 (fun ha t2 h2=>?_) (fun ha t2 h2=>?_)
 ·rw[yab ha]at hk
  exact LW (at1 _ _ (by omega) h2) (fun a n1 hr=>by have:=Nf _ _ _ hr;omega) hk
 rw[ha,yaa (by simp)]at hk
 refine Nq h2 (fun ha t3 h3=>?_) (fun ha t3 h3=>?_)
 ·rw[yab ha]at hk
  unfold Bq at hk;rw[PR.bind_assoc]at hk;refine pL.name h3 hk fun w n1 tf1 t4 hup hle hst4 hk4=>?_
  have at2:∀(a:Nat) (tf2 t1:Tr vA),bA tf tf2->n<=a->St (P.wL (vM pb (.str p.name) dv tv rv cv (p.defs.map nG.d) tcl R (p.clauses.map dF.d)++P.L)) tf2 t1 a 0->rX P pb p tf2 t1 a:=fun a tf2 t1 hl ha h=>⟨dv,tv,rv,cv,tcl,R,hT.mono hl,h,by omega,by omega,by omega,by omega⟩
  refine iF (yB ?_)
  rw[pW 72];refine De (P:=P.wL (vM pb (.str p.name) dv tv rv cv (p.defs.map nG.d) tcl R (p.clauses.map dF.d)++P.L)) hst4 fun t5 h5=>rD ?_
  change St _ tf1 t5 (if acc P.tk Gp n1=true then n1+1 else n1) 0 at h5
  change rA _ _ _ (.ite (!acc P.tk Gp n1) _ (.jump 23 [.ptr pb 0,.str w,.bool (acc P.tk Gp n1)])) _ _
  cases h2:acc P.tk Gp n1 with
  | true=>
   rw[h2,yab rfl]at h5;rw[h2,yab rfl]at hk4;exact sB (by simp) (jC (CL (at2 _ _ _ hle (by omega) h5) (by omega) hk4))
  | false=>
   rw[h2,yaa (by simp)]at h5
   rw[h2,yaa (by simp),PR.bind_assoc]at hk4
   exact sA rfl (pL.exp h5 hk4 fun n6 tf6 t6 hup6 hle6 hst6 hk6=>jC (by
    have e2:wH E 60 23 [.ptr pb 0,.str w,.bool false] t6 Q:=CL (at2 _ _ _ (hle.trans hle6) (by omega) hst6) (by omega) hk6
    rw[<- h2]at e2;exact e2))
 rw[ha,yaa (by simp)]at hk
 have last:∀t4,St (P.wL (vM pb (.str p.name) dv tv rv cv (p.defs.map nG.d) tcl R (p.clauses.map dF.d)++P.L)) tf t4 n 0->pL P pb tf (if acc P.tk Tp n=true then(vV P.tk (n+1)).bind fun c n1=>.ok ⟨p.name,p.defs,p.tables,p.clauses++[c]⟩ n1 else .er 120 n) Q E →
   rA yA.base (oE yA F mB vE E) (JqE yA F E 60) (.call 72 [.ptr P.bp 0,.str Tp] fun a74=>.asB a74 fun b75=>.ite b75 (.opt (rF (.ptr pb 0)) fun a7=>.opt (mC yA 27 3 a7) fun a8=>.light (fun m=>mA yA 25 ⟨0,m⟩ a8) fun a9=>.call 91 [.ptr P.bp 0] fun a10=>.asG [(.str []),(.str []),(.int .i64 0),(.int .i64 0),(.int .i64 0),(.bool false),(.int .u8 0),(.str []),(.int .u8 0),(.bool false),.nilslice,(.bool false),.nilslice,(.int .i64 0),.nilslice,(.int .u8 0),(.str []),(.int .u8 0),(.bool false),.nilslice,(.bool false),.nilslice,(.int .i64 0),.nilslice] a10 fun X=>
   .light (fun m=>mA yA 25 ⟨0,m⟩ a8) fun a12=>.ite (same 10 a12 a9) (Hk 25 (.ptr pb 0) (mC yA 27 3) a8 a9 [(.str (X.s 0)),(.str (X.s 1)),(.int .i64 (X.i 2)),(.int .i64 (X.i 3)),(.int .i64 (X.i 4)),(.bool (X.b 5)),(.int .u8 (X.i 6)),(.str (X.s 7)),(.int .u8 (X.i 8)),(.bool (X.b 9)),(X.v 10),(.bool (X.b 11)),(X.v 12),(.int .i64 (X.i 13)),(X.v 14),(.int .u8 (X.i 15)),(.str (X.s 16)),(.int .u8 (X.i 17)),(.bool (X.b 18)),(X.v 19),(.bool (X.b 20)),(X.v 21),(.int .i64 (X.i 22)),(X.v 23)]) .fail)
   (.call 48 [.ptr P.bp 0,.int .i64 120] fun _=>.ret (.tup []))) t4 Q:=by
  intro t4 h4 hk;refine Nq h4 (fun ha t5 h5=>?_) (fun ha t5 h5=>?_)
  ·rw[yab ha]at hk
   exact zkt (at1 _ _ (by omega) h5) (fun a n1 hr=>by have:=AL _ _ _ hr;omega) hk
  ·rw[ha,yaa (by simp)]at hk
   refine yB ?_
   rw[pE 48];exact KY (P:=P.wL (vM pb (.str p.name) dv tv rv cv (p.defs.map nG.d) tcl R (p.clauses.map dF.d)++P.L)) h5 (hk tf t5 n 0 (bA.refl _) h5.dropL)
 by_cases h0:p.tables=[]
 ·rw[h0]at hk
  refine sB (by rw[h0];simp[lC]) (last t3 h3 ?_)
  rw[h0];simpa using hk
 ·obtain⟨A,x,hA⟩:∃A x,p.tables=A++[x]:=⟨p.tables.dropLast,p.tables.getLast h0,(List.dropLast_concat_getLast h0).symm⟩
  refine sA (by rw[hA];simp[lC]) (Nq h3 (fun ha t4 h4=>?_) (fun ha t4 h4=>last t4 h4 ?_))
  ·have hx:Yi p.tables=x.two:=by rw[hA];simp[Yi]
   rw[yab (by rw[ha,hA];simp),hx]at hk
   have hxr:x.rows.length<=n:=by
    rcases hT with⟨hT,_⟩ | ⟨A',x',clA,hT,htcl,hrA,hR⟩
    ·rw[hT]at hA;simp at hA
    obtain⟨rfl,e⟩:=List.append_inj' (hA.symm.trans hT) rfl
    cases e
    rw[hR,ybf]at b3;exact b3
   exact zcf (at1 _ _ (by omega) h4) hA (by rw[hA];simp) (fun a n1 hr=>by have:=Wl _ _ _ hr;omega) hk
  ·rw[ha]at hk
   simpa using hk
end
end
section
variable {p x:zG}{cs:List zA}
variable [fC]
def Lf(tf:Tr vA)(x:zG)(v:zA):Prop:=∃cs,v=.agg cs/\RD tf x.d cs
section
variable {P:eI}{tf t:Tr vA}{n d pb:Nat}{Q E:qB}{J W:wF}
theorem rX.fin (hp:rX P pb p tf t n):∃tf' cs,bA tf tf'/\St P tf' t n 0/\mA yA 27 ⟨0,t⟩ (.ptr pb 0)=some (.agg cs)/\RD tf' p.d cs:=by
 obtain⟨dv,tv,rv,cv,tcl,R,hT,hst,b1,b2,b3,b4⟩:=hp
 have hc:cC t pb none [.str p.name,dv,tv,cv]:=hst.ob.cel (A:=[qG P n 0])
 obtain⟨tf1,l1,o1,r1⟩:=cA.freezeL (A:=[qG P n 0,cB pb none [.str p.name,dv,tv,cv],wD yA.base 3 (p.defs.map nG.d) dv,xI yA.base 3 tcl tv]) (B:=wD yA.base 24 (p.clauses.map dF.d) cv::P.L) hst.ob
 obtain⟨tf2,l2,o2,r2⟩:=cA.freezeL (A:=[qG P n 0,cB pb none [.str p.name,dv,tv,cv],wD yA.base 3 (p.defs.map nG.d) dv,xI yA.base 3 tcl tv]) (B:=P.L) o1
 obtain⟨tf3,l3,o3,r3⟩:=cA.freezeL (A:=[qG P n 0,cB pb none [.str p.name,dv,tv,cv]]) (B:=xI yA.base 3 tcl tv::P.L) o2
 have hLK:LK (.sz 3) yA.base t 3 tcl tv:=o3.ok (xI yA.base 3 tcl tv) (by simp)
 have hrd:=CK hT l1 r1
 obtain⟨tf4,l4,o4,r4⟩:∃tf4,bA tf3 tf4/\cA yA.base tf4 t ([qG P n 0,cB pb none [.str p.name,dv,tv,cv]]++P.L)/\aA tf4 3 (p.tables.map bH.d) tv:=by
  have od:=cA.drop (A:=[qG P n 0,cB pb none [.str p.name,dv,tv,cv]]) o3
  rcases hLK with⟨rfl,rfl⟩ | ⟨b,c,rfl,h1,h2,h3⟩
  ·exact⟨tf3,bA.refl _,od,[],.inl ⟨rfl,rfl⟩,zD.mono (l2.trans l3) _ _ hrd⟩
  ·have hni:=o3.notin (A:=[qG P n 0,cB pb none [.str p.name,dv,_,cv]]) (o:=xI yA.base 3 tcl (.slice b 0 tcl.length tcl.length)) (k:=b) (by simp[xI,kI])
   obtain⟨m1,m2⟩:=od.froze hni h2 (o3.low b (by simp[xI,kI])).2
   exact⟨_,m2,m1,tcl,.inr ⟨b,0,tcl.length,rfl,ybk _,⟨_,_,_,by rw[Tr.get_set,yab rfl],.inr ⟨_,rfl,rfl⟩⟩,fun i cs hi=>⟨(h3 i cs hi).1,_,_,_,by rw[Tr.get_set,yab rfl],fun j a hj=>by rw[ybw];exact(h3 i cs hi).2 j a hj⟩⟩,zD.mono ((l2.trans l3).trans m2) _ _ hrd⟩
 have l:=((l1.trans l2).trans l3).trans l4
 refine⟨tf4,[.str p.name,dv,tv,cv],l,⟨hst.ts.mono l,cA.drop (A:=[qG P n 0]) o4,hst.len,hst.le,hst.good,hst.glob.mono l⟩,?_,?_⟩
 ·have:=hc.at.load (j:=0) (n:=4) ty27 rfl rfl (by simp)
  simpa using this
 ·exact dJ.2 ⟨[[.str p.name],[dv],[tv],[cv]],rfl,aC.2 ⟨_,_,rfl,cK.2 rfl,aC.2 ⟨_,_,rfl,tP.2 ⟨_,rfl,r3.mono l4⟩,aC.2 ⟨_,_,rfl,tP.2 ⟨_,rfl,r4⟩,aC.2 ⟨_,_,rfl,tP.2 ⟨_,rfl,r2.mono (l3.trans l4)⟩,sF.2 rfl⟩⟩⟩⟩⟩
def agP  (h:RD tf x.d cs):nK [.str [],.nilslice,.nilslice,.nilslice] (.agg cs)=some (cellsOf cs):=tV h (zG.zs _)
def Cx  (h:RD tf x.d cs):[zA.str ((cellsOf cs).s 0),(cellsOf cs).v 1,(cellsOf cs).v 2,(cellsOf cs).v 3]=cs:=by
 obtain⟨a,b,c,rfl,_⟩:=En h
 rfl
def zc4{tk:List wC}  : Up (wW tk p):=by
 intro n a n' h;unfold wW at h;split at h
 ·have:=bE Nf (fun d=>kL (a:=(⟨p.name,p.defs++[d],p.tables,p.clauses⟩:zG))) _ _ _ h;omega
 split at h
 ·have:=bE Nf (fun d=>kL (a:=(⟨p.name,p.defs++[d],p.tables,p.clauses⟩:zG))) _ _ _ h;omega
 split at h
 ·have:=bE QE (fun d=>kL (a:=(⟨p.name,p.defs,p.tables++[d],p.clauses⟩:zG))) _ _ _ h;omega
 split at h
 ·have:=bE Wl (fun d=>kL (a:=(⟨p.name,p.defs,tX p.tables d,p.clauses⟩:zG))) _ _ _ h;omega
 split at h
 ·have:=bE AL (fun d=>kL (a:=(⟨p.name,p.defs,p.tables,p.clauses++[d]⟩:zG))) _ _ _ h;omega
 ·cases h
def Ok.bindX{X:List jE}{α β:Type}{rd1:Tr vA->α->zA->Prop}{rd:Tr vA->β->zA->Prop}{r:PR α}{f:α->Nat->PR β}{Q1:qB}(h:Ok P rd d tf (r.bind f) Q E)
  (k:∀a n1 tf1 t1 v,r=.ok a n1->bA tf tf1->St (P.wL (X++P.L)) tf1 t1 n1 d->rd1 tf1 a v->Ok P rd d tf1 (f a n1) Q E->Q1 v t1):Ok (P.wL (X++P.L)) rd1 d tf r Q1 E:=by
 cases r with
 | ok a n=>exact fun tf' t' v h1 h2 h3=>k a n tf' t' v rfl h1 h2 h3 (Ok.mono h h1)
 | er e i=>exact fun tf' t' n' d' h1 h2=>h tf' t' n' d' h1 h2.dropL
def zc2:∀(m:Nat) (p:zG) (n:Nat) (tf t:Tr vA) (a b c:zA) (s:List Nat),P.tk.length<=n+m->rX P pb p tf t n->Ok P Lf 0 tf (uT P.tk m p n) Q E->wH E 29 2 [.ptr P.bp 0,.ptr pb 0,.str s,a,b,c] t Q:=by
 intro m;induction m with
 | zero=>
  intro p n tf t a b c s hm hp hk;refine zjl _ _ _ _ _ _ ?_
  unfold Pj;have hp0:=hp
  obtain⟨dv,tv,rv,cv,tcl,R,hT,hst,b1,b2,b3,b4⟩:=hp
  obtain⟨tf',cs,k1,k2,k3,k4⟩:=hp0.fin
  refine qA nl (qA f1 (vC hst.l1 (tB (qA nl (qA f0 (vC hst.l0 (qA hst.len' (tB (sB ?_ (vC k3 (nC (agP k4) ?_)))))))))))
  ·rw[lC]
   change ¬ decide ((n:Int)<(P.tk.length:Int))=true
   simp;omega
  ·have e:=Cx k4
   have hone:=k4.all
   rw[<- e]at hone;refine sA hone ?_
   show Q (.agg _) t
   rw[e];exact hk tf' t _ k1 k2 ⟨cs,rfl,k4⟩
 | succ m ih=>
  intro p n tf t a b c s hm hp hk;by_cases hn:n<P.tk.length
  ·refine zjl _ _ _ _ _ _ ?_
   unfold Pj;unfold uT at hk;rw[yab hn]at hk;have hp0:=hp
   obtain⟨dv,tv,rv,cv,tcl,R,hT,hst,b1,b2,b3,b4⟩:=hp
   refine qA nl (qA f1 (vC hst.l1 (tB (qA nl (qA f0 (vC hst.l0 (qA hst.len' (tB (sA ?_ (yB ?_))))))))))
   ·rw[lC]
    change decide ((n:Int)<(P.tk.length:Int))=true
    simp;omega
   rw[pE 60];refine zi9 hp0 ?_
   cases hr:wW P.tk p n with
   | er e i=>rw[hr]at hk;exact hk
   | ok p1 n1=>
    rw[hr]at hk;change Ok P Lf 0 tf ((uF P.tk 5 n1).bind fun _ n2=>uT P.tk m p1 n2) Q E at hk
    have hup:=zc4 _ _ _ hr
    intro tf1 t1 hle hp1;obtain⟨dv1,tv1,rv1,cv1,tcl1,R1,hT1,hst1,c1,c2,c3,c4⟩:=hp1
    refine yB ?_
    rw[pE 59];refine Bp (k:=5) (P:=P.wL (vM pb (.str p1.name) dv1 tv1 rv1 cv1 (p1.defs.map nG.d) tcl1 R1 (p1.clauses.map dF.d)++P.L)) (by omega) hst1 ((hk.mono hle).bindX fun w n2 tf2 t2 v hr2 hle2 hst2 hrd2 hk2=>?_)
    obtain⟨x,_,_,rfl⟩:=hrd2
    have hup2:n1+1=n2:=by
     change uF P.tk 5 n1=_ at hr2
     unfold uF at hr2;split at hr2<;>cases hr2
     rfl
    exact nC (zQ _) (jC (ih p1 n2 tf2 t2 _ _ _ _ (by omega) ⟨dv1,tv1,rv1,cv1,tcl1,R1,hT1.mono hle2,hst2,by omega,by omega,by omega,by omega⟩ hk2))
  ·have hk0:Ok P Lf 0 tf (uT P.tk 0 p n) Q E:=by
    unfold uT at hk;rw[yaa hn]at hk;exact hk
   clear ih hk
   refine zjl _ _ _ _ _ _ ?_
   unfold Pj;have hp0:=hp
   obtain⟨dv,tv,rv,cv,tcl,R,hT,hst,b1,b2,b3,b4⟩:=hp
   obtain⟨tf',cs,k1,k2,k3,k4⟩:=hp0.fin
   refine qA nl (qA f1 (vC hst.l1 (tB (qA nl (qA f0 (vC hst.l0 (qA hst.len' (tB (sB ?_ (vC k3 (nC (agP k4) ?_)))))))))))
   ·rw[lC]
    change ¬ decide ((n:Int)<(P.tk.length:Int))=true
    simp;omega
   ·have e:=Cx k4
    have hone:=k4.all
    rw[<- e]at hone;refine sA hone ?_
    show Q (.agg _) t
    rw[e];exact hk0 tf' t _ k1 k2 ⟨cs,rfl,k4⟩
def zim(h:St P tf t 0 0)(hk:Ok P Lf 0 tf (wJ P.tk) Q E):gI yA F E 29 [.ptr P.bp 0] t Q:=by
 refine w29 _ ?_
 unfold t29;refine iC fun pb hb hbase=>?_
 obtain⟨t1,h1,h2,h3,h4⟩:=iS (C:=yA) (b:=pb) ty27 hb
 refine⟨_,_,h1,?_⟩
 have o1:cA yA.base tf t1 (qG P 0 0::(vM pb (.str []) .nilslice .nilslice .nilslice .nilslice [] [] [] []++P.L)):=by
  have a1:=cA.newCel (A:=[qG P 0 0]) (B:=P.L) h.ob hb hbase h2 h3 h4
  have a2:=cA.add (A:=[qG P 0 0,cB pb none [.str [],.nilslice,.nilslice,.nilslice]]) (B:=P.L) (o':=wD yA.base 24 [] .nilslice) a1 (fun k _=>rfl) (fun k hk=>by cases hk) (.inl ⟨rfl,rfl⟩) (by simp[wD,kI]) a1.tle
  have a3:=cA.add (A:=[qG P 0 0,cB pb none [.str [],.nilslice,.nilslice,.nilslice]]) (B:=wD yA.base 24 [] .nilslice::P.L) (o':=wD yA.base 7 [] .nilslice) a2 (fun k _=>rfl) (fun k hk=>by cases hk) (.inl ⟨rfl,rfl⟩) (by simp[wD,kI]) a1.tle
  have a4:=cA.add (A:=[qG P 0 0,cB pb none [.str [],.nilslice,.nilslice,.nilslice]]) (B:=wD yA.base 7 [] .nilslice::wD yA.base 24 [] .nilslice::P.L) (o':=xI yA.base 3 [] .nilslice) a3 (fun k _=>rfl) (fun k hk=>by cases hk) (.inl ⟨rfl,rfl⟩) (by simp[xI,kI]) a1.tle
  exact cA.add (A:=[qG P 0 0,cB pb none [.str [],.nilslice,.nilslice,.nilslice]]) (B:=xI yA.base 3 [] .nilslice::wD yA.base 7 [] .nilslice::wD yA.base 24 [] .nilslice::P.L) (o':=wD yA.base 3 [] .nilslice) a4 (fun k _=>rfl) (fun k hk=>by cases hk) (.inl ⟨rfl,rfl⟩) (by simp[wD,kI]) a1.tle
 have hst:St (P.wL (vM pb (.str []) .nilslice .nilslice .nilslice .nilslice [] [] [] []++P.L)) tf t1 0 0:=⟨h.ts,o1,h.len,h.le,h.good,h.glob⟩
 unfold wJ at hk;refine Fq (P:=P.wL (vM pb (.str []) .nilslice .nilslice .nilslice .nilslice [] [] [] []++P.L)) hst (hk.bindX fun u n1 tf1 t2 v hr1 hle1 hst1 hrd1 hk1=>yB ?_)
 rw[pE 58];refine Ew (P:=P.wL (vM pb (.str []) .nilslice .nilslice .nilslice .nilslice [] [] [] []++P.L)) hst1 (hk1.bindX fun w n2 tf2 t3 v hr2 hle2 hst2 hrd2 hk2=>?_)
 cases hrd2;refine iF (qA (gF 0 (by omega)) (iC fun b2 _ _=>?_))
 obtain⟨t4,m1,m2⟩:=cA.setCel (A:=[qG P n2 0]) (j:=0) (v:=.str w) hst2.ob fN rfl (by show 0+1<=4;omega) rfl
 refine⟨_,_,m1 b2,yB ?_⟩
 have hst4:St (P.wL (vM pb (.str w) .nilslice .nilslice .nilslice .nilslice [] [] [] []++P.L)) tf2 t4 n2 0:=⟨hst2.ts,m2,hst2.len,hst2.le,hst2.good,hst2.glob⟩
 rw[pE 59];refine Bp (k:=5) (P:=P.wL (vM pb (.str w) .nilslice .nilslice .nilslice .nilslice [] [] [] []++P.L)) (by omega) hst4 (hk2.bindX fun w5 n3 tf3 t5 v hr3 hle3 hst3 hrd3 hk3=>?_)
 obtain⟨x,_,_,rfl⟩:=hrd3
 exact nC (zQ _) (jC (zc2 _ _ _ _ _ _ _ _ _ (by omega) ⟨.nilslice,.nilslice,.nilslice,.nilslice,[],[],.inl ⟨rfl,rfl,rfl,rfl⟩,hst3,by simp,by simp,by simp,by simp⟩ hk3))
end
end
section
variable [fC]
abbrev zP:List zA:=[.str [],.nilslice,.nilslice,.nilslice]
abbrev cP(X:zH):List zA:=[.str (X.s 0),X.v 1,X.v 2,X.v 3]
def t28_eq(s:List Nat)(p1:zA):t28 s p1=tRun 27 zP cP s p1:=rfl
def QI(v1 v4 v5 v6 v8:zA):Un v1 v4 v5 v6 v8=tR13 27 zP cP v1 v4 v5 v6 v8:=rfl
def zbx(v0 v1 v2 v3:zA):Pg v0 v1 v2 v3=tR3 27 zP v0 v1 v2 v3:=rfl
def zb0(v4 v5 v6:zA):Pk v4 v5 v6=tRe 27 v4 v5 v6:=rfl
def rt27:RT 27 zP cP:=⟨⟨_,ty27,rfl,rfl,rfl⟩,rfl,uO rfl,rfl⟩
section
variable {t:Tr vA}{Q:qB}{s:List Nat}
def run28(hg:bI t)(hby:∀b∈s,b<256)(hQ:match xE wJ s with
  | .ok x=>∀t' cs,bA t t'->RD t' x.d cs->Q (.tup [.agg cs,.agg [.int .i64 0,.int .i64 0],.int .i64 0]) t'
  | .er e a b=>∀t',bA t t'->Q (.tup [.agg zP,.agg [.int .i64 (a:Int),.int .i64 (b:Int)],.int .i64 (e:Int)]) t'):Wc yA F 28 [.str s,.func (.func 29) [] []] t Q:=by
 refine w28 _ _ ?_
 rw[t28_eq];refine Wh rt27 hg hby (fun m hm=>Hz hm) (fun e a b h=>⟨Rf h,?_⟩) (fun m hm tf1 t1 P b0 b1 b2 e1 e2 e3 e4 hle hst=>⟨rfl,tl28 _ _ _ _ _ ?_⟩)
 ·rw[Ek h]at hQ;exact hQ
 ·rw[QI]
  simp only[zbx,zb0];refine Uj (rd:=Lf) (good:=fun tf' x cs=>RD tf' x.d cs) (r:=wJ P.tk) rt27 e4 hst ?_ (fun Q E hk=>by rw[pE 29];exact zim hst hk) (by kernel_rfl) (fun tf' x v ⟨cs,h1,h2⟩=>⟨cs,h1,by obtain⟨a,b,c,rfl,_⟩:=En h2;rfl,agP h2,Cx h2,by obtain⟨a,b,c,rfl,_⟩:=En h2;exact h2.all,h2⟩)
  rw[Bs hm]at hQ;rw[e1]
  cases hr:wJ m with
  | ok x n=>
   rw[hr]at hQ;exact fun tf' t' cs k1 k2 k3=>hQ t' cs (hle.trans (k1.trans k2)) (k3.mono k2)
  | er e i=>
   rw[hr]at hQ;have ht:qF P i=cX m s i:=by unfold qF cX;rw[e1,e2,e3]
   intro t' k1;rw[ht];exact hQ t' (hle.trans k1)
def zio(hg:bI t)(hby:∀b∈s,b<256)(hQ:match xE wJ s with
  | .ok x=>∀t' cs,bA t t'->RD t' x.d cs->Q (.tup [.agg cs,.agg [.int .i64 0,.int .i64 0],.int .i64 0]) t'
  | .er e a b=>∀t',bA t t'->Q (.tup [.agg zP,.agg [.int .i64 (a:Int),.int .i64 (b:Int)],.int .i64 (e:Int)]) t'):Wc yA F 10 [.str s] t Q:=by
 refine w10 ?_
 unfold t10;refine yB ?_
 rw[q28];refine run28 hg hby ?_
 cases hr:xE wJ s with
 | ok x=>
  rw[hr]at hQ;intro t' cs k1 k2;refine qA (v:=.agg cs) rfl (nC (agP k2) (qA (v:=.agg [.int .i64 0,.int .i64 0]) rfl (nC ag2 (qA (v:=.int .i64 0) rfl (tB ?_)))))
  show rA _ _ _ (.ite (kB zA.one (cP (cellsOf cs))) (.ite true (.ret (.tup [.agg (cP (cellsOf cs)),_,_])) .fail) .fail) _ _
  have hc:cP (cellsOf cs)=cs:=Cx k2
  rw[hc];refine sA (by obtain⟨a,b,c,rfl,_⟩:=En k2;exact k2.all) (sA rfl (hQ t' cs k1 k2))
 | er e a b=>
  rw[hr]at hQ;intro t' k1;exact qA (v:=.agg zP) rfl (nC rt27.ag (qA (v:=.agg [.int .i64 (a:Int),.int .i64 (b:Int)]) rfl (nC ag2 (qA (v:=.int .i64 (e:Int)) rfl (tB (sA rfl (sA rfl (hQ t' k1))))))))
end
end
end Go.Proofs
namespace Go.Am
open Go Go.RowKit
section
variable {t:Tr vA}{C:lA}{W J:wF}{S el sz p:Nat}{Q:qB}{zs:List zA}
abbrev Cmp:=List zA->List zA->(zA->T)->T
def cmpC (g:Nat):Cmp:=fun a b K=>.call g [.agg a,.agg b] K
def zid(C:lA)(S el p:Nat)(g:Cmp)(zs:List zA)(ne:Bool->Bool)(v0 v1:zA)(i:Int):T:=
 .opt (oC v0) fun a0=>.asI .i64 a0 fun n1=>.ite (bB i n1)
  (.opt (sC C S v0 (.int .i64 i)) fun a2=>.light (fun m=>mA C el ⟨0,m⟩ a2) fun a3=>.asG zs a3 fun X4=>
   .opt (sC C S v1 (.int .i64 i)) fun a5=>.light (fun m=>mA C el ⟨0,m⟩ a5) fun a6=>.asG zs a6 fun X7=>
   g (jZ zs X4 0) (jZ zs X7 0) fun a8=>.asB a8 fun b9=>.ite (ne b9) (.ret (.bool false)) (.jump p [v0,v1,.int .i64 (iA .i64 (i+1))]))
  (.ret (.bool true))
theorem Ky{g:Cmp}{ne:Bool->Bool}{ok:Bool}{ds:List D}{v0 v1:zA}(hS:fI C S el sz true)(hz:∀d∈ds,d.zs=zs)(hne:ne ok=false)
  (hg:∀d∈ds,∀cs cs' K,RD t d cs->RD t d cs'->rA C.base W J (K (.bool ok)) t Q->rA C.base W J (g cs cs' K) t Q) (hlen:ds.length<300000)
  (hj:∀i,rA C.base W J (zid C S el p g zs ne v0 v1 i) t Q->J p [v0,v1,.int .i64 i] t Q) (h0:aA t sz ds v0) (h1:aA t sz ds v1) (hQ:Q (.bool true) t) :
  ∀(k i:Nat),i+k=ds.length->J p [v0,v1,.int .i64 (i:Int)] t Q:=by
 intro k;induction k with
 | zero=>
  intro i hi;refine hj _ ?_
  unfold zid;exact qA h0.len (tB (sB (fun e=>by grind [rG]) hQ))
 | succ k ih=>
  intro i hi;have hlt:i<ds.length:=by omega
  have hd:ds[i]?=some ds[i]:=ybd hlt
  have hm:ds[i]∈ds:=ycj hlt
  obtain⟨b,off,cs,g1,g2,g3,g4,g5⟩:=fI.at hS (by simp) h0 hd
  obtain⟨b',off',cs',f1,f2,f3,f4,f5⟩:=fI.at hS (by simp) h1 hd
  have hzz:=hz _ hm
  refine hj _ ?_
  unfold zid;refine qA h0.len (tB (sA (rG.2 (by omega)) (qA g1 (vC g2 (nC (tV g5 hzz) (qA f1 (vC f2 (nC (tV f5 hzz) ?_))))))))
  rw[g5.mk hzz,f5.mk hzz];refine hg _ hm _ _ _ g5 f5 (rD (sB (by simp_all) (jC ?_)))
  rw[gC (by omega) (by omega)]
  exact ih (i+1) (by omega)
end
end Go.Am
namespace Go.Proofs
open Go Go.Am
mutual
def fA.cpy:fA->Prop
 | .mk _ _ v args=>(v.f.n.limbs.length<300000/\v.f.d.limbs.length<300000)/\args.length<300000/\fA.cpys args
def fA.cpys:List fA->Prop
 | []=>True
 | x::l=>fA.cpy x/\fA.cpys l
end
structure zG.cpy (p:zG):Prop where
 defs:p.defs.length<300000
 tables:p.tables.length<300000
 clauses:p.clauses.length<300000
 rows:∀x∈p.tables,x.rows.length<300000/\∀r∈x.rows,r.f.n.limbs.length<300000/\r.f.d.limbs.length<300000
 exprs:∀x∈p.clauses,fA.cpy x.when_/\fA.cpy x.then_
def jH.cpy(f:jH):Prop:=f.n.limbs.length<300000/\f.d.limbs.length<300000
def NE (tk:List wC)(a b:Nat):Prop:=∀j,a<=j->j<b->wE tk 5 j=false
theorem NE.nil{tk:List wC}{a:Nat}:NE tk a a:=fun j h1 h2=>by omega
def NE.join{tk:List wC}{a b c:Nat}(h:NE tk a b)(k:NE tk b c):NE tk a c:=fun j h1 h2=>by
 by_cases hj:j<b
 ·exact h j h1 hj
 ·exact k j (by omega) h2
theorem NE.one{tk:List wC}{a:Nat}(h:wE tk 5 a=false):NE tk a (a+1):=fun j h1 h2=>by
 have:j=a:=by omega
 subst this;exact h
def Rj{tk:List wC}{n q:Nat}(h:wE tk q n=true)(hq:q≠5):wE tk 5 n=false:=by
 unfold wE at *
 cases hx:tk[n]? with
 | none=>rfl
 | some t=>
  rw[hx]at h;have:=of_decide_eq_true h
  exact decide_eq_false (by omega)
def Gg{tk:List wC}{n:Nat}{w:List Nat}(h:acc tk w n=true):wE tk 5 n=false:=by
 unfold acc at h;unfold wE
 cases hx:tk[n]? with
 | none=>rfl
 | some t=>
  rw[hx]at h;simp only[ybb,ycq,decide_eq_true_eq]at h;exact decide_eq_false (by omega)
structure VP where
 tk:List wC
 tk2:List wC
 d:Nat
 k:Nat
 full:Prop
 dp:Prop
abbrev yU:List (List Nat):=[[41],zha]
structure VW (S:VP):Prop where
 acc:∀i,i<S.k->∀w,Proofs.acc S.tk2 w (i+S.d)=Proofs.acc S.tk w i
 kind:∀i,i<S.k->∀q,wE S.tk2 q (i+S.d)=wE S.tk q i
 text:∀i,i<S.k->aF S.tk2 (i+S.d)=aF S.tk i
 qacc:∀w,w∉yU->Proofs.acc S.tk2 w (S.k+S.d)=false
 qkind:∀q,q=2\/q=3->wE S.tk2 q (S.k+S.d)=false
 qname:qM S.tk2 (S.k+S.d)=false
 full:S.full->¬ S.dp/\(∀w,Proofs.acc S.tk2 w (S.k+S.d)=false)/\∀q,q≠5->wE S.tk2 q (S.k+S.d)=false
 good:∀x∈S.tk,dX x
def uP {α:Type}(j:Nat)(r:PR α):Prop:=match r with | .ok _ n=>n=j | .er e i=>i=j/\(e=120\/e=122)
def MO {α:Type}(S:VP)(V:α->Prop)(n:Nat)(r:PR α):Prop:=
 match r with | .ok a n'=>n<=n'/\NE S.tk n n'/\V a | .er e i=>n<=i/\NE S.tk n i/\(e=120\/e=121\/e=122)
structure RA {α:Type} (S:VP) (V:α->Prop) (n:Nat) (r r2:PR α):Prop where
 mo:MO S V n r
 ok:n<=S.k->∀a n',r=.ok a n'->n'<=S.k->r2=.ok a (n'+S.d)\/(S.dp/\∃i,r2=.er 122 i)
 er:n<=S.k->S.full->∀e,r=.er e S.k->uP (S.k+S.d) r2
structure pB {α:Type} (S:VP) (H:Prop) (V:α->Prop) (f f2:PM α):Prop where
 ra:H->∀n,RA S V n (f n) (f2 (n+S.d))
 rr:S.full->uP (S.k+S.d) (f2 (S.k+S.d))
section
variable {S:VP}{H:Prop}{α β:Type}{V:α->Prop}{W:β->Prop}{n:Nat}
def RA.right{r r2 r2':PR α}(h:RA S V n r r2')(e:n<=S.k->r2=r2'):RA S V n r r2:=
 ⟨h.mo,fun hn=>by rw[e hn];exact h.ok hn,fun hn=>by rw[e hn];exact h.er hn⟩
theorem RA.step{r r2 r2':PR α}(hn:wE S.tk 5 n=false)(h:RA S V (n+1) r r2')(e:n<S.k->r2=r2'):RA S V n r r2:=by
 have hm:=h.mo
 refine⟨?_,fun hk a n' hr hn'=>?_,fun hk hf e' hr=>?_⟩
 ·unfold MO at hm ⊢
  cases r with
  | ok a n'=>exact⟨by omega,(NE.one hn).join hm.2.1,hm.2.2⟩
  | er e i=>exact⟨by omega,(NE.one hn).join hm.2.1,hm.2.2⟩
 ·subst hr
  have:=hm.1
  rw[e (by omega)]
  exact h.ok (by omega) a n' rfl hn'
 ·subst hr
  have:=hm.1
  rw[e (by omega)]
  exact h.er (by omega) hf e' rfl
def RA.bind(hv:VW S){r r2:PR α}{g g2:α->PM β}(hf:RA S V n r r2)(hg:∀a n1,r=.ok a n1->V a->RA S W n1 (g a n1) (g2 a (n1+S.d)))(hz:S.full->∀a,uP (S.k+S.d) (g2 a (S.k+S.d))):RA S W n (r.bind g) (r2.bind g2):=by
 have hm:=hf.mo
 cases r with
 | er e i=>
  refine⟨hm,fun _ a n' h=>(by cases h),fun hn hfu e' hr=>?_⟩
  have:=hf.er hn hfu e' (by cases hr;rfl)
  cases r2 with
  | ok a m=>unfold uP at this;subst this;exact hz hfu a
  | er e i=>exact this
 | ok a n1=>
  obtain⟨h1,h2,h3⟩:=hm
  have hg1:=hg a n1 rfl h3
  have hgm:=hg1.mo
  refine⟨?_,fun hn b n' hr hn'=>?_,fun hn hfu e' hr=>?_⟩
  ·show MO S W n (g a n1)
   unfold MO at hgm ⊢
   cases hq:g a n1 with
   | ok b n'=>rw[hq]at hgm;exact⟨by omega,h2.join hgm.2.1,hgm.2.2⟩
   | er e i=>rw[hq]at hgm;exact⟨by omega,h2.join hgm.2.1,hgm.2.2⟩
  ·change g a n1=_ at hr
   rw[hr]at hgm;have:=hgm.1
   rcases hf.ok hn a n1 rfl (by omega)with e | ⟨e1,i,e2⟩
   ·rw[e];exact hg1.ok (by omega) b n' hr hn'
   ·rw[e2];exact .inr ⟨e1,i,rfl⟩
  ·change g a n1=_ at hr
   rw[hr]at hgm;have:=hgm.1
   rcases hf.ok hn a n1 rfl (by omega)with e | ⟨e1,i,e2⟩
   ·rw[e];exact hg1.er (by omega) hfu e' hr
   ·exact absurd e1 (hv.full hfu).1
def uP.bind{j:Nat}{r:PR α}{g:α->PM β}(h:uP j r)(hg:∀a,uP j (g a j)):uP j (r.bind g):=by
 cases r with
 | ok a n=>unfold uP at h;subst h;exact hg a
 | er e i=>exact h
def pB.bind(hv:VW S){f f2:PM α}{g g2:α->PM β}(hf:pB S H V f f2)(hg:∀a,pB S (H/\V a) W (g a) (g2 a)):pB S H W (fun n=>(f n).bind g) (fun n=>(f2 n).bind g2):=
 ⟨fun hH n=>RA.bind hv (hf.ra hH n) (fun a n1 _ hV=>(hg a).ra ⟨hH,hV⟩ n1) fun hfu a=>(hg a).rr hfu,fun hfu=>uP.bind (hf.rr hfu) fun a=>(hg a).rr hfu⟩
def RA.ret{a:α}(h:V a):RA S V n (.ok a n) (.ok a (n+S.d)):=⟨⟨ybk _,NE.nil,h⟩,fun _ b m e _=>by cases e;exact .inl rfl,fun _ _ e h=>by cases h⟩
def pB.ret{a:α}(h:H->V a):pB S H V (fun n=>.ok a n) (fun n=>.ok a n):=⟨fun hH n=>RA.ret (h hH),fun _=>rfl⟩
def RA.fail{e:Nat}(he:e=120\/e=122):RA S V n (.er e n) (.er e (n+S.d)):=
 ⟨⟨ybk _,NE.nil,by omega⟩,fun _ b m e _=>(by cases e),fun _ _ e' h=>by cases h;exact⟨rfl,he⟩⟩
def pB.fail{e:Nat}(he:e=120\/e=122):pB S H V (fun n=>.er e n) (fun n=>.er e n):=⟨fun _ n=>RA.fail he,fun _=>⟨rfl,he⟩⟩
theorem pB.mono{H':Prop}{V':α->Prop}{f f2:PM α}(h:pB S H V f f2)(h1:H'->H)(h2:∀a,V a->V' a):pB S H' V' f f2:=
 ⟨fun hH n=>⟨by
  have:=(h.ra (h1 hH) n).mo
  unfold MO at this ⊢
  cases hq:f n with
  | ok a n'=>rw[hq]at this;exact⟨this.1,this.2.1,h2 _ this.2.2⟩
  | er e i=>rw[hq]at this;exact this,(h.ra (h1 hH) n).ok,(h.ra (h1 hH) n).er⟩,h.rr⟩
def pB.ite{p p2:Nat->Bool}{A A2 B B2:PM α}(hp:∀i,i<S.k->p2 (i+S.d)=p i)(hq:p2 (S.k+S.d)=false)(hA:pB S H V A A2)(hs:∀n a n',p n=true->A n=.ok a n'->n<n')(hB:pB S H V B B2) :
  pB S H V (fun n=>if p n=true then A n else B n) (fun n=>if p2 n=true then A2 n else B2 n):=by
 refine⟨fun hH n=>?_,fun hfu=>by show uP _ (if p2 (S.k+S.d)=true then _ else _);rw[hq,yaa (by simp)];exact hB.rr hfu⟩
 show RA S V n (if p n=true then _ else _) (if p2 (n+S.d)=true then _ else _)
 have hq':∀x y:PR α,n=S.k->(if p2 (n+S.d)=true then x else y)=y:=fun x y e=>by rw[e,hq,yaa (by simp)]
 cases h:p n with
 | true=>
  rw[yab rfl];have hr:=hA.ra hH n
  refine⟨hr.mo,fun hn a n' hr' hn'=>?_,fun hn hfu e hr'=>?_⟩
  ·have:=hs n a n' h hr'
   rw[hp n (by omega),h,yab rfl]
   exact hr.ok hn a n' hr' hn'
  ·by_cases hk:n<S.k
   ·rw[hp n hk,h,yab rfl]
    exact hr.er hn hfu e hr'
   ·have:n=S.k:=by omega
    rw[hq' _ _ this,this];exact hB.rr hfu
 | false=>
  rw[yaa (by simp)]
  refine(hB.ra hH n).right fun hn=>?_
  by_cases hk:n<S.k
  ·rw[hp n hk,h,yaa (by simp)]
  ·exact hq' _ _ (by omega)
def pB.acc(hv:VW S){w:List Nat}{A A2 B B2:PM α}(hw:w∉yU)(hA:pB S H V A A2)(hB:pB S H V B B2) :
  pB S H V (fun n=>if Proofs.acc S.tk w n=true then A (n+1)else B n) (fun n=>if Proofs.acc S.tk2 w n=true then A2 (n+1)else B2 n):=by
 have hq:=hv.qacc w hw
 refine⟨fun hH n=>?_,fun hfu=>by show uP _ (if Proofs.acc S.tk2 w (S.k+S.d)=true then _ else _);rw[hq,yaa (by simp)];exact hB.rr hfu⟩
 show RA S V n (if Proofs.acc S.tk w n=true then _ else _) (if Proofs.acc S.tk2 w (n+S.d)=true then _ else _)
 cases h:Proofs.acc S.tk w n with
 | true=>
  rw[yab rfl];refine RA.step (Gg h) (hA.ra hH (n+1)) fun hn=>?_
  rw[hv.acc n hn,h,yab rfl];congr 1;omega
 | false=>
  rw[yaa (by simp)]
  refine(hB.ra hH n).right fun hn=>?_
  by_cases hk:n<S.k
  ·rw[hv.acc n hk,h,yaa (by simp)]
  ·have:n=S.k:=by omega
   rw[this,hq,yaa (by simp)]
def pB.cases(b:Bool){A A2 B B2:PM α}(hA:b=true->pB S H V A A2)(hB:b=false->pB S H V B B2):pB S H V (fun n=>if b=true then A n else B n) (fun n=>if b=true then A2 n else B2 n):=by
 cases b with
 | true=>exact hA rfl
 | false=>exact hB rfl
end
section
variable {S:VP}{H:Prop}{n:Nat}
def IV{tk:List wC}{q n:Nat}(hg:∀x∈tk,dX x)(h:wE tk q n=true):q=2->bR (aF tk n):=by
 rintro rfl
 unfold wE at h;unfold aF
 cases hx:tk[n]? with
 | none=>rw[hx]at h;cases h
 | some t=>rw[hx]at h;exact(hg t (ycv hx)).1 (of_decide_eq_true h)
def Uh(hv:VW S){q:Nat}(hq:q≠5):pB S H (fun s=>q=2->bR s) (uF S.tk q) (uF S.tk2 q):=by
 refine⟨fun _ n=>?_,fun hfu=>?_⟩
 ·unfold uF
  cases h:wE S.tk q n with
  | true=>
   rw[yab rfl];refine⟨⟨by omega,NE.one (Rj h hq),IV hv.good h⟩,fun hn a n' hr hn'=>?_,fun _ _ e hr=>by cases hr⟩
   cases hr;rw[hv.kind n (by omega),h,yab rfl,hv.text n (by omega)]
   left;congr 1;omega
  | false=>
   rw[yaa (by simp)]
   refine⟨⟨by omega,NE.nil,by omega⟩,fun _ a n' hr=>(by cases hr),fun hn hfu e hr=>?_⟩
   cases hr;rw[(hv.full hfu).2.2 q hq,yaa (by simp)]
   exact⟨rfl,.inl rfl⟩
 ·unfold uF
  rw[(hv.full hfu).2.2 q hq,yaa (by simp)]
  exact⟨rfl,.inl rfl⟩
def eP(hv:VW S){w:List Nat}:pB S H (fun _=>True) (iE S.tk w) (iE S.tk2 w):=by
 refine⟨fun _ n=>?_,fun hfu=>?_⟩
 ·unfold iE
  cases h:acc S.tk w n with
  | true=>
   rw[yab rfl];refine⟨⟨by omega,NE.one (Gg h),trivial⟩,fun hn a n' hr hn'=>?_,fun _ _ e hr=>by cases hr⟩
   cases hr;rw[hv.acc n (by omega),h,yab rfl]
   left;congr 1;omega
  | false=>
   rw[yaa (by simp)]
   refine⟨⟨by omega,NE.nil,by omega⟩,fun _ a n' hr=>(by cases hr),fun hn hfu e hr=>?_⟩
   cases hr;rw[(hv.full hfu).2.1 w,yaa (by simp)]
   exact⟨rfl,.inl rfl⟩
 ·unfold iE
  rw[(hv.full hfu).2.1 w,yaa (by simp)]
  exact⟨rfl,.inl rfl⟩
def GX(hv:VW S){i:Nat}(h:i<S.k):qM S.tk2 (i+S.d)=qM S.tk i:=by
 unfold qM;rw[hv.kind i h,hv.text i h]
def UT{tk:List wC}{n:Nat}(h:qM tk n=true):wE tk 1 n=true:=by
 unfold qM at h;simp only[ybb]at h;exact h.1
def Ht(hv:VW S):pB S H (fun _=>True) (uJ S.tk) (uJ S.tk2):=by
 refine⟨fun _ n=>?_,fun hfu=>?_⟩
 ·unfold uJ
  cases h:qM S.tk n with
  | true=>
   rw[yab rfl];refine⟨⟨by omega,NE.one (Rj (UT h) (by omega)),trivial⟩,fun hn a n' hr hn'=>?_,fun _ _ e hr=>by cases hr⟩
   cases hr;rw[GX hv (by omega),h,yab rfl,hv.text n (by omega)]
   left;congr 1;omega
  | false=>
   rw[yaa (by simp)]
   refine⟨⟨by omega,NE.nil,by omega⟩,fun _ a n' hr=>(by cases hr),fun hn hfu e hr=>?_⟩
   cases hr;rw[hv.qname,yaa (by simp)]
   exact⟨rfl,.inl rfl⟩
 ·unfold uJ
  rw[hv.qname,yaa (by simp)]
  exact⟨rfl,.inl rfl⟩
def Nh(hv:VW S):pB S H (fun _=>True) (cM S.tk) (cM S.tk2):=(Uh hv (q:=3) (by omega)).bind hv fun a=>pB.ret fun _=>trivial
def MV(hv:VW S){f:Nat->List Nat}{m:Nat}(hf:∀i,f i∉yU):∀(k i:Nat),pB S H (fun _=>True) (wK S.tk f m k i) (wK S.tk2 f m k i):=by
 intro k;induction k with
 | zero=>intro i;exact pB.fail (.inl rfl)
 | succ k ih=>
  intro i;by_cases h:m<i
  ·have e:∀tk,wK tk f m (k+1) i=fun n=>.er 120 n:=fun tk=>by funext n;unfold wK;rw[yab h]
   rw[e,e];exact pB.fail (.inl rfl)
  ·have e:∀tk,wK tk f m (k+1) i=fun n=>if acc tk (f i) n=true then .ok i (n+1)else wK tk f m k (i+1) n:=fun tk=>by funext n;rw[wK,yaa h]
   rw[e,e];exact pB.acc hv (A:=fun n=>.ok i n) (A2:=fun n=>.ok i n) (hf i) (pB.ret fun _=>trivial) (ih (i+1))
end
end Go.Proofs
namespace Go.Proofs
open Go Go.Am
variable [fC]
variable {t tf:Tr vA}
def nLt{a b:Int}(h:¬ a<b):bB a b≠true:=fun e=>h (rG.1 e)
def yLt{a b:Int}(h:a<b):bB a b=true:=rG.2 h
def sam203{l:List Nat}{u v:zA}(hu:aA t 1 (aD l) u)(hv:aA t 1 (aD l) v)(hl:l.length<300000):uC yA F 26 [u,v] t=some (.bool true):=by
 have hn:oC u=some (.int .i64 (l.length:Int)):=by rw[hu.len,xV]
 have hn':oC v=some (.int .i64 (l.length:Int)):=by rw[hv.len,xV]
 refine fD.2 (w26 ?_)
 unfold t26 uI rC uZ;refine qA hn (tB (qA hn' (tB (sB (fun e=>absurd rfl (zS.1 e)) (jC ?_)))))
 have loop:∀(m i:Nat),i+m=l.length->jp 26 2 [u,v,.int .i64 (i:Int)] t (fun v' t'=>v'=.bool true/\t'=t):=by
  intro m;induction m with
  | zero=>
   intro i hi;refine j26_2 ?_
   unfold zh9 uI uH xD rC bJ uZ;exact qA hn (tB (sB (nLt (by omega)) ⟨rfl,rfl⟩))
  | succ m ih=>
   intro i hi;obtain⟨x,hx⟩:=getElem?_of_lt (show i<l.length by omega)
   obtain⟨p,o,g1,g2⟩:=aA.idx (C:=yA) vZ hu hx
   obtain⟨p',o',g3,g4⟩:=aA.idx (C:=yA) vZ hv hx
   refine j26_2 ?_
   unfold zh9 uI uH xD rC bJ uZ;refine qA hn (tB (sA (yLt (by omega)) (qA g1 (vC g2 (tB (qA g3 (vC g4 (tB (sB (fun e=>absurd rfl (zS.1 e)) (jC ?_))))))))))
   rw[gC (by omega) (by omega)]
   exact ih (i+1) (by omega)
 exact loop l.length 0 (by omega)
def zfh{w:mK}{cs ds:List zA}(hl:w.limbs.length<300000)(h:RD t w.d cs)(k:RD t w.d ds):uC yA F 83 [.agg cs,.agg ds] t=some (.bool true):=by
 obtain⟨u,rfl,hu⟩:=Pz h
 obtain⟨v,rfl,hv⟩:=Pz k
 refine fD.2 (w83 ?_)
 unfold t83 uB rC;refine sA (by rw[uV];simp) (yB ?_)
 rw[q26,sam203 hu hv hl,pA];exact rD ⟨rfl,rfl⟩
def zfi{f:jH}{cs ds:List zA}(hl:f.n.limbs.length<300000/\f.d.limbs.length<300000)(h:RD t f.dd cs)(k:RD t f.dd ds):uC yA F 53 [.agg cs,.agg ds] t=some (.bool true):=by
 obtain⟨a,b,rfl,ha,hb⟩:=rd_frac h
 obtain⟨a',b',rfl,ha',hb'⟩:=rd_frac k
 refine fD.2 (w53 ?_)
 unfold t53 uB rC;refine yB ?_
 rw[q83,zfh hl.1 (Cf (w:=f.n) ha) (Cf (w:=f.n) ha'),pA]
 refine rD (sA rfl (yB ?_))
 rw[q83,zfh hl.2 (Cf (w:=f.d) hb) (Cf (w:=f.d) hb'),pA]
 exact rD ⟨rfl,rfl⟩
def sam94{x:mF}{cs ds:List zA}(hl:x.f.n.limbs.length<300000/\x.f.d.limbs.length<300000)(h:RD t x.d cs)(k:RD t x.d ds):uC yA F 24 [.agg cs,.agg ds] t=some (.bool true):=by
 obtain⟨a,b,rfl,ha,hb⟩:=bV h
 obtain⟨a',b',rfl,ha',hb'⟩:=bV k
 refine fD.2 (w24 ?_)
 unfold t24 uB rC;refine sA (cH.2 rfl) (yB ?_)
 rw[q53,zfi hl (Ch (f:=x.f) ha hb) (Ch (f:=x.f) ha' hb'),pA]
 refine rD (sA rfl ?_)
 rw[cH.2 rfl];exact⟨rfl,rfl⟩
def sam102{x:oH}{cs ds:List zA}(hl:x.f.n.limbs.length<300000/\x.f.d.limbs.length<300000)(h:RD t x.d cs)(k:RD t x.d ds):uC yA F 116 [.agg cs,.agg ds] t=some (.bool true):=by
 obtain⟨a,b,rfl,ha,hb⟩:=Ww h
 obtain⟨a',b',rfl,ha',hb'⟩:=Ww k
 refine fD.2 (w116 ?_)
 unfold t116 uB rC;refine sA (cH.2 rfl) (sA (cH.2 rfl) (sA (cH.2 rfl) (yB ?_)))
 rw[q53,zfi hl (Ch (f:=x.f) ha hb) (Ch (f:=x.f) ha' hb'),pA]
 exact rD ⟨rfl,rfl⟩
theorem sam58{l:List oH}{u v:zA}(hn:l.length<300000)(hl:∀x∈l,x.f.n.limbs.length<300000/\x.f.d.limbs.length<300000)(hu:aA t 7 (l.map oH.d) u)(hv:aA t 7 (l.map oH.d) v):uC yA F 94 [u,v] t=some (.bool true):=by
 refine fD.2 (w94 ?_)
 unfold t94 uI rC uZ;refine qA hu.len (tB (qA hv.len (tB (sB (fun e=>absurd rfl (zS.1 e)) (jC ?_)))))
 refine Ky (C:=yA) (W:=Wq yA F mB) (J:=Jq yA F 94) (g:=cmpC 116) (ne:=not) (ok:=true) (ds:=l.map oH.d) sl128 (fun d hd=>?_) rfl (fun d hd cs cs' K h1 h2 hK=>?_) (by simp_all) (fun i hw=>j94_2 hw) hu hv ⟨rfl,rfl⟩ l.length 0 (by simp)
 ·obtain⟨x,_,rfl⟩:=yaq.1 hd
  exact x.zs
 ·obtain⟨x,hx,rfl⟩:=yaq.1 hd
  refine yB ?_
  rw[q116,sam102 (hl x hx) h1 h2,pA]
  exact hK
def sam31{x:bH}{cs ds:List zA}(hn:x.rows.length<300000)(hl:∀r∈x.rows,r.f.n.limbs.length<300000/\r.f.d.limbs.length<300000)(h:RD t x.d cs)(k:RD t x.d ds):uC yA F 63 [.agg cs,.agg ds] t=some (.bool true):=by
 obtain⟨a,rfl,ha⟩:=EX h
 obtain⟨b,rfl,hb⟩:=EX k
 refine fD.2 (w63 ?_)
 unfold t63 uB rC;refine sA ((rN _ _).2 rfl) (sA (by rw[uV];simp) (yB ?_))
 rw[q94,sam58 hn hl ha hb,pA];exact rD ⟨rfl,rfl⟩
theorem sam89{l:List bH}{u v:zA}(hn:l.length<300000)(hl:∀x∈l,x.rows.length<300000/\∀r∈x.rows,r.f.n.limbs.length<300000/\r.f.d.limbs.length<300000)(hu:aA t 3 (l.map bH.d) u)(hv:aA t 3 (l.map bH.d) v):uC yA F 34 [u,v] t=some (.bool true):=by
 refine fD.2 (w34 ?_)
 unfold t34 uI rC uZ;refine qA hu.len (tB (qA hv.len (tB (sB (fun e=>absurd rfl (zS.1 e)) (jC ?_)))))
 refine Ky (C:=yA) (W:=Wq yA F mB) (J:=Jq yA F 34) (g:=cmpC 63) (ne:=not) (ok:=true) (ds:=l.map bH.d) sl24 (fun d hd=>?_) rfl (fun d hd cs cs' K h1 h2 hK=>?_) (by simp_all) (fun i hw=>j34_2 hw) hu hv ⟨rfl,rfl⟩ l.length 0 (by simp)
 ·obtain⟨x,_,rfl⟩:=yaq.1 hd
  exact x.zs
 ·obtain⟨x,hx,rfl⟩:=yaq.1 hd
  refine yB ?_
  rw[q63,sam31 (hl x hx).1 (hl x hx).2 h1 h2,pA]
  exact hK
theorem zkk{x y:Operand}{s:List Nat}{k:Int}{b:Bool}:(aP .neq).f yA 77 x y (.agg [.str s,.int .u8 k,.bool b]) (.agg [.str s,.int .u8 k,.bool b])=some (.bool false):=by
 have e:(aP .neq).f yA 77 x y (.agg [.str s,.int .u8 k,.bool b]) (.agg [.str s,.int .u8 k,.bool b])=ob (bif oG s s then(bif aB k k then(bif bEq b b then some true else some false)else some false)else some false) fun r=>some (.bool (!r)):=by kernel_rfl
 rw[e,(rN s s).2 rfl,cH.2 rfl]
 cases b<;>rfl
theorem sam88{l:List nG}{u v:zA}(hn:l.length<300000)(hu:aA t 3 (l.map nG.d) u)(hv:aA t 3 (l.map nG.d) v):uC yA F 33 [u,v] t=some (.bool true):=by
 refine fD.2 (w33 ?_)
 unfold t33 uI rC uZ;refine qA hu.len (tB (qA hv.len (tB (sB (fun e=>absurd rfl (zS.1 e)) (jC ?_)))))
 refine Ky (C:=yA) (W:=Wq yA F mB) (J:=Jq yA F 33) (g:=fun a b K=>.opt ((aP .neq).f yA 77 (.tmp 20) (.tmp 24) (.agg a) (.agg b)) K) (ne:=fun b=>b) (ok:=false) (ds:=l.map nG.d) sl23 (fun d hd=>?_) rfl (fun d hd cs cs' K h1 h2 hK=>?_) (by simp_all) (fun i hw=>j33_2 hw) hu hv ⟨rfl,rfl⟩ l.length 0 (by simp)
 ·obtain⟨x,_,rfl⟩:=yaq.1 hd
  exact x.zs
 ·obtain⟨x,hx,rfl⟩:=yaq.1 hd
  have e1:=Wx h1
  grind [Wx,qA,zkk]
mutual
theorem Pr:∀(x:fA),fA.cpy x->∀cs ds,RD t x.d cs->RD t x.d ds->uC yA F 16 [.agg cs,.agg ds] t=some (.bool true)
 | .mk op name v args,h,cs,ds,hc,hd=>by
  obtain⟨a,b,c,rfl,ha,hb,he⟩:=aJ hc
  obtain⟨a',b',c',rfl,ha',hb',he'⟩:=aJ hd
  simp only[fA.op,fA.name,fA.v,fA.args]at ha hb he ha' hb' he' ⊢
  unfold fA.cpy at h;refine fD.2 (w16 ?_)
  unfold t16 uB rC uZ uY;refine sA (cH.2 rfl) (sA ((rN _ _).2 rfl) (yB ?_))
  rw[q24,sam94 h.1 (Hv (x:=v) ha hb) (Hv (x:=v) ha' hb'),pA]
  refine rD (sA rfl (yB ?_))
  have:=sam95 args h.2.2
  have e95:uC yA F 44 [c,c'] t=some (.bool true):=by
   refine fD.2 (w44 ?_)
   unfold t44 uI rC uZ;refine qA he.len (tB (qA he'.len (tB (sB (fun e=>absurd rfl (zS.1 e)) (jC ?_)))))
   refine Ky (C:=yA) (W:=Wq yA F mB) (J:=Jq yA F 44) (g:=cmpC 16) (ne:=not) (ok:=true) (ds:=args.map fA.d) sl48 (fun d hd=>?_) rfl (fun d hd cs cs' K h1 h2 hK=>?_) (by simp_all) (fun i hw=>j44_2 hw) he he' ⟨rfl,rfl⟩ args.length 0 (by simp)
   ·obtain⟨x,_,rfl⟩:=yaq.1 hd
    exact x.zs
   ·obtain⟨x,hx,rfl⟩:=yaq.1 hd
    refine yB ?_
    rw[q16,this x hx cs cs' h1 h2,pA];exact hK
  rw[q44,e95,pA];exact rD ⟨rfl,rfl⟩
theorem sam95:∀(l:List fA),fA.cpys l->∀x∈l,∀cs ds,RD t x.d cs->RD t x.d ds->uC yA F 16 [.agg cs,.agg ds] t=some (.bool true)
 | [],_,x,hx=>by cases hx
 | y::l,h,x,hx=>by
  unfold fA.cpys at h;rcases ybs.1 hx with e | hx
  ·rw[e];exact Pr y h.1
  ·exact sam95 l h.2 x hx
end
def sam93{x:dF}{cs ds:List zA}(hw:fA.cpy x.when_)(ht:fA.cpy x.then_)(h:RD t x.d cs)(k:RD t x.d ds):uC yA F 64 [.agg cs,.agg ds] t=some (.bool true):=by
 obtain⟨a,b,c,d,e,f,rfl,h1,h2⟩:=Wy h
 obtain⟨a',b',c',d',e',f',rfl,k1,k2⟩:=Wy k
 refine fD.2 (w64 ?_)
 unfold t64 uB rC uZ uY;refine sA ((rN _ _).2 rfl) (sA ((rN _ _).2 rfl) (sA (cH.2 rfl) (sA (cH.2 rfl) (sA (cH.2 rfl) (sA (by rw[uV];simp) (yB ?_))))))
 have e1:=Pr x.when_ hw _ _ h1 k1
 have e2:=Pr x.then_ ht _ _ h2 k2
 unfold Fz at e1 e2;rw[q16,e1,pA];refine rD (sA rfl (yB ?_))
 rw[q16,e2,pA];exact rD ⟨rfl,rfl⟩
theorem sam90{l:List dF}{u v:zA}(hn:l.length<300000)(hl:∀x∈l,fA.cpy x.when_/\fA.cpy x.then_)(hu:aA t 24 (l.map dF.d) u)(hv:aA t 24 (l.map dF.d) v):uC yA F 35 [u,v] t=some (.bool true):=by
 refine fD.2 (w35 ?_)
 unfold t35 uI rC uZ;refine qA hu.len (tB (qA hv.len (tB (sB (fun e=>absurd rfl (zS.1 e)) (jC ?_)))))
 refine Ky (C:=yA) (W:=Wq yA F mB) (J:=Jq yA F 35) (g:=cmpC 64) (ne:=not) (ok:=true) (ds:=l.map dF.d) sl25 (fun d hd=>?_) rfl (fun d hd cs cs' K h1 h2 hK=>?_) (by simp_all) (fun i hw=>j35_2 hw) hu hv ⟨rfl,rfl⟩ l.length 0 (by simp)
 ·obtain⟨x,_,rfl⟩:=yaq.1 hd
  exact x.zs
 ·obtain⟨x,hx,rfl⟩:=yaq.1 hd
  refine yB ?_
  rw[q64,sam93 (hl x hx).1 (hl x hx).2 h1 h2,pA]
  exact hK
def sam47{p:zG}{cs ds:List zA}(hp:zG.cpy p)(h:RD t p.d cs)(k:RD t p.d ds):uC yA F 12 [.agg cs,.agg ds] t=some (.bool true):=by
 obtain⟨a,b,c,rfl,ha,hb,hc⟩:=En h
 obtain⟨a',b',c',rfl,ha',hb',hc'⟩:=En k
 refine fD.2 (w12 ?_)
 unfold t12 uB rC;refine sA ((rN _ _).2 rfl) (yB ?_)
 rw[q33,sam88 hp.defs ha ha',pA];refine rD (sA rfl (yB ?_))
 rw[q34,sam89 hp.tables hp.rows hb hb',pA];refine rD (sA rfl (yB ?_))
 rw[q35,sam90 hp.clauses hp.exprs hc hc',pA];exact rD ⟨rfl,rfl⟩
end Go.Proofs
namespace Go.Am
open Go Go.RowKit
def BD{C:lA}{F:Tr cD}{f:Nat}{args:List zA}{t:Tr vA}{Q:qB}{g:List zA->xA->Option (zA × xA)}(hg:C.prims.get f=some g)(h:∀X HA,Ov C.base t X HA->∃v t' HA',g args HA=some (v,HA')/\Ov C.base t' X HA'/\Q v t')(hf:Nat.blt f yo=true:=by rfl):Wc C F f args t Q:=by
 intro X HA ho;rw[Fy hf,hg];obtain⟨v,t',HA',h1,h2,h3⟩:=h X HA ho
 exact⟨⟨v,false⟩,t',HA',X,by show ob (g args HA) _=_;rw[h1];rfl,h2,jI.refl _,h3⟩
end Go.Am
namespace Go.Proofs
open Go Go.Am
variable [fC]
variable {t tf:Tr vA}{bx T:Nat}{s m:List Nat}{ex:List zA}
def el95:Jo yA 95 5 1:=⟨⟨_,ty95,rfl,rfl⟩,⟨_,ty5,rfl,rfl,by decide,by decide⟩⟩
def co5:∀z,yA.tys.get 5=some z->bM 5 z=.ty 5:=fun z h=>by rw[ty5]at h;cases h;rfl
theorem JS{cd:Lo}{base sz:Nat}{l:List D}{v:zA}{b:Nat}(h:lK cd base tf t sz l v)(hb:fM v b)(hn:t.get b=none):False:=by
 obtain⟨_,_,y,hy⟩:=h.none hb
 simp_all
def BR{b o:Nat}:rF (.ptr b o)=some (.ptr b o):=rfl
def BX (T:Nat)(ex:List zA)(tf t:Tr vA)(bx:Nat)(s:List Nat):Prop:=
 yA.base<=bx/\tf.get bx=none/\bA tf t/\jB 256 s/\Ma Qv T (ex.length+2)=true/\∃p tv,(p=zA.nilptr\/p=.ptr bx 0)/\cC t bx (some (.ty T)) (p::tv::ex)/\lK (.ty 5) yA.base tf t 1 (xC .u8 s) tv/\(¬ fM tv bx/\(s=[]->tv=.nilslice))
def BX.le(h:BX T ex tf t bx s):bA tf t:=h.2.2.1
theorem BX.both(h:BX T ex tf t bx s){n:Nat}(hn:t.get n=none)(y:vA):BX T ex (tf.set n y) (t.set n y) bx s:=by
 obtain⟨h1,h2,h3,ha,hM,p,tv,hp,h4,h5,h6⟩:=h
 have hbx:bx≠n:=by intro e;obtain⟨c,h,_⟩:=h4;simp_all
 refine⟨h1,by grind [Tr.get_set],DY hn h3,ha,hM,p,tv,hp,h4.off (by rw[Tr.get_set,yaa hbx]),?_,h6⟩
 have hb:∀b,fM tv b->b≠n:=fun b hb e=>JS h5 hb (e ▸ hn)
 rcases h5 with⟨rfl,h5⟩ | ⟨b,cl,c,rfl,k0,k1,k2,k3,k4⟩
 ·exact .inl ⟨rfl,h5⟩
 ·have hbn:=hb b (Co.2 rfl)
  exact .inr ⟨b,cl,c,rfl,k0,by grind [Tr.get_set],by grind [Tr.get_set],k3,zD.mono (fun c u hc=>by
   grind [Hr,Tr.get_set]) _ _ k4⟩
theorem BX.out{n:Nat}{y:vA}(hn:tf.get n=none)(h:BX T ex (tf.set n y) t bx s):BX T ex tf (t.del n) bx s:=by
 obtain⟨h1,h2,h3,ha,hM,p,tv,hp,h4,h5,h6⟩:=h
 have hbx:bx≠n:=by grind [Tr.get_set]
 have hle:bA tf (tf.set n y):=(cN hn y).1
 rw[Tr.get_set,yaa hbx]at h2;refine⟨h1,h2,fun c u hc=>?_,ha,hM,p,tv,hp,h4.off (by rw[Tr.get_del,yaa hbx]),?_,h6⟩
 ·have:c≠n:=fun e=>by simp_all
  rw[Tr.get_del,yaa this];exact h3 _ _ (hle _ _ hc)
 ·rcases h5 with⟨rfl,h5⟩ | ⟨b,cl,c,rfl,k0,k1,k2,k3,k4⟩
  ·exact .inl ⟨rfl,h5⟩
  ·have hbn:b≠n:=by grind [Tr.get_set]
   refine .inr ⟨b,cl,c,rfl,k0,by grind [Tr.get_set],by grind [Tr.get_del],k3,?_⟩
   grind [Jj]
theorem BX.less{tf0:Tr vA}(hle:bA tf0 tf)(h:BX T ex tf t bx s):BX T ex tf0 t bx s:=by
 obtain⟨h1,h2,h3,ha,hM,p,tv,hp,h4,h5,h6⟩:=h
 have no:∀b,tf.get b=none->tf0.get b=none:=fun b hb=>by
  cases hq:tf0.get b with
  | none=>rfl
  | some u=>rw[hle _ _ hq]at hb;cases hb
 refine⟨h1,no _ h2,hle.trans h3,ha,hM,p,tv,hp,h4,?_,h6⟩
 rcases h5 with⟨rfl,h5⟩ | ⟨b,cl,c,rfl,k0,k1,k2,k3,k4⟩
 ·exact .inl ⟨rfl,h5⟩
 ·exact .inr ⟨b,cl,c,rfl,k0,no _ k1,k2,k3,by grind [Jj]⟩
theorem BX.keep(h:BX T ex tf t bx s){t':Tr vA}(hle:bA tf t')(hk:∀b,b=bx\/(∃p tv,cC t bx (some (.ty T)) (p::tv::ex)/\fM tv b)->t'.get b=t.get b):BX T ex tf t' bx s:=by
 obtain⟨h1,h2,h3,ha,hM,p,tv,hp,h4,h5,h6⟩:=h
 exact⟨h1,h2,hle,ha,hM,p,tv,hp,h4.off (hk _ (.inl rfl)),h5.keep' fun b hb=>hk b (.inr ⟨p,tv,h4,hb⟩),h6⟩
theorem BX.junk(h:BX T ex tf t bx s){n:Nat}{t':Tr vA}(hn:t.get n=none)(ho:yG n t t'):BX T ex tf t' bx s:=by
 obtain⟨h1,h2,h3,ha,hM,p,tv,hp,h4,h5,h6⟩:=h
 have hbx:bx≠n:=by intro e;obtain⟨c,h,_⟩:=h4;simp_all
 refine⟨h1,h2,h3.off (Hr h3 hn) ho,ha,hM,p,tv,hp,h4.off (ho bx hbx),h5.keep' fun b hb=>ho b fun e=>JS h5 hb (e ▸ hn),h6⟩
theorem BX.check{Q:qB}(h:BX T ex tf t bx s)(hQ:∀t',BX T ex tf t' bx s->Q (.tup []) t'):Wc yA F 82 [.ptr bx 0] t Q:=by
 have h0:=h
 obtain⟨h1,h2,h3,ha,hM,p,tv,hp,⟨c,h4,h4'⟩,h5,h6⟩:=h
 have hg:yA.prims.get 82=some pChk:=by kernel_rfl
 refine BD hg fun X HA ho=>?_
 have hk:mD HA bx=some (c,(p::tv::ex).length,some (.ty T)):=by unfold mD;rw[ho.up h4];rfl
 have hc0:c.get 0=some p:=h4' 0 p rfl
 rcases hp with rfl | rfl
 ·refine⟨.tup [],t.set bx (.cells (c.set 0 (.ptr bx 0)) (zA.nilptr::tv::ex).length (some (.ty T))),setBlk HA bx (.cells (c.set 0 (.ptr bx 0)) (zA.nilptr::tv::ex).length (some (.ty T))),?_,ho.setBlk h4 _,hQ _ ?_⟩
  ·unfold pChk Hq
   simp only[];rw[hk,oA,hc0,oA];simp only[];have e1:(!Nat.blt bx (256+fC.n))=true:=by
    cases hq:Nat.blt bx (256+fC.n)with
    | true=>
     have h3:=qC.1 hq
     have h1':256+fC.n<=bx:=h1
     omega
    | false=>rfl
   simp_all
  ·refine⟨h1,h2,fun b u hb=>?_,ha,hM,.ptr bx 0,tv,.inr rfl,⟨_,by rw[Tr.get_set,yab rfl];rfl,fun j a hj=>?_⟩,h5.keep' fun b hb=>?_,h6⟩
   ·have:b≠bx:=fun e=>by simp_all
    rw[Tr.get_set,yaa this];exact h3 _ _ hb
   all_goals grind [Tr.get_set]
 ·refine⟨.tup [],t,HA,?_,ho,hQ _ h0⟩
  simp_all [pChk,Hq]
def fa77{b:Nat}:mC yA 110 1 (.ptr b 0)=some (.ptr b 1):=by kernel_rfl
theorem BX.write{Q:qB}(h:BX T ex tf t bx s)(hm:m≠[])(hlt:jB 256 m)(hl:s.length+m.length<400000)(hQ:∀v t',BX T ex tf t' bx (s++m)->Q v t'):Wc yA F 51 [.ptr bx 0,.str m] t Q:=by
 refine w51 ?_
 unfold t51 aH uZ;refine yB ?_
 rw[q82];refine h.check fun t' h'=>?_
 obtain⟨h1,h2,h3,ha,hM,p,tv,hp,h4,h5,h6⟩:=h'
 refine qA BR (qA fa77 (vC (h4.load1 (j:=1) ty95 rfl rfl) (iC fun n hn hbase=>?_)))
 have hbn:n≠bx:=by intro e;obtain⟨c,hh,_⟩:=h4;simp_all
 obtain⟨t1,g1,g2,g3,g4⟩:=ZO el95 ⟨_,fN,rfl⟩ co5 h5 hm hl hn hbase h3
 refine⟨_,_,g1,qA BR (qA fa77 (iC fun n2 _ _=>?_))⟩
 have h4':cC t1 bx (some (.ty T)) (p::tv::ex):=h4.off (g4 bx hbn.symm h6.1)
 obtain⟨t2,e1,e2,e3⟩:=h4'.store1 (v:=.slice n 0 (s.length+m.length) (s.length+m.length)) h1 ty95 rfl rfl rfl (j:=1) (by simp)
 refine⟨_,_,e1 n2,hQ _ _ ⟨h1,h2,g3.off h2 e3,fun x hx=>?_,hM,p,_,hp,e2,g2.keep' fun b hb=>e3 b fun e=>?_,fun e=>?_,fun e=>absurd (List.append_eq_nil_iff.1 e).2 hm⟩⟩
 ·rcases yaf.1 hx with hx | hx
  ·exact ha x hx
  ·exact hlt x hx
 all_goals grind [Co]
def HG:∀ {l:List Nat},jB 256 l->xH Go.Am.byteOf (l.map fun(n:Nat)=>zA.int .u8 (n:Int))=some l
 | [],_=>rfl
 | x::l,h=>by
  have hx:Go.Am.byteOf (.int .u8 (x:Int))=some x:=by
   show xB (Nat.blt x 256) (some x)=_
   rw[qC.2 (h x (.head _))];rfl
  rw[ycm,jP,hx,oA,HG fun y hy=>h y (.tail _ hy)]
  rfl
theorem BX.string{Q:qB}(h:BX T ex tf t bx s)(hl:s.length<400000)(hQ:∀t',bA tf t'->Q (.str s) t'):Wc yA F 52 [.ptr bx 0] t Q:=by
 obtain⟨h1,h2,h3,ha,hM,p,tv,hp,⟨c,h4,h4'⟩,h5,h6⟩:=h
 have hg:yA.prims.get 52=some pStr:=by kernel_rfl
 rcases h5 with⟨rfl,h5⟩ | ⟨b,cl,d,rfl,k0,k1,k2,k3,k4⟩
 ·refine BD hg fun X HA ho=>?_
  have hk:mD HA bx=some (c,(p::zA.nilslice::ex).length,some (.ty T)):=by unfold mD;rw[ho.up h4];rfl
  have hc1:=h4' 1 _ rfl
  have hs:s=[]:=by grind [kH]
  subst hs;refine⟨.str [],t,HA,?_,ho,hQ _ h3⟩
  unfold pStr Ho;simp only[];rw[hk,oA,hc1,oA]
 have hs:s≠[]:=fun e=>by have:=h6.2 e;cases this
 have hpos:0<s.length:=List.length_pos_iff.2 hs
 rw[kH,Nat.mul_one]at k2;rw[Jj]at k4;subst k4;have hbytes:∀j a,(s.map fun(n:Nat)=>zA.int .u8 (n:Int))[j]?=some a->d.get j=some a:=by
  intro j a hj;have hj':(cellsK .u8 s)[j]?=some [a]:=by
   grind [cellsK]
  have:=(k3 j _ hj').2 0 a rfl
  simp_all
 refine BD hg fun X HA ho=>?_
 have hk:mD HA bx=some (c,(p::zA.slice b 0 (xC .u8 s).length (xC .u8 s).length::ex).length,some (.ty T)):=by unfold mD;rw[ho.up h4];rfl
 have hk2:mD HA b=some (d,s.length,some (.ty 5)):=by unfold mD;rw[ho.up k2];rfl
 have hc1:=h4' 1 _ rfl
 refine⟨.str s,t.del b,⟨HA.next,HA.t.del b⟩,?_,ho.delBlk k2,hQ _ fun e u he=>?_⟩
 ·unfold pStr Ho
  simp only[];rw[hk,oA,hc1,oA];unfold Qg;simp only[];rw[hk,oA,hc1,oA];simp only[zA.asSlice,oA,kH];rw[hk2,oA];simp only[];have hm:=GZ hbytes s.length 0 (by simp)
  rw[ycr,yca (by simp)]at hm
  rw[hm,oA,HG ha,oA];have e1:(!Nat.blt b (256+fC.n))=true:=by
   cases hq:Nat.blt b (256+fC.n)with
   | true=>
    have h3:=qC.1 hq
    have h1':256+fC.n<=b:=k0
    omega
   | false=>rfl
  rw[e1,kC.2 rfl,qC.2 hpos,qE.2 (ybk _),qC.2 (show s.length<1000000000 by omega),kC.2 rfl]
  rfl
 ·have:e≠b:=fun h=>by simp_all
  rw[Tr.get_del,yaa this];exact h3 _ _ he
end Go.Proofs
namespace Go.Proofs
open Go Go.Am
section
variable {b:Nat}{s:List Nat}
section
variable {k ln cl:Nat}{op:Option (Nat × Nat)}{r:List Nat}
def let_ne (h:gM b=true):b≠10/\b≠32/\b≠9/\b≠35/\b≠45/\b≠47/\pD b=false/\b≠0:=by
 unfold gM at h;unfold pD;simp only[ycq,ybb,decide_eq_true_eq]at h;refine⟨by omega,by omega,by omega,by omega,by omega,by omega,?_,by omega⟩
 simp only[Bool.and_eq_false_iff,decide_eq_false_iff_not];omega
def Zz (h:pD b=true):b≠10/\b≠32/\b≠9/\b≠35/\b≠45/\b≠47/\gM b=false:=by
 unfold pD at h;unfold gM;simp only[ybb,decide_eq_true_eq]at h;refine⟨by omega,by omega,by omega,by omega,by omega,by omega,?_⟩
 simp only[yal,Bool.and_eq_false_iff,decide_eq_false_iff_not];omega
def zdv(a b:List Nat):(a++b).drop a.length=b:=by simp
def GN {i:Nat}(hi:i<10)(h:fK i (s.getD i 0)=false):bG s=false:=by
 cases hd:bG s with
 | false=>rfl
 | true=>
  unfold bG at hd;simp only[ybb]at hd;rw[ycb.1 hd.2 i (List.mem_range.2 hi)]at h
  cases h
def GU (h:∀b∈s,b≠45):bG s=false:=by
 refine GN (i:=4) (by omega) ?_
 unfold fK;rw[yab (.inl rfl),decide_eq_false_iff_not,List.getD_eq_getElem?_getD]
 cases hx:s[4]? with
 | none=>simp
 | some b=>exact h b (ycv hx)
end
end
section
def qK:Bool->List wC->List Nat
 | _,[]=>[]
 | o,t::l=>if t.kind=5 then 10::qK false l else(if o=true then 32::t.text else t.text)++qK true l
def lP(l:List wC)(i:Nat):Bool:=decide (0<i) && !wE l 5 (i-1)
def JI:∀(l:List wC) (o:Bool) (t:wC),qK o (l++[t])=qK o l++(if t.kind=5 then [10]else(if (if l=[]then o else lP l l.length)=true then 32::t.text else t.text)):=by
 intro l;induction l with
 | nil=>
  intro o t;simp only[qK,yah];split<;>simp[qK]
 | cons x l ih=>
  intro o t;have ho:∀o',(if l=[]then o' else lP l l.length)=true ↔ (if l=[]then o'=true else lP l l.length=true):=fun o'=>by split<;>simp
  have hk:lP (x::l) (x::l).length=(if l=[]then !decide (x.kind=5)else lP l l.length):=by
   unfold lP wE
   cases l with
   | nil=>simp
   | cons y l=>simp
  rw[yaa (show ¬ x::l=[] by simp),hk,List.cons_append]
  simp only[qK];by_cases h5:x.kind=5
  ·rw[yab h5,yab h5,ih]
   simp only[h5,decide_true,Bool.not_true,List.cons_append]
  ·rw[yaa h5,yaa h5,ih]
   simp only[h5,decide_false,ycl,ybz]
end
end Go.Proofs
