/- Two operators in a row: what a run over such a text gives. -/
import Derived.KernelRfl
import Derived.Test.YtfmlbimokklmgaaGreatDoorB18
set_option linter.all false
noncomputable section
set_option maxRecDepth 100000
namespace Go.Proofs
open Go Go.Am
variable [jC]
def eF:Nat->List Nat
 | 0=>wOr | 1=>wAnd | 2=>[60] | 3=>[61] | 4=>[43] | 5=>[45] | 6=>[42] | _=>[47]
def nE:Nat->Nat
 | 0=>0 | 1=>1 | 2=>2 | 3=>2 | 4=>3 | 5=>3 | 6=>4 | _=>4
def qG:Nat->Nat
 | 0=>16 | 1=>15 | 2=>13 | 3=>14 | 4=>7 | 5=>8 | 6=>9 | _=>10
def cO (k:Nat):Nat:=if k<2 then 1 else 4
def fP:vB:=.mk 2 [] fW []
def dR(k1 k2:Nat)(x y z:vB):vB:=if nE k1<nE k2 then zH (qG k1) x (zH (qG k2) y z)else zH (qG k2) (zH (qG k1) x y) z
theorem qR{k:Nat}(h:k<8):k=0\/k=1\/k=2\/k=3\/k=4\/k=5\/k=6\/k=7:=by omega
section
variable {tk:List cC}{o:PM vB}{x y z:vB}{l:List (List Nat × Nat)}{n n1 n2 n3 op op' m:Nat}
theorem ch0(h:o n=.ok x n1)(p:oH tk l n1=none)(hm:tk.length=m+1):mN tk o l n=.ok x n1:=by
 unfold mN;rw[h,hm];show kM tk o l (m+1) x n1=_
 rw[kM,p]
theorem ch1(h:o n=.ok x n1)(p:oH tk l n1=some op)(h2:o (n1+1)=.ok y n2)(p2:oH tk l n2=none)(hm:tk.length=m+2):mN tk o l n=.ok (zH op x y) n2:=by
 unfold mN;rw[h,hm];show kM tk o l (m+1+1) x n1=_
 rw[kM,p];show(o (n1+1)).bind _=_
 rw[h2];show kM tk o l (m+1) _ n2=_
 rw[kM,p2]
theorem ch2(h:o n=.ok x n1)(p:oH tk l n1=some op)(h2:o (n1+1)=.ok y n2)(p2:oH tk l n2=some op')(h3:o (n2+1)=.ok z n3)(p3:oH tk l n3=none)(hm:tk.length=m+3):mN tk o l n=.ok (zH op' (zH op x y) z) n3:=by
 unfold mN;rw[h,hm];show kM tk o l (m+2+1) x n1=_
 rw[kM,p];show(o (n1+1)).bind _=_
 rw[h2];show kM tk o l (m+1+1) _ n2=_
 rw[kM,p2];show(o (n2+1)).bind _=_
 rw[h3];show kM tk o l (m+1) _ n3=_
 rw[kM,p3]
def lvL:Nat->List (List Nat × Nat)
 | 0=>[(wOr,16)] | 1=>[(wAnd,15)] | 2=>[([60],13),([61],14)] | 3=>[([43],7),([45],8)] | _=>[([42],9),([47],10)]
theorem Em{k j:Nat}(hk:k<8)(hj:j<5)(a:∀w,jB tk w n=bC (eF k) w):oH tk (lvL j) n=if nE k=j then some (qG k)else none:=by
 unfold oH;simp only[a];have:j=0\/j=1\/j=2\/j=3\/j=4:=by omega
 rcases qR hk with rfl | rfl | rfl | rfl | rfl | rfl | rfl | rfl<;>rcases this with rfl | rfl | rfl | rfl | rfl<;>decide
theorem ED{j:Nat}(a:∀w,jB tk w n=false):oH tk (lvL j) n=none:=by
 unfold oH;simp only[a];match j with
 | 0=>rfl
 | 1=>rfl
 | 2=>rfl
 | 3=>rfl
 | j+4=>rfl
structure Ay (tk:List cC) (o:PM vB) (k1 k2:Nat) (j:Nat) (x y z:vB):Prop where
 a:o 0=if nE k1<j then .ok x 1 else if nE k2<j then .ok (zH (qG k1) x y) 5 else .ok (dR k1 k2 x y z) 9
 b:o 2=if nE k2<j then .ok y 5 else .ok (zH (qG k2) y z) 9
 c:o 6=.ok z 9
theorem Mf{k1 k2 j:Nat}(h1:k1<8)(h2:k2<8)(hj:j<5)(hm:tk.length=10)(a1:∀w,jB tk w 1=bC (eF k1) w)(a5:∀w,jB tk w 5=bC (eF k2) w)(a9:∀w,jB tk w 9=false)(h:Ay tk o k1 k2 (j+1) x y z):Ay tk (mN tk o (lvL j)) k1 k2 j x y z:=by
 have p1:=Em (tk:=tk) h1 hj a1
 have p5:=Em (tk:=tk) h2 hj a5
 have p9:=ED (tk:=tk) (j:=j) a9
 obtain⟨ha,hb,hc⟩:=h
 refine⟨?_,?_,ch0 hc p9 hm⟩
 ·by_cases c1:nE k1<j
  ·rw[yab c1]
   rw[yab (by omega)]at ha
   rw[yaa (by omega)]at p1
   exact ch0 ha p1 hm
  ·rw[yaa c1]
   by_cases c1':nE k1=j
   ·rw[yab (by omega)]at ha
    rw[yab c1']at p1;by_cases c2:nE k2<j
    ·rw[yab c2]
     rw[yab (by omega)]at hb
     rw[yaa (by omega)]at p5
     exact ch1 ha p1 hb p5 hm
    ·rw[yaa c2]
     by_cases c2':nE k2=j
     ·rw[yab (by omega)]at hb
      rw[yab c2']at p5;rw[ch2 ha p1 hb p5 hc p9 hm];unfold dR;rw[yaa (by omega)]
     ·rw[yaa (by omega)]at hb
      rw[ch1 ha p1 hb p9 hm];unfold dR;rw[yab (by omega)]
   ·rw[yaa (by omega)]at ha
    by_cases c2:nE k2<j
    ·rw[yab c2]
     rw[yab (by omega)]at ha
     rw[yaa (by omega)]at p5
     exact ch0 ha p5 hm
    ·rw[yaa c2]
     by_cases c2':nE k2=j
     ·rw[yab (by omega)]at ha
      rw[yab c2']at p5;rw[ch1 ha p5 hc p9 hm];unfold dR;rw[yaa (by omega)]
     ·rw[yaa (by omega)]at ha
      exact ch0 ha p9 hm
 ·by_cases c2:nE k2<j
  ·rw[yab c2]
   rw[yab (by omega)]at hb
   rw[yaa (by omega)]at p5
   exact ch0 hb p5 hm
  ·rw[yaa c2]
   by_cases c2':nE k2=j
   ·rw[yab (by omega)]at hb
    rw[yab c2']at p5;exact ch1 hb p5 hc p9 hm
   ·rw[yaa (by omega)]at hb
    exact ch0 hb p9 hm
theorem YT{k1 k2:Nat}(h1:k1<8)(h2:k2<8)(hl:tk.length=10)(a1:∀w,jB tk w 1=bC (eF k1) w)(a5:∀w,jB tk w 5=bC (eF k2) w)(a9:∀w,jB tk w 9=false)(n0:jB tk eW 0=false)(n2:jB tk eW 2=false)(n6:jB tk eW 6=false)
  (o0:o 0=.ok x 1) (o2:o 2=.ok y 5) (o6:o 6=.ok z 9):jU tk o 0=if nE k1=2/\nE k2=2 then .ok (zH (qG k1) x y) 5 else .ok (dR k1 k2 x y z) 9:=by
 have r1:nE k1<5:=by rcases qR h1 with rfl | rfl | rfl | rfl | rfl | rfl | rfl | rfl<;>decide
 have r2:nE k2<5:=by rcases qR h2 with rfl | rfl | rfl | rfl | rfl | rfl | rfl | rfl<;>decide
 have t5:Ay tk o k1 k2 5 x y z:=⟨by rw[yab r1];exact o0,by rw[yab r2];exact o2,o6⟩
 have t4:Ay tk (Vf tk o) k1 k2 4 x y z:=Mf (j:=4) h1 h2 (by omega) hl a1 a5 a9 t5
 have t3:Ay tk (xR tk o) k1 k2 3 x y z:=Mf (j:=3) h1 h2 (by omega) hl a1 a5 a9 t4
 have p1:=Em (tk:=tk) (j:=2) h1 (by omega) a1
 have p5:=Em (tk:=tk) (j:=2) h2 (by omega) a5
 have p9:=ED (tk:=tk) (j:=2) a9
 have c6:iY tk o 6=.ok z 9:=by
  show(xR tk o 6).bind _=_
  rw[t3.c];show(match oH tk (lvL 2) 9 with | none=>PR.ok z 9 | some op=>_)=_
  rw[p9]
 have c2:iY tk o 2=if nE k2<2 then .ok y 5 else .ok (zH (qG k2) y z) 9:=by
  show(xR tk o 2).bind _=_
  rw[t3.b];by_cases g:nE k2<3
  ·rw[yab g]
   show(match oH tk (lvL 2) 5 with | none=>PR.ok y 5 | some op=>(xR tk o 6).bind fun y' n2=>.ok (zH op y y') n2)=_
   rw[p5,t3.c];by_cases g2:nE k2=2
   ·rw[yab g2,yaa (by omega)];rfl
   ·rw[yaa g2,yab (by omega)]
  ·rw[yaa g,yaa (by omega)]
   show(match oH tk (lvL 2) 9 with | none=>PR.ok (zH (qG k2) y z) 9 | some op=>_)=_
   rw[p9]
 have nn:∀k,jB tk eW k=false->sR tk tk.length k=0:=fun k h=>by rw[hl];show(if jB tk eW k then _ else 0)=0;rw[h];rfl
 have neg:∀k r,jB tk eW k=false->iY tk o k=r->Ep tk o k=r:=by
  intro k r h hr;unfold Ep;rw[nn k h,yct,hr]
  cases r<;>rfl
 by_cases hcc:nE k1=2/\nE k2=2
 ·rw[yab hcc]
  have c0:iY tk o 0=.ok (zH (qG k1) x y) 5:=by
   show(xR tk o 0).bind _=_
   rw[t3.a,yab (by omega)]
   show(match oH tk (lvL 2) 1 with | none=>PR.ok x 1 | some op=>(xR tk o 2).bind fun y' n2=>.ok (zH op x y') n2)=_
   rw[p1,yab hcc.1,t3.b,yab (by omega)];rfl
  have d1:=Em (tk:=tk) (j:=1) h2 (by omega) a5
  have d0:=Em (tk:=tk) (j:=0) h2 (by omega) a5
  rw[yaa (by omega)]at d1 d0
  exact ch0 (ch0 (neg 0 _ n0 c0) d1 hl) d0 hl
 ·rw[yaa hcc]
  have c0:iY tk o 0=if nE k1<2 then .ok x 1 else if nE k2<2 then .ok (zH (qG k1) x y) 5 else .ok (dR k1 k2 x y z) 9:=by
   show(xR tk o 0).bind _=_
   rw[t3.a];by_cases g1:nE k1<3
   ·rw[yab g1]
    show(match oH tk (lvL 2) 1 with | none=>PR.ok x 1 | some op=>(xR tk o 2).bind fun y' n2=>.ok (zH op x y') n2)=_
    rw[p1];by_cases g2:nE k1=2
    ·rw[yab g2,yaa (by omega),t3.b]
     by_cases g3:nE k2<2
     ·rw[yab (by omega),yab g3];rfl
     ·rw[yaa (by omega),yaa g3]
      show PR.ok (zH (qG k1) x (zH (qG k2) y z)) 9=_
      unfold dR;rw[yab (by omega)]
    ·rw[yaa g2,yab (by omega)]
   ·rw[yaa g1,yaa (show ¬ nE k1<2 from by omega)]
    by_cases g3:nE k2<3
    ·rw[yab g3]
     show(match oH tk (lvL 2) 5 with | none=>PR.ok (zH (qG k1) x y) 5 | some op=>(xR tk o 6).bind fun y' n2=>.ok (zH op (zH (qG k1) x y) y') n2)=_
     rw[p5,t3.c];by_cases g4:nE k2=2
     ·rw[yab g4,yaa (by omega)]
      show PR.ok (zH (qG k2) (zH (qG k1) x y) z) 9=_
      unfold dR;rw[yaa (by omega)]
     ·rw[yaa g4,yab (by omega)]
    ·rw[yaa g3,yaa (by omega)]
     show(match oH tk (lvL 2) 9 with | none=>PR.ok (dR k1 k2 x y z) 9 | some op=>_)=_
     rw[p9]
  have t2:Ay tk (Ep tk o) k1 k2 2 x y z:=⟨neg 0 _ n0 c0,neg 2 _ n2 c2,neg 6 _ n6 c6⟩
  have t1:Ay tk (Qi tk o) k1 k2 1 x y z:=Mf (j:=1) h1 h2 (by omega) hl a1 a5 a9 t2
  have t0:Ay tk (jU tk o) k1 k2 0 x y z:=Mf (j:=0) h1 h2 (by omega) hl a1 a5 a9 t1
  have:=t0.a
  rwa [yaa (by omega),yaa (by omega)]at this
end
end Go.Proofs
namespace Go.Proofs
open Go Go.Am
variable [jC]
theorem Er{f:List Nat}(h:aJ f=true):∃x r,f=x::r/\gK x=true/\(∀b∈x::r,aG b=true)/\(x::r).length<=24/\Ih f=false:=by
 unfold aJ at h
 cases f with
 | nil=>cases h
 | cons x r=>
  simp only[ybb,decide_eq_true_eq,ycp]at h;obtain⟨⟨⟨h1,h2⟩,h3⟩,h4⟩:=h
  refine⟨x,r,rfl,h2,?_,h1,h4⟩
  have e:fE aG (x::r)=x::r:=(bN _ _).1 h3
  rw[<- e];exact Uo
theorem eN{f w:List Nat}(hf:aJ f=true)(hw:Ih w=true):bC f w=false:=by
 refine neS fun e=>?_
 obtain⟨_,_,_,_,_,_,h⟩:=Er hf
 rw[e,hw]at h;cases h
theorem ES{f:List Nat}{c:Nat}(hf:aJ f=true)(hc:gK c=false):bC f [c]=false:=by
 refine neS fun e=>?_
 obtain⟨x,r,rfl,h,_⟩:=Er hf
 cases e
 rw[hc]at h;cases h
theorem op_no{k:Nat}(hk:k<8){w:List Nat}(hw:w∈[Ly,Lu]):bC (eF k) w=false:=by
 simp only[ybs,List.not_mem_nil,or_false]at hw;rcases hw with rfl | rfl<;>rcases qR hk with rfl | rfl | rfl | rfl | rfl | rfl | rfl | rfl<;>decide
theorem go_op{k j ln cl:Nat}{op:Option (Nat × Nat)}{r:List Nat}(hj:j<8):yG (k+1) (eF j++32::r) ln cl op=LR.cons ⟨cO j,eF j,ln,cl⟩ (yG k (32::r) ln (cl+(eF j).length) (some (ln,cl+(eF j).length))):=by
 have hb:∀b r',(32::r:List Nat)=b::r'->aG b=false:=fun b r' e=>(Qq b r' e).1
 rcases qR hj with rfl | rfl | rfl | rfl | rfl | rfl | rfl | rfl
 ·exact Kg (x:=111) (w:=[114]) (by rfl) (by decide) (by decide) hb
 ·exact Kg (x:=97) (w:=[110,100]) (by rfl) (by decide) (by decide) hb
 all_goals exact zc8 (by rfl)
theorem go_at{k ln cl:Nat}{op:Option (Nat × Nat)}{f r:List Nat}(hf:aJ f=true)(hr:∀b r',r=b::r'->aG b=false) :
  ∃p q u:Nat × Nat,∃c:Nat,yG (k+5) (f++([32,97,116,32,116,111,100,97,121]++r)) ln cl op=LR.cons ⟨1,f,p.1,p.2⟩ (LR.cons ⟨1,wAt,q.1,q.2⟩ (LR.cons ⟨1,vM,u.1,u.2⟩ (yG k r ln c (some (ln,c))))):=by
 obtain⟨x,w,rfl,h1,h2,h3,_⟩:=Er hf
 have hb:∀ {r:List Nat} b r',(32::r:List Nat)=b::r'->aG b=false:=fun b r' e=>(Qq b r' e).1
 refine⟨(ln,cl),(ln,cl+(x::w).length+1),(ln,cl+(x::w).length+1+2+1),cl+(x::w).length+1+2+1+5,?_⟩
 show yG (k+4+1) (x::(w++32::(97::([116]++32::(116::([111,100,97,121]++r)))))) ln cl op=_
 rw[Kg (k:=k+4) h1 h2 h3 hb,Ff (k:=k+3),Kg (k:=k+2) (x:=97) (w:=[116]) (by rfl) (by decide) (by decide) hb,Ff (k:=k+1),Kg (k:=k) (x:=116) (w:=[111,100,97,121]) (by rfl) (by decide) (by decide) hr]
 rfl
def xO(k1 k2:Nat)(f s:List Nat):List Nat:=49::32::(eF k1++32::(f++([32,97,116,32,116,111,100,97,121]++32::(eF k2++32::(s++([32,97,116,32,116,111,100,97,121]++[]))))))
theorem Nv{k:Nat}(hk:k<8):1<=(eF k).length/\(eF k).length<=3:=by
 rcases qR hk with rfl | rfl | rfl | rfl | rfl | rfl | rfl | rfl<;>decide
theorem YU{k1 k2:Nat}{f s:List Nat}(h1:k1<8)(h2:k2<8)(hf:aJ f=true)(hs:aJ s=true):20<=(xO k1 k2 f s).length/\(xO k1 k2 f s).length<=100:=by
 have a:=Nv h1
 have b:=Nv h2
 obtain⟨x,w,rfl,_,_,h3,_⟩:=Er hf
 obtain⟨x',w',rfl,_,_,h3',_⟩:=Er hs
 unfold xO;simp only[ybg,ybn,ybx]at h3 h3' ⊢
 omega
def zd8(k1 k2:Nat)(f s:List Nat)(p:Nat->Nat × Nat):List cC:=[⟨2,[49],(p 0).1,(p 0).2⟩,⟨cO k1,eF k1,(p 1).1,(p 1).2⟩,⟨1,f,(p 2).1,(p 2).2⟩,⟨1,wAt,(p 3).1,(p 3).2⟩,⟨1,vM,(p 4).1,(p 4).2⟩,⟨cO k2,eF k2,(p 5).1,(p 5).2⟩,⟨1,s,(p 6).1,(p 6).2⟩,⟨1,wAt,(p 7).1,(p 7).2⟩,⟨1,vM,(p 8).1,(p 8).2⟩,endT (p 9)]
theorem TZ{k1 k2:Nat}{f s:List Nat}(h1:k1<8)(h2:k2<8)(hf:aJ f=true)(hs:aJ s=true):∃p,iK (xO k1 k2 f s)=.ok (zd8 k1 k2 f s p):=by
 obtain⟨b1,b2⟩:=YU h1 h2 hf hs
 have hT:iK (xO k1 k2 f s)=yG ((xO k1 k2 f s).length+1) (xO k1 k2 f s) 1 1 none:=by
  unfold iK;rw[yaa (by omega)]
  rfl
 obtain⟨k,hk⟩:∃k,(xO k1 k2 f s).length+1=k+1+5+1+1+1+5+1+1+1+1:=⟨(xO k1 k2 f s).length-17,by omega⟩
 rw[hT,hk];unfold xO;have hdt:cI ([49]++32::(eF k1++32::(f++([32,97,116,32,116,111,100,97,121]++32::(eF k2++32::(s++([32,97,116,32,116,111,100,97,121]++[])))))))=false:=TA (i:=1) (by omega) (by rfl)
 have e1:=go_num (k:=k+1+5+1+1+1+5+1+1+1) (ln:=1) (cl:=1) (op:=none) (ds:=[49]) (by simp) (by decide) (by rfl) (by simp) hdt Qq
 have e1:yG (k+1+5+1+1+1+5+1+1+1+1) (49::32::(eF k1++32::(f++([32,97,116,32,116,111,100,97,121]++32::(eF k2++32::(s++([32,97,116,32,116,111,100,97,121]++[]))))))) 1 1 none=_:=e1
 rw[e1,Ff,go_op h1,Ff];obtain⟨p2,p3,p4,c,e2⟩:=go_at (k:=k+1+5+1+1+1) (ln:=1) (cl:=1+[49].length+1+(eF k1).length+1) (op:=some (1,1+[49].length+1+(eF k1).length)) (r:=32::(eF k2++32::(s++([32,97,116,32,116,111,100,97,121]++[])))) hf (fun b r' e=>(Qq b r' e).1)
 rw[e2,Ff,go_op h2,Ff];obtain⟨p6,p7,p8,c',e3⟩:=go_at (k:=k+1) (ln:=1) (cl:=c+1+(eF k2).length+1) (op:=some (1,c+1+(eF k2).length)) (r:=[]) hs nil_no
 rw[e3,go_end];refine⟨fun i=>match i with | 0=>(1,1) | 1=>(1,1+[49].length+1) | 2=>p2 | 3=>p3 | 4=>p4 | 5=>(1,c+1) | 6=>p6 | 7=>p7 | 8=>p8 | _=>(1,c'),rfl⟩
def En:vB:=Yl ⟨2,yW [49] false,0⟩
theorem NP{k1 k2:Nat}{f s:List Nat}(h1:k1<8)(h2:k2<8)(hf:aJ f=true)(hs:aJ s=true)(p:Nat->Nat × Nat) :
  gP (zd8 k1 k2 f s p)=if nE k1=2/\nE k2=2 then .er 120 5 else .ok (dR k1 k2 En (oO 5 f fP) (oO 5 s fP)) 10:=by
 have kf1:=eN hf (w:=Lt) (by kernel_rfl)
 have kf2:=eN hf (w:=Lw) (by kernel_rfl)
 have kf3:=eN hf (w:=Lv) (by kernel_rfl)
 have kf4:=eN hf (w:=Bl) (by kernel_rfl)
 have kf5:=eN hf (w:=vM) (by kernel_rfl)
 have kf6:=eN hf (w:=Lx) (by kernel_rfl)
 have kf7:=eN hf (w:=wHas) (by kernel_rfl)
 have kf8:=eN hf (w:=eW) (by kernel_rfl)
 have kf9:=ES (c:=40) hf (by rfl)
 have kg1:=eN hs (w:=Lt) (by kernel_rfl)
 have kg2:=eN hs (w:=Lw) (by kernel_rfl)
 have kg3:=eN hs (w:=Lv) (by kernel_rfl)
 have kg4:=eN hs (w:=Bl) (by kernel_rfl)
 have kg5:=eN hs (w:=vM) (by kernel_rfl)
 have kg6:=eN hs (w:=Lx) (by kernel_rfl)
 have kg7:=eN hs (w:=wHas) (by kernel_rfl)
 have kg8:=eN hs (w:=eW) (by kernel_rfl)
 have kg9:=ES (c:=40) hs (by rfl)
 have kt1:bC vM Lt=false:=by decide
 have kt2:bC vM Lw=false:=by decide
 have kt3:bC vM Lv=false:=by decide
 have kt4:bC vM Bl=false:=by decide
 have kt5:bC vM vM=true:=by decide
 have kt6:bC vM [40]=false:=by decide
 have kt7:bC wAt wAt=true:=by decide
 have kd1:=op_no h1 (w:=Ly) (by simp)
 have kd2:=op_no h1 (w:=Lu) (by simp)
 have hK:∀k,cO k=1\/cO k=4:=fun k=>by unfold cO;split<;>simp
 have hKe:∀k,(decide (cO k=1)||decide (cO k=4))=true:=fun k=>by rcases hK k with h | h<;>simp[h]
 have hs1:vL [49]=false:=by decide
 generalize htk:zd8 k1 k2 f s p=tk
 have kq0:tk[0]?=some ⟨2,[49],(p 0).1,(p 0).2⟩:=by rw[<- htk];rfl
 have kq1:tk[1]?=some ⟨cO k1,eF k1,(p 1).1,(p 1).2⟩:=by rw[<- htk];rfl
 have kq2:tk[2]?=some ⟨1,f,(p 2).1,(p 2).2⟩:=by rw[<- htk];rfl
 have kq3:tk[3]?=some ⟨1,wAt,(p 3).1,(p 3).2⟩:=by rw[<- htk];rfl
 have kq4:tk[4]?=some ⟨1,vM,(p 4).1,(p 4).2⟩:=by rw[<- htk];rfl
 have kq5:tk[5]?=some ⟨cO k2,eF k2,(p 5).1,(p 5).2⟩:=by rw[<- htk];rfl
 have kq6:tk[6]?=some ⟨1,s,(p 6).1,(p 6).2⟩:=by rw[<- htk];rfl
 have kq7:tk[7]?=some ⟨1,wAt,(p 7).1,(p 7).2⟩:=by rw[<- htk];rfl
 have kq8:tk[8]?=some ⟨1,vM,(p 8).1,(p 8).2⟩:=by rw[<- htk];rfl
 have kq9:tk[9]?=some (endT (p 9)):=by rw[<- htk];rfl
 have hl:tk.length=10:=by rw[<- htk];rfl
 have ka1:∀w,jB tk w 1=bC (eF k1) w:=fun w=>by unfold jB;rw[kq1];show((decide (cO k1=1)||decide (cO k1=4))&&bC (eF k1) w)=_;rw[hKe];rfl
 have ka5:∀w,jB tk w 5=bC (eF k2) w:=fun w=>by unfold jB;rw[kq5];show((decide (cO k2=1)||decide (cO k2=4))&&bC (eF k2) w)=_;rw[hKe];rfl
 have ka9:∀w,jB tk w 9=false:=fun w=>by unfold jB;rw[kq9];rfl
 have ka0:∀w,jB tk w 0=false:=fun w=>by unfold jB;rw[kq0];rfl
 have ka2:∀w,jB tk w 2=bC f w:=fun w=>by unfold jB;rw[kq2];rfl
 have ka6:∀w,jB tk w 6=bC s w:=fun w=>by unfold jB;rw[kq6];rfl
 have ka3:∀w,jB tk w 3=bC wAt w:=fun w=>by unfold jB;rw[kq3];rfl
 have ka4:∀w,jB tk w 4=bC vM w:=fun w=>by unfold jB;rw[kq4];rfl
 have ka7:∀w,jB tk w 7=bC wAt w:=fun w=>by unfold jB;rw[kq7];rfl
 have ka8:∀w,jB tk w 8=bC vM w:=fun w=>by unfold jB;rw[kq8];rfl
 have o0:yL tk 101 0=.ok En 1:=by
  show pN tk (yL tk 100) 0=_
  simp[pN,vW,gZ,dP,fL,eP,ka0,ka1,kq0,kd1,kd2,hs1,PR.bind,En]
 have o4:yL tk 100 4=.ok fP 5:=by
  show pN tk (yL tk 99) 4=_
  simp[pN,vW,fL,ka4,kq4,kt1,kt2,kt3,kt4,kt5,kt6,PR.bind,fP]
 have o8:yL tk 100 8=.ok fP 9:=by
  show pN tk (yL tk 99) 8=_
  simp[pN,vW,fL,ka8,kq8,kt1,kt2,kt3,kt4,kt5,kt6,PR.bind,fP]
 have o2:yL tk 101 2=.ok (oO 5 f fP) 5:=by
  show pN tk (yL tk 100) 2=_
  simp[pN,vW,fL,eP,eV,jV,atP,xK,ka2,ka3,kq2,kf1,kf2,kf3,kf4,kf5,kf6,kf7,kf9,kt7,hf,o4,PR.bind]
 have o6:yL tk 101 6=.ok (oO 5 s fP) 9:=by
  show pN tk (yL tk 100) 6=_
  simp[pN,vW,fL,eP,eV,jV,atP,xK,ka6,ka7,kq6,kg1,kg2,kg3,kg4,kg5,kg6,kg7,kg9,kt7,hs,o8,PR.bind]
 have he:=YT h1 h2 hl ka1 ka5 ka9 (ka0 _) (by rw[ka2];exact kf8) (by rw[ka6];exact kg8) o0 o2 o6
 unfold gP;show(jU tk (yL tk 101) 0).bind _=_
 rw[he];by_cases hc:nE k1=2/\nE k2=2
 ·rw[yab hc,yab hc]
  have h5:cO k2≠5:=by rcases hK k2 with h | h<;>rw[h]<;>decide
  simp[PR.bind,Cg,dP,fL,kq5,h5]
 ·rw[yaa hc,yaa hc]
  have honly:Cg tk 9=.ok () 10:=by
   unfold Cg dP fL eP;rw[kq9];show(if 10<tk.length then PR.er 120 10 else PR.ok () 10)=_
   rw[hl];rfl
  show(Cg tk 9).bind _=_
  rw[honly];rfl
theorem run_bind{k1 k2:Nat}{f s:List Nat}(h1:k1<8)(h2:k2<8)(hf:aJ f=true)(hs:aJ s=true) :
  if nE k1=2/\nE k2=2 then ∃a b,sS gP (xO k1 k2 f s)=.er 120 a b else sS gP (xO k1 k2 f s)=.ok (dR k1 k2 En (oO 5 f fP) (oO 5 s fP)):=by
 obtain⟨p,h⟩:=TZ h1 h2 hf hs
 rw[CR h,NP h1 h2 hf hs];split
 ·exact⟨_,_,rfl⟩
 ·rfl
end Go.Proofs
namespace Go.Proofs
open Go Go.Am
variable [jC]
section
variable {t:Tr vA}{Q:fA}{J:pF}
theorem lit93{b:Nat}:oD yA 93 8 [(0,(.str [111,114])),(1,(.str [97,110,100])),(2,(.str [60])),(3,(.str [61])),(4,(.str [43])),(5,(.str [45])),(6,(.str [42])),(7,(.str [47]))] ⟨b,t⟩=some (.slice b 0 8 8,dE ⟨b,t⟩ [.str [111,114],.str [97,110,100],.str [60],.str [61],.str [43],.str [45],.str [42],.str [47]] none):=by kernel_rfl
theorem lit94{b:Nat}:oD yA 94 8 [(0,(uZ 0)),(1,(uZ 1)),(2,(uZ 2)),(3,(uZ 2)),(4,(uZ 3)),(5,(uZ 3)),(6,(uZ 4)),(7,(uZ 4))] ⟨b,t⟩=some (.slice b 0 8 8,dE ⟨b,t⟩ [uZ 0,uZ 1,uZ 2,uZ 2,uZ 3,uZ 3,uZ 4,uZ 4] none):=by kernel_rfl
theorem lit95{b:Nat}:oD yA 95 8 [(0,(uY 16)),(1,(uY 15)),(2,(uY 13)),(3,(uY 14)),(4,(uY 7)),(5,(uY 8)),(6,(uY 9)),(7,(uY 10))] ⟨b,t⟩=some (.slice b 0 8 8,dE ⟨b,t⟩ [uY 16,uY 15,uY 13,uY 14,uY 7,uY 8,uY 9,uY 10] none):=by kernel_rfl
theorem idx8{b k:Nat}(hk:k<8):aB yA 93 (.slice b 0 8 8) (.int .u8 (k:Int))=some (.ptr b k)/\aB yA 94 (.slice b 0 8 8) (.int .u8 (k:Int))=some (.ptr b k)/\aB yA 95 (.slice b 0 8 8) (.int .u8 (k:Int))=some (.ptr b k):=by
 rcases qR hk with rfl | rfl | rfl | rfl | rfl | rfl | rfl | rfl<;>exact⟨by kernel_rfl,by kernel_rfl,by kernel_rfl⟩
theorem EA{n:Nat}:fB yA F 14 [.int .u8 (n:Int)] t=some (.tup [.str (eF (n%8)),.int .i64 (nE (n%8):Int),.int .u8 (qG (n%8):Int)]):=by
 have hk:n%8<8:=ycy _ (by omega)
 have e:Int.tmod (n:Int) 8=((n%8:Nat):Int):=by rw[Int.tmod_eq_emod_of_nonneg (by omega)];rfl
 refine vX (w14 ?_)
 unfold t14 uS uI uU;rw[e];generalize n%8=k at hk
 refine pC fun b hb _=>?_
 obtain⟨t1,a1,a2,a3,_⟩:=Eo (t:=t) hb [.str [111,114],.str [97,110,100],.str [60],.str [61],.str [43],.str [45],.str [42],.str [47]] none
 refine⟨_,_,by rw[lit93,a1],mA (idx8 hk).1 (wC (a2.load1 (a:=.str (eF k)) zN rfl ?_) (oE ?_))⟩
 ·rcases qR hk with rfl | rfl | rfl | rfl | rfl | rfl | rfl | rfl<;>rfl
 refine pC fun b hb _=>?_
 obtain⟨t2,b1,b2,b3,_⟩:=Eo (t:=t1) hb [uZ 0,uZ 1,uZ 2,uZ 2,uZ 3,uZ 3,uZ 4,uZ 4] none
 refine⟨_,_,by rw[lit94,b1],mA (idx8 hk).2.1 (wC (b2.load1 (a:=.int .i64 (nE k:Int)) tM rfl ?_) (oB ?_))⟩
 ·rcases qR hk with rfl | rfl | rfl | rfl | rfl | rfl | rfl | rfl<;>rfl
 refine pC fun b hb _=>?_
 obtain⟨t3,c1,c2,c3,_⟩:=Eo (t:=t2) hb [uY 16,uY 15,uY 13,uY 14,uY 7,uY 8,uY 9,uY 10] none
 refine⟨_,_,by rw[lit95,c1],mA (idx8 hk).2.2 (wC (c2.load1 (a:=.int .u8 (qG k:Int)) ty5 rfl ?_) (oB ?_))⟩
 ·rcases qR hk with rfl | rfl | rfl | rfl | rfl | rfl | rfl | rfl<;>rfl
 exact⟨rfl,(a3.trans b3).trans c3⟩
theorem same26:fB yA F 26 [.nilslice,.nilslice] t=some (.bool true):=by
 refine tE.2 (w26 ?_)
 unfold t26 uI;refine mA (v:=.int .i64 0) rfl (oB (mA (v:=.int .i64 0) rfl (oB (qB (by decide) (iC (j26_2 ?_))))))
 unfold t26_2 uI;exact mA (v:=.int .i64 0) rfl (oB (qB (by decide) ⟨rfl,rfl⟩))
theorem CK:fB yA F 83 [.agg [.bool false,.nilslice],.agg [.bool false,.nilslice]] t=some (.bool true):=by
 refine tE.2 (w83 ?_)
 unfold t83 uB;refine pA rfl (tB ?_)
 rw[q26,same26,sA];exact vE ⟨rfl,rfl⟩
theorem same53:fB yA F 53 [.agg [.bool false,.nilslice,.bool false,.nilslice],.agg [.bool false,.nilslice,.bool false,.nilslice]] t=some (.bool true):=by
 refine tE.2 (w53 ?_)
 unfold t53 uB;refine tB ?_
 rw[q83,CK,sA];refine vE (pA rfl (tB ?_))
 rw[q83,CK,sA];exact vE ⟨rfl,rfl⟩
theorem same24:fB yA F 24 [.agg zV,.agg zV] t=some (.bool true):=by
 refine tE.2 (w24 ?_)
 unfold t24 uB;refine pA (by decide) (tB ?_)
 rw[q53,same53,sA];exact vE (pA rfl ⟨rfl,rfl⟩)
theorem same44:fB yA F 44 [.nilslice,.nilslice] t=some (.bool true):=by
 refine tE.2 (w44 ?_)
 unfold t44 uI;refine mA (v:=.int .i64 0) rfl (oB (mA (v:=.int .i64 0) rfl (oB (qB (by decide) (iC (j44_2 ?_))))))
 unfold t44_2 uI;exact mA (v:=.int .i64 0) rfl (oB (qB (by decide) ⟨rfl,rfl⟩))
theorem same16:fB yA F 16 [.agg zE,.agg zE] t=some (.bool true):=by
 refine tE.2 (w16 ?_)
 unfold t16 uB;refine pA (by decide) (pA (by decide) (tB ?_))
 rw[q24];show xD (fB yA F 24 [.agg zV,.agg zV] t) _
 rw[same24,sA];refine vE (pA rfl (tB ?_))
 rw[q44,same44,sA];exact vE ⟨rfl,rfl⟩
theorem Qa{x:vB}{cs:List zA}(n op:Nat)(h:RD t x.d cs)(ho:x.op=op)(hn:x.args.length=n):fB yA F 17 [.agg cs,.int .u8 (op:Int),.int .i64 (n:Int)] t=some (.bool true):=by
 subst ho;obtain⟨a,b,c,rfl,_,_,hc⟩:=pJ h
 refine tE.2 (w17 ?_)
 unfold t17 uI;have hl:=hc.len
 rw[ybf,hn]at hl;exact pA (by rw[sE];simp) (mA hl (oB ⟨by rw[sE];simp,rfl⟩))
theorem fa1{b o:Nat}:tD yA 50 1 (.ptr b o)=some (.ptr b (o+1)):=by kernel_rfl
theorem fa3{b o:Nat}:tD yA 50 3 (.ptr b o)=some (.ptr b (o+8)):=by kernel_rfl
theorem Fz{l:List vB}{v:zA}(h:aA t 9 (l.map vB.d) v){i:Nat}{y:vB}(hy:l[i]?=some y) :
  ∃b o cs,aB yA 48 v (.int .i64 (i:Int))=some (.ptr b o)/\iA yA 50 ⟨0,t⟩ (.ptr b o)=some (.agg cs)/\RD t y.d cs/\iA yA 9 ⟨0,t⟩ (.ptr b (o+1))=some (.str y.name)/\∃w,iA yA 48 ⟨0,t⟩ (.ptr b (o+8))=some w/\aA t 9 (y.args.map vB.d) w:=by
 obtain⟨b,o,cs,h1,h2,h3,_,h5⟩:=sl48.at (fun e=>by cases e) h (i:=i) (d:=y.d) (by rw[ybu,hy];rfl)
 refine⟨b,o,cs,h1,h2,h5,?_⟩
 obtain⟨a,b',c,rfl,_,_,hc⟩:=pJ h5
 exact⟨h3.load1 (j:=1) zN rfl rfl,c,h3.load1 (j:=8) Hl rfl rfl,hc⟩
theorem zdj{s:List Nat}{K:jI->Int->T}(hg:rK t)(hby:∀b∈s,b<256)
  (hok:∀x,sS gP s=.ok x->∀t' cs,zB t t'->RD t' x.d cs->uM1 (cellsOf cs)=cs->oA yA.base (Wq yA F gC) J (K (cellsOf cs) 0) t' Q)
  (her:∀(e a b:Nat),sS gP s=.er e a b->∀t',zB t t'->oA yA.base (Wq yA F gC) J (K (cellsOf zE) (e:Int)) t' Q) :
  oA yA.base (Wq yA F gC) J (.call 15 [.str s] fun a=>.opt (uX 0 a)<|uG Bg fun X8=>.opt (uX 1 a)<|uG Dk fun X=>.opt (uX 2 a)<|uI fun n=>.ite (wF (uM1 X8)) (.ite true (K X8 n) .fail) .fail) t Q:=by
 refine tB ?_
 rw[q15];refine expr15 hg hby ?_
 cases hr:sS gP s with
 | ok x=>
  intro t' cs k1 k2;refine mA (v:=.agg cs) rfl (eC (wO k2) (mA (v:=.agg [.int .i64 0,.int .i64 0]) rfl (eC ag2 (mA (v:=.int .i64 0) rfl (oB ?_)))))
  have hc:uM1 (cellsOf cs)=cs:=Ft k2
  show oA _ _ _ (.ite (cB zA.one (uM1 (cellsOf cs))) _ _) _ _
  rw[hc];exact pA (by obtain⟨a,b,c,rfl,_⟩:=pJ k2;exact k2.all) (pA rfl (hok x hr t' cs k1 k2 hc))
 | er e a b=>
  intro t' k1;exact mA (v:=.agg zE) rfl (eC rt50.ag (mA (v:=.agg [.int .i64 (a:Int),.int .i64 (b:Int)]) rfl (eC ag2 (mA (v:=.int .i64 (e:Int)) rfl (oB (pA rfl (pA rfl (her e a b hr t' k1))))))))
theorem Oh{f:List Nat}(hf:aJ f=true):(∀b∈f,b<256)/\f.length<=24:=by
 obtain⟨x,r,rfl,_,h,hl,_⟩:=Er hf
 refine⟨fun b hb=>?_,hl⟩
 have:=h b hb
 unfold aG gK fD at this;simp only[ycq,ybb,decide_eq_true_eq]at this;omega
theorem EE{k:Nat}(hk:k<8):∀b∈eF k,b<256:=by
 rcases qR hk with rfl | rfl | rfl | rfl | rfl | rfl | rfl | rfl<;>decide
theorem zd7{k1 k2:Nat}{f s:List Nat}(h1:k1<8)(h2:k2<8)(hf:aJ f=true)(hs:aJ s=true):∀b∈xO k1 k2 f s,b<256:=by
 have c:∀b∈[32,97,116,32,116,111,100,97,121],b<256:=by decide
 have o1:=EE h1
 have o2:=EE h2
 have n1:=(Oh hf).1
 have n2:=(Oh hs).1
 intro b hb;unfold xO at hb;simp only[ybs,yaf,List.not_mem_nil,or_false]at hb;simp only[ybs,List.not_mem_nil,or_false]at c;rcases hb with rfl | rfl | hb | rfl | hb | hb | rfl | hb | rfl | hb | hb
 ·decide
 ·decide
 ·exact o1 b hb
 ·decide
 ·exact n1 b hb
 ·exact c b hb
 ·decide
 ·exact o2 b hb
 ·decide
 ·exact n2 b hb
 ·exact c b hb
theorem za3{n0 n1:Nat}{f s:List Nat}(hg:rK t):Wc yA F 4 [.agg [.int .u8 (n0:Int),.int .u8 (n1:Int)],.agg [.str f,.str s]] t (fun v _=>v=.bool true):=by
 refine w4 ?_
 unfold t4;refine tB ?_
 have h9:fB yA F 9 [] t=some (.bool true):=Iq (g:=Nr) (by kernel_rfl) fun H=>rfl
 rw[q9,h9,sA];refine vE (qB (by decide) (tB ?_))
 rw[q13,Vy,sA];refine vE ?_
 cases hf:aJ f with
 | false=>exact pA rfl rfl
 | true=>
 refine qB (by decide) (tB ?_)
 rw[q13,Vy,sA];refine vE ?_
 cases hs:aJ s with
 | false=>exact pA rfl rfl
 | true=>
 refine qB (by decide) (tB ?_)
 have hk1:n0%8<8:=ycy _ (by omega)
 have hk2:n1%8<8:=ycy _ (by omega)
 rw[q14];show xD (fB yA F 14 [.int .u8 (n0:Int)] t) _
 rw[EA,sA];refine mA (v:=.str (eF (n0%8))) rfl (oE (mA (v:=.int .i64 (nE (n0%8):Int)) rfl (oB (mA (v:=.int .u8 (qG (n0%8):Int)) rfl (oB (tB ?_))))))
 rw[q14];show xD (fB yA F 14 [.int .u8 (n1:Int)] t) _
 rw[EA,sA];refine mA (v:=.str (eF (n1%8))) rfl (oE (mA (v:=.int .i64 (nE (n1%8):Int)) rfl (oB (mA (v:=.int .u8 (qG (n1%8):Int)) rfl (oB ?_)))))
 revert hk1 hk2
 generalize n0%8=k1
 generalize n1%8=k2
 intro hk1 hk2;have l1:=Nv hk1
 have l2:=Nv hk2
 have l3:=(Oh hf).2
 have l4:=(Oh hs).2
 refine mA (nV (by simp only[ybg,ybn,ybx];omega)) (oE ?_)
 refine mA (nV (by simp only[ybg,ybn,ybx];omega)) (oE ?_)
 refine mA (nV (by simp only[ybg,ybn,ybx];omega)) (oE ?_)
 refine mA (nV (by simp only[ybg,ybn,ybx];omega)) (oE ?_)
 refine mA (nV (by simp only[ybg,ybn,ybx];omega)) (oE ?_)
 refine mA (nV (by simp only[ybg,ybn,ybx];omega)) (oE ?_)
 refine mA (nV (by simp only[ybg,ybn,ybx];omega)) (oE ?_)
 refine mA (nV (by simp only[ybg,ybn,ybx];omega)) (oE ?_)
 have et:([49,32]++eF k1++[32]++f++[32,97,116,32,116,111,100,97,121,32]++eF k2++[32]++s++[32,97,116,32,116,111,100,97,121])=xO k1 k2 f s:=by unfold xO;simp
 rw[et];have hrun:=run_bind hk1 hk2 hf hs
 have r1:nE k1<5:=by rcases qR hk1 with rfl | rfl | rfl | rfl | rfl | rfl | rfl | rfl<;>decide
 have r2:nE k2<5:=by rcases qR hk2 with rfl | rfl | rfl | rfl | rfl | rfl | rfl | rfl<;>decide
 refine zdj hg (zd7 hk1 hk2 hf hs) (fun x hx t' cs hle hrd hcs=>?_) (fun e a b hx t' hle=>?_)
 ·by_cases hc:nE k1=2/\nE k2=2
  ·rw[yab hc]at hrun
   obtain⟨a,b,hrun⟩:=hrun
   rw[hrun]at hx;cases hx
  rw[yaa hc]at hrun;rw[hrun]at hx;injection hx with hx
  have hA:lT (cellsOf cs)=.agg cs:=by show zA.agg (uM1 (cellsOf cs))=_;rw[hcs]
  have core:oA yA.base (Wq yA F gC) (Jq yA F 4) (uQ0 0 (nE k1:Int) (nE k2:Int) (cellsOf cs) (qG k1:Int) (qG k2:Int) f s) t' (fun v _=>v=.bool true):=by
   unfold uQ0 uB uS;rw[hA];have hargs:aA t' 9 (x.args.map vB.d) ((cellsOf cs).v 8):=by
    obtain⟨a,b,c,rfl,_,_,hc⟩:=pJ hrd
    exact hc
   refine qB (by decide) ?_
   by_cases hlt:nE k1<nE k2
   ·have hx':x=zH (qG k1) En (zH (qG k2) (oO 5 f fP) (oO 5 s fP)):=by rw[<- hx];unfold dR;rw[yab hlt]
    subst hx'
    refine pA (by rw[qC];exact decide_eq_true (by omega)) (tB ?_)
    rw[q17];show xD (fB yA F 17 [.agg cs,.int .u8 (qG k1:Int),.int .i64 ((2:Nat):Int)] t') _
    rw[Qa 2 (qG k1) hrd rfl rfl,sA]
    obtain⟨b1,o1,cs1,g1,g2,g3,g4,w,g5,g6⟩:=Fz hargs (i:=1) rfl
    refine vE (pA rfl (mA g1 (wC g2 (eC (wO g3) (tB ?_)))))
    rw[q17,show lT (cellsOf cs1)=.agg cs1 from congrArg zA.agg (Ft g3)]
    show xD (fB yA F 17 [.agg cs1,.int .u8 (qG k2:Int),.int .i64 ((2:Nat):Int)] t') _
    rw[Qa 2 (qG k2) g3 rfl rfl,sA]
    obtain⟨b2,o2,cs2,m1,m2,m3,m4,_⟩:=Fz g6 (i:=0) rfl
    obtain⟨b3,o3,cs3,p1,p2,p3,p4,_⟩:=Fz g6 (i:=1) rfl
    refine vE (pA rfl (mA g1 (mA fa3 (wC g5 (mA m1 (mA fa1 (wC m4 (oE ?_))))))))
    refine pA (eqS rfl) (mA g1 (mA fa3 (wC g5 (mA p1 (mA fa1 (wC p4 (oE ?_)))))))
    show zA.bool (bC s s)=_
    rw[eqS rfl]
   ·have hx':x=zH (qG k2) (zH (qG k1) En (oO 5 f fP)) (oO 5 s fP):=by rw[<- hx];unfold dR;rw[yaa hlt]
    subst hx'
    refine qB (by rw[qC,decide_eq_false (by omega)];simp) (tB ?_)
    rw[q17];show xD (fB yA F 17 [.agg cs,.int .u8 (qG k2:Int),.int .i64 ((2:Nat):Int)] t') _
    rw[Qa 2 (qG k2) hrd rfl rfl,sA]
    obtain⟨b1,o1,cs1,g1,g2,g3,g4,w,g5,g6⟩:=Fz hargs (i:=0) rfl
    refine vE (pA rfl (mA g1 (wC g2 (eC (wO g3) (tB ?_)))))
    rw[q17,show lT (cellsOf cs1)=.agg cs1 from congrArg zA.agg (Ft g3)]
    show xD (fB yA F 17 [.agg cs1,.int .u8 (qG k1:Int),.int .i64 ((2:Nat):Int)] t') _
    rw[Qa 2 (qG k1) g3 rfl rfl,sA]
    obtain⟨b2,o2,cs2,m1,m2,m3,m4,_⟩:=Fz g6 (i:=1) rfl
    obtain⟨b3,o3,cs3,p1,p2,p3,p4,_⟩:=Fz hargs (i:=1) rfl
    refine vE (pA rfl (mA g1 (mA fa3 (wC g5 (mA m1 (mA fa1 (wC m4 (oE ?_))))))))
    refine pA (eqS rfl) (mA p1 (mA fa1 (wC p4 (oE ?_))))
    show zA.bool (bC s s)=_
    rw[eqS rfl]
  by_cases c1:nE k1=2
  ·refine pA (by rw[sE];exact decide_eq_true (by omega)) ?_
   refine qB (by rw[sE,decide_eq_false (fun e=>hc ⟨c1,by omega⟩)];simp) core
  ·exact qB (by rw[sE,decide_eq_false (fun e=>c1 (by omega))];simp) core
 ·by_cases hc:nE k1=2/\nE k2=2
  ·rw[yab hc]at hrun
   obtain⟨a',b',hrun⟩:=hrun
   rw[hrun]at hx
   cases hx;refine pA (by rw[sE];exact decide_eq_true (by omega)) (pA (by rw[sE];exact decide_eq_true (by omega)) (pA (by decide) (pA rfl (tB ?_))))
   rw[q16];show xD (fB yA F 16 [.agg zE,.agg zE] t') _
   rw[same16,sA];exact vE rfl
  ·rw[yaa hc]at hrun
   rw[hrun]at hx;cases hx
end
end Go.Proofs
namespace Go.Am
open Go Go.RowKit Go.Proofs
theorem binds4{w:World}(hL:qL w){n d:Nat}{a b:ByteArray} :
  Calls Tryz.prog 4 #[.agg #[.int .u8 (n:Int),.int .u8 (d:Int)],.agg #[.string a,.string b]] w fun e w'=>e=.returned (.bool true)/\Below w.heap.size w w':=
 NM hL 4 [.agg [.int .u8 (n:Int),.int .u8 (d:Int)],.agg [.str (aE a),.str (aE b)]] _ (by intro _;kernel_rfl)
  (.cons (by rw[uA];exact⟨_,rfl,.cons (by rw[uA]) (.single (by rw[uA]))⟩) (.single (by rw[uA];exact⟨_,rfl,.cons (by rw[uA];exact⟨_,rfl,rfl⟩) (.single (by rw[uA];exact⟨_,rfl,rfl⟩))⟩))) ⟨_,za3 (zc9 hL),fun v t h=>h⟩
end Go.Am
