/- Expressions over two lists of tokens that agree up to a place. -/
import Derived.KernelRfl
import Derived.Test.YtfmlbimokklmgaaGreatDoorE19
set_option linter.all false
noncomputable section
set_option maxRecDepth 100000
namespace Go.Proofs
open Go Go.Am
variable {l:List (List Nat × Nat)}{tk:List lB}{op:Nat}{s w:List Nat}{x:cA}{c:PM cA}{neg:Bool}
section
variable {S:VP}{H:Prop}{n:Nat}{o o2:PM cA}
def Pp(hv:VW S) {i:Nat}(hl:S.lo<=i)(h:i<S.k):jJ S.tk2 l (i+S.d)=jJ S.tk l i:=by
 unfold jJ;congr 2
 funext o
 exact hv.acc i hl h o.1
def Wu(hv:VW S) (hl:∀o∈l,o.1∉cT):jJ S.tk2 l (S.k+S.d)=none:=by
 unfold jJ;rw[List.find?_eq_none.2 fun o ho=>by rw[hv.qacc _ (hl o ho)];simp]
 rfl
def Pq  {n:Nat}(h:jJ tk l n=some op):∃w,acc tk w n=true:=by
 unfold jJ at h
 cases hx:l.find? fun o=>acc tk o.1 n with
 | none=>rw[hx]at h;cases h
 | some o=>exact⟨o.1,by simpa using List.find?_some hx⟩
def Sr  {n:Nat}(h:acc tk w n=true):n<tk.length:=by
 unfold acc at h
 cases hx:tk[n]? with
 | none=>rw[hx]at h;cases h
 | some x=>exact(ybc.1 hx).1
def Sc(hv:VW S) (hl:∀o∈l,o.1∉cT):∀(m:Nat) (x:cA),eP S.tk2 o2 l m x (S.k+S.d)=.ok x (S.k+S.d):=by
 intro m x
 cases m with
 | zero=>rfl
 | succ m=>rw[eP,Wu hv hl]
def MP {y:cA}(hx:cA.cpy x)(hy:cA.cpy y):cA.cpy (jW op x y):=by
 unfold jW cA.cpy;exact⟨⟨by simp[qM,xH],by simp[qM,xH]⟩,by simp,hx,hy,trivial⟩
def zdo   (hx:cA.cpy x):cA.cpy (unX op w x):=by
 unfold unX cA.cpy;exact⟨⟨by simp[qM,xH],by simp[qM,xH]⟩,by simp,hx,trivial⟩
def YK(hv:VW S)(hH:H)(ho:qB S H cA.cpy o o2) (hl:∀o∈l,o.1∉cT):∀(m m2 n:Nat) (x:cA),S.lo<=n->cA.cpy x->S.tk.length<=n+m->S.tk2.length<=n+S.d+m2->RA S cA.cpy n (eP S.tk o l m x n) (eP S.tk2 o2 l m2 x (n+S.d)):=by
 intro m;have none:∀(m2 n:Nat) (x:cA),S.lo<=n->jJ S.tk l n=none->n<=S.k->eP S.tk2 o2 l m2 x (n+S.d)=.ok x (n+S.d):=by
  intro m2 n x hlo h hn;by_cases hk:n<S.k
  ·cases m2 with
   | zero=>rfl
   | succ m2=>rw[eP,Pp hv hlo hk,h]
  ·have:n=S.k:=by omega
   subst this;exact Sc hv hl m2 x
 induction m with
 | zero=>
  intro m2 n x hlo hx h1 _;have:jJ S.tk l n=Option.none:=by
   cases h:jJ S.tk l n with
   | none=>rfl
   | some op=>
    obtain⟨w,hw⟩:=Pq h
    have:=Sr hw
    omega
  exact(RA.ret (a:=x) hx).right fun hn=>none m2 n x hlo this hn
 | succ m ih=>
  intro m2 n x hlo hx h1 h2
  cases h:jJ S.tk l n with
  | none=>
   rw[eP,h];exact(RA.ret (a:=x) hx).right fun hn=>none m2 n x hlo h hn
  | some op=>
   rw[eP,h];obtain⟨w,hw⟩:=Pq h
   refine RA.step (r2':=(o2 (n+1+S.d)).bind fun y n'=>eP S.tk2 o2 l (m2-1) (jW op x y) n') (Cr hw) ?_ fun hn=>?_
   ·refine RA.bind hv (ho.ra hH (n+1) (by omega)) (fun y n1 hr hle hy=>?_) (fun hfu y=>by rw[Sc hv hl];exact rfl)
    have:=hle
    exact ih (m2-1) n1 _ (by omega) (MP hx hy) (by omega) (by omega)
   ·have h3:=Pp hv (l:=l) hlo hn
    rw[h]at h3;obtain⟨w2,hw2⟩:=Pq h3
    have:=Sr hw2
    obtain⟨m3,rfl⟩:∃m3,m2=m3+1:=⟨m2-1,by omega⟩
    rw[eP,h3];have e:n+S.d+1=n+1+S.d:=by omega
    rw[e];rfl
def Sb(hv:VW S)(ho:qB S H cA.cpy o o2) (hl:∀o∈l,o.1∉cT):qB S H cA.cpy (dU S.tk o l) (dU S.tk2 o2 l):=by
 refine⟨fun hH n hlo=>?_,fun hfu=>vO.bind (ho.rr hfu) fun x=>by rw[Sc hv hl];exact rfl⟩
 exact RA.bind hv (ho.ra hH n hlo) (fun x n1 _ hle hx=>YK hv hH ho hl _ _ n1 x (by omega) hx (by omega) (by omega)) fun hfu x=>by rw[Sc hv hl];exact rfl
def SA(hv:VW S)(ho:qB S H cA.cpy o o2):qB S H cA.cpy (Pj S.tk o) (Pj S.tk2 o2):=Sb hv ho (by decide)
def za4(hv:VW S)(ho:qB S H cA.cpy o o2):qB S H cA.cpy (Bc S.tk o) (Bc S.tk2 o2):=Sb hv (SA hv ho) (by decide)
def XZ(hv:VW S)(ho:qB S H cA.cpy o o2):qB S H cA.cpy (Hy S.tk o) (Hy S.tk2 o2):=by
 have hs:=za4 (S:=S) (H:=H) hv ho
 have hl:∀o∈[(([60]:List Nat),13),([61],14)],o.1∉cT:=by decide
 have hz:∀x,vO (S.k+S.d) (match jJ S.tk2 [([60],13),([61],14)] (S.k+S.d)with | none=>.ok x (S.k+S.d) | some op=>(Bc S.tk2 o2 (S.k+S.d+1)).bind fun y n2=>.ok (jW op x y) n2):=by
  intro x;rw[Wu hv hl];exact rfl
 refine⟨fun hH n hlo=>?_,fun hfu=>vO.bind (hs.rr hfu) hz⟩
 refine RA.bind hv (hs.ra hH n hlo) (fun x n1 _ hle hx=>?_) fun _=>hz
 cases h:jJ S.tk [([60],13),([61],14)] n1 with
 | none=>
  refine(RA.ret (a:=x) hx).right fun hn=>?_
  by_cases hk:n1<S.k
  ·rw[Pp hv (by omega) hk,h]
  ·have:n1=S.k:=by omega
   subst this;rw[Wu hv hl]
 | some op=>
  obtain⟨w,hw⟩:=Pq h
  refine RA.step (r2':=(Bc S.tk2 o2 (n1+1+S.d)).bind fun y n2=>.ok (jW op x y) n2) (Cr hw) ?_ fun hn=>?_
  ·exact RA.bind hv (hs.ra hH (n1+1) (by omega)) (fun y n2 _ _ hy=>RA.ret (MP hx hy)) fun _ _=>rfl
  ·rw[Pp hv (by omega) hn,h]
   have e:n1+S.d+1=n1+1+S.d:=by omega
   rw[e]
def zal:∀(k:Nat) (x:cA),qY (k+1) x=unX 17 [] (qY k x):=by
 intro k;induction k with
 | zero=>intro x;rfl
 | succ k ih=>intro x;rw[qY,ih];rfl
def eS (tk:List lB)(c:PM cA):Nat->PM cA
 | 0,n=>c n
 | m+1,n=>if acc tk Au n=true then(eS tk c m (n+1)).bind fun x n'=>.ok (unX 17 [] x) n' else c n
def Xf   : ∀(m n:Nat),eS tk c m n=(c (n+dN tk m n)).bind fun x n'=>.ok (qY (dN tk m n) x) n':=by
 have id:∀r:PR cA,r=r.bind fun x n'=>.ok (qY 0 x) n':=fun r=>by cases r<;>rfl
 intro m;induction m with
 | zero=>intro n;exact id _
 | succ m ih=>
  intro n;rw[eS,dN];split
  ·rw[ih,show n+(dN tk m (n+1)+1)=n+1+dN tk m (n+1) by omega]
   cases c (n+1+dN tk m (n+1))with
   | ok x n'=>show PR.ok _ _=PR.ok _ _;rw[zal]
   | er e i=>rfl
  ·exact id _
def zbu(hv:VW S){c2:PM cA}(hc:qB S H cA.cpy c c2):∀(m m2 n:Nat),S.lo<=n->S.tk.length<=n+m->S.tk2.length<=n+S.d+m2->H->RA S cA.cpy n (eS S.tk c m n) (eS S.tk2 c2 m2 (n+S.d)):=by
 have hw:Au∉cT:=by decide
 have stop:∀(m2 n:Nat),S.lo<=n->acc S.tk Au n=false->n<=S.k->eS S.tk2 c2 m2 (n+S.d)=c2 (n+S.d):=by
  intro m2 n hlo h hn
  cases m2 with
  | zero=>rfl
  | succ m2=>
   rw[eS];by_cases hk:n<S.k
   ·rw[hv.acc n hlo hk,h,yaa (by simp)]
   ·have:n=S.k:=by omega
    subst this;rw[hv.qacc _ hw,yaa (by simp)]
 intro m;induction m with
 | zero=>
  intro m2 n hlo h1 _ hH;have:acc S.tk Au n=false:=by
   cases h:acc S.tk Au n with
   | false=>rfl
   | true=>have:=Sr h;omega
  exact(hc.ra hH n hlo).right fun hn=>stop m2 n hlo this hn
 | succ m ih=>
  intro m2 n hlo h1 h2 hH;rw[eS]
  cases h:acc S.tk Au n with
  | false=>rw[yaa (by simp)];exact(hc.ra hH n hlo).right fun hn=>stop m2 n hlo h hn
  | true=>
   rw[yab rfl];have hz:∀m3,S.full->vO (S.k+S.d) (eS S.tk2 c2 m3 (S.k+S.d)):=by
    intro m3 hfu
    cases m3 with
    | zero=>exact hc.rr hfu
    | succ m3=>rw[eS,hv.qacc _ hw,yaa (by simp)];exact hc.rr hfu
   refine RA.step (r2':=(eS S.tk2 c2 (m2-1) (n+1+S.d)).bind fun x n'=>.ok (unX 17 [] x) n') (Cr h) ?_ fun hn=>?_
   ·exact RA.bind hv (ih (m2-1) (n+1) (by omega) (by omega) (by omega) hH) (fun x n1 _ _ hx=>RA.ret (zdo hx)) fun _ _=>rfl
   ·have h3:=hv.acc n hlo hn Au
    rw[h]at h3;have:=Sr h3
    obtain⟨m3,rfl⟩:∃m3,m2=m3+1:=⟨m2-1,by omega⟩
    rw[eS,h3,yab rfl];have e:n+S.d+1=n+1+S.d:=by omega
    rw[e];rfl
def TO(hv:VW S)(ho:qB S H cA.cpy o o2):qB S H cA.cpy (Ef S.tk o) (Ef S.tk2 o2):=by
 have hc:=XZ (S:=S) (H:=H) hv ho
 refine⟨fun hH n hlo=>?_,fun hfu=>?_⟩
 ·unfold Ef
  rw[<- Xf,<- Xf];exact zbu hv hc _ _ n hlo (by omega) (by omega) hH
 ·unfold Ef
  rw[<- Xf]
  cases S.tk2.length with
  | zero=>exact hc.rr hfu
  | succ m=>rw[eS,hv.qacc _ (by decide),yaa (by simp)];exact hc.rr hfu
def XY(hv:VW S)(ho:qB S H cA.cpy o o2):qB S H cA.cpy (Mr S.tk o) (Mr S.tk2 o2):=Sb hv (TO hv ho) (by decide)
def KN(hv:VW S)(ho:qB S H cA.cpy o o2):qB S H cA.cpy (wS S.tk o) (wS S.tk2 o2):=Sb hv (XY hv ho) (by decide)
def AE(hv:VW S)(ho:qB S H cA.cpy o o2)  : qB S H cA.cpy (atP S.tk o op) (atP S.tk2 o2 op):=
 (Bp hv).bind hv fun w=>(gP hv).bind hv fun _=>(ho.mono (fun h=>h.1.1) fun _ h=>h).bind hv fun x=>qB.ret fun h=>zdo h.2
def pG.cpy(v:pG):Prop:=v.f.n.limbs.length<300000/\v.f.d.limbs.length<300000
def TG (h:kR s):rD (tN s)<65536^200/\(rH s=true->rD (yO s)<65536^200):=by
 have h10:∀l:List Nat,l.length<=200->(∀b∈l,nD b=true)->rD l<65536^200:=by
  intro l hl hd;have h1:=Fe hd
  have h2:10^l.length<=10^200:=yao (by omega) hl
  have h3:10^200<=65536^200:=Nat.pow_le_pow_left (by decide) 200
  exact Nat.lt_of_lt_of_le h1 (Nat.le_trans h2 h3)
 obtain⟨h1,h2,_,_,h5⟩:=h
 have hA:(tN s).length<=s.length:=by
  unfold tN sD;exact List.takeWhile_sublist _ |>.length_le
 refine⟨h10 _ (by omega) h2,fun hs=>h10 _ ?_ (h5 hs).2.1⟩
 unfold yO;rw[ydj];omega
def Ys  (h:kR s):(tI s neg).n.limbs.length<300000/\(tI s neg).d.limbs.length<300000:=by
 obtain⟨h1,h2⟩:=TG h
 have hd:(if rH s=true then rD (yO s)else 1)<65536^200:=by
  split
  ·exact h2 (by assumption)
  ·exact Nat.one_lt_pow (by omega) (by omega)
 have k:∀a g:Nat,a<65536^200->(yC (a / g)).length<300000:=fun a g h=>by
  have:=Xx (n:=a / g) (k:=200) (yam (Nat.div_le_self _ _) h)
  omega
 exact⟨k _ _ h1,k _ _ hd⟩
def RY(hv:VW S)  : qB S H pG.cpy (gK S.tk neg) (gK S.tk2 neg):=by
 have hz:∀x:Bool,gK S.tk2 x (S.k+S.d)=.er 120 (S.k+S.d):=fun x=>by
  unfold gK aC;rw[hv.qkind 2 (.inl rfl),yaa (by simp)];rfl
 refine⟨fun _ n hlo=>?_,fun _=>by rw[hz];exact⟨rfl,.inl rfl⟩⟩
 have two:∀m,S.lo<=m->m<S.k->(acc S.tk2 vV (m+S.d)||acc S.tk2 pY (m+S.d))=(acc S.tk vV m||acc S.tk pY m):=fun m hl hm=>by rw[hv.acc m hl hm,hv.acc m hl hm]
 have tq:(acc S.tk2 vV (S.k+S.d)||acc S.tk2 pY (S.k+S.d))=false:=by rw[hv.qacc _ (by decide),hv.qacc _ (by decide)];rfl
 cases h:bC S.tk 2 n with
 | false=>
  have e:gK S.tk neg n=.er 120 n:=by unfold gK aC;rw[h,yaa (by simp)];rfl
  rw[e];refine(RA.fail (.inl rfl)).right fun hn=>?_
  by_cases hk:n<S.k
  ·unfold gK aC;rw[hv.kind n hlo hk,h,yaa (by simp)];rfl
  ·have:n=S.k:=by omega
   subst this;exact hz neg
 | true=>
  have hn:=IH hv.good h rfl
  have e5:=Ls h (by omega)
  have e:gK S.tk neg n=(if (acc S.tk vV (n+1)||acc S.tk pY (n+1))=true then(if rH (lE S.tk n)=true then .er 120 (n+1)else match mL (lE S.tk n) neg (-1048576) 1048576 with | none=>.er 121 n | some i=>.ok ⟨if acc S.tk vV (n+1)=true then 5 else 6,xH,i⟩ (n+1+1))else .ok ⟨2,tI (lE S.tk n) neg,0⟩ (n+1)):=by
   unfold gK aC;rw[h,yab rfl];rfl
  have e2:n<S.k->gK S.tk2 neg (n+S.d)=(if (acc S.tk2 vV (n+1+S.d)||acc S.tk2 pY (n+1+S.d))=true then(if rH (lE S.tk n)=true then .er 120 (n+1+S.d)else match mL (lE S.tk n) neg (-1048576) 1048576 with | none=>.er 121 (n+S.d) | some i=>.ok ⟨if acc S.tk2 vV (n+1+S.d)=true then 5 else 6,xH,i⟩ (n+1+1+S.d))else .ok ⟨2,tI (lE S.tk n) neg,0⟩ (n+1+S.d)):=by
   intro hk;unfold gK aC;rw[hv.kind n hlo hk,h,yab rfl,hv.text n hlo hk];have a1:n+S.d+1=n+1+S.d:=by omega
   have a2:n+1+S.d+1=n+1+1+S.d:=by omega
   rw[a1,<- a2];rfl
  rw[e]
  cases hd:(acc S.tk vV (n+1)||acc S.tk pY (n+1))with
  | false=>
   rw[yaa (by simp)]
   refine⟨⟨by omega,NE.one e5,Ys hn⟩,fun hn1 a n' hr hn'=>?_,fun _ _ e hr=>by cases hr⟩
   cases hr;have:(acc S.tk2 vV (n+1+S.d)||acc S.tk2 pY (n+1+S.d))=false:=by
    by_cases hk:n+1<S.k
    ·rw[two _ (by omega) hk,hd]
    ·have:n+1=S.k:=by omega
     rw[this];exact tq
   rw[e2 (by omega),this,yaa (by simp)]
   exact .inl rfl
  | true=>
   have e6:bC S.tk 5 (n+1)=false:=by
    simp only[ycq]at hd;rcases hd with hd | hd<;>exact Cr hd
   have ne:NE S.tk n (n+1+1):=(NE.one e5).join (NE.one e6)
   have q1:n+1<=S.k->¬ n+1<S.k->gK S.tk2 neg (n+S.d)=.ok ⟨2,tI (lE S.tk n) neg,0⟩ (n+1+S.d):=fun h1 h2=>by
    have:n+1=S.k:=by omega
    rw[e2 (by omega),this,tq,yaa (by simp)]
   rw[yab rfl]
   cases hs:rH (lE S.tk n)with
   | true=>
    rw[yab rfl];refine⟨⟨by omega,NE.one e5,by omega⟩,fun _ a n' hr=>(by cases hr),fun hn1 hfu e' hr=>?_⟩
    injection hr with _ hr
    rw[q1 (by omega) (by omega)]
    exact show n+1+S.d=_ by omega
   | false=>
    rw[yaa (by simp)]
    cases hi:mL (lE S.tk n) neg (-1048576) 1048576 with
    | none=>
     refine⟨⟨by omega,NE.nil,by omega⟩,fun _ a n' hr=>(by cases hr),fun hn1 hfu e' hr=>?_⟩
     cases hr;rw[hz];exact⟨rfl,.inl rfl⟩
    | some i=>
     refine⟨⟨by omega,ne,by simp[pG.cpy,xH]⟩,fun hn1 a n' hr hn'=>?_,fun _ _ e hr=>by cases hr⟩
     cases hr;rw[e2 (by omega),two _ (by omega) (by omega),hd,yab rfl,hs,yaa (by simp),hi,hv.acc _ (by omega) (by omega)]
     exact .inl rfl
end
end Go.Proofs
namespace Go.Proofs
open Go Go.Am
section
variable {tk:List lB}{n':Nat}{a:List Nat}{α:Type}{e e2:PM cA}
section
variable {S:VP}{H:Prop}{n:Nat}{o o2:PM cA}
def Tu {q n:Nat} (h:aC tk q n=.ok a n'):n<n':=by
 unfold aC at h;split at h<;>cases h;omega
def PR.bind_inv{β:Type}{r:PR α}{f:α->Nat->PR β}{b:β}{n:Nat}(h:r.bind f=.ok b n):∃a n1,r=.ok a n1/\f a n1=.ok b n:=by
 cases r with
 | ok a n1=>exact⟨a,n1,rfl,h⟩
 | er e i=>cases h
def zi7 {w:List Nat}{n:Nat}{a:Unit}(h:aD tk w n=.ok a n'):n<=n':=by
 unfold aD at h;split at h<;>cases h;omega
def RZ {neg:Bool}{n:Nat}{v:pG}(h:gK tk neg n=.ok v n'):n<n':=by
 unfold gK at h;obtain⟨a,n1,h1,h2⟩:=PR.bind_inv h
 have:=Tu h1
 split at h2
 ·split at h2
  ·cases h2
  ·split at h2<;>cases h2;omega
 ·cases h2;omega
def VO (v:Option pG):Prop:=match v with | some v=>pG.cpy v | none=>True
def Sx{k:Nat}{i:Int}:pG.cpy ⟨k,xH,i⟩:=by simp[pG.cpy,xH]
def XX(hv:VW S):qB S H VO (Fg S.tk) (Fg S.tk2):=by
 have hq:∀(neg:Bool),qB S H VO (fun n=>(gK S.tk neg n).bind fun v n1=>.ok (some v) n1) (fun n=>(gK S.tk2 neg n).bind fun v n1=>.ok (some v) n1):=fun neg=>(RY hv).bind hv fun v=>qB.ret fun h=>h.2
 have hm:∀(neg:Bool),qB S H VO (fun n=>(aC S.tk 2 n).bind fun s n1=>.ok (some ⟨3,tI s neg,0⟩) n1) (fun n=>(aC S.tk2 2 n).bind fun s n1=>.ok (some ⟨3,tI s neg,0⟩) n1):=fun neg=>(Tt hv (by omega)).bind hv fun s=>qB.ret fun h=>Ys (h.2 rfl)
 have hm2:qB S H VO (fun n=>(fun(neg:Bool)=>(aC S.tk 2 (if neg then n+1 else n)).bind fun s n1=>.ok (some ⟨3,tI s neg,0⟩) n1) (acc S.tk bI n)) (fun n=>(fun(neg:Bool)=>(aC S.tk2 2 (if neg then n+1 else n)).bind fun s n1=>.ok (some ⟨3,tI s neg,0⟩) n1) (acc S.tk2 bI n)):=by
  have:=qB.acc hv (w:=bI) (by decide) (hm true) (hm false)
  have e:∀tk:List lB,(fun n=>(fun(neg:Bool)=>(aC tk 2 (if neg then n+1 else n)).bind fun s n1=>(.ok (some ⟨3,tI s neg,0⟩) n1:PR (Option pG))) (acc tk bI n))=fun n=>if acc tk bI n=true then(aC tk 2 (n+1)).bind fun s n1=>.ok (some ⟨3,tI s true,0⟩) n1 else(aC tk 2 n).bind fun s n1=>.ok (some ⟨3,tI s false,0⟩) n1:=fun tk=>by
   funext n;cases acc tk bI n<;>rfl
  rw[e,e];exact this
 refine qB.acc hv (w:=wTrue) (A:=fun n=>.ok (some (pG.mk 1 xH 1)) n) (A2:=fun n=>.ok (some (pG.mk 1 xH 1)) n) (by decide) (qB.ret (V:=VO) fun _=>Sx) ?_
 refine qB.acc hv (w:=zdn) (A:=fun n=>.ok (some (pG.mk 1 xH 0)) n) (A2:=fun n=>.ok (some (pG.mk 1 xH 0)) n) (by decide) (qB.ret (V:=VO) fun _=>Sx) ?_
 refine qB.ite (p:=fun n=>bC S.tk 3 n) (p2:=fun n=>bC S.tk2 3 n) (fun i hl hi=>hv.kind i hl hi 3) (hv.qkind 3 (.inr rfl)) (A:=fun n=>(aO S.tk n).bind fun d n1=>.ok (some (pG.mk 4 xH d)) n1) (A2:=fun n=>(aO S.tk2 n).bind fun d n1=>.ok (some (pG.mk 4 xH d)) n1) ((Mp hv).bind hv fun d=>qB.ret (V:=VO) fun _=>Sx) (fun n a n' hlo _ h=>?_) ?_
 ·obtain⟨d,n1,h1,h2⟩:=PR.bind_inv h
  unfold aO at h1;obtain⟨d,n2,h3,h4⟩:=PR.bind_inv h1
  have:=Tu h3
  cases h4;cases h2;exact this
 refine qB.acc hv (w:=zdm) (by decide) hm2 ?_
 refine qB.acc hv (w:=bI) (by decide) (hq true) ?_
 refine qB.ite (p:=fun n=>bC S.tk 2 n) (p2:=fun n=>bC S.tk2 2 n) (fun i hl hi=>hv.kind i hl hi 2) (hv.qkind 2 (.inl rfl)) (hq false) (fun n a n' hlo _ h=>?_) (qB.ret fun _=>trivial)
 obtain⟨v,n1,h1,h2⟩:=PR.bind_inv h
 have:=RZ h1
 cases h2;exact this
def VL (c:Nat)(l:List cA):Prop:=l.length<=c/\cA.cpys l
def LF:∀ {l:List cA} {x:cA},cA.cpys l->cA.cpy x->cA.cpys (l++[x])
 | [],x,_,h=>⟨h,trivial⟩
 | y::l,x,h1,h2=>⟨h1.1,LF h1.2 h2⟩
def VL.snoc{c:Nat}{l:List cA}{x:cA}(h:VL c l)(hx:cA.cpy x):VL (c+1) (l++[x]):=⟨by simpa using h.1,LF h.2 hx⟩
def TS(hv:VW S) (he:qB S H cA.cpy e e2):∀(k c:Nat) (l:List cA) (H':Prop),(H'->H)->(H'->VL c l)->qB S H' (VL (c+k)) (Bq S.tk e k l) (Bq S.tk2 e2 k l):=by
 intro k;induction k with
 | zero=>intro c l H' _ h;exact qB.ret h
 | succ k ih=>
  intro c l H' h0 h;refine(gP hv).bind hv fun _=>(he.mono (fun h=>h0 h.1) fun _ h=>h).bind hv fun x=>?_
  have:=ih (c+1) (l++[x]) ((H'/\True)/\cA.cpy x) (fun h=>h0 h.1.1) fun hx=>(h hx.1.1).snoc hx.2
  rwa [show c+1+k=c+(k+1) by omega]at this
def PZ(hv:VW S) (he:qB S H cA.cpy e e2):∀(k c:Nat) (l:List cA) (H':Prop),(H'->H)->(H'->VL c l)->qB S H' (VL (c+k)) (qV S.tk e k l) (qV S.tk2 e2 k l):=by
 intro k;induction k with
 | zero=>intro c l H' _ h;exact qB.ret h
 | succ k ih=>
  intro c l H' h0 h;refine qB.acc hv (w:=[44]) (A:=fun n=>(e n).bind fun x n2=>qV S.tk e k (l++[x]) n2) (A2:=fun n=>(e2 n).bind fun x n2=>qV S.tk2 e2 k (l++[x]) n2) (B:=fun n=>.ok l n) (B2:=fun n=>.ok l n) (by decide) ?_ (qB.ret fun h'=>⟨by have:=(h h').1;omega,(h h').2⟩)
  refine(he.mono h0 fun _ h=>h).bind hv fun x=>?_
  have:=ih (c+1) (l++[x]) (H'/\cA.cpy x) (fun h=>h0 h.1) fun hx=>(h hx.1).snoc hx.2
  rwa [show c+1+k=c+(k+1) by omega]at this
def TT:∀i,dS i∉cT:=by
 intro i;unfold dS;split<;>decide
def UT:∀i,Eo i∉cT:=by
 intro i;unfold Eo;split<;>decide
def MH:∀f∈eQ,f.least<=3/\f.most<=3/\f.word∉cT:=by decide
def Pe(tk:List lB)(e:PM cA)(f:CF):PM cA:=fun n=>(aD tk [40] n).bind fun _ n1=>
  (if f.named then(kH tk n1).bind fun w n2=>(aD tk [44] n2).bind fun _ n3=>.ok w n3 else .ok [] n1:PR (List Nat)).bind fun w n2=>
  (e n2).bind fun x n3=>(Bq tk e (f.least-1) [x] n3).bind fun l n4=>(qV tk e (f.most-f.least) l n4).bind fun l n5=>
  (if f.op=19 then(aD tk [44] n5).bind fun _ n6=>jL tk dS 6 6 1 n6 else .ok 0 n5:PR Nat).bind fun m n6=>
  (aD tk [41] n6).bind fun _ n7=>.ok (.mk f.op w ⟨0,xH,m⟩ l) n7
def QY(hv:VW S) (he:qB S H cA.cpy e e2){f:CF}(hf:f∈eQ):qB S H cA.cpy (Pe S.tk e f) (Pe S.tk2 e2 f):=by
 obtain⟨f1,f2,_⟩:=MH f hf
 refine(gP hv).bind hv fun _=>?_
 refine qB.bind hv (V:=fun _=>True) (f:=fun n1=>(if f.named then(kH S.tk n1).bind fun w n2=>(aD S.tk [44] n2).bind fun _ n3=>.ok w n3 else .ok [] n1:PR (List Nat))) (f2:=fun n1=>(if f.named then(kH S.tk2 n1).bind fun w n2=>(aD S.tk2 [44] n2).bind fun _ n3=>.ok w n3 else .ok [] n1:PR (List Nat)))
  (qB.cases f.named (A:=fun n1=>(kH S.tk n1).bind fun w n2=>(aD S.tk [44] n2).bind fun _ n3=>.ok w n3) (A2:=fun n1=>(kH S.tk2 n1).bind fun w n2=>(aD S.tk2 [44] n2).bind fun _ n3=>.ok w n3) (B:=fun n=>.ok [] n) (B2:=fun n=>.ok [] n)
   (fun _=>(Bp hv).bind hv fun w=>(gP hv).bind hv fun _=>qB.ret fun _=>trivial) fun _=>qB.ret fun _=>trivial) fun w=>?_
 refine(he.mono (fun h=>h.1.1) fun _ h=>h).bind hv fun x=>?_
 refine(TS hv he (f.least-1) 1 [x] _ (fun h=>h.1.1.1) fun h=>⟨by simp,h.2,trivial⟩).bind hv fun l=>?_
 refine(PZ hv he (f.most-f.least) (1+(f.least-1)) l _ (fun h=>h.1.1.1.1) fun h=>h.2).bind hv fun l'=>?_
 refine qB.bind hv (V:=fun _=>True) (f:=fun n5=>(if f.op=19 then(aD S.tk [44] n5).bind fun _ n6=>jL S.tk dS 6 6 1 n6 else .ok 0 n5:PR Nat)) (f2:=fun n5=>(if f.op=19 then(aD S.tk2 [44] n5).bind fun _ n6=>jL S.tk2 dS 6 6 1 n6 else .ok 0 n5:PR Nat)) ?_ fun m=>(gP hv).bind hv fun _=>qB.ret fun h=>?_
 ·by_cases h19:f.op=19
  ·simp only[yab h19]
   exact(gP hv).bind hv fun _=>LY hv TT 6 1
  ·simp only[yaa h19]
   exact qB.ret fun _=>trivial
 ·have hl:=h.1.1.2
  unfold cA.cpy;exact⟨⟨by simp[xH],by simp[xH]⟩,by have:=hl.1;omega,hl.2⟩
def YS(hv:VW S) (he:qB S H cA.cpy e e2):qB S H cA.cpy (nW S.tk e) (nW S.tk2 e2):=by
 have eq:∀(tk:List lB) (e:PM cA) (n:Nat),nW tk e n=match eQ.find? fun f=>acc tk f.word n with | none=>.er 120 n | some f=>Pe tk e f (n+1):=fun tk e n=>rfl
 have hq:(eQ.find? fun f=>acc S.tk2 f.word (S.k+S.d))=none:=List.find?_eq_none.2 fun f hf=>by rw[hv.qacc _ (MH f hf).2.2];simp
 refine⟨fun hH n hlo=>?_,fun _=>by rw[eq,hq];exact⟨rfl,.inl rfl⟩⟩
 rw[eq,eq];have same:n<S.k->(eQ.find? fun f=>acc S.tk2 f.word (n+S.d))=eQ.find? fun f=>acc S.tk f.word n:=fun hn=>by congr 1;funext f;exact hv.acc n hlo hn _
 cases h:eQ.find? fun f=>acc S.tk f.word n with
 | none=>
  refine(RA.fail (.inl rfl)).right fun hn=>?_
  by_cases hk:n<S.k
  ·rw[same hk,h]
  ·have:n=S.k:=by omega
   subst this;rw[hq]
 | some f=>
  have ha:acc S.tk f.word n=true:=by simpa using List.find?_some h
  refine RA.step (Cr ha) ((QY hv he (List.mem_of_find?_eq_some h)).ra hH (n+1) (by omega)) fun hn=>?_
  rw[same hn,h];show Pe S.tk2 e2 f (n+S.d+1)=_
  congr 1;omega
def zbv {n:Nat} (h:kH tk n=.ok a n'):n<n':=by
 unfold kH at h;split at h<;>cases h;omega
def up_of {V:α->Prop}{f f2:PM α}(h:qB S True V f f2){n:Nat}{a:α}(hlo:S.lo<=n)(hr:f n=.ok a n'):n<=n':=by
 have:=(h.ra trivial n hlo).mo
 rw[hr]at this;exact this.1
def JI(hv:VW S)(ho:qB S True cA.cpy o o2):qB S True cA.cpy (wW S.tk o) (wW S.tk2 o2):=by
 have he:=KN hv ho
 refine(XX hv).bind hv fun v=>?_
 have ho':qB S (True/\VO v) cA.cpy o o2:=ho.mono (fun _=>trivial) fun _ h=>h
 have he':qB S (True/\VO v) cA.cpy (wS S.tk o) (wS S.tk2 o2):=he.mono (fun _=>trivial) fun _ h=>h
 cases v with
 | some v=>exact qB.ret fun h=>by unfold Rz cA.cpy;exact⟨h.2,by simp,trivial⟩
 | none=>
  refine qB.acc hv (w:=[40]) (A:=fun n=>(wS S.tk o n).bind fun x n1=>(aD S.tk [41] n1).bind fun _ n2=>.ok x n2) (A2:=fun n=>(wS S.tk2 o2 n).bind fun x n1=>(aD S.tk2 [41] n1).bind fun _ n2=>.ok x n2) (by decide) (he'.bind hv fun x=>(gP hv).bind hv fun _=>qB.ret fun h=>h.1.2) ?_
  refine qB.acc hv (w:=Tb) (A:=fun n=>.ok (cA.mk 2 [] qM []) n) (A2:=fun n=>.ok (cA.mk 2 [] qM []) n) (by decide) (qB.ret fun _=>⟨⟨by simp[qM,xH],by simp[qM,xH]⟩,by simp,trivial⟩) ?_
  refine qB.acc hv (w:=Jh) (by decide) (AE hv ho') ?_
  refine qB.acc hv (w:=wHas) (by decide) (AE hv ho') ?_
  refine qB.ite (p:=fun n=>bK S.tk n) (p2:=fun n=>bK S.tk2 n) (fun i hl hi=>Xg hv hl hi) hv.qname (AE hv ho') (fun n a n' hlo _ h=>?_) (YS hv he')
  unfold atP at h;obtain⟨w,n1,h1,h2⟩:=PR.bind_inv h
  obtain⟨u,n2,h3,h4⟩:=PR.bind_inv h2
  obtain⟨x,n3,h5,h6⟩:=PR.bind_inv h4
  have a1:=zbv h1
  have a2:=zi7 h3
  have a3:=up_of ho (by omega) h5
  cases h6;omega
def STzx(hv:VW S):∀(j j2:Nat),(j2=j\/(j2+1=j/\S.dp))->qB S True cA.cpy (mR S.tk j) (mR S.tk2 j2):=by
 intro j;induction j with
 | zero=>
  intro j2 h;have:j2=0:=by
   rcases h with h | h
   ·exact h
   ·exact absurd h.1 (by omega)
  subst this;exact qB.fail (.inr rfl)
 | succ j ih=>
  intro j2 h
  cases j2 with
  | zero=>
   have hd:S.dp:=by rcases h with h | h;omega;exact h.2
   have hr:qB S True cA.cpy (wW S.tk (mR S.tk j)) (wW S.tk2 (mR S.tk2 j)):=JI hv (ih j (.inl rfl))
   exact⟨fun hH n hlo=>⟨(hr.ra hH n hlo).mo,fun _ a n' _ _=>.inr ⟨hd,_,rfl⟩,fun _ hfu=>absurd hd (hv.full hfu).1⟩,fun hfu=>absurd hd (hv.full hfu).1⟩
  | succ j2=>exact JI hv (ih j2 (h.imp (by omega) fun h=>⟨by omega,h.2⟩))
def WF(hv:VW S):qB S True cA.cpy (rW S.tk) (rW S.tk2):=KN hv (STzx hv 101 101 (.inl rfl))
def Rw(hv:VW S){b:Bool}:qB S H (fun _=>True) (uT S.tk b) (uT S.tk2 b):=(Bp hv).bind hv fun w=>(LY hv UT 6 1).bind hv fun k=>qB.ret fun _=>trivial
def IN(hv:VW S):qB S H (fun _=>True) (sU S.tk) (sU S.tk2):=by
 have one:∀neg:Bool,qB S H (fun _=>True) (fun m=>if !bC S.tk 2 m||rH (lE S.tk m)then .er 120 m else match mL (lE S.tk m) neg (-2147483648) 2147483647 with | none=>.er 121 m | some i=>.ok i (m+1))
   (fun m=>if !bC S.tk2 2 m||rH (lE S.tk2 m)then .er 120 m else match mL (lE S.tk2 m) neg (-2147483648) 2147483647 with | none=>.er 121 m | some i=>.ok i (m+1)):=by
  intro neg;have hz:(!bC S.tk2 2 (S.k+S.d)||rH (lE S.tk2 (S.k+S.d)))=true:=by rw[hv.qkind 2 (.inl rfl)];rfl
  refine⟨fun _ n hlo=>?_,fun _=>by show vO _ (if _=true then _ else _);rw[hz,yab rfl];exact⟨rfl,.inl rfl⟩⟩
  show RA S _ n (if (!bC S.tk 2 n||rH (lE S.tk n))=true then _ else _) (if (!bC S.tk2 2 (n+S.d)||rH (lE S.tk2 (n+S.d)))=true then _ else _)
  have hz':∀x y:PR Int,n=S.k->(if (!bC S.tk2 2 (n+S.d)||rH (lE S.tk2 (n+S.d)))=true then x else y)=x:=fun x y e=>by rw[e,hz,yab rfl]
  cases h:(!bC S.tk 2 n||rH (lE S.tk n))with
  | true=>
   rw[yab rfl];refine(RA.fail (.inl rfl)).right fun hn=>?_
   by_cases hk:n<S.k
   ·rw[hv.kind n hlo hk,hv.text n hlo hk,h,yab rfl]
   ·exact hz' _ _ (by omega)
  | false=>
   rw[yaa (by simp)]
   have h2:bC S.tk 2 n=true:=by simp at h;exact h.1
   cases hi:mL (lE S.tk n) neg (-2147483648) 2147483647 with
   | none=>
    refine⟨⟨by omega,NE.nil,by omega⟩,fun _ a n' hr=>(by cases hr),fun hn hfu e hr=>?_⟩
    injection hr with _ hr
    rw[hz' _ _ hr,hr];exact⟨rfl,.inl rfl⟩
   | some i=>
    refine⟨⟨by omega,NE.one (Ls h2 (by omega)),trivial⟩,fun hn a n' hr hn'=>?_,fun _ _ e hr=>by cases hr⟩
    cases hr;rw[hv.kind n hlo (by omega),hv.text n hlo (by omega),h,yaa (by simp),hi]
    left
    show PR.ok _ _=PR.ok _ _
    congr 1;omega
 have e:∀tk:List lB,sU tk=fun n=>if acc tk bI n=true then(fun m=>if !bC tk 2 m||rH (lE tk m)then .er 120 m else match mL (lE tk m) true (-2147483648) 2147483647 with | none=>.er 121 m | some i=>.ok i (m+1)) (n+1)else(fun m=>if !bC tk 2 m||rH (lE tk m)then .er 120 m else match mL (lE tk m) false (-2147483648) 2147483647 with | none=>.er 121 m | some i=>.ok i (m+1)) n:=fun tk=>by
  funext n;unfold sU;cases acc tk bI n<;>rfl
 rw[e,e];exact qB.acc hv (w:=bI) (by decide) (one true) (one false)
def ED(hv:VW S){two:Bool}:qB S H (fun r=>gH.cpy r.f) (nX S.tk two) (nX S.tk2 two):=by
 refine(IN hv).bind hv fun a=>?_
 refine qB.bind hv (V:=fun _=>True) (f:=fun n1=>(if two then sU S.tk n1 else .ok 0 n1:PR Int)) (f2:=fun n1=>(if two then sU S.tk2 n1 else .ok 0 n1:PR Int)) (qB.cases two (B:=fun n=>.ok 0 n) (B2:=fun n=>.ok 0 n) (fun _=>IN hv) fun _=>qB.ret fun _=>trivial) fun b=>?_
 refine(gP hv).bind hv fun _=>(Mp hv).bind hv fun d=>(gP hv).bind hv fun _=>?_
 have one:∀(neg:Bool) (H:Prop),qB S H (fun r=>gH.cpy r.f) (fun n=>(aC S.tk 2 n).bind fun s n6=>.ok (⟨a,b,d,tI s neg⟩:nH) n6) (fun n=>(aC S.tk2 2 n).bind fun s n6=>.ok (⟨a,b,d,tI s neg⟩:nH) n6):=fun neg H=>(Tt hv (by omega)).bind hv fun s=>qB.ret fun h=>Ys (h.2 rfl)
 have e:∀tk:List lB,(fun n5=>(fun(neg:Bool)=>(aC tk 2 (if neg then n5+1 else n5)).bind fun s n6=>(.ok (⟨a,b,d,tI s neg⟩:nH) n6:PR nH)) (acc tk bI n5))=fun n=>if acc tk bI n=true then(fun n=>(aC tk 2 n).bind fun s n6=>.ok (⟨a,b,d,tI s true⟩:nH) n6) (n+1)else(fun n=>(aC tk 2 n).bind fun s n6=>.ok (⟨a,b,d,tI s false⟩:nH) n6) n:=fun tk=>by
  funext n;cases acc tk bI n<;>rfl
 show qB S _ _ (fun n5=>(fun(neg:Bool)=>(aC S.tk 2 (if neg then n5+1 else n5)).bind fun s n6=>(.ok (⟨a,b,d,tI s neg⟩:nH) n6:PR nH)) (acc S.tk bI n5)) (fun n5=>(fun(neg:Bool)=>(aC S.tk2 2 (if neg then n5+1 else n5)).bind fun s n6=>(.ok (⟨a,b,d,tI s neg⟩:nH) n6:PR nH)) (acc S.tk2 bI n5))
 rw[e,e];exact qB.acc hv (w:=bI) (by decide) (one true _) (one false _)
def dF.cpy(c:dF):Prop:=cA.cpy c.when_/\cA.cpy c.then_
def AS:cA.cpy yX:=⟨⟨by simp[qM,xH],by simp[qM,xH]⟩,by simp,trivial⟩
def LV(hv:VW S):qB S H dF.cpy (qT S.tk) (qT S.tk2):=by
 have hx:∀H:Prop,qB S H cA.cpy (rW S.tk) (rW S.tk2):=fun H=>(WF hv).mono (fun _=>trivial) fun _ h=>h
 refine(Bp hv).bind hv fun a=>(Bp hv).bind hv fun b=>(gP hv).bind hv fun _=>(Mp hv).bind hv fun f=>(gP hv).bind hv fun _=>?_
 refine qB.bind hv (V:=fun _=>True) (f:=fun n5=>(if acc S.tk wEnd n5 then .ok 65536 (n5+1)else aO S.tk n5:PR Int)) (f2:=fun n5=>(if acc S.tk2 wEnd n5 then .ok 65536 (n5+1)else aO S.tk2 n5:PR Int)) (qB.acc hv (A:=fun n=>.ok 65536 n) (A2:=fun n=>.ok 65536 n) (by decide) (qB.ret fun _=>trivial) (Mp hv)) fun t=>?_
 refine(gP hv).bind hv fun _=>(Mp hv).bind hv fun k=>?_
 refine qB.acc hv (w:=wOff) (A:=fun n=>.ok (dF.mk a b f t k true yX yX) n) (A2:=fun n=>.ok (dF.mk a b f t k true yX yX) n) (by decide) (qB.ret fun _=>⟨AS,AS⟩) ?_
 exact(gP hv).bind hv fun _=>(hx _).bind hv fun x=>(gP hv).bind hv fun _=>(hx _).bind hv fun y=>qB.ret fun h=>⟨h.1.1.2,h.2⟩
def BU(hv:VW S):qB S H (fun x=>x.rows=[]) (Dn S.tk) (Dn S.tk2):=by
 refine(Bp hv).bind hv fun w=>?_
 exact qB.acc hv (w:=Fz) (A:=fun n=>.ok (zI.mk w true []) n) (A2:=fun n=>.ok (zI.mk w true []) n) (by decide) (qB.ret fun _=>rfl) ((gP hv).bind hv fun _=>qB.ret fun _=>rfl)
def Lh(hv:VW S){p:wE}:qB S H (fun _=>True) (jP S.tk p) (jP S.tk2 p):=by
 have last:qB S H (fun _=>True) (fun n=>if acc S.tk Ji n then(qT S.tk (n+1)).bind fun c n1=>.ok (⟨p.name,p.defs,p.tables,p.clauses++[c]⟩:wE) n1 else .er 120 n) (fun n=>if acc S.tk2 Ji n then(qT S.tk2 (n+1)).bind fun c n1=>.ok (⟨p.name,p.defs,p.tables,p.clauses++[c]⟩:wE) n1 else .er 120 n):=
  qB.acc hv (A:=fun n=>(qT S.tk n).bind fun c n1=>.ok (⟨p.name,p.defs,p.tables,p.clauses++[c]⟩:wE) n1) (A2:=fun n=>(qT S.tk2 n).bind fun c n1=>.ok (⟨p.name,p.defs,p.tables,p.clauses++[c]⟩:wE) n1) (by decide) ((LV hv).bind hv fun c=>qB.ret fun _=>trivial) (qB.fail (.inl rfl))
 refine qB.acc hv (w:=Jh) (A:=fun n=>(uT S.tk true n).bind fun d n1=>.ok (⟨p.name,p.defs++[d],p.tables,p.clauses⟩:wE) n1) (A2:=fun n=>(uT S.tk2 true n).bind fun d n1=>.ok (⟨p.name,p.defs++[d],p.tables,p.clauses⟩:wE) n1) (by decide) ((Rw hv).bind hv fun d=>qB.ret fun _=>trivial) ?_
 refine qB.acc hv (w:=wDef) (A:=fun n=>(uT S.tk false n).bind fun d n1=>.ok (⟨p.name,p.defs++[d],p.tables,p.clauses⟩:wE) n1) (A2:=fun n=>(uT S.tk2 false n).bind fun d n1=>.ok (⟨p.name,p.defs++[d],p.tables,p.clauses⟩:wE) n1) (by decide) ((Rw hv).bind hv fun d=>qB.ret fun _=>trivial) ?_
 refine qB.acc hv (w:=zdl) (A:=fun n=>(Dn S.tk n).bind fun t n1=>.ok (⟨p.name,p.defs,p.tables++[t],p.clauses⟩:wE) n1) (A2:=fun n=>(Dn S.tk2 n).bind fun t n1=>.ok (⟨p.name,p.defs,p.tables++[t],p.clauses⟩:wE) n1) (by decide) ((BU hv).bind hv fun d=>qB.ret fun _=>trivial) ?_
 cases hp:p.tables.isEmpty with
 | true=>exact last
 | false=>exact qB.acc hv (w:=wRow) (A:=fun n=>(nX S.tk (Ll p.tables) n).bind fun r n1=>.ok (⟨p.name,p.defs,nT p.tables r,p.clauses⟩:wE) n1) (A2:=fun n=>(nX S.tk2 (Ll p.tables) n).bind fun r n1=>.ok (⟨p.name,p.defs,nT p.tables r,p.clauses⟩:wE) n1) (by decide) ((ED hv).bind hv fun d=>qB.ret fun _=>trivial) last
end
end
section
variable {p:Nat->Bool}{r s w:List Nat}{b k n:Nat}
def jY(r:List Nat):Prop:=∀c r',r=c::r'->c=10\/c=32
def Vp  (hr:∀c r',r=c::r'->p c=false):∀s:List Nat,sD p (s++r)=sD p s:=by
 intro s;unfold sD;induction s with
 | nil=>
  cases r with
  | nil=>rfl
  | cons c r=>rw[yah,List.takeWhile_cons,hr c r rfl];rfl
 | cons x s ih=>rw[List.cons_append,List.takeWhile_cons,List.takeWhile_cons,ih]
def Vd  (hr:jY r)(h1:p 10=false)(h2:p 32=false):∀c r',r=c::r'->p c=false:=by
 intro c r' e;rcases hr c r' e with rfl | rfl
 ·exact h1
 ·exact h2
def Vq (s:List Nat):(sD p s).length<=s.length:=(List.takeWhile_sublist p).length_le
def XQ (hr:jY r):zH (s++r)=zH s:=by
 by_cases h:10<=s.length
 ·unfold zH
  have e:∀i∈List.range 10,pK i ((s++r).getD i 0)=pK i (s.getD i 0):=fun i hi=>by
   rw[List.mem_range]at hi;rw[List.getD_eq_getElem?_getD,List.getD_eq_getElem?_getD,yco (by omega)]
  rw[show(List.range 10).all (fun i=>pK i ((s++r).getD i 0))=(List.range 10).all (fun i=>pK i (s.getD i 0)) from by
   rw[Bool.eq_iff_iff,ycb,ycb];exact⟨fun h i hi=>by rw[<- e i hi];exact h i hi,fun h i hi=>by rw[e i hi];exact h i hi⟩]
  rw[decide_eq_true h,decide_eq_true (by rw[ybg];omega)]
 ·have h1:zH s=false:=by unfold zH;rw[decide_eq_false h];rfl
  rw[h1];refine FV (i:=s.length) (by omega) ?_
  rw[List.getD_eq_getElem?_getD,ybp (ybk _),Nat.sub_self]
  cases r with
  | nil=>unfold pK;split<;>rfl
  | cons c r=>
   rcases hr c r rfl with rfl | rfl <;> (unfold pK;split<;>rfl)
def JU (hr:jY r) (hn:n<=s.length):bO (s++r) n=bO s n:=by
 unfold bO;by_cases h:n<s.length
 ·rw[yco h]
 ·have:n=s.length:=by omega
  subst this;rw[ybp (ybk _),Nat.sub_self,List.getElem?_eq_none (ybk _)]
  cases r with
  | nil=>rfl
  | cons c r=>rcases hr c r rfl with rfl | rfl<;>rfl
def Yz (hr:jY r):zD (s++r)=zD s:=Vp (Vd hr rfl rfl) s
def MT (hr:jY r) (hn:n<=s.length):((s++r)[n]?=some 47) ↔ s[n]?=some 47:=by
 by_cases h:n<s.length
 ·rw[yco h]
 ·have:n=s.length:=by omega
  subst this;rw[ybp (ybk _),Nat.sub_self,List.getElem?_eq_none (ybk _)]
  cases r with
  | nil=>simp
  | cons c r=>rcases hr c r rfl with rfl | rfl<;>simp
def DQ (hr:jY r):dE (s++r)=dE s:=by
 unfold dE;rw[Yz hr];have hl:(zD s).length<=s.length:=Vq s
 by_cases h:s[(zD s).length]?=some 47
 ·rw[yab ((MT hr hl).2 h),yab h]
  have:(zD s).length<s.length:=(ybc.1 h).1
  rw[List.drop_append_of_le_length (by omega)]
  exact Vp (Vd hr rfl rfl) _
 ·rw[yaa (fun e=>h ((MT hr hl).1 e)),yaa h]
def QN (h:dE s≠[]):s[(zD s).length]?=some 47/\dE s=sD nD (s.drop ((zD s).length+1)):=by
 have h2:s[(zD s).length]?=some 47:=by
  unfold dE at h;by_cases h2:s[(zD s).length]?=some 47
  ·exact h2
  ·rw[yaa h2]at h;exact absurd rfl h
 exact⟨h2,by unfold dE;rw[yab h2]⟩
def FS(s:List Nat):bE s<=s.length:=by
 have hl:(zD s).length<=s.length:=Vq s
 unfold bE;split
 ·exact hl
 ·rename_i h
  obtain⟨h2,e⟩:=QN h
  have:=(ybc.1 h2).1
  have:=Vq (p:=nD) (s.drop ((zD s).length+1))
  rw[ydj,<- e]at this;omega
def zau  (hr:jY r):xF ((b::s)++r)=xF (b::s):=by
 have e1:=Vp (p:=dI) (Vd hr rfl rfl) (b::s)
 have e2:=XQ (s:=b::s) hr
 have e3:bE ((b::s)++r)=bE (b::s):=by unfold bE;rw[DQ hr,Yz hr]
 have e4:rI ((b::s)++r)=rI (b::s):=by unfold rI;rw[e3,JU hr (FS _),DQ hr,Yz hr]
 show(if mM b=true then _ else _)=if mM b=true then _ else _
 show(if mM b=true then(if 24<(sD dI ((b::s)++r)).length then TR.bad 111 else .tok 1 (sD dI ((b::s)++r)))else if (nD b&&zH ((b::s)++r))=true then(if uN ((b::s)++r)=true then .bad 113 else .tok 3 (((b::s)++r).take 10))else if nD b=true then(if rI ((b::s)++r)=true then .bad 112 else .tok 2 (((b::s)++r).take (bE ((b::s)++r))))else if Lv b=true then .tok 4 [b]else .bad 110)=_
 rw[e1,e2,e4,e3,List.take_append_of_le_length (FS _)]
 cases hd:zH (b::s)with
 | false=>simp only[yay,ybq,if_false]
 | true=>
  have h10:10<=(b::s).length:=by unfold zH at hd;simp only[ybb,decide_eq_true_eq]at hd;exact hd.1
  have e5:uN ((b::s)++r)=uN (b::s):=by
   unfold uN;rw[JU hr h10,List.take_append_of_le_length h10];by_cases h:10<(b::s).length
   ·rw[decide_eq_true h,decide_eq_true (by rw[ybg];omega)]
   ·have h11:(b::s).length=10:=by omega
    have:bO (b::s) 10=false:=by unfold bO;rw[List.getElem?_eq_none (by omega)]
    rw[this,yay,yay]
  rw[e5,List.take_append_of_le_length h10]
def zgq   (h:xF s=.tok k w):∃r,s=w++r:=by
 unfold xF at h;split at h
 ·cases h
 ·rename_i b s
  split at h
  ·split at h
   ·cases h
   ·cases h;obtain⟨r,h,_⟩:=Ki (p:=dI) (s:=b::s);exact⟨r,h⟩
  ·split at h
   ·split at h
    ·cases h
    ·cases h;exact⟨_,(List.take_append_drop 10 _).symm⟩
   ·split at h
    ·split at h
     ·cases h
     ·cases h;exact⟨_,(List.take_append_drop _ _).symm⟩
    ·split at h
     ·cases h;exact⟨s,rfl⟩
     ·cases h
def BP   (h:xF s=.tok k w):xF w=.tok k w:=by
 have h0:=h
 unfold xF at h;split at h
 ·cases h
 ·rename_i b s
  split at h
  ·rename_i hb
   split at h
   ·cases h
   ·rename_i h24
    injection h with h1 h2
    subst h1;have e:sD dI w=w:=by
     have:=oX (p:=dI) (a:=w) (r:=[]) (by rw[<- h2];exact Kj) (fun _ _ e=>by cases e)
     rwa [ycd]at this
    have hw:∃w',w=b::w':=by
     have:dI b=true:=by unfold dI;rw[hb];rfl
     rw[<- h2];unfold sD;rw[List.takeWhile_cons,this];exact⟨_,rfl⟩
    obtain⟨w',hw⟩:=hw
    rw[h2]at h24;rw[hw]at e ⊢ h24
    unfold xF;simp only[hb,if_true,e,yaa h24]
  ·rename_i hb
   split at h
   ·rename_i hd
    simp only[ybb]at hd;obtain⟨hd1,hd2⟩:=hd
    split at h
    ·cases h
    ·rename_i hbad
     injection h with h1 h2
     subst h1;have h10:10<=(b::s).length:=by unfold zH at hd2;simp only[ybb,decide_eq_true_eq]at hd2;exact hd2.1
     have hwl:w.length=10:=by rw[<- h2,yda];omega
     have hw:∃w',w=b::w':=⟨s.take 9,by rw[<- h2];rfl⟩
     have hdw:zH w=true:=by
      unfold zH at hd2 ⊢
      simp only[ybb,decide_eq_true_eq]at hd2 ⊢
      refine⟨by omega,?_⟩
      rw[ycb]at hd2 ⊢
      intro i hi;have:=hd2.2 i hi
      rw[List.mem_range]at hi;rw[List.getD_eq_getElem?_getD]at this ⊢
      rw[<- h2,List.getElem?_take_of_lt hi];exact this
     have hbw:¬ uN w=true:=by
      unfold uN at hbad ⊢
      rw[h2]at hbad;simp only[ycq,ybb,decide_eq_true_eq,not_or,not_and]at hbad ⊢
      refine⟨fun e=>by omega,?_⟩
      rw[yca (by omega)]
      exact hbad.2
     have htk:w.take 10=w:=yca (by omega)
     obtain⟨w',hw⟩:=hw
     rw[hw]at hdw hbw htk ⊢
     unfold xF;simp only[yaa hb,hd1,hdw,Bool.and_self,if_true,yaa hbw,htk]
   ·rename_i hd
    split at h
    ·rename_i hdg
     split at h
     ·cases h
     ·rename_i hbad
      injection h with h1 h2
      subst h1;obtain⟨q,hq1,hq2⟩:=Ki (p:=nD) (s:=b::s)
      change b::s=zD (b::s)++q at hq1
      have hall:∀x∈zD (b::s),nD x=true:=Kj
      have hfb:∃f',zD (b::s)=b::f':=by unfold zD sD;rw[List.takeWhile_cons,hdg];exact⟨_,rfl⟩
      generalize hf:zD (b::s)=f at hq1 hall hfb
      unfold rI at hbad;simp only[ycq,decide_eq_true_eq,not_or]at hbad;obtain⟨⟨⟨⟨n1,n2⟩,n3⟩,n4⟩,n5⟩:=hbad
      rw[hf]at n3;by_cases hsec:dE (b::s)=[]
      ·have hl:bE (b::s)=f.length:=by unfold bE;rw[yab hsec,hf]
       have hw:w=f:=by rw[<- h2,hl,hq1,Ob]
       subst hw;have hff:zD w=w:=by
        have:=oX (p:=nD) (a:=w) (r:=[]) hall (fun _ _ e=>by cases e)
        rwa [ycd]at this
       have hs2:dE w=[]:=by unfold dE;rw[hff,List.getElem?_eq_none (ybk _),yaa (by simp)]
       have hl2:bE w=w.length:=by unfold bE;rw[yab hs2,hff]
       have hdt:zH w=false:=GC fun x hx=>(Zn (hall x hx)).2.2.2.2.1
       have hnb:¬ rI w=true:=by
        unfold rI;simp only[ycq,decide_eq_true_eq,not_or];rw[hl2,hs2,hff];refine⟨⟨⟨⟨by omega,?_⟩,n3⟩,by decide⟩,by decide⟩
        unfold bO;rw[List.getElem?_eq_none (ybk _)]
        simp
       have htk:w.take w.length=w:=List.take_length
       obtain⟨w',hw⟩:=hfb
       rw[hw]at hnb hdt hl2 htk ⊢
       unfold xF;simp only[yaa hb,hdg,hdt,yay,if_true,yaa hnb,hl2,htk];simp
      ·have hsl:(b::s)[f.length]?=some 47:=by
        unfold dE at hsec;rw[hf]at hsec;by_cases h47:(b::s)[f.length]?=some 47
        ·exact h47
        ·rw[yaa h47]at hsec;exact absurd rfl hsec
       rw[hq1,Rg]at hsl;obtain⟨q',rfl⟩:∃q',q=47::q':=by
        cases q with
        | nil=>cases hsl
        | cons x q=>cases hsl;exact⟨q,rfl⟩
       have hs2:dE (b::s)=sD nD q':=by
        unfold dE;rw[hf,hq1,Rg,yab (show(47::q').head?=some 47 from rfl),Rr]
       obtain⟨q2,hg1,hg2⟩:=Ki (p:=nD) (s:=q')
       have hga:∀x∈sD nD q',nD x=true:=Kj
       rw[hs2]at n4 n5 hsec;have hl:bE (b::s)=f.length+1+(sD nD q').length:=by unfold bE;rw[hs2,yaa hsec,hf]
       generalize hgg:sD nD q'=g at *
       have hw:w=f++47::g:=by
        rw[<- h2,hl,hq1,hg1];rw[show f++47::(g++q2)=(f++47::g)++q2 by simp]
        have:f.length+1+g.length=(f++47::g).length:=by simp;omega
        rw[this,Ob]
       have hff:zD w=f:=by rw[hw];exact oX hall (fun x _ e=>by cases e;rfl)
       have hs3:dE w=g:=by
        unfold dE;rw[hff,hw,Rg,yab (show(47::g).head?=some 47 from rfl),Rr]
        have:=oX (p:=nD) (a:=g) (r:=[]) hga (fun _ _ e=>by cases e)
        rwa [ycd]at this
       have hl2:bE w=w.length:=by unfold bE;rw[hs3,yaa hsec,hff,hw];simp;omega
       have hll:w.length=f.length+1+g.length:=by rw[hw];simp;omega
       have hdt:zH w=false:=GC fun x hx=>by
        rw[hw]at hx;rcases yaf.1 hx with hx | hx
        ·exact(Zn (hall x hx)).2.2.2.2.1
        ·rcases ybs.1 hx with rfl | hx
         ·omega
         ·exact(Zn (hga x hx)).2.2.2.2.1
       have hnb:¬ rI w=true:=by
        unfold rI;simp only[ycq,decide_eq_true_eq,not_or];rw[hl2,hs3,hff];refine⟨⟨⟨⟨by omega,?_⟩,n3⟩,n4⟩,n5⟩
        unfold bO;rw[List.getElem?_eq_none (ybk _)]
        simp
       have htk:w.take w.length=w:=List.take_length
       obtain⟨f',hf'⟩:=hfb
       have hwb:∃w',w=b::w':=⟨f'++47::g,by rw[hw,hf'];rfl⟩
       clear hw hff hs3
       obtain⟨w',hw⟩:=hwb
       subst hw;unfold xF;simp only[yaa hb,hdg,hdt,yay,if_true,yaa hnb,hl2,htk];simp
    ·split at h
     ·rename_i hdg hsg
      injection h with h1 h2
      subst h1 h2
      have:(nD b&&zH [b])=false:=by simp[hdg]
      unfold xF;simp only[yaa hb,this,yaa hdg,hsg,if_true];simp
     ·cases h
def OT   (h:xF s=.tok k w)(hr:jY r):xF (w++r)=.tok k w:=by
 have h1:=BP h
 cases w with
 | nil=>exact absurd (lY h).1 (by simp)
 | cons b w=>rw[zau hr];exact h1
def zaw    (h:xF (b::r)=.tok k w):b≠10/\b≠32/\b≠9/\b≠35:=by
 refine⟨?_,?_,?_,?_⟩ <;> (rintro rfl;unfold xF at h;simp[mM,nD,Lv]at h)
end
section
variable {r s:List Nat}{o:Bool}{b:Nat}
abbrev pN:=Nat × List Nat
def kt (t:lB):pN:=(t.kind,t.text)
def ktR:LR->Option (List pN)
 | .ok l=>some (l.map kt)
 | .er _ _ _=>none
def nM:Nat->List Nat->Bool->Option (List pN)
 | 0,_,_=>some []
 | _+1,[],o=>some (if o=true then [(5,[])]else [])
 | k+1,b::r,o=>
  if b=10 then(nM k r false).map fun l=>if o=true then(5,[])::l else l
  else if b=32\/b=9 then nM k r o
  else if b=35 then nM k ((b::r).drop (sD (fun x=>decide (x≠10)) (b::r)).length) o
  else match xF (b::r)with
   | .bad _=>none
   | .tok kd w=>(nM k ((b::r).drop w.length) true).map fun l=>(kd,w)::l
def zh9:∀(k:Nat) (s:List Nat) (ln cl:Nat) (op:Option (Nat × Nat)),ktR (cK k s ln cl op)=nM k s op.isSome:=by
 have cons:∀(t:lB) (r:LR),ktR (r.cons t)=(ktR r).map fun l=>kt t::l:=fun t r=>by cases r<;>rfl
 have close:∀(op:Option (Nat × Nat)) (r:LR),ktR (LR.close op r)=(ktR r).map fun l=>if op.isSome=true then(5,[])::l else l:=fun op r=>by
  cases op with
  | none=>cases r<;>rfl
  | some p=>exact cons _ r
 intro k;induction k with
 | zero=>intro s ln cl op;rfl
 | succ k ih=>
  intro s ln cl op
  cases s with
  | nil=>rw[cK,close];rfl
  | cons b r=>
   rw[cK,nM];split
   ·rw[close,ih];rfl
   split
   ·exact ih _ _ _ _
   split
   ·exact ih _ _ _ _
   ·cases xF (b::r)with
    | bad e=>rfl
    | tok kd w=>exact(cons _ _).trans (by rw[ih];rfl)
def UJ:∀(k k':Nat) (s:List Nat) (o:Bool),s.length<k->s.length<k'->nM k s o=nM k' s o:=by
 intro k;induction k with
 | zero=>intro k' s o h;omega
 | succ k ih=>
  intro k' s o h h';obtain⟨k',rfl⟩:∃m,k'=m+1:=⟨k'-1,by omega⟩
  cases s with
  | nil=>rfl
  | cons b r=>
   simp only[ybn]at h h'
   rw[nM,nM];split
   ·rw[ih k' r false (by omega) (by omega)]
   split
   ·rw[ih k' r o (by omega) (by omega)]
   split
   ·rename_i h35
    have:0<(sD (fun x=>decide (x≠10)) (b::r)).length:=by
     unfold sD;rw[List.takeWhile_cons,h35];simp
    rw[ih k' _ o (by rw[ydj,ybn];omega) (by rw[ydj,ybn];omega)]
   ·cases ht:xF (b::r)with
    | bad e=>rfl
    | tok kd w=>
     have:=(lY ht).1
     show(nM k _ true).map _=(nM k' _ true).map _
     rw[ih k' _ true (by rw[ydj,ybn];omega) (by rw[ydj,ybn];omega)]
def dK (s:List Nat)(o:Bool):Option (List pN):=nM (s.length+1) s o
def Qr{k:Nat}  (h:s.length<k):nM k s o=dK s o:=UJ _ _ _ _ h (by omega)
def zb5  : dK [] o=some (if o=true then [(5,[])]else []):=rfl
def GR   : dK (10::r) o=(dK r false).map fun l=>if o=true then(5,[])::l else l:=by
 unfold dK;rw[nM,yab rfl];rfl
def GU   (h:b=32\/b=9):dK (b::r) o=dK r o:=by
 unfold dK;rw[nM,yaa (by omega),yab h];rfl
def zb6   : dK (35::r) o=dK ((35::r).drop (sD (fun x=>decide (x≠10)) (35::r)).length) o:=by
 rw[<- Qr (k:=(35::r).length+1) (by omega),nM,yaa (by omega),yaa (by omega),yab rfl]
 refine Qr ?_
 have:0<(sD (fun x=>decide (x≠10)) (35::r)).length:=by unfold sD;rw[List.takeWhile_cons];simp
 rw[ydj,ybn];omega
def GQ {w:List Nat}{kd:Nat} (h:xF (b::r)=.tok kd w):dK (b::r) o=(dK ((b::r).drop w.length) true).map fun l=>(kd,w)::l:=by
 obtain⟨h1,h2,h3,h4⟩:=zaw h
 have:=(lY h).1
 rw[<- Qr (k:=(b::r).length+1) (by omega),nM,yaa h1,yaa (by omega),yaa h4,h]
 show(nM _ _ true).map _=_
 rw[Qr (by rw[ydj,ybn];omega)]
def zb7  {e:Nat} (h1:b≠10)(h2:b≠32)(h3:b≠9)(h4:b≠35)(h:xF (b::r)=.bad e):dK (b::r) o=none:=by
 unfold dK;rw[nM,yaa h1,yaa (by omega),yaa h4,h]
def UH{M:List Nat->Prop}(h0:M [])(h1:∀r,M r->M (10::r))(h2:∀b r,b=32\/b=9->M r->M (b::r))
  (h3:∀r,M ((35::r).drop (sD (fun x=>decide (x≠10)) (35::r)).length)->M (35::r))
  (h4:∀b r kd w,xF (b::r)=.tok kd w->M ((b::r).drop w.length)->M (b::r))
  (h5:∀b r e,b≠10->b≠32->b≠9->b≠35->xF (b::r)=.bad e->M (b::r)):∀s,M s:=by
 have key:∀(n:Nat) (s:List Nat),s.length<=n->M s:=by
  intro n;induction n with
  | zero=>
   intro s hs;have:s=[]:=ycc.1 (by omega)
   subst this;exact h0
  | succ n ih=>
   intro s hs
   cases s with
   | nil=>exact h0
   | cons b r=>
    simp only[ybn]at hs;by_cases a1:b=10
    ·subst a1;exact h1 r (ih r (by omega))
    by_cases a2:b=32\/b=9
    ·exact h2 b r a2 (ih r (by omega))
    by_cases a3:b=35
    ·subst a3
     refine h3 r (ih _ ?_)
     have:0<(sD (fun x=>decide (x≠10)) (35::r)).length:=by unfold sD;rw[List.takeWhile_cons];simp
     rw[ydj,ybn];omega
    cases ht:xF (b::r)with
    | bad e=>exact h5 b r e a1 (by omega) (by omega) a3 ht
    | tok kd w=>
     refine h4 b r kd w ht (ih _ ?_)
     have:=(lY ht).1
     rw[ydj,ybn];omega
 exact fun s=>key _ s (ybk _)
def vM:Bool->List pN->List Nat
 | _,[]=>[]
 | o,t::l=>if t.1=5 then 10::vM false l else(if o=true then 32::t.2 else t.2)++vM true l
def Qu:∀(l:List lB) (o:Bool),aH o l=vM o (l.map kt):=by
 intro l;induction l with
 | nil=>intro o;rfl
 | cons t l ih=>intro o;rw[aH,ycm,vM,ih,ih];rfl
def gQ:Bool->List pN->Prop
 | _,[]=>True
 | o,t::l=>if t.1=5 then o=true/\t.2=[]/\gQ false l else xF t.2=.tok t.1 t.2/\gQ true l
def zO:Bool->List pN->Bool
 | o,[]=>o
 | _,t::l=>zO (!decide (t.1=5)) l
def UX{l:List pN}(h:gQ true l):jY (vM true l):=by
 intro c r e
 cases l with
 | nil=>cases e
 | cons t l=>
  rw[vM]at e;split at e
  ·cases e;exact .inl rfl
  ·rw[yab rfl]at e;cases e;exact .inr rfl
def GS:∀(l:List pN) (o:Bool),gQ o l->dK (vM o l) o=some (l++if zO o l=true then [(5,[])]else []):=by
 intro l;induction l with
 | nil=>intro o _;rfl
 | cons t l ih=>
  intro o h;obtain⟨k,w⟩:=t
  rw[gQ]at h;rw[vM];by_cases h5:k=5
  ·rw[yab h5]at h ⊢
   obtain⟨rfl,h2,h3⟩:=h
   have h2:w=[]:=h2
   subst h5 h2
   rw[GR,ih _ h3];rfl
  ·rw[yaa h5]at h ⊢
   obtain⟨h1,h2⟩:=h
   have h1:xF w=.tok k w:=h1
   have hs:=OT h1 (UX h2)
   have hlen:=(lY h1).1
   obtain⟨b,w',rfl⟩:∃b w',w=b::w':=by cases w with | nil=>cases hlen | cons b w'=>exact⟨b,w',rfl⟩
   have key:dK ((b::w')++vM true l) o=some ((k,b::w')::l++if zO true l=true then [(5,[])]else []):=by
    have hs:xF (b::(w'++vM true l))=.tok k (b::w'):=hs
    rw[List.cons_append,GQ hs,<- List.cons_append,zct,ih _ h2];rfl
   have he:zO o ((k,b::w')::l)=zO true l:=by rw[zO];simp[h5]
   rw[he]
   cases o with
   | true=>
    show dK (32::((b::w')++vM true l)) true=_
    rw[GU (.inl rfl)];exact key
   | false=>exact key
def UI:∀(s:List Nat) (o:Bool) (l:List pN),dK s o=some l->gQ o l/\zO o l=false/\(vM o l).length<=2*s.length+(if o=true then 1 else 0)/\(∀t∈l,∀b∈t.2,b∈s)/\l.length<=2*s.length+(if o=true then 1 else 0):=by
 refine UH ?_ ?_ ?_ ?_ ?_ ?_
 ·intro o l h
  rw[zb5]at h
  cases h
  cases o
  ·exact⟨trivial,rfl,by simp[vM],by simp,by simp⟩
  ·exact⟨⟨rfl,rfl,trivial⟩,rfl,by simp[vM],by simp,by simp⟩
 ·intro r ih o l h
  rw[GR]at h
  cases hr:dK r false with
  | none=>rw[hr]at h;cases h
  | some m=>
   rw[hr]at h;obtain⟨g1,g2,g3,g4,g5⟩:=ih false m hr
   cases o with
   | false=>
    cases h;exact⟨g1,g2,by simp at g3 ⊢;omega,fun t ht b hb=>ybr _ (g4 t ht b hb),by simp at g5 ⊢;omega⟩
   | true=>
    cases h;refine⟨⟨rfl,rfl,g1⟩,g2,?_,fun t ht b hb=>?_,by simp at g5 ⊢;omega⟩
    ·show(10::vM false m).length<=_
     simp at g3 ⊢;omega
    ·rcases ybs.1 ht with rfl | ht
     ·cases hb
     ·exact ybr _ (g4 t ht b hb)
 ·intro c r hc ih o l h
  rw[GU hc]at h;obtain⟨g1,g2,g3,g4,g5⟩:=ih o l h
  exact⟨g1,g2,by simp;omega,fun t ht b hb=>ybr _ (g4 t ht b hb),by simp;omega⟩
 ·intro r ih o l h
  rw[zb6]at h;obtain⟨g1,g2,g3,g4,g5⟩:=ih o l h
  rw[ydj]at g3 g5;exact⟨g1,g2,by omega,fun t ht b hb=>List.mem_of_mem_drop (g4 t ht b hb),by omega⟩
 ·intro c r kd w ht ih o l h
  rw[GQ ht]at h
  cases hr:dK ((c::r).drop w.length) true with
  | none=>rw[hr]at h;cases h
  | some m=>
   rw[hr]at h
   cases h;obtain⟨g1,g2,g3,g4,g5⟩:=ih true m hr
   obtain⟨f1,_,_,f5⟩:=lY ht
   obtain⟨r',hr'⟩:=zgq ht
   have hl:w.length<=(c::r).length:=by rw[hr'];simp
   rw[ydj]at g3 g5;simp only[if_true]at g3 g5;refine⟨by rw[gQ,yaa f5];exact⟨BP ht,g1⟩,by rw[zO];simpa[f5]using g2,?_,fun t ht' b hb=>?_,?_⟩
   ·rw[vM,yaa f5]
    cases o<;>simp<;>simp only[ybn]at *<;>omega
   ·rcases ybs.1 ht' with rfl | ht'
    ·rw[hr'];exact ydc _ hb
    ·exact List.mem_of_mem_drop (g4 t ht' b hb)
   ·cases o<;>simp<;>simp only[ybn]at *<;>omega
 ·intro c r e a1 a2 a3 a4 ht o l h
  rw[zb7 a1 a2 a3 a4 ht]at h;cases h
def Yp:∀ {l:List pN} {o:Bool},gQ o l->∀x∈l,x.1≠5->xF x.2=.tok x.1 x.2
 | [],_,_,x,hx,_=>by cases hx
 | t::l,o,h,x,hx,h5=>by
  rw[gQ]at h;rcases ybs.1 hx with rfl | hx
  ·rw[yaa h5]at h;exact h.1
  ·split at h
   ·exact Yp h.2.2 x hx h5
   ·exact Yp h.2 x hx h5
def GX(s:List Nat):ktR (Bv s)=dK s false:=zh9 _ _ _ _ _
def GW {l:List pN}(h:dK s false=some l):∃m,Bv s=.ok m/\m.map kt=l:=by
 have e:=GX s
 rw[h]at e
 cases hl:Bv s with
 | ok m=>rw[hl]at e;exact⟨m,rfl,yci e⟩
 | er a b c=>rw[hl]at e;cases e
def zh8 {m:List lB}(h:Bv s=.ok m):dK s false=some (m.map kt):=by rw[<- GX,h];rfl
end
section
structure Cg (tk tk':List lB):Prop where
 acc:acc tk=acc tk'
 kind:bC tk=bC tk'
 text:lE tk=lE tk'
 len:tk.length=tk'.length
end
section
variable {n n':Nat}{α:Type}{p:wE}
def VP.same(tk:List lB):VP:=⟨tk,tk,0,tk.length,False,False,0⟩
def zbt{tk:List lB}{w:List Nat} (h:tk.length<=n):acc tk w n=false:=by unfold acc;rw[List.getElem?_eq_none h]
def GA{tk:List lB}{q:Nat}(h:tk.length<=n):bC tk q n=false:=by unfold bC;rw[List.getElem?_eq_none h]
theorem VW.same{tk:List lB}(hg:∀x∈tk,dT x):VW (VP.same tk) where
 acc:=fun _ _ _ _=>rfl
 kind:=fun _ _ _ _=>rfl
 text:=fun _ _ _=>rfl
 qacc:=fun w _=>zbt (ybk _)
 qkind:=fun q _=>GA (ybk _)
 qname:=by
  have:=GA (tk:=tk) (q:=1) (ybk _)
  unfold bK;exact(congrArg (· && _) this).trans rfl
 full:=fun h=>h.elim
 good:=hg
section
variable {tk:List lB}(hg:∀x∈tk,dT x)
include hg
def oY {V:α->Prop}{f:PM α}(h:VW (VP.same tk)->qB (VP.same tk) True V f f) {a:α}(hr:f n=.ok a n'):n<=n'/\NE tk n n'/\V a:=by
 have:=((h (VW.same hg)).ra trivial n (yaw _)).mo
 rw[hr]at this;exact this
def Zg {V:α->Prop}{f:PM α}(h:VW (VP.same tk)->qB (VP.same tk) True V f f){i e:Nat}(hr:f n=.er e i):n<=i/\NE tk n i/\(e=120\/e=121\/e=122):=by
 have:=((h (VW.same hg)).ra trivial n (yaw _)).mo
 rw[hr]at this;exact this
structure PBd (p:wE) (n:Nat):Prop where
 defs:p.defs.length<=n
 tables:p.tables.length<=n
 clauses:p.clauses.length<=n
 rows:∀x∈p.tables,x.rows.length<=n/\∀r∈x.rows,gH.cpy r.f
 exprs:∀x∈p.clauses,dF.cpy x
omit hg in
theorem PBd.mono  (h:PBd p n)(hn:n<=n'):PBd p n':=
 ⟨by have:=h.defs;omega,by have:=h.tables;omega,by have:=h.clauses;omega,fun x hx=>⟨by have:=(h.rows x hx).1;omega,(h.rows x hx).2⟩,h.exprs⟩
def zh5{p':wE} (h:PBd p n)(hr:jP tk p n=.ok p' n'):n<n'/\PBd p' n':=by
 unfold jP at hr;split at hr
 ·obtain⟨d,n1,h1,h2⟩:=PR.bind_inv hr
  have:=(oY hg (fun hv=>Rw hv) h1).1
  cases h2;have k:=h.mono (n':=n') (by omega)
  exact⟨by omega,by have:=h.defs;simp;omega,k.tables,k.clauses,k.rows,k.exprs⟩
 split at hr
 ·obtain⟨d,n1,h1,h2⟩:=PR.bind_inv hr
  have:=(oY hg (fun hv=>Rw hv) h1).1
  cases h2;have k:=h.mono (n':=n') (by omega)
  exact⟨by omega,by have:=h.defs;simp;omega,k.tables,k.clauses,k.rows,k.exprs⟩
 split at hr
 ·obtain⟨d,n1,h1,h2⟩:=PR.bind_inv hr
  have hd:=oY hg (fun hv=>BU hv) h1
  cases h2;have k:=h.mono (n':=n') (by omega)
  refine⟨by omega,k.defs,by have:=h.tables;simp;omega,k.clauses,fun x hx=>?_,k.exprs⟩
  rcases yaf.1 hx with hx | hx
  ·exact k.rows x hx
  ·simp at hx;subst hx
   have h0:x.rows=[]:=hd.2.2
   rw[h0];exact⟨by simp,by simp⟩
 split at hr
 ·rename_i hrow
  simp only[ybb,ycp,List.isEmpty_eq_false_iff]at hrow;obtain⟨d,n1,h1,h2⟩:=PR.bind_inv hr
  have hd:=oY hg (fun hv=>ED hv) h1
  cases h2;have k:=h.mono (n':=n') (by omega)
  obtain⟨A,x,hA⟩:∃A x,p.tables=A++[x]:=⟨p.tables.dropLast,p.tables.getLast hrow.1,(List.dropLast_concat_getLast hrow.1).symm⟩
  have e:nT p.tables d=A++[⟨x.name,x.two,x.rows++[d]⟩]:=by rw[hA];simp[nT]
  refine⟨by omega,k.defs,?_,k.clauses,fun y hy=>?_,k.exprs⟩
  ·show(nT p.tables d).length<=n'
   have:=k.tables
   rw[e];rw[hA]at this;simpa using this
  ·have hy:y∈nT p.tables d:=hy
   rw[e]at hy;rcases yaf.1 hy with hy | hy
   ·exact k.rows y (by rw[hA];simp[hy])
   ·simp at hy;subst hy
    have hx:=h.rows x (by rw[hA];simp)
    refine⟨by have:=hx.1;simp;omega,fun r hr=>?_⟩
    rcases yaf.1 hr with hr | hr
    ·exact hx.2 r hr
    ·simp at hr;subst hr;exact hd.2.2
 split at hr
 ·obtain⟨d,n1,h1,h2⟩:=PR.bind_inv hr
  have hd:=oY hg (fun hv=>LV hv) h1
  cases h2;have k:=h.mono (n':=n') (by omega)
  refine⟨by omega,k.defs,k.tables,by have:=h.clauses;simp;omega,k.rows,fun x hx=>?_⟩
  rcases yaf.1 hx with hx | hx
  ·exact k.exprs x hx
  ·simp at hx;subst hx;exact hd.2.2
 ·cases hr
def zb1:∀(m:Nat) (p p':wE) (n n':Nat),PBd p n->n<=tk.length->eK tk m p n=.ok p' n'->n'<=tk.length/\PBd p' n':=by
 intro m;induction m with
 | zero=>intro p p' n n' h hn hr;cases hr;exact⟨hn,h⟩
 | succ m ih=>
  intro p p' n n' h hn hr;unfold eK at hr;split at hr
  ·obtain⟨q,n1,h1,h2⟩:=PR.bind_inv hr
   obtain⟨w,n2,h3,h4⟩:=PR.bind_inv h2
   obtain⟨k1,k2⟩:=zh5 hg h h1
   have h5:n2<=tk.length/\n1<=n2:=by
    unfold aC at h3;split at h3
    ·rename_i hk
     cases h3;unfold bC at hk
     cases hx:tk[n1]? with
     | none=>rw[hx]at hk;cases hk
     | some t=>have:=(ybc.1 hx).1;omega
    ·cases h3
   exact ih _ _ _ _ (k2.mono h5.2) h5.1 h4
  ·cases hr;exact⟨hn,h⟩
def zas(hl:tk.length<300000)  (h:rG tk=.ok p n):wE.cpy p:=by
 unfold rG at h;obtain⟨u,n1,h1,h2⟩:=PR.bind_inv h
 obtain⟨w,n2,h3,h4⟩:=PR.bind_inv h2
 obtain⟨v,n3,h5,h6⟩:=PR.bind_inv h4
 have h7:n3<=tk.length:=by
  unfold aC at h5;split at h5
  ·rename_i hk
   cases h5;unfold bC at hk
   cases hx:tk[n2]? with
   | none=>rw[hx]at hk;cases hk
   | some t=>have:=(ybc.1 hx).1;omega
  ·cases h5
 obtain⟨k1,k2⟩:=zb1 hg _ _ _ _ _ ⟨by simp,by simp,by simp,by simp,by simp⟩ h7 h6
 exact⟨by have:=k2.defs;omega,by have:=k2.tables;omega,by have:=k2.clauses;omega,fun x hx=>⟨by have:=(k2.rows x hx).1;omega,(k2.rows x hx).2⟩,k2.exprs⟩
end
end
section
variable [gC]
def RP.err{α:Type}:RP α->Nat | .ok _=>0 | .er e _ _=>e
def RP.pl{α:Type}:RP α->Nat × Nat | .ok _=>(0,0) | .er _ a b=>(a,b)
def RP.val{α:Type}(z:α):RP α->α | .ok x=>x | .er _ _ _=>z
def oP (p:Nat × Nat):List zA:=[.int .i64 (p.1:Int),.int .i64 (p.2:Int)]
def Aa:wE:=⟨[],[],[],[]⟩
def Xe{t:Tr vA}{sz:Nat}:bA t sz [] .nilslice:=⟨[],.inl ⟨rfl,rfl⟩,sF.2 rfl⟩
def Zk{t:Tr vA}:RD t Aa.d zP:=
 kJ.2 ⟨[[.str []],[.nilslice],[.nilslice],[.nilslice]],rfl,yD.2 ⟨_,_,rfl,mK.2 rfl,yD.2 ⟨_,_,rfl,xP.2 ⟨_,rfl,Xe⟩,yD.2 ⟨_,_,rfl,xP.2 ⟨_,rfl,Xe⟩,yD.2 ⟨_,_,rfl,xP.2 ⟨_,rfl,Xe⟩,sF.2 rfl⟩⟩⟩⟩⟩
def agPl{p:Nat × Nat}:xK bM (.agg (oP p))=some (cellsOf (oP p)):=cQ rfl
section
variable {t:Tr vA}{Q:pB}{s:List Nat}{J:eE}
def FB{K:jG->jG->Int->T}(hg:kK t)(hby:∀b∈s,b<256)
  (hQ:∀t' cs,aA t t'->RD t' ((bL rG s).val Aa).d cs->pA yA.base (Wq yA F qC) J (K (cellsOf cs) (cellsOf (oP (bL rG s).pl)) ((bL rG s).err:Int)) t' Q) :
  pA yA.base (Wq yA F qC) J (.call 10 [.str s] fun a=>.opt (uX 0 a)<|uG Fw fun X2=>.opt (uX 1 a)<|uG bM fun X=>.opt (uX 2 a)<|uI fun n=>.ite (tF (uM3 X2)) (.ite true (K X2 X n) .fail) .fail) t Q:=by
 refine yB ?_
 rw[q10];refine zho hg hby ?_
 have key:∀t' cs,aA t t'->RD t' ((bL rG s).val Aa).d cs->pA yA.base (Wq yA F qC) J (.opt (uX 0 (.tup [.agg cs,.agg (oP (bL rG s).pl),.int .i64 ((bL rG s).err:Int)]))<|uG Fw fun X2=>.opt (uX 1 (.tup [.agg cs,.agg (oP (bL rG s).pl),.int .i64 ((bL rG s).err:Int)]))<|uG bM fun X=>.opt (uX 2 (.tup [.agg cs,.agg (oP (bL rG s).pl),.int .i64 ((bL rG s).err:Int)]))<|uI fun n=>.ite (tF (uM3 X2)) (.ite true (K X2 X n) .fail) .fail) t' Q:=by
  intro t' cs k1 k2;have hc:uM3 (cellsOf cs)=cs:=Fj k2
  refine oA (v:=.agg cs) rfl (fC (agP k2) (oA (v:=.agg (oP (bL rG s).pl)) rfl (fC agPl (oA (v:=.int .i64 ((bL rG s).err:Int)) rfl (sB (sA ?_ (sA rfl (hQ t' cs k1 k2))))))))
  show aB zA.one (uM3 (cellsOf cs))=true
  rw[hc];obtain⟨a,b,c,rfl,_⟩:=Dy k2;exact k2.all
 cases hr:bL rG s with
 | ok x=>rw[hr]at key;exact fun t' cs k1 k2=>key t' cs k1 k2
 | er e a b=>rw[hr]at key;exact fun t' k1=>key t' zP k1 Zk
def GV{K:zA->jG->Int->T}(hg:kK t)(hby:∀b∈s,b<256)
  (hok:∀m,xJ s=.ok m->∀t' v,aA t t'->bA t' 4 (m.map lB.d) v->pA yA.base (Wq yA F qC) J (K v (cellsOf (oP (0,0))) 0) t' Q)
  (her:∀e a b,xJ s=.er e a b->∀t',aA t t'->pA yA.base (Wq yA F qC) J (K .nilslice (cellsOf (oP (a,b))) (e:Int)) t' Q) :
  pA yA.base (Wq yA F qC) J (.call 22 [.str s] fun a2=>.opt (uX 0 a2) fun a3=>.opt (uX 1 a2)<|uG bM fun X=>.opt (uX 2 a2)<|uI fun n7=>.ite true (K a3 X n7) .fail) t Q:=by
 refine yB ?_
 rw[q22];refine zeq hg hby ?_
 cases hr:xJ s with
 | ok m=>exact fun t' v k1 k2=>oA (v:=v) rfl (oA (v:=.agg (oP (0,0))) rfl (fC agPl (oA (v:=.int .i64 0) rfl (sB (sA rfl (hok m hr t' v k1 k2))))))
 | er e a b=>exact fun t' k1=>oA (v:=.nilslice) rfl (oA (v:=.agg (oP (a,b))) rfl (fC agPl (oA (v:=.int .i64 (e:Int)) rfl (sB (sA rfl (her e a b hr t' k1))))))
def zde{K:T}(k:pA yA.base (Wq yA F qC) J K t Q):pA yA.base (Wq yA F qC) J (.call 9 []<|uB fun b=>.ite (!b) tC K) t Q:=by
 refine yB ?_
 have h9:sC yA F 9 [] t=some (.bool true):=Kq (g:=Pn) (by kernel_rfl) fun H=>rfl
 rw[q9,h9,qA];exact pD (tB (by decide) k)
def DT{K:zA->T}{p:wE}{cs ds:List zA}(hp:wE.cpy p)(h:RD t p.d cs)(h2:RD t p.d ds)(k:pA yA.base (Wq yA F qC) J (K (.bool true)) t Q):pA yA.base (Wq yA F qC) J (.call 12 [.agg cs,.agg ds] K) t Q:=by
 refine yB ?_
 rw[q12,sam47 hp h h2,qA];exact k
end
def Qq{s:List Nat}(h:s.length<=65536):xJ s=Bv s:=by unfold xJ;rw[yaa (by omega)]
def zev{s:List Nat}{m:List lB}(hs:s.length<=3000)(hby:∀b∈s,b<256)(h:xJ s=.ok m) :
  (aH false m).length<=6000/\(∀x∈m,∀b∈x.text,b<256)/\gQ false (m.map kt)/\zO false (m.map kt)=false/\m.length<=6000/\∃m',xJ (aH false m)=.ok m'/\m'.map kt=m.map kt:=by
 rw[Qq (by omega)]at h
 have h1:=zh8 h
 obtain⟨g1,g2,g3,g4,g5⟩:=UI _ _ _ h1
 rw[<- Qu]at g3;simp only[ybq,if_false]at g3 g5;have h2:=GS _ _ g1
 rw[g2,yaa (by simp),ycd,<- Qu]at h2
 obtain⟨m',k1,k2⟩:=GW h2
 rw[ybf]at g5;exact⟨by omega,fun x hx b hb=>hby b (g4 (kt x) (List.mem_map_of_mem hx) b hb),g1,g2,by omega,m',by rw[Qq (by omega)];exact k1,k2⟩
def Ye:∀ {l:List lB} {o:Bool},(∀x∈l,∀b∈x.text,b<256)->∀b∈aH o l,b<256
 | [],_,_,b,hb=>by cases hb
 | t::l,o,h,b,hb=>by
  rw[aH]at hb;split at hb
  ·rcases ybs.1 hb with rfl | hb
   ·omega
   ·exact Ye (fun x hx=>h x (by simp[hx])) b hb
  ·rcases yaf.1 hb with hb | hb
   ·split at hb
    ·rcases ybs.1 hb with rfl | hb
     ·omega
     ·exact h t (by simp) b hb
    ·exact h t (by simp) b hb
   ·exact Ye (fun x hx=>h x (by simp[hx])) b hb
def EA{s:List Nat}:wE.cpy ((bL rG s).val Aa):=by
 have z:wE.cpy Aa:=⟨by decide,by decide,by decide,fun x hx=>(by cases hx),fun x hx=>(by cases hx)⟩
 cases hl:xJ s with
 | er e a b=>rw[Vr hl];exact z
 | ok m=>
  obtain⟨_,h1,h2⟩:=Qp hl
  rw[Pd hl]
  cases hr:rG m with
  | ok x n=>exact zas h2 (by omega) hr
  | er e i=>exact z
end
section
variable [gC]
def ll_le{s:List Nat}{n:Nat}:(cB (n:Int) (Int.ofNat (zB s))=true) ↔ n<s.length:=by
 rw[vG,oD];show(n:Int)<((s.length:Nat):Int) ↔ _
 omega
end
section
def UY:∀(l l':List pN) (o:Bool),vM o (l++l')=vM o l++vM (zO o l) l':=by
 intro l;induction l with
 | nil=>intro l' o;rfl
 | cons t l ih=>
  intro l' o;rw[List.cons_append,vM,vM,zO,ih,ih];by_cases h5:t.1=5
  ·rw[yab h5,yab h5,h5];rfl
  ·rw[yaa h5,yaa h5,decide_eq_false h5,ybz];rfl
def inLine(l:List pN):Prop:=l≠[]/\∀t∈l,t.1≠5/\xF t.2=.tok t.1 t.2
structure Ex (m:List lB) (u:List pN) (x:cA):Prop where
 toks:m.map kt=u++[(5,[])]
 line:inLine u
 good:∀t∈m,dT t
 ok:rW m 0=.ok x u.length
end
section
variable {m T:List lB}{u:List pN}{x:cA}
abbrev startX(x:cA):cA:=jW 7 (.mk 26 [] ⟨0,xH,(0:Nat)⟩ [x]) (Rz ⟨2,tI [49] false,0⟩)
end
section
variable [gC]
section
variable {t:Tr vA}{Q:pB}{s:List Nat}{J:eE}{W:eE}
def JT{m:List lB}{v:zA}{n:Nat}{K:zA->T}(hv:bA t 4 (m.map lB.d) v)(hn:n<=m.length)(k:∀v',bA t 4 ((m.take n).map lB.d) v'->pA yA.base W J (K v') t Q) :
  pA yA.base W J (.light (fun m=>uF yA 66 ⟨0,m⟩ v none (some (.int .i64 (n:Int)))) K) t Q:=by
 obtain⟨v',h1,h2⟩:=sl66.front hv (k:=n) (by rw[ybf];exact hn)
 refine vC h1 (k v' ?_)
 rw[List.map_take];exact h2
end
end
section
variable {e i:Nat}{tk2:List lB}
def Xv:∀(l:List pN) (o:Bool),zO o l=false->l≠[]->∃w,l[l.length-1]?=some (5,w):=by
 intro l;induction l with
 | nil=>intro o _ h;exact absurd rfl h
 | cons t l ih=>
  intro o h _;rw[zO]at h
  cases l with
  | nil=>
   obtain⟨k,w⟩:=t
   refine⟨w,?_⟩
   have:k=5:=by simpa[zO]using h
   subst this;rfl
  | cons y l=>
   obtain⟨w,hw⟩:=ih _ h (by simp)
   exact⟨w,by simpa using hw⟩
section
variable {m:List lB}(hg:∀x∈m,dT x)(he:bC m 5 (m.length-1)=true)
include he
def Qb{n:Nat}(hn:n<m.length)(h:NE m n i):i<m.length:=by
 apply Nat.lt_of_not_le
 intro hi;have:=h (m.length-1) (by omega) (by omega)
 rw[he]at this;cases this
include hg
def Xn:∀(f:Nat) (p:wE) (n e i:Nat),eK m f p n=.er e i->n<=i/\i<m.length/\(e=120\/e=121\/e=122):=by
 intro f;induction f with
 | zero=>intro p n e i h;cases h
 | succ f ih=>
  intro p n e i h;unfold eK at h;split at h
  ·rename_i hn
   cases h1:jP m p n with
   | er e' i'=>
    rw[h1]at h
    cases h;obtain⟨k1,k2,k3⟩:=Zg hg (fun hv=>Lh hv) h1
    exact⟨k1,Qb he hn k2,k3⟩
   | ok p1 n1=>
    rw[h1]at h;obtain⟨k1,k2,_⟩:=oY hg (fun hv=>Lh hv) h1
    change (aC m 5 n1).bind _=_ at h
    cases h2:aC m 5 n1 with
    | er e' i'=>
     rw[h2]at h
     cases h;unfold aC at h2;split at h2<;>cases h2
     exact⟨k1,Qb he hn k2,.inl rfl⟩
    | ok w n2=>
     rw[h2]at h;have:=Tu h2
     obtain⟨k4,k5,k6⟩:=ih _ _ _ _ h
     exact⟨by omega,k5,k6⟩
  ·cases h
def BN (hm:m≠[])(h:rG m=.er e i):i<m.length/\(e=120\/e=121\/e=122):=by
 have h0:0<m.length:=List.length_pos_iff.2 hm
 unfold rG at h
 cases h1:aD m Nr 0 with
 | er e' i'=>
  rw[h1]at h;cases h;unfold aD at h1;split at h1<;>cases h1
  exact⟨h0,.inl rfl⟩
 | ok u n1=>
  rw[h1]at h;obtain⟨k1,k2,_⟩:=oY hg (fun hv=>gP hv) h1
  change (kH m n1).bind _=_ at h
  cases h2:kH m n1 with
  | er e' i'=>
   rw[h2]at h;cases h;obtain⟨k3,k4,k5⟩:=Zg hg (fun hv=>Bp hv) h2
   exact⟨Qb he h0 (k2.join k4),k5⟩
  | ok w n2=>
   rw[h2]at h;obtain⟨k3,k4,_⟩:=oY hg (fun hv=>Bp hv) h2
   change (aC m 5 n2).bind _=_ at h
   cases h3:aC m 5 n2 with
   | er e' i'=>
    rw[h3]at h;cases h;unfold aC at h3;split at h3<;>cases h3
    exact⟨Qb he h0 (k2.join k4),.inl rfl⟩
   | ok v n3=>
    rw[h3]at h;exact(Xn hg he _ _ _ _ _ h).2
structure Cut (m tk2:List lB) (i:Nat):Prop where
 acc:∀j,j<i->∀w,Proofs.acc tk2 w j=Proofs.acc m w j
 kind:∀j,j<i->∀q,bC tk2 q j=bC m q j
 text:∀j,j<i->lE tk2 j=lE m j
 qacc:∀w,Proofs.acc tk2 w i=false
 qkind:∀q,q≠5->bC tk2 q i=false
 fin:(tk2.length=i+1/\bC tk2 5 i=true)\/(tk2.length=i/\(i=0\/bC m 5 (i-1)=true))
omit he in
def Cut.vw  (h:Cut m tk2 i):VW ⟨m,tk2,0,i,True,False,0⟩ where
 acc:=fun j _ hj=>h.acc j hj
 kind:=fun j _ hj=>h.kind j hj
 text:=fun j _ hj=>h.text j hj
 qacc:=fun w _=>h.qacc w
 qkind:=fun q hq=>h.qkind q (by omega)
 qname:=by
  have:=h.qkind 1 (by decide)
  unfold bK;exact(congrArg (· && _) this).trans rfl
 full:=fun _=>⟨fun h=>h,h.qacc,h.qkind⟩
 good:=hg
def Fine {α:Type}(tk2:List lB)(r:PR α):Prop:=(∃a n,r=.ok a n)\/∃e i,r=.er e i/\(e=120\/e=122)/\i+1=tk2.length
def UE  (h:Cut m tk2 i):∀(f f2:Nat) (p:wE) (n e:Nat),n<=i->tk2.length<=n+f2->eK m f p n=.er e i->Fine tk2 (eK tk2 f2 p n):=by
 have hv:=h.vw hg
 have stop:∀(f2:Nat) (p:wE) (n:Nat),tk2.length<=n->Fine tk2 (eK tk2 f2 p n):=by
  intro f2 p n hn;refine .inl ⟨p,n,?_⟩
  cases f2 with
  | zero=>rfl
  | succ f2=>rw[eK,yaa (by omega)]
 intro f;induction f with
 | zero=>intro f2 p n e _ _ hr;cases hr
 | succ f ih=>
  intro f2 p n e hn hf hr;unfold eK at hr;split at hr
  case isFalse=>cases hr
  by_cases hn2:tk2.length<=n
  ·exact stop f2 p n hn2
  obtain⟨f3,rfl⟩:∃f3,f2=f3+1:=⟨f2-1,by omega⟩
  have hra:=(Lh (H:=True) hv (p:=p)).ra trivial n (yaw _)
  have hgo:∀r2,jP tk2 p n=r2->eK tk2 (f3+1) p n=r2.bind fun p n1=>(aC tk2 5 n1).bind fun _ n2=>eK tk2 f3 p n2:=fun r2 h=>by rw[eK,yab (by omega),h]
  have noend:NE m n i->tk2.length=i+1/\bC tk2 5 i=true:=by
   intro hne;rcases h.fin with hf | ⟨hl,h0 | h5⟩
   ·exact hf
   ·omega
   ·have:=hne (i-1) (by omega) (by omega)
    rw[h5]at this;cases this
  cases h1:jP m p n with
  | er e' i'=>
   rw[h1]at hr
   cases hr;obtain⟨_,k2,_⟩:=Zg hg (fun hv=>Lh hv) h1
   obtain⟨q1,q2⟩:=noend k2
   have hrr:vO i (jP tk2 p n):=hra.er hn trivial e h1
   cases h2:jP tk2 p n with
   | er e2 i2=>
    rw[h2]at hrr;obtain⟨rfl,he2⟩:=hrr
    rw[hgo _ h2];exact .inr ⟨e2,i2,rfl,he2,q1.symm⟩
   | ok p2 n2=>
    rw[h2]at hrr;have hrr:n2=i:=hrr
    subst hrr;rw[hgo _ h2];have ht:aC tk2 5 n2=.ok (lE tk2 n2) (n2+1):=by unfold aC;rw[q2,yab rfl]
    show Fine tk2 ((aC tk2 5 n2).bind _)
    rw[ht];exact stop f3 p2 (n2+1) (by omega)
  | ok p1 n1=>
   rw[h1]at hr;obtain⟨k1,k2,_⟩:=oY hg (fun hv=>Lh hv) h1
   change (aC m 5 n1).bind _=_ at hr
   have same:n1<=i->jP tk2 p n=.ok p1 n1:=fun hn1=>by
    rcases hra.ok hn p1 n1 h1 hn1 with e | ⟨e,_⟩
    ·exact e
    ·exact e.elim
   cases h2:aC m 5 n1 with
   | er e' i'=>
    rw[h2]at hr
    cases hr;unfold aC at h2;split at h2<;>cases h2
    obtain⟨q1,q2⟩:=noend k2
    rw[hgo _ (same (ybk _))]
    have ht:aC tk2 5 i=.ok (lE tk2 i) (i+1):=by unfold aC;rw[q2,yab rfl]
    show Fine tk2 ((aC tk2 5 i).bind _)
    rw[ht];exact stop f3 p1 (i+1) (by omega)
   | ok w n2=>
    rw[h2]at hr;obtain⟨k3,_,_⟩:=Xn hg he _ _ _ _ _ hr
    have hk5:bC m 5 n1=true/\n2=n1+1:=by
     unfold aC at h2;split at h2
     ·cases h2;exact⟨by assumption,rfl⟩
     ·cases h2
    have ht:aC tk2 5 n1=.ok (lE tk2 n1) (n1+1):=by unfold aC;rw[h.kind n1 (by omega),hk5.1,yab rfl]
    rw[hgo _ (same (by omega))]
    show Fine tk2 ((aC tk2 5 n1).bind _)
    rw[ht];have:=ih f3 p1 n2 e k3 (by omega) hr
    rw[hk5.2]at this;exact this
def zgo  (h:Cut m tk2 i)(hr:rG m=.er e i):(tk2=[]/\∃j,rG tk2=.er 120 j)\/Fine tk2 (rG tk2):=by
 have hnil:i=0->tk2=[]->∃j,rG tk2=.er 120 j:=fun _ h2=>by subst h2;exact⟨0,rfl⟩
 have fin1:i≠0->NE m 0 i->tk2.length=i+1/\bC tk2 5 i=true:=by
  intro hi hne;rcases h.fin with hf | ⟨hl,h0 | h5⟩
  ·exact hf
  ·omega
  ·have:=hne (i-1) (by omega) (by omega)
   rw[h5]at this;cases this
 unfold rG at hr
 cases h1:aD m Nr 0 with
 | er e' i'=>
  rw[h1]at hr;cases hr;unfold aD at h1;split at h1<;>cases h1
  rcases h.fin with⟨hl,_⟩ | ⟨hl,_⟩
  ·refine .inr (.inr ⟨120,0,?_,.inl rfl,by omega⟩)
   unfold rG aD;rw[h.qacc,yaa (by simp)];rfl
  ·have:=ycc.1 hl
   exact .inl ⟨this,hnil rfl this⟩
 | ok u n1=>
  rw[h1]at hr;have hn1:acc m Nr 0=true/\n1=1:=by
   unfold aD at h1;split at h1
   ·cases h1;exact⟨by assumption,rfl⟩
   ·cases h1
  obtain⟨ha,rfl⟩:=hn1
  have ne1:NE m 0 1:=NE.one (Cr ha)
  change (kH m 1).bind _=_ at hr
  right
  have head:1<=i->rG tk2=(kH tk2 1).bind fun w n2=>(aC tk2 5 n2).bind fun _ n3=>eK tk2 tk2.length ⟨w,[],[],[]⟩ n3:=fun hi=>by
   unfold rG aD;rw[h.acc 0 (by omega),ha,yab rfl];rfl
  cases h2:kH m 1 with
  | er e' i'=>
   rw[h2]at hr;cases hr;unfold kH at h2;split at h2<;>cases h2
   obtain⟨q1,q2⟩:=fin1 (by omega) ne1
   refine .inr ⟨120,1,?_,.inl rfl,q1.symm⟩
   rw[head (ybk _)]
   have hq:bK tk2 1=false:=(h.vw hg).qname
   unfold kH;rw[hq,yaa (by simp)];rfl
  | ok w n2=>
   rw[h2]at hr;have hn2:bK m 1=true/\n2=2/\w=lE m 1:=by
    unfold kH at h2;split at h2
    ·cases h2;exact⟨by assumption,rfl,rfl⟩
    ·cases h2
   obtain⟨hb,rfl,rfl⟩:=hn2
   have ne2:NE m 0 2:=ne1.join (NE.one (Ls (GG hb) (by omega)))
   change (aC m 5 2).bind _=_ at hr
   have head2:2<=i->rG tk2=(aC tk2 5 2).bind fun _ n3=>eK tk2 tk2.length ⟨lE m 1,[],[],[]⟩ n3:=fun hi=>by
    rw[head (by omega)]
    have hs:=Xg (h.vw hg) (i:=1) (yaw _) (by show 1<i;omega)
    have hs:bK tk2 1=bK m 1:=hs
    unfold kH;rw[hs,hb,yab rfl,h.text 1 (by omega)];rfl
   cases h3:aC m 5 2 with
   | er e' i'=>
    rw[h3]at hr;cases hr;unfold aC at h3;split at h3<;>cases h3
    obtain⟨q1,q2⟩:=fin1 (by omega) ne2
    rw[head2 (ybk _)]
    have ht:aC tk2 5 2=.ok (lE tk2 2) 3:=by unfold aC;rw[q2,yab rfl]
    rw[ht];refine .inl ⟨⟨lE m 1,[],[],[]⟩,3,?_⟩
    show eK tk2 tk2.length _ 3=_
    rw[show tk2.length=2+1 from q1,eK,yaa (by omega)]
   | ok v n3=>
    rw[h3]at hr;have hn3:bC m 5 2=true/\n3=3:=by
     unfold aC at h3;split at h3
     ·cases h3;exact⟨by assumption,rfl⟩
     ·cases h3
    obtain⟨hc,rfl⟩:=hn3
    obtain⟨k3,_,_⟩:=Xn hg he _ _ _ _ _ hr
    rw[head2 (by omega)]
    have ht:aC tk2 5 2=.ok (lE tk2 2) 3:=by unfold aC;rw[h.kind 2 (by omega),hc,yab rfl]
    rw[ht];exact UE hg he h _ _ _ _ _ k3 (by omega) hr
end
def Gw (a b:lB):Prop:=a.line<b.line\/a.line=b.line/\a.col<b.col
def plLe (p:Nat × Nat)(b:lB):Prop:=p.1<b.line\/p.1=b.line/\p.2<=b.col
def UG:∀(k:Nat) (s:List Nat) (ln cl:Nat) (op:Option (Nat × Nat)) (l:List lB),(∀p,op=some p->p.1=ln/\p.2<=cl)->cK k s ln cl op=.ok l->(∀x∈l,plLe (op.getD (ln,cl)) x)/\l.Pairwise Gw:=by
 have close:∀(op:Option (Nat × Nat)) (ln cl:Nat) (r:LR) (l:List lB),(∀p,op=some p->p.1=ln/\p.2<=cl)->LR.close op r=.ok l->(∀l',r=.ok l'->(∀x∈l',ln<x.line)/\l'.Pairwise Gw)->(∀x∈l,plLe (op.getD (ln,cl)) x)/\l.Pairwise Gw:=by
  intro op ln cl r l hp h hr
  cases op with
  | none=>
   obtain⟨h1,h2⟩:=hr l h
   exact⟨fun x hx=>.inl (h1 x hx),h2⟩
  | some p=>
   obtain⟨l',rfl,rfl⟩:=Sa h
   obtain⟨h1,h2⟩:=hr l' rfl
   obtain⟨e1,e2⟩:=hp p rfl
   refine⟨fun x hx=>?_,List.pairwise_cons.2 ⟨fun x hx=>.inl ?_,h2⟩⟩
   ·rcases ybs.1 hx with rfl | hx
    ·exact .inr ⟨rfl,ybk _⟩
    ·exact .inl (by have:=h1 x hx;show p.1<_;omega)
   ·have:=h1 x hx
    show p.1<_;omega
 intro k;induction k with
 | zero=>intro s ln cl op l _ h;cases h;exact⟨by simp,List.Pairwise.nil⟩
 | succ k ih=>
  intro s ln cl op l hp h
  cases s with
  | nil=>exact close op ln cl _ l hp h fun l' hl=>by cases hl;exact⟨by simp,List.Pairwise.nil⟩
  | cons b r=>
   have up:∀(s':List Nat) (c:Nat),cl<=c->cK k s' ln c op=.ok l->(∀x∈l,plLe (op.getD (ln,cl)) x)/\l.Pairwise Gw:=by
    intro s' c hc h;obtain⟨h1,h2⟩:=ih _ _ _ _ _ (fun p hq=>⟨(hp p hq).1,by have:=(hp p hq).2;omega⟩) h
    refine⟨fun x hx=>?_,h2⟩
    have:=h1 x hx
    cases op with
    | some p=>exact this
    | none=>
     rcases this with h | ⟨h,h'⟩
     ·exact .inl h
     ·exact .inr ⟨h,by show cl<=x.col;have:c<=x.col:=h';omega⟩
   rw[cK]at h;split at h
   ·refine close op ln cl _ l hp h fun l' hl=>?_
    obtain⟨h1,h2⟩:=ih _ _ _ _ _ (fun p hq=>by cases hq) hl
    refine⟨fun x hx=>?_,h2⟩
    rcases h1 x hx with h | ⟨h,_⟩
    ·have:ln+1<x.line:=h;omega
    ·have:ln+1=x.line:=h;omega
   split at h
   ·exact up _ _ (by omega) h
   split at h
   ·exact up _ _ (by omega) h
   ·cases ht:xF (b::r)with
    | bad e=>rw[ht]at h;cases h
    | tok kd w=>
     rw[ht]at h;obtain⟨l',hl,rfl⟩:=Sa h
     have hw:=(lY ht).1
     obtain⟨h1,h2⟩:=ih _ _ _ _ _ (fun p hq=>by cases hq;exact⟨rfl,ybk _⟩) hl
     have h3:∀x∈l',Gw ⟨kd,w,ln,cl⟩ x:=fun x hx=>by
      rcases h1 x hx with h | ⟨h,h'⟩
      ·exact .inl h
      ·exact .inr ⟨h,by have:cl+w.length<=x.col:=h';show cl<x.col;omega⟩
     refine⟨fun x hx=>?_,List.pairwise_cons.2 ⟨h3,h2⟩⟩
     have base:plLe (op.getD (ln,cl)) ⟨kd,w,ln,cl⟩:=by
      cases op with
      | none=>exact .inr ⟨rfl,ybk _⟩
      | some p=>exact .inr (hp p rfl)
     rcases ybs.1 hx with rfl | hx
     ·exact base
     ·have:=h3 x hx
      rcases base with hb | ⟨hb,hb'⟩<;>rcases this with hc | ⟨hc,hc'⟩
      ·exact .inl (Nat.lt_trans hb hc)
      ·exact .inl (by have:ln=x.line:=hc;have:(op.getD (ln,cl)).1<ln:=hb;omega)
      ·exact .inl (by have:ln<x.line:=hc;have:(op.getD (ln,cl)).1=ln:=hb;omega)
      ·exact .inr ⟨by have:ln=x.line:=hc;have:(op.getD (ln,cl)).1=ln:=hb;omega,by have:cl<x.col:=hc';have:(op.getD (ln,cl)).2<=cl:=hb';omega⟩
def cut_of{m:List lB} (hi:i<m.length\/m=[])(hk:tk2.map kt=(m.map kt).take i++(if zO false ((m.map kt).take i)=true then [(5,[])]else []))(hi0:m=[]->i=0):Cut m tk2 i:=by
 have hlen:((m.map kt).take i).length=i:=by
  rw[yda,ybf];rcases hi with h | h
  ·omega
  ·rw[hi0 h];omega
 have hget:∀j,j<i->(tk2[j]?).map kt=(m[j]?).map kt:=by
  intro j hj;rw[<- ybu,hk,yco (by omega),List.getElem?_take_of_lt hj,ybu]
 have hend:tk2[i]?=none\/∃x,tk2[i]?=some x/\x.kind=5:=by
  have:(tk2[i]?).map kt=(if zO false ((m.map kt).take i)=true then [(5,[])]else []:List pN)[0]?:=by
   rw[<- ybu,hk,ybp (by omega),hlen,Nat.sub_self]
  cases hx:tk2[i]? with
  | none=>exact .inl rfl
  | some x=>
   rw[hx]at this;split at this
   ·right
    have h2:kt x=(5,[]):=yci this
    exact⟨x,rfl,congrArg Prod.fst h2⟩
   ·cases this
 refine⟨fun j hj w=>?_,fun j hj q=>?_,fun j hj=>?_,fun w=>?_,fun q hq=>?_,?_⟩
 ·have:=hget j hj
  unfold acc
  cases h1:tk2[j]?<;>cases h2:m[j]?<;>rw[h1,h2]at this<;>simp[kt]at this
  rename_i a b;show((decide (a.kind=1)||decide (a.kind=4))&&qG a.text w)=((decide (b.kind=1)||decide (b.kind=4))&&qG b.text w)
  rw[this.1,this.2]
 ·have:=hget j hj
  unfold bC
  cases h1:tk2[j]?<;>cases h2:m[j]?<;>rw[h1,h2]at this<;>simp[kt]at this
  rename_i a b;show decide (a.kind=q)=decide (b.kind=q)
  rw[this.1]
 ·have:=hget j hj
  unfold lE
  cases h1:tk2[j]?<;>cases h2:m[j]?<;>rw[h1,h2]at this<;>simp[kt]at this
  exact this.2
 ·unfold acc
  rcases hend with h | ⟨x,h,h5⟩<;>rw[h]
  simp[h5]
 ·unfold bC
  rcases hend with h | ⟨x,h,h5⟩<;>rw[h]
  simp[h5];omega
 ·have hl2:=congrArg List.length hk
  rw[ybf,ybg,hlen]at hl2
  cases he:zO false ((m.map kt).take i)with
  | true=>
   rw[he]at hl2;left
   simp at hl2;refine⟨hl2,?_⟩
   unfold bC;rcases hend with h | ⟨x,h,h5⟩
   ·have:=List.getElem?_eq_none_iff.1 h;omega
   ·rw[h];simp[h5]
  | false=>
   rw[he]at hl2;right
   simp at hl2;refine⟨hl2,?_⟩
   by_cases h0:i=0
   ·exact .inl h0
   ·right
    obtain⟨w,hw⟩:=Xv _ _ he (fun e=>h0 (by rw[<- hlen,e];rfl))
    rw[hlen,List.getElem?_take_of_lt (by omega),ybu]at hw
    unfold bC
    cases hx:m[i-1]? with
    | none=>rw[hx]at hw;cases hw
    | some x=>rw[hx]at hw;have h2:kt x=(5,w):=yci hw;have:x.kind=5:=congrArg Prod.fst h2;simp[this]
end
section
variable {x y:Operand}{a b c d:Int}{m:List lB}{s:List Nat}
variable [gC]
def Wn   : (nJ .eql).f yA 29 x y (.agg [.int .i64 a,.int .i64 b]) (.agg [.int .i64 c,.int .i64 d])=some (.bool (decide (a=c/\b=d))):=by
 have e:(nJ .eql).f yA 29 x y (.agg [.int .i64 a,.int .i64 b]) (.agg [.int .i64 c,.int .i64 d])=ob (bif oB a c then(bif oB b d then some true else some false)else some false) fun r=>some (.bool r):=by kernel_rfl
 rw[e,aE,aE];by_cases h1:a=c<;>by_cases h2:b=d<;>simp[h1,h2]
def zen   : (nJ .neq).f yA 29 x y (.agg [.int .i64 a,.int .i64 b]) (.agg [.int .i64 c,.int .i64 d])=some (.bool (!decide (a=c/\b=d))):=by
 have e:(nJ .neq).f yA 29 x y (.agg [.int .i64 a,.int .i64 b]) (.agg [.int .i64 c,.int .i64 d])=ob (bif oB a c then(bif oB b d then some true else some false)else some false) fun r=>some (.bool (!r)):=by kernel_rfl
 rw[e,aE,aE];by_cases h1:a=c<;>by_cases h2:b=d<;>simp[h1,h2]
section
variable {t:Tr vA}{Q:pB}{J W:eE}
def g75{b o:Nat}:nC yA 75 2 (.ptr b o)=some (.ptr b (o+2)):=by kernel_rfl
def Wm {v:zA}{i:Nat}{x:lB}{K:jG->T}(hv:bA t 4 (m.map lB.d) v)(hx:m[i]?=some x)(k:pA yA.base W J (K (cellsOf (oP (x.line,x.col)))) t Q) :
  pA yA.base W J (.opt (wC yA 66 v (.int .i64 (i:Int))) fun a=>.opt (nC yA 75 2 a) fun a=>.light (fun m=>lA yA 29 ⟨0,m⟩ a)<|uG bM K) t Q:=by
 have hd:(m.map lB.d)[i]?=some x.d:=by rw[ybu,hx];rfl
 obtain⟨b,o,cs,h1,_,h3,_,h5⟩:=sl66.at (fun h=>by cases h) hv hd
 have e:=Ph h5
 subst e;have hl:lA yA 29 ⟨0,t⟩ (.ptr b (o+2))=some (.agg (oP (x.line,x.col))):=h3.load (j:=2) (n:=2) eT rfl rfl (by simp[lB.cs])
 exact oA h1 (oA g75 (vC hl (fC agPl k)))
end
def zhc  : same 10 (.agg [.int .i64 a,.int .i64 b]) (.agg [.int .i64 a,.int .i64 b])=true:=by
 have e:same 10 (.agg [.int .i64 a,.int .i64 b]) (.agg [.int .i64 a,.int .i64 b])=(oB a a&&(oB b b&&true)):=by kernel_rfl
 rw[e,mG.2 rfl,mG.2 rfl];rfl
def at25{t:Tr vA} {Q:pB}{J:eE}{K:zA->T}(hs:s.length<900000)(k:pA yA.base (Wq yA F qC) J (K (.agg (oP (atL s,atC s)))) t Q):pA yA.base (Wq yA F qC) J (.call 25 [.str s,.int .i64 (Int.ofNat (zB s))] K) t Q:=by
 refine yB ?_
 have h:=at_pv (t:=t) hs (n:=s.length) (ybk _)
 rw[List.take_length]at h;rw[q25,oD];show vE (sC yA F 25 [.str s,.int .i64 ((s.length:Nat):Int)] t) _
 rw[h,qA];exact k
def VM:∀(l l':List pN) (o:Bool),gQ o (l++l')->gQ o l:=by
 intro l;induction l with
 | nil=>intro l' o _;trivial
 | cons t l ih=>
  intro l' o h;rw[List.cons_append,gQ]at h;rw[gQ];split
  ·rename_i h5;rw[yab h5]at h;exact⟨h.1,h.2.1,ih _ _ h.2.2⟩
  ·rename_i h5;rw[yaa h5]at h;exact⟨h.1,ih _ _ h.2⟩
def zc1  (hs:s.length<=3000)(hby:∀b∈s,b<256)(hm:xJ s=.ok m)(i:Nat):(aH false (m.take i)).length<=6000/\(∀b∈aH false (m.take i),b<256)/\∃tk2,xJ (aH false (m.take i))=.ok tk2/\tk2.map kt=(m.map kt).take i++(if zO false ((m.map kt).take i)=true then [(5,[])]else []):=by
 obtain⟨g1,g2,g3,g4,g5,_⟩:=zev hs hby hm
 have hl:(aH false (m.take i)).length<=6000:=by
  rw[Qu]at g1 ⊢
  rw[<- List.take_append_drop i (m.map kt),UY,ybg]at g1
  rw[List.map_take];omega
 have hg:gQ false ((m.map kt).take i):=VM _ ((m.map kt).drop i) _ (by rw[List.take_append_drop];exact g3)
 obtain⟨tk2,k1,k2⟩:=GW (GS _ _ hg)
 rw[<- List.map_take,<- Qu]at k1;exact⟨hl,Ye fun x hx=>g2 x (List.mem_of_mem_take hx),tk2,by rw[Qq (by omega)];exact k1,k2⟩
def SL{t:Tr vA} (hg:kK t)(hby:∀b∈s,b<256):Wc yA F 8 [.str s] t (fun v _=>v=.bool true):=by
 refine w8 ?_
 unfold t8;refine zde ?_
 by_cases hs:1000<s.length
 ·exact sA (ll_le.2 hs) rfl
 refine tB (fun h=>hs (ll_le.1 h)) (FB (K:=fun X4 X6 n8=>.call 22 _ _) hg hby fun t1 c1 h1 r1=>?_)
 have hg1:=hg.mono h1
 have hP1:uA3 (cellsOf c1)=.agg c1:=congrArg zA.agg (Fj r1)
 rw[hP1];refine GV (K:=fun a X n=>.ite (oB _ 0) _ _) hg1 hby (fun m hm t2 v h2 hv=>?_) (fun e a b hl t2 h2=>?_)
 case refine_2=>
  have he:=GP hl
  rw[Vr hl];refine tB (fun h=>he (by have:=mG.1 h;have:(e:Int)=0:=this;omega)) (sA (iR.2 (by omega)) (tB (fun h=>he (by have:=mG.1 h;omega)) ?_))
  show zA.bool (oB (e:Int) (e:Int))=_
  rw[mG.2 rfl]
 case refine_1=>
 obtain⟨_,hmlen,hgood⟩:=Qp hm
 have hrt:=Pd (top:=rG) hm
 cases htop:rG m with
 | ok x n=>
  rw[htop]at hrt;rw[hrt];refine sA rfl (sA rfl (sA rfl (oA (v:=.bool true) ?_ (pD (sA rfl rfl)))))
  show(nJ .eql).f yA 29 _ _ (.agg [.int .i64 0,.int .i64 0]) (.agg [.int .i64 0,.int .i64 0])=_
  rw[Wn];rfl
 | er e i=>
 rw[htop]at hrt;rw[hrt]at r1 ⊢
 have r1:RD t1 Aa.d c1:=r1
 obtain⟨g1,g2,g3,g4,g5,_⟩:=zev (by omega) hby hm
 have hecode:e=120\/e=121\/e=122:=by
  by_cases h0:m=[]
  ·subst h0
   have:rG ([]:List lB)=.er 120 0:=rfl
   rw[this]at htop;cases htop;exact .inl rfl
  ·obtain⟨w,hw⟩:=Xv _ _ g4 (by simpa using h0)
   have hk5:bC m 5 (m.length-1)=true:=by
    rw[ybf,ybu]at hw;unfold bC
    cases hx:m[m.length-1]? with
    | none=>rw[hx]at hw;cases hw
    | some x=>rw[hx]at hw;have h2:kt x=(5,w):=yci hw;have:x.kind=5:=congrArg Prod.fst h2;simp[this]
   exact(BN hgood hk5 h0 htop).2
 have hmv:uC v=some (.int .i64 (m.length:Int)):=by have:=hv.len;rwa [ybf]at this
 have main:pA yA.base (Wq yA F qC) (Jq yA F 8) (uQ2 v s (cellsOf (oP ((rP m s i).line,(rP m s i).col)))) t2 (fun v _=>v=.bool true):=by
  unfold uQ2;refine oA hmv (sB ?_)
  by_cases h0:m=[]
  ·subst h0
   have hti:rP [] s i=⟨0,[],atL s,atC s⟩:=by unfold rP;simp
   rw[hti];refine sA rfl (at25 (by omega) (fC agPl (sA zhc (oA (v:=.bool true) ?_ (pD rfl)))))
   show(nJ .eql).f yA 29 _ _ (.agg [.int .i64 (atL s:Int),.int .i64 (atC s:Int)]) (.agg [.int .i64 (atL s:Int),.int .i64 (atC s:Int)])=_
   rw[Wn];simp
  have hlpos:0<m.length:=List.length_pos_iff.2 h0
  obtain⟨w5,hw5⟩:=Xv _ _ g4 (by simpa using h0)
  have hk5:bC m 5 (m.length-1)=true:=by
   rw[ybf,ybu]at hw5;unfold bC
   cases hx:m[m.length-1]? with
   | none=>rw[hx]at hw5;cases hw5
   | some x=>rw[hx]at hw5;have h2:kt x=(5,w5):=yci hw5;have:x.kind=5:=congrArg Prod.fst h2;simp[this]
  obtain⟨hi,_⟩:=BN hgood hk5 h0 htop
  have hti:rP m s i=m[i]:=by unfold rP;rw[ybd hi];rfl
  rw[hti];refine tB (fun h=>by have:=mG.1 h;omega) (kC ?_)
  have hpw:=(UG (s.length+1) s 1 1 none m (fun p h=>by cases h) (by rw[<- hm,Qq (by omega)];rfl)).2
  obtain⟨j1,j2,tk2,j3,j4⟩:=zc1 (by omega) hby hm i
  have hcut:=cut_of (.inl hi) j4 (fun h=>absurd h h0)
  have htc:=zgo hgood hk5 hcut htop
  have hjt:∀x∈m.take i,x.kind≠5->x.text≠[]/\kB 256 x.text:=fun z hz h5=>by
   refine⟨?_,g2 z (List.mem_of_mem_take hz)⟩
   have:=(lY (Yp g3 (kt z) (List.mem_map_of_mem (List.mem_of_mem_take hz)) h5)).1
   intro e;have e:(kt z).2=[]:=e
   rw[e]at this;cases this
  have loop:∀(d k:Nat),k+d=i->jp 8 2 [v,.int .i64 (k:Int),.int .i64 (m[i].line:Int),.int .i64 (m[i].col:Int)] t2 (fun v _=>v=.bool true):=by
   intro d;induction d with
   | succ d ih=>
    intro k hk;refine j8_2 ?_
    unfold t8_2;refine oA hmv (sB (sA (by rw[mC];simp;omega) (Wm hv (ybd (show k<m.length by omega)) ?_)))
    have hlt:Gw m[k] m[i]:=List.pairwise_iff_getElem.1 hpw k i (by omega) hi (by omega)
    have hne:¬ ((m[k].line:Int)=(m[i].line:Int)/\(m[k].col:Int)=(m[i].col:Int)):=fun⟨a,b⟩=>by
     rcases hlt with h | ⟨_,h⟩<;>omega
    refine oA (v:=.bool true) (zen.trans (congrArg (fun b=>some (zA.bool (!b))) (decide_eq_false hne))) (pD (sA rfl (kC ?_)))
    show jp 8 2 [v,.int .i64 (iA .i64 ((k:Int)+1)),_,_] t2 _
    rw[show iA .i64 ((k:Int)+1)=((k+1:Nat):Int) by rw[iC (by omega) (by omega)];rfl]
    exact ih (k+1) (by omega)
   | zero=>
    intro k hk;have:k=i:=by omega
    subst this;refine j8_2 ?_
    unfold t8_2;refine oA hmv (sB (sA (by rw[mC];simp;omega) (Wm hv (ybd hi) ?_)))
    refine oA (v:=.bool false) (zen.trans (congrArg (fun b=>some (zA.bool (!b))) (decide_eq_true ⟨rfl,rfl⟩))) (pD (tB (by decide) (oA hmv (sB (tB (fun h=>by have:=mG.1 h;omega) ?_)))))
    refine JT hv (by omega) fun v' hv'=>yB ?_
    rw[q23];refine zew hv' hjt (by omega) (by rw[yda];omega) fun t3 h3=>lF ?_
    have hg3:=(hg1.mono h2).mono h3
    refine FB (K:=fun X58 X60 n62=>.light _ _) hg3 j2 fun t4 c4 h4 r4=>?_
    have hP4:uA3 (cellsOf c4)=.agg c4:=congrArg zA.agg (Fj r4)
    rw[hP4];refine JT (hv.mono (h3.trans h4)) (by omega) fun v'' hv''=>yB ?_
    rw[q23];refine zew hv'' hjt (by omega) (by rw[yda];omega) fun t5 h5=>lF ?_
    refine GV (K:=fun a67 X n=>.ite (oB _ 0) _ _) ((hg3.mono h4).mono h5) j2 (fun m2 hm2 t6 v2 h6 hv2=>?_) (fun e2 a2 b2 hl2 t6 h6=>by rw[j3]at hl2;cases hl2)
    have em2:m2=tk2:=by rw[j3]at hm2;cases hm2;rfl
    subst em2;have hr2:=Pd (top:=rG) j3
    have hl2:uC v2=some (.int .i64 (m2.length:Int)):=by have:=hv2.len;rwa [ybf]at this
    have hm2len:=(Qp j3).2.1
    cases ht2:rG m2 with
    | ok x n=>
     rw[ht2]at hr2;rw[hr2];exact sA rfl rfl
    | er e2 i2=>
     rw[ht2]at hr2;rw[hr2]at r4 ⊢
     have r4:RD t4 Aa.d c4:=r4
     have hfin:(e2=120\/e2=122)/\(m2=[]\/i2+1=m2.length):=by
      rcases htc with⟨h1,j,h2⟩ | h | ⟨e3,i3,h1,h2,h3⟩
      ·rw[ht2]at h2;cases h2;exact⟨.inl rfl,.inl h1⟩
      ·obtain⟨a,n,h⟩:=h;rw[ht2]at h;cases h
      ·rw[ht2]at h1;cases h1;exact⟨h2,.inr h3⟩
     have last:pA yA.base (Wq yA F qC) (Jq yA F 8) (uQ5 v2 (cellsOf (oP ((rP m2 (aH false (m.take k)) i2).line,(rP m2 (aH false (m.take k)) i2).col)))) t6 (fun v _=>v=.bool true):=by
      unfold uQ5;refine oA hl2 (sB ?_)
      by_cases h02:m2=[]
      ·subst h02;exact sA rfl rfl
      ·have hp2:0<m2.length:=List.length_pos_iff.2 h02
       have hi2:i2+1=m2.length:=hfin.2.resolve_left h02
       have hx2:m2[i2]?=some (m2[i2]'(by omega)):=ybd (by omega)
       have ht3:rP m2 (aH false (m.take k)) i2=m2[i2]'(by omega):=by unfold rP;rw[hx2];rfl
       rw[ht3];refine tB (fun h=>by have:=mG.1 h;omega) (oA hl2 (sB ?_))
       have ew:iA .i64 ((m2.length:Int)-1)=(i2:Int):=by rw[iC (by omega) (by omega)];omega
       show pA _ _ _ (.opt (wC yA 66 v2 (.int .i64 (iA .i64 ((m2.length:Int)-1)))) _) _ _
       rw[ew];refine Wm hv2 hx2 (oA (v:=.bool true) ?_ (pD rfl))
       exact Wn.trans (congrArg (fun b=>some (zA.bool b)) (decide_eq_true ⟨rfl,rfl⟩))
     have e20:e2≠0:=by omega
     refine tB (fun h=>e20 (by have:=mG.1 h;have:(e2:Int)=0:=this;omega)) (sA rfl (DT (p:=Aa) (by have:=EA (s:=aH false (m.take k));rwa [hr2]at this) (r4.mono (h5.trans h6)) Zk (pD (sA rfl ?_))))
     rcases hfin.1 with rfl | rfl
     ·exact sA rfl last
     ·exact tB (show ¬ oB 122 120=true by decide) (sA rfl last)
  exact loop i 0 (by omega)
 have e0:e≠0:=by omega
 refine tB (fun h=>e0 (by have:=mG.1 h;have:(e:Int)=0:=this;omega)) (tB (by decide) (sA rfl (DT (p:=Aa) (by have:=EA (s:=s);rwa [hrt]at this) (r1.mono h2) Zk (pD (tB (by decide) ?_)))))
 rcases hecode with rfl | rfl | rfl
 ·exact tB (show ¬ (!oB 120 120)=true by decide) main
 ·exact sA (show(!oB 121 120)=true by decide) (tB (show ¬ (!oB 121 121)=true by decide) main)
 ·exact sA (show(!oB 122 120)=true by decide) (sA (show(!oB 122 121)=true by decide) (tB (show ¬ (!oB 122 122)=true by decide) main))
end
end Go.Proofs
namespace Go.Am
open Go Go.RowKit Go.Proofs
def places8{w:World}(hL:fM w){a:ByteArray}:Calls Tryz.prog 8 #[.string a] w fun e w'=>e=.returned (.bool true)/\Below w.heap.size w w':=
 OQ hL 8 [.str (nF a)] _ (by intro _;kernel_rfl) (.single (by rw[uA];exact⟨_,rfl,rfl⟩)) ⟨_,SL (ziz hL) (zdb a),fun v t h=>h⟩
end Go.Am
