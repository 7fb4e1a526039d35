/- Operands and lines over two lists of tokens that agree up to a place. -/
import Derived.KernelRfl
import Derived.Test.YtfmlbimokklmgaaGreatDoorF19
set_option linter.all false
noncomputable section
set_option maxRecDepth 100000
namespace Go.Proofs
open Go Go.Am
variable {tk:List uC}{n':Nat}{a:List Nat}{α:Type}{e e2:PM fA}
section
variable {S:VP}{H:Prop}{n:Nat}{o o2:PM fA}
def Um {q n:Nat} (h:tE tk q n=.ok a n'):n<n':=by
 unfold tE at h;split at h<;>cases h;omega
def PR.bind_inv{β:Type}{r:PR α}{f:α->Nat->PR β}{b:β}{n:Nat}(h:r.bind f=.ok b n):∃a n1,r=.ok a n1/\f a n1=.ok b n:=by
 cases r with
 | ok a n1=>exact⟨a,n1,rfl,h⟩
 | er e i=>cases h
def zi6 {w:List Nat}{n:Nat}{a:Unit}(h:rE tk w n=.ok a n'):n<=n':=by
 unfold rE at h;split at h<;>cases h;omega
def SF {neg:Bool}{n:Nat}{v:oG}(h:cK tk neg n=.ok v n'):n<n':=by
 unfold cK at h;obtain⟨a,n1,h1,h2⟩:=PR.bind_inv h
 have:=Um h1
 split at h2
 ·split at h2
  ·cases h2
  ·split at h2<;>cases h2;omega
 ·cases h2;omega
def VO (v:Option oG):Prop:=match v with | some v=>oG.cpy v | none=>True
def To{k:Nat}{i:Int}:oG.cpy ⟨k,rH,i⟩:=by simp[oG.cpy,rH]
def YF(hv:VW S):rB S H VO (Fk S.tk) (Fk S.tk2):=by
 have hq:∀(neg:Bool),rB S H VO (fun n=>(cK S.tk neg n).bind fun v n1=>.ok (some v) n1) (fun n=>(cK S.tk2 neg n).bind fun v n1=>.ok (some v) n1):=fun neg=>(SE hv).bind hv fun v=>rB.ret fun h=>h.2
 have hm:∀(neg:Bool),rB S H VO (fun n=>(tE S.tk 2 n).bind fun s n1=>.ok (some ⟨3,vI s neg,0⟩) n1) (fun n=>(tE S.tk2 2 n).bind fun s n1=>.ok (some ⟨3,vI s neg,0⟩) n1):=fun neg=>(Ul hv (by omega)).bind hv fun s=>rB.ret fun h=>Zj (h.2 rfl)
 have hm2:rB S H VO (fun n=>(fun(neg:Bool)=>(tE S.tk 2 (if neg then n+1 else n)).bind fun s n1=>.ok (some ⟨3,vI s neg,0⟩) n1) (acc S.tk bI n)) (fun n=>(fun(neg:Bool)=>(tE S.tk2 2 (if neg then n+1 else n)).bind fun s n1=>.ok (some ⟨3,vI s neg,0⟩) n1) (acc S.tk2 bI n)):=by
  have:=rB.acc hv (w:=bI) (by decide) (hm true) (hm false)
  have e:∀tk:List uC,(fun n=>(fun(neg:Bool)=>(tE tk 2 (if neg then n+1 else n)).bind fun s n1=>(.ok (some ⟨3,vI s neg,0⟩) n1:PR (Option oG))) (acc tk bI n))=fun n=>if acc tk bI n=true then(tE tk 2 (n+1)).bind fun s n1=>.ok (some ⟨3,vI s true,0⟩) n1 else(tE tk 2 n).bind fun s n1=>.ok (some ⟨3,vI s false,0⟩) n1:=fun tk=>by
   funext n;cases acc tk bI n<;>rfl
  rw[e,e];exact this
 refine rB.acc hv (w:=wTrue) (A:=fun n=>.ok (some (oG.mk 1 rH 1)) n) (A2:=fun n=>.ok (some (oG.mk 1 rH 1)) n) (by decide) (rB.ret (V:=VO) fun _=>To) ?_
 refine rB.acc hv (w:=zdr) (A:=fun n=>.ok (some (oG.mk 1 rH 0)) n) (A2:=fun n=>.ok (some (oG.mk 1 rH 0)) n) (by decide) (rB.ret (V:=VO) fun _=>To) ?_
 refine rB.ite (p:=fun n=>zD S.tk 3 n) (p2:=fun n=>zD S.tk2 3 n) (fun i hl hi=>hv.kind i hl hi 3) (hv.qkind 3 (.inr rfl)) (A:=fun n=>(bO S.tk n).bind fun d n1=>.ok (some (oG.mk 4 rH d)) n1) (A2:=fun n=>(bO S.tk2 n).bind fun d n1=>.ok (some (oG.mk 4 rH d)) n1) ((Mv hv).bind hv fun d=>rB.ret (V:=VO) fun _=>To) (fun n a n' hlo _ h=>?_) ?_
 ·obtain⟨d,n1,h1,h2⟩:=PR.bind_inv h
  unfold bO at h1;obtain⟨d,n2,h3,h4⟩:=PR.bind_inv h1
  have:=Um h3
  cases h4;cases h2;exact this
 refine rB.acc hv (w:=zdq) (by decide) hm2 ?_
 refine rB.acc hv (w:=bI) (by decide) (hq true) ?_
 refine rB.ite (p:=fun n=>zD S.tk 2 n) (p2:=fun n=>zD S.tk2 2 n) (fun i hl hi=>hv.kind i hl hi 2) (hv.qkind 2 (.inl rfl)) (hq false) (fun n a n' hlo _ h=>?_) (rB.ret fun _=>trivial)
 obtain⟨v,n1,h1,h2⟩:=PR.bind_inv h
 have:=SF h1
 cases h2;exact this
def VL (c:Nat)(l:List fA):Prop:=l.length<=c/\fA.cpys l
def LH:∀ {l:List fA} {x:fA},fA.cpys l->fA.cpy x->fA.cpys (l++[x])
 | [],x,_,h=>⟨h,trivial⟩
 | y::l,x,h1,h2=>⟨h1.1,LH h1.2 h2⟩
def VL.snoc{c:Nat}{l:List fA}{x:fA}(h:VL c l)(hx:fA.cpy x):VL (c+1) (l++[x]):=⟨by simpa using h.1,LH h.2 hx⟩
def TX(hv:VW S) (he:rB S H fA.cpy e e2):∀(k c:Nat) (l:List fA) (H':Prop),(H'->H)->(H'->VL c l)->rB S H' (VL (c+k)) (Bs S.tk e k l) (Bs S.tk2 e2 k l):=by
 intro k;induction k with
 | zero=>intro c l H' _ h;exact rB.ret h
 | succ k ih=>
  intro c l H' h0 h;refine(kP hv).bind hv fun _=>(he.mono (fun h=>h0 h.1) fun _ h=>h).bind hv fun x=>?_
  have:=ih (c+1) (l++[x]) ((H'/\True)/\fA.cpy x) (fun h=>h0 h.1.1) fun hx=>(h hx.1.1).snoc hx.2
  rwa [show c+1+k=c+(k+1) by omega]at this
def QE(hv:VW S) (he:rB S H fA.cpy e e2):∀(k c:Nat) (l:List fA) (H':Prop),(H'->H)->(H'->VL c l)->rB S H' (VL (c+k)) (qV S.tk e k l) (qV S.tk2 e2 k l):=by
 intro k;induction k with
 | zero=>intro c l H' _ h;exact rB.ret h
 | succ k ih=>
  intro c l H' h0 h;refine rB.acc hv (w:=[44]) (A:=fun n=>(e n).bind fun x n2=>qV S.tk e k (l++[x]) n2) (A2:=fun n=>(e2 n).bind fun x n2=>qV S.tk2 e2 k (l++[x]) n2) (B:=fun n=>.ok l n) (B2:=fun n=>.ok l n) (by decide) ?_ (rB.ret fun h'=>⟨by have:=(h h').1;omega,(h h').2⟩)
  refine(he.mono h0 fun _ h=>h).bind hv fun x=>?_
  have:=ih (c+1) (l++[x]) (H'/\fA.cpy x) (fun h=>h0 h.1) fun hx=>(h hx.1).snoc hx.2
  rwa [show c+1+k=c+(k+1) by omega]at this
def TY:∀i,cS i∉dT:=by
 intro i;unfold cS;split<;>decide
def UZ:∀i,Et i∉dT:=by
 intro i;unfold Et;split<;>decide
def MP:∀f∈eQ,f.least<=3/\f.most<=3/\f.word∉dT:=by decide
def Pn(tk:List uC)(e:PM fA)(f:CF):PM fA:=fun n=>(rE tk [40] n).bind fun _ n1=>
  (if f.named then(rI tk n1).bind fun w n2=>(rE tk [44] n2).bind fun _ n3=>.ok w n3 else .ok [] n1:PR (List Nat)).bind fun w n2=>
  (e n2).bind fun x n3=>(Bs tk e (f.least-1) [x] n3).bind fun l n4=>(qV tk e (f.most-f.least) l n4).bind fun l n5=>
  (if f.op=19 then(rE tk [44] n5).bind fun _ n6=>iL tk cS 6 6 1 n6 else .ok 0 n5:PR Nat).bind fun m n6=>
  (rE tk [41] n6).bind fun _ n7=>.ok (.mk f.op w ⟨0,rH,m⟩ l) n7
def RG(hv:VW S) (he:rB S H fA.cpy e e2){f:CF}(hf:f∈eQ):rB S H fA.cpy (Pn S.tk e f) (Pn S.tk2 e2 f):=by
 obtain⟨f1,f2,_⟩:=MP f hf
 refine(kP hv).bind hv fun _=>?_
 refine rB.bind hv (V:=fun _=>True) (f:=fun n1=>(if f.named then(rI S.tk n1).bind fun w n2=>(rE S.tk [44] n2).bind fun _ n3=>.ok w n3 else .ok [] n1:PR (List Nat))) (f2:=fun n1=>(if f.named then(rI S.tk2 n1).bind fun w n2=>(rE S.tk2 [44] n2).bind fun _ n3=>.ok w n3 else .ok [] n1:PR (List Nat)))
  (rB.cases f.named (A:=fun n1=>(rI S.tk n1).bind fun w n2=>(rE S.tk [44] n2).bind fun _ n3=>.ok w n3) (A2:=fun n1=>(rI S.tk2 n1).bind fun w n2=>(rE S.tk2 [44] n2).bind fun _ n3=>.ok w n3) (B:=fun n=>.ok [] n) (B2:=fun n=>.ok [] n)
   (fun _=>(Br hv).bind hv fun w=>(kP hv).bind hv fun _=>rB.ret fun _=>trivial) fun _=>rB.ret fun _=>trivial) fun w=>?_
 refine(he.mono (fun h=>h.1.1) fun _ h=>h).bind hv fun x=>?_
 refine(TX hv he (f.least-1) 1 [x] _ (fun h=>h.1.1.1) fun h=>⟨by simp,h.2,trivial⟩).bind hv fun l=>?_
 refine(QE hv he (f.most-f.least) (1+(f.least-1)) l _ (fun h=>h.1.1.1.1) fun h=>h.2).bind hv fun l'=>?_
 refine rB.bind hv (V:=fun _=>True) (f:=fun n5=>(if f.op=19 then(rE S.tk [44] n5).bind fun _ n6=>iL S.tk cS 6 6 1 n6 else .ok 0 n5:PR Nat)) (f2:=fun n5=>(if f.op=19 then(rE S.tk2 [44] n5).bind fun _ n6=>iL S.tk2 cS 6 6 1 n6 else .ok 0 n5:PR Nat)) ?_ fun m=>(kP hv).bind hv fun _=>rB.ret fun h=>?_
 ·by_cases h19:f.op=19
  ·simp only[yab h19]
   exact(kP hv).bind hv fun _=>MF hv TY 6 1
  ·simp only[yaa h19]
   exact rB.ret fun _=>trivial
 ·have hl:=h.1.1.2
  unfold fA.cpy;exact⟨⟨by simp[rH],by simp[rH]⟩,by have:=hl.1;omega,hl.2⟩
def zac(hv:VW S) (he:rB S H fA.cpy e e2):rB S H fA.cpy (lW S.tk e) (lW S.tk2 e2):=by
 have eq:∀(tk:List uC) (e:PM fA) (n:Nat),lW tk e n=match eQ.find? fun f=>acc tk f.word n with | none=>.er 120 n | some f=>Pn tk e f (n+1):=fun tk e n=>rfl
 have hq:(eQ.find? fun f=>acc S.tk2 f.word (S.k+S.d))=none:=List.find?_eq_none.2 fun f hf=>by rw[hv.qacc _ (MP f hf).2.2];simp
 refine⟨fun hH n hlo=>?_,fun _=>by rw[eq,hq];exact⟨rfl,.inl rfl⟩⟩
 rw[eq,eq];have same:n<S.k->(eQ.find? fun f=>acc S.tk2 f.word (n+S.d))=eQ.find? fun f=>acc S.tk f.word n:=fun hn=>by congr 1;funext f;exact hv.acc n hlo hn _
 cases h:eQ.find? fun f=>acc S.tk f.word n with
 | none=>
  refine(RA.fail (.inl rfl)).right fun hn=>?_
  by_cases hk:n<S.k
  ·rw[same hk,h]
  ·have:n=S.k:=by omega
   subst this;rw[hq]
 | some f=>
  have ha:acc S.tk f.word n=true:=by simpa using List.find?_some h
  refine RA.step (Cr ha) ((RG hv he (List.mem_of_find?_eq_some h)).ra hH (n+1) (by omega)) fun hn=>?_
  rw[same hn,h];show Pn S.tk2 e2 f (n+S.d+1)=_
  congr 1;omega
def zb3 {n:Nat} (h:rI tk n=.ok a n'):n<n':=by
 unfold rI at h;split at h<;>cases h;omega
def Ay {V:α->Prop}{f f2:PM α}(h:rB S True V f f2){n:Nat}{a:α}(hlo:S.lo<=n)(hr:f n=.ok a n'):n<=n':=by
 have:=(h.ra trivial n hlo).mo
 rw[hr]at this;exact this.1
def JL(hv:VW S)(ho:rB S True fA.cpy o o2):rB S True fA.cpy (tW S.tk o) (tW S.tk2 o2):=by
 have he:=KP hv ho
 refine(YF hv).bind hv fun v=>?_
 have ho':rB S (True/\VO v) fA.cpy o o2:=ho.mono (fun _=>trivial) fun _ h=>h
 have he':rB S (True/\VO v) fA.cpy (xS S.tk o) (xS S.tk2 o2):=he.mono (fun _=>trivial) fun _ h=>h
 cases v with
 | some v=>exact rB.ret fun h=>by unfold Sm fA.cpy;exact⟨h.2,by simp,trivial⟩
 | none=>
  refine rB.acc hv (w:=[40]) (A:=fun n=>(xS S.tk o n).bind fun x n1=>(rE S.tk [41] n1).bind fun _ n2=>.ok x n2) (A2:=fun n=>(xS S.tk2 o2 n).bind fun x n1=>(rE S.tk2 [41] n1).bind fun _ n2=>.ok x n2) (by decide) (he'.bind hv fun x=>(kP hv).bind hv fun _=>rB.ret fun h=>h.1.2) ?_
  refine rB.acc hv (w:=Tu) (A:=fun n=>.ok (fA.mk 2 [] nM []) n) (A2:=fun n=>.ok (fA.mk 2 [] nM []) n) (by decide) (rB.ret fun _=>⟨⟨by simp[nM,rH],by simp[nM,rH]⟩,by simp,trivial⟩) ?_
  refine rB.acc hv (w:=Jm) (by decide) (AT hv ho') ?_
  refine rB.acc hv (w:=wHas) (by decide) (AT hv ho') ?_
  refine rB.ite (p:=fun n=>sK S.tk n) (p2:=fun n=>sK S.tk2 n) (fun i hl hi=>GQ hv hl hi) hv.qname (AT hv ho') (fun n a n' hlo _ h=>?_) (zac hv he')
  unfold atP at h;obtain⟨w,n1,h1,h2⟩:=PR.bind_inv h
  obtain⟨u,n2,h3,h4⟩:=PR.bind_inv h2
  obtain⟨x,n3,h5,h6⟩:=PR.bind_inv h4
  have a1:=zb3 h1
  have a2:=zi6 h3
  have a3:=Ay ho (by omega) h5
  cases h6;omega
def SX(hv:VW S):∀(j j2:Nat),(j2=j\/(j2+1=j/\S.dp))->rB S True fA.cpy (nR S.tk j) (nR S.tk2 j2):=by
 intro j;induction j with
 | zero=>
  intro j2 h;have:j2=0:=by
   rcases h with h | h
   ·exact h
   ·exact absurd h.1 (by omega)
  subst this;exact rB.fail (.inr rfl)
 | succ j ih=>
  intro j2 h
  cases j2 with
  | zero=>
   have hd:S.dp:=by rcases h with h | h;omega;exact h.2
   have hr:rB S True fA.cpy (tW S.tk (nR S.tk j)) (tW S.tk2 (nR S.tk2 j)):=JL hv (ih j (.inl rfl))
   exact⟨fun hH n hlo=>⟨(hr.ra hH n hlo).mo,fun _ a n' _ _=>.inr ⟨hd,_,rfl⟩,fun _ hfu=>absurd hd (hv.full hfu).1⟩,fun hfu=>absurd hd (hv.full hfu).1⟩
  | succ j2=>exact JL hv (ih j2 (h.imp (by omega) fun h=>⟨by omega,h.2⟩))
def WL(hv:VW S):rB S True fA.cpy (oW S.tk) (oW S.tk2):=KP hv (SX hv 101 101 (.inl rfl))
def Ci(hv:VW S){b:Bool}:rB S H (fun _=>True) (rT S.tk b) (rT S.tk2 b):=(Br hv).bind hv fun w=>(MF hv UZ 6 1).bind hv fun k=>rB.ret fun _=>trivial
def IV(hv:VW S):rB S H (fun _=>True) (sU S.tk) (sU S.tk2):=by
 have one:∀neg:Bool,rB S H (fun _=>True) (fun m=>if !zD S.tk 2 m||oH (fE S.tk m)then .er 120 m else match kL (fE S.tk m) neg (-2147483648) 2147483647 with | none=>.er 121 m | some i=>.ok i (m+1))
   (fun m=>if !zD S.tk2 2 m||oH (fE S.tk2 m)then .er 120 m else match kL (fE S.tk2 m) neg (-2147483648) 2147483647 with | none=>.er 121 m | some i=>.ok i (m+1)):=by
  intro neg;have hz:(!zD S.tk2 2 (S.k+S.d)||oH (fE S.tk2 (S.k+S.d)))=true:=by rw[hv.qkind 2 (.inl rfl)];rfl
  refine⟨fun _ n hlo=>?_,fun _=>by show yP _ (if _=true then _ else _);rw[hz,yab rfl];exact⟨rfl,.inl rfl⟩⟩
  show RA S _ n (if (!zD S.tk 2 n||oH (fE S.tk n))=true then _ else _) (if (!zD S.tk2 2 (n+S.d)||oH (fE S.tk2 (n+S.d)))=true then _ else _)
  have hz':∀x y:PR Int,n=S.k->(if (!zD S.tk2 2 (n+S.d)||oH (fE S.tk2 (n+S.d)))=true then x else y)=x:=fun x y e=>by rw[e,hz,yab rfl]
  cases h:(!zD S.tk 2 n||oH (fE S.tk n))with
  | true=>
   rw[yab rfl];refine(RA.fail (.inl rfl)).right fun hn=>?_
   by_cases hk:n<S.k
   ·rw[hv.kind n hlo hk,hv.text n hlo hk,h,yab rfl]
   ·exact hz' _ _ (by omega)
  | false=>
   rw[yaa (by simp)]
   have h2:zD S.tk 2 n=true:=by simp at h;exact h.1
   cases hi:kL (fE S.tk n) neg (-2147483648) 2147483647 with
   | none=>
    refine⟨⟨by omega,NE.nil,by omega⟩,fun _ a n' hr=>(by cases hr),fun hn hfu e hr=>?_⟩
    injection hr with _ hr
    rw[hz' _ _ hr,hr];exact⟨rfl,.inl rfl⟩
   | some i=>
    refine⟨⟨by omega,NE.one (Rg h2 (by omega)),trivial⟩,fun hn a n' hr hn'=>?_,fun _ _ e hr=>by cases hr⟩
    cases hr;rw[hv.kind n hlo (by omega),hv.text n hlo (by omega),h,yaa (by simp),hi]
    left
    show PR.ok _ _=PR.ok _ _
    congr 1;omega
 have e:∀tk:List uC,sU tk=fun n=>if acc tk bI n=true then(fun m=>if !zD tk 2 m||oH (fE tk m)then .er 120 m else match kL (fE tk m) true (-2147483648) 2147483647 with | none=>.er 121 m | some i=>.ok i (m+1)) (n+1)else(fun m=>if !zD tk 2 m||oH (fE tk m)then .er 120 m else match kL (fE tk m) false (-2147483648) 2147483647 with | none=>.er 121 m | some i=>.ok i (m+1)) n:=fun tk=>by
  funext n;unfold sU;cases acc tk bI n<;>rfl
 rw[e,e];exact rB.acc hv (w:=bI) (by decide) (one true) (one false)
def Pm(hv:VW S){two:Bool}:rB S H (fun r=>vH.cpy r.f) (kX S.tk two) (kX S.tk2 two):=by
 refine(IV hv).bind hv fun a=>?_
 refine rB.bind hv (V:=fun _=>True) (f:=fun n1=>(if two then sU S.tk n1 else .ok 0 n1:PR Int)) (f2:=fun n1=>(if two then sU S.tk2 n1 else .ok 0 n1:PR Int)) (rB.cases two (B:=fun n=>.ok 0 n) (B2:=fun n=>.ok 0 n) (fun _=>IV hv) fun _=>rB.ret fun _=>trivial) fun b=>?_
 refine(kP hv).bind hv fun _=>(Mv hv).bind hv fun d=>(kP hv).bind hv fun _=>?_
 have one:∀(neg:Bool) (H:Prop),rB S H (fun r=>vH.cpy r.f) (fun n=>(tE S.tk 2 n).bind fun s n6=>.ok (⟨a,b,d,vI s neg⟩:lG) n6) (fun n=>(tE S.tk2 2 n).bind fun s n6=>.ok (⟨a,b,d,vI s neg⟩:lG) n6):=fun neg H=>(Ul hv (by omega)).bind hv fun s=>rB.ret fun h=>Zj (h.2 rfl)
 have e:∀tk:List uC,(fun n5=>(fun(neg:Bool)=>(tE tk 2 (if neg then n5+1 else n5)).bind fun s n6=>(.ok (⟨a,b,d,vI s neg⟩:lG) n6:PR lG)) (acc tk bI n5))=fun n=>if acc tk bI n=true then(fun n=>(tE tk 2 n).bind fun s n6=>.ok (⟨a,b,d,vI s true⟩:lG) n6) (n+1)else(fun n=>(tE tk 2 n).bind fun s n6=>.ok (⟨a,b,d,vI s false⟩:lG) n6) n:=fun tk=>by
  funext n;cases acc tk bI n<;>rfl
 show rB S _ _ (fun n5=>(fun(neg:Bool)=>(tE S.tk 2 (if neg then n5+1 else n5)).bind fun s n6=>(.ok (⟨a,b,d,vI s neg⟩:lG) n6:PR lG)) (acc S.tk bI n5)) (fun n5=>(fun(neg:Bool)=>(tE S.tk2 2 (if neg then n5+1 else n5)).bind fun s n6=>(.ok (⟨a,b,d,vI s neg⟩:lG) n6:PR lG)) (acc S.tk2 bI n5))
 rw[e,e];exact rB.acc hv (w:=bI) (by decide) (one true _) (one false _)
def lE.cpy(c:lE):Prop:=fA.cpy c.when_/\fA.cpy c.then_
def BK:fA.cpy wX:=⟨⟨by simp[nM,rH],by simp[nM,rH]⟩,by simp,trivial⟩
def Sn(hv:VW S):rB S H lE.cpy (nT S.tk) (nT S.tk2):=by
 have hx:∀H:Prop,rB S H fA.cpy (oW S.tk) (oW S.tk2):=fun H=>(WL hv).mono (fun _=>trivial) fun _ h=>h
 refine(Br hv).bind hv fun a=>(Br hv).bind hv fun b=>(kP hv).bind hv fun _=>(Mv hv).bind hv fun f=>(kP hv).bind hv fun _=>?_
 refine rB.bind hv (V:=fun _=>True) (f:=fun n5=>(if acc S.tk wEnd n5 then .ok 65536 (n5+1)else bO S.tk n5:PR Int)) (f2:=fun n5=>(if acc S.tk2 wEnd n5 then .ok 65536 (n5+1)else bO S.tk2 n5:PR Int)) (rB.acc hv (A:=fun n=>.ok 65536 n) (A2:=fun n=>.ok 65536 n) (by decide) (rB.ret fun _=>trivial) (Mv hv)) fun t=>?_
 refine(kP hv).bind hv fun _=>(Mv hv).bind hv fun k=>?_
 refine rB.acc hv (w:=wOff) (A:=fun n=>.ok (lE.mk a b f t k true wX wX) n) (A2:=fun n=>.ok (lE.mk a b f t k true wX wX) n) (by decide) (rB.ret fun _=>⟨BK,BK⟩) ?_
 exact(kP hv).bind hv fun _=>(hx _).bind hv fun x=>(kP hv).bind hv fun _=>(hx _).bind hv fun y=>rB.ret fun h=>⟨h.1.1.2,h.2⟩
def Om(hv:VW S):rB S H (fun x=>x.rows=[]) (Dm S.tk) (Dm S.tk2):=by
 refine(Br hv).bind hv fun w=>?_
 exact rB.acc hv (w:=Gf) (A:=fun n=>.ok (pG.mk w true []) n) (A2:=fun n=>.ok (pG.mk w true []) n) (by decide) (rB.ret fun _=>rfl) ((kP hv).bind hv fun _=>rB.ret fun _=>rfl)
def Hj(hv:VW S){p:pD}:rB S H (fun _=>True) (jO S.tk p) (jO S.tk2 p):=by
 have last:rB S H (fun _=>True) (fun n=>if acc S.tk Jn n then(nT S.tk (n+1)).bind fun c n1=>.ok (⟨p.name,p.defs,p.tables,p.clauses++[c]⟩:pD) n1 else .er 120 n) (fun n=>if acc S.tk2 Jn n then(nT S.tk2 (n+1)).bind fun c n1=>.ok (⟨p.name,p.defs,p.tables,p.clauses++[c]⟩:pD) n1 else .er 120 n):=
  rB.acc hv (A:=fun n=>(nT S.tk n).bind fun c n1=>.ok (⟨p.name,p.defs,p.tables,p.clauses++[c]⟩:pD) n1) (A2:=fun n=>(nT S.tk2 n).bind fun c n1=>.ok (⟨p.name,p.defs,p.tables,p.clauses++[c]⟩:pD) n1) (by decide) ((Sn hv).bind hv fun c=>rB.ret fun _=>trivial) (rB.fail (.inl rfl))
 refine rB.acc hv (w:=Jm) (A:=fun n=>(rT S.tk true n).bind fun d n1=>.ok (⟨p.name,p.defs++[d],p.tables,p.clauses⟩:pD) n1) (A2:=fun n=>(rT S.tk2 true n).bind fun d n1=>.ok (⟨p.name,p.defs++[d],p.tables,p.clauses⟩:pD) n1) (by decide) ((Ci hv).bind hv fun d=>rB.ret fun _=>trivial) ?_
 refine rB.acc hv (w:=wDef) (A:=fun n=>(rT S.tk false n).bind fun d n1=>.ok (⟨p.name,p.defs++[d],p.tables,p.clauses⟩:pD) n1) (A2:=fun n=>(rT S.tk2 false n).bind fun d n1=>.ok (⟨p.name,p.defs++[d],p.tables,p.clauses⟩:pD) n1) (by decide) ((Ci hv).bind hv fun d=>rB.ret fun _=>trivial) ?_
 refine rB.acc hv (w:=zdp) (A:=fun n=>(Dm S.tk n).bind fun t n1=>.ok (⟨p.name,p.defs,p.tables++[t],p.clauses⟩:pD) n1) (A2:=fun n=>(Dm S.tk2 n).bind fun t n1=>.ok (⟨p.name,p.defs,p.tables++[t],p.clauses⟩:pD) n1) (by decide) ((Om hv).bind hv fun d=>rB.ret fun _=>trivial) ?_
 cases hp:p.tables.isEmpty with
 | true=>exact last
 | false=>exact rB.acc hv (w:=wRow) (A:=fun n=>(kX S.tk (Bv p.tables) n).bind fun r n1=>.ok (⟨p.name,p.defs,fP p.tables r,p.clauses⟩:pD) n1) (A2:=fun n=>(kX S.tk2 (Bv p.tables) n).bind fun r n1=>.ok (⟨p.name,p.defs,fP p.tables r,p.clauses⟩:pD) n1) (by decide) ((Pm hv).bind hv fun d=>rB.ret fun _=>trivial) last
end
end Go.Proofs
namespace Go.Proofs
open Go Go.Am
section
variable {p:Nat->Bool}{r s w:List Nat}{b k n:Nat}
def Dn(r:List Nat):Prop:=∀c r',r=c::r'->c=10\/c=32
def Pe  (hr:∀c r',r=c::r'->p c=false):∀s:List Nat,uD p (s++r)=uD p s:=by
 intro s;unfold uD;induction s with
 | nil=>
  cases r with
  | nil=>rfl
  | cons c r=>rw[yah,List.takeWhile_cons,hr c r rfl];rfl
 | cons x s ih=>rw[List.cons_append,List.takeWhile_cons,List.takeWhile_cons,ih]
def Vu  (hr:Dn r)(h1:p 10=false)(h2:p 32=false):∀c r',r=c::r'->p c=false:=by
 intro c r' e;rcases hr c r' e with rfl | rfl
 ·exact h1
 ·exact h2
def Ph (s:List Nat):(uD p s).length<=s.length:=(List.takeWhile_sublist p).length_le
def XX (hr:Dn r):wH (s++r)=wH s:=by
 by_cases h:10<=s.length
 ·unfold wH
  have e:∀i∈List.range 10,jK i ((s++r).getD i 0)=jK i (s.getD i 0):=fun i hi=>by
   rw[List.mem_range]at hi;rw[List.getD_eq_getElem?_getD,List.getD_eq_getElem?_getD,yco (by omega)]
  rw[show(List.range 10).all (fun i=>jK i ((s++r).getD i 0))=(List.range 10).all (fun i=>jK i (s.getD i 0)) from by
   rw[Bool.eq_iff_iff,ycb,ycb];exact⟨fun h i hi=>by rw[<- e i hi];exact h i hi,fun h i hi=>by rw[e i hi];exact h i hi⟩]
  rw[decide_eq_true h,decide_eq_true (by rw[ybg];omega)]
 ·have h1:wH s=false:=by unfold wH;rw[decide_eq_false h];rfl
  rw[h1];refine GH (i:=s.length) (by omega) ?_
  rw[List.getD_eq_getElem?_getD,ybp (ybk _),Nat.sub_self]
  cases r with
  | nil=>unfold jK;split<;>rfl
  | cons c r=>
   rcases hr c r rfl with rfl | rfl <;> (unfold jK;split<;>rfl)
def JW (hr:Dn r) (hn:n<=s.length):cO (s++r) n=cO s n:=by
 unfold cO;by_cases h:n<s.length
 ·rw[yco h]
 ·have:n=s.length:=by omega
  subst this;rw[ybp (ybk _),Nat.sub_self,List.getElem?_eq_none (ybk _)]
  cases r with
  | nil=>rfl
  | cons c r=>rcases hr c r rfl with rfl | rfl<;>rfl
def Zq (hr:Dn r):xD (s++r)=xD s:=Pe (Vu hr rfl rfl) s
def NC (hr:Dn r) (hn:n<=s.length):((s++r)[n]?=some 47) ↔ s[n]?=some 47:=by
 by_cases h:n<s.length
 ·rw[yco h]
 ·have:n=s.length:=by omega
  subst this;rw[ybp (ybk _),Nat.sub_self,List.getElem?_eq_none (ybk _)]
  cases r with
  | nil=>simp
  | cons c r=>rcases hr c r rfl with rfl | rfl<;>simp
def EG (hr:Dn r):zF (s++r)=zF s:=by
 unfold zF;rw[Zq hr];have hl:(xD s).length<=s.length:=Ph s
 by_cases h:s[(xD s).length]?=some 47
 ·rw[yab ((NC hr hl).2 h),yab h]
  have:(xD s).length<s.length:=(ybc.1 h).1
  rw[List.drop_append_of_le_length (by omega)]
  exact Pe (Vu hr rfl rfl) _
 ·rw[yaa (fun e=>h ((NC hr hl).1 e)),yaa h]
def QS (h:zF s≠[]):s[(xD s).length]?=some 47/\zF s=uD nD (s.drop ((xD s).length+1)):=by
 have h2:s[(xD s).length]?=some 47:=by
  unfold zF at h;by_cases h2:s[(xD s).length]?=some 47
  ·exact h2
  ·rw[yaa h2]at h;exact absurd rfl h
 exact⟨h2,by unfold zF;rw[yab h2]⟩
def GD(s:List Nat):yF s<=s.length:=by
 have hl:(xD s).length<=s.length:=Ph s
 unfold yF;split
 ·exact hl
 ·rename_i h
  obtain⟨h2,e⟩:=QS h
  have:=(ybc.1 h2).1
  have:=Ph (p:=nD) (s.drop ((xD s).length+1))
  rw[ydj,<- e]at this;omega
def CH  (hr:Dn r):kF ((b::s)++r)=kF (b::s):=by
 have e1:=Pe (p:=eI) (Vu hr rfl rfl) (b::s)
 have e2:=XX (s:=b::s) hr
 have e3:yF ((b::s)++r)=yF (b::s):=by unfold yF;rw[EG hr,Zq hr]
 have e4:sI ((b::s)++r)=sI (b::s):=by unfold sI;rw[e3,JW hr (GD _),EG hr,Zq hr]
 show(if gM b=true then _ else _)=if gM b=true then _ else _
 show(if gM b=true then(if 24<(uD eI ((b::s)++r)).length then TR.bad 111 else .tok 1 (uD eI ((b::s)++r)))else if (nD b&&wH ((b::s)++r))=true then(if rN ((b::s)++r)=true then .bad 113 else .tok 3 (((b::s)++r).take 10))else if nD b=true then(if sI ((b::s)++r)=true then .bad 112 else .tok 2 (((b::s)++r).take (yF ((b::s)++r))))else if Ly b=true then .tok 4 [b]else .bad 110)=_
 rw[e1,e2,e4,e3,List.take_append_of_le_length (GD _)]
 cases hd:wH (b::s)with
 | false=>simp only[yay,ybq,if_false]
 | true=>
  have h10:10<=(b::s).length:=by unfold wH at hd;simp only[ybb,decide_eq_true_eq]at hd;exact hd.1
  have e5:rN ((b::s)++r)=rN (b::s):=by
   unfold rN;rw[JW hr h10,List.take_append_of_le_length h10];by_cases h:10<(b::s).length
   ·rw[decide_eq_true h,decide_eq_true (by rw[ybg];omega)]
   ·have h11:(b::s).length=10:=by omega
    have:cO (b::s) 10=false:=by unfold cO;rw[List.getElem?_eq_none (by omega)]
    rw[this,yay,yay]
  rw[e5,List.take_append_of_le_length h10]
def CJ   (h:kF s=.tok k w):∃r,s=w++r:=by
 unfold kF at h;split at h
 ·cases h
 ·rename_i b s
  split at h
  ·split at h
   ·cases h
   ·cases h;obtain⟨r,h,_⟩:=Kp (p:=eI) (s:=b::s);exact⟨r,h⟩
  ·split at h
   ·split at h
    ·cases h
    ·cases h;exact⟨_,(List.take_append_drop 10 _).symm⟩
   ·split at h
    ·split at h
     ·cases h
     ·cases h;exact⟨_,(List.take_append_drop _ _).symm⟩
    ·split at h
     ·cases h;exact⟨s,rfl⟩
     ·cases h
def za2   (h:kF s=.tok k w):kF w=.tok k w:=by
 have h0:=h
 unfold kF at h;split at h
 ·cases h
 ·rename_i b s
  split at h
  ·rename_i hb
   split at h
   ·cases h
   ·rename_i h24
    injection h with h1 h2
    subst h1;have e:uD eI w=w:=by
     have:=lX (p:=eI) (a:=w) (r:=[]) (by rw[<- h2];exact Kq) (fun _ _ e=>by cases e)
     rwa [ycd]at this
    have hw:∃w',w=b::w':=by
     have:eI b=true:=by unfold eI;rw[hb];rfl
     rw[<- h2];unfold uD;rw[List.takeWhile_cons,this];exact⟨_,rfl⟩
    obtain⟨w',hw⟩:=hw
    rw[h2]at h24;rw[hw]at e ⊢ h24
    unfold kF;simp only[hb,if_true,e,yaa h24]
  ·rename_i hb
   split at h
   ·rename_i hd
    simp only[ybb]at hd;obtain⟨hd1,hd2⟩:=hd
    split at h
    ·cases h
    ·rename_i hbad
     injection h with h1 h2
     subst h1;have h10:10<=(b::s).length:=by unfold wH at hd2;simp only[ybb,decide_eq_true_eq]at hd2;exact hd2.1
     have hwl:w.length=10:=by rw[<- h2,yda];omega
     have hw:∃w',w=b::w':=⟨s.take 9,by rw[<- h2];rfl⟩
     have hdw:wH w=true:=by
      unfold wH at hd2 ⊢
      simp only[ybb,decide_eq_true_eq]at hd2 ⊢
      refine⟨by omega,?_⟩
      rw[ycb]at hd2 ⊢
      intro i hi;have:=hd2.2 i hi
      rw[List.mem_range]at hi;rw[List.getD_eq_getElem?_getD]at this ⊢
      rw[<- h2,List.getElem?_take_of_lt hi];exact this
     have hbw:¬ rN w=true:=by
      unfold rN at hbad ⊢
      rw[h2]at hbad;simp only[ycq,ybb,decide_eq_true_eq,not_or,not_and]at hbad ⊢
      refine⟨fun e=>by omega,?_⟩
      rw[yca (by omega)]
      exact hbad.2
     have htk:w.take 10=w:=yca (by omega)
     obtain⟨w',hw⟩:=hw
     rw[hw]at hdw hbw htk ⊢
     unfold kF;simp only[yaa hb,hd1,hdw,Bool.and_self,if_true,yaa hbw,htk]
   ·rename_i hd
    split at h
    ·rename_i hdg
     split at h
     ·cases h
     ·rename_i hbad
      injection h with h1 h2
      subst h1;obtain⟨q,hq1,hq2⟩:=Kp (p:=nD) (s:=b::s)
      change b::s=xD (b::s)++q at hq1
      have hall:∀x∈xD (b::s),nD x=true:=Kq
      have hfb:∃f',xD (b::s)=b::f':=by unfold xD uD;rw[List.takeWhile_cons,hdg];exact⟨_,rfl⟩
      generalize hf:xD (b::s)=f at hq1 hall hfb
      unfold sI at hbad;simp only[ycq,decide_eq_true_eq,not_or]at hbad;obtain⟨⟨⟨⟨n1,n2⟩,n3⟩,n4⟩,n5⟩:=hbad
      rw[hf]at n3;by_cases hsec:zF (b::s)=[]
      ·have hl:yF (b::s)=f.length:=by unfold yF;rw[yab hsec,hf]
       have hw:w=f:=by rw[<- h2,hl,hq1,Og]
       subst hw;have hff:xD w=w:=by
        have:=lX (p:=nD) (a:=w) (r:=[]) hall (fun _ _ e=>by cases e)
        rwa [ycd]at this
       have hs2:zF w=[]:=by unfold zF;rw[hff,List.getElem?_eq_none (ybk _),yaa (by simp)]
       have hl2:yF w=w.length:=by unfold yF;rw[yab hs2,hff]
       have hdt:wH w=false:=GN fun x hx=>(AB (hall x hx)).2.2.2.2.1
       have hnb:¬ sI w=true:=by
        unfold sI;simp only[ycq,decide_eq_true_eq,not_or];rw[hl2,hs2,hff];refine⟨⟨⟨⟨by omega,?_⟩,n3⟩,by decide⟩,by decide⟩
        unfold cO;rw[List.getElem?_eq_none (ybk _)]
        simp
       have htk:w.take w.length=w:=List.take_length
       obtain⟨w',hw⟩:=hfb
       rw[hw]at hnb hdt hl2 htk ⊢
       unfold kF;simp only[yaa hb,hdg,hdt,yay,if_true,yaa hnb,hl2,htk];simp
      ·have hsl:(b::s)[f.length]?=some 47:=by
        unfold zF at hsec;rw[hf]at hsec;by_cases h47:(b::s)[f.length]?=some 47
        ·exact h47
        ·rw[yaa h47]at hsec;exact absurd rfl hsec
       rw[hq1,Rt]at hsl;obtain⟨q',rfl⟩:∃q',q=47::q':=by
        cases q with
        | nil=>cases hsl
        | cons x q=>cases hsl;exact⟨q,rfl⟩
       have hs2:zF (b::s)=uD nD q':=by
        unfold zF;rw[hf,hq1,Rt,yab (show(47::q').head?=some 47 from rfl),Sf]
       obtain⟨q2,hg1,hg2⟩:=Kp (p:=nD) (s:=q')
       have hga:∀x∈uD nD q',nD x=true:=Kq
       rw[hs2]at n4 n5 hsec;have hl:yF (b::s)=f.length+1+(uD nD q').length:=by unfold yF;rw[hs2,yaa hsec,hf]
       generalize hgg:uD nD q'=g at *
       have hw:w=f++47::g:=by
        rw[<- h2,hl,hq1,hg1];rw[show f++47::(g++q2)=(f++47::g)++q2 by simp]
        have:f.length+1+g.length=(f++47::g).length:=by simp;omega
        rw[this,Og]
       have hff:xD w=f:=by rw[hw];exact lX hall (fun x _ e=>by cases e;rfl)
       have hs3:zF w=g:=by
        unfold zF;rw[hff,hw,Rt,yab (show(47::g).head?=some 47 from rfl),Sf]
        have:=lX (p:=nD) (a:=g) (r:=[]) hga (fun _ _ e=>by cases e)
        rwa [ycd]at this
       have hl2:yF w=w.length:=by unfold yF;rw[hs3,yaa hsec,hff,hw];simp;omega
       have hll:w.length=f.length+1+g.length:=by rw[hw];simp;omega
       have hdt:wH w=false:=GN fun x hx=>by
        rw[hw]at hx;rcases yaf.1 hx with hx | hx
        ·exact(AB (hall x hx)).2.2.2.2.1
        ·rcases ybs.1 hx with rfl | hx
         ·omega
         ·exact(AB (hga x hx)).2.2.2.2.1
       have hnb:¬ sI w=true:=by
        unfold sI;simp only[ycq,decide_eq_true_eq,not_or];rw[hl2,hs3,hff];refine⟨⟨⟨⟨by omega,?_⟩,n3⟩,n4⟩,n5⟩
        unfold cO;rw[List.getElem?_eq_none (ybk _)]
        simp
       have htk:w.take w.length=w:=List.take_length
       obtain⟨f',hf'⟩:=hfb
       have hwb:∃w',w=b::w':=⟨f'++47::g,by rw[hw,hf'];rfl⟩
       clear hw hff hs3
       obtain⟨w',hw⟩:=hwb
       subst hw;unfold kF;simp only[yaa hb,hdg,hdt,yay,if_true,yaa hnb,hl2,htk];simp
    ·split at h
     ·rename_i hdg hsg
      injection h with h1 h2
      subst h1 h2
      have:(nD b&&wH [b])=false:=by simp[hdg]
      unfold kF;simp only[yaa hb,this,yaa hdg,hsg,if_true];simp
     ·cases h
def za4    (h:kF (b::r)=.tok k w):b≠10/\b≠32/\b≠9/\b≠35:=by
 refine⟨?_,?_,?_,?_⟩ <;> (rintro rfl;unfold kF at h;simp[gM,nD,Ly]at h)
end
section
variable {r s:List Nat}{o:Bool}{b:Nat}
abbrev aQ:=Nat × List Nat
def kt (t:uC):aQ:=(t.kind,t.text)
def ktR:LR->Option (List aQ)
 | .ok l=>some (l.map kt)
 | .er _ _ _=>none
def jM:Nat->List Nat->Bool->Option (List aQ)
 | 0,_,_=>some []
 | _+1,[],o=>some (if o=true then [(5,[])]else [])
 | k+1,b::r,o=>
  if b=10 then(jM k r false).map fun l=>if o=true then(5,[])::l else l
  else if b=32\/b=9 then jM k r o
  else if b=35 then jM k ((b::r).drop (uD (fun x=>decide (x≠10)) (b::r)).length) o
  else match kF (b::r)with
   | .bad _=>none
   | .tok kd w=>(jM k ((b::r).drop w.length) true).map fun l=>(kd,w)::l
def zh8:∀(k:Nat) (s:List Nat) (ln cl:Nat) (op:Option (Nat × Nat)),ktR (iM k s ln cl op)=jM k s op.isSome:=by
 have cons:∀(t:uC) (r:LR),ktR (r.cons t)=(ktR r).map fun l=>kt t::l:=fun t r=>by cases r<;>rfl
 have close:∀(op:Option (Nat × Nat)) (r:LR),ktR (LR.close op r)=(ktR r).map fun l=>if op.isSome=true then(5,[])::l else l:=fun op r=>by
  cases op with
  | none=>cases r<;>rfl
  | some p=>exact cons _ r
 intro k;induction k with
 | zero=>intro s ln cl op;rfl
 | succ k ih=>
  intro s ln cl op
  cases s with
  | nil=>rw[iM,close];rfl
  | cons b r=>
   rw[iM,jM];split
   ·rw[close,ih];rfl
   split
   ·exact ih _ _ _ _
   split
   ·exact ih _ _ _ _
   ·cases kF (b::r)with
    | bad e=>rfl
    | tok kd w=>exact(cons _ _).trans (by rw[ih];rfl)
def UP:∀(k k':Nat) (s:List Nat) (o:Bool),s.length<k->s.length<k'->jM k s o=jM k' s o:=by
 intro k;induction k with
 | zero=>intro k' s o h;omega
 | succ k ih=>
  intro k' s o h h';obtain⟨k',rfl⟩:∃m,k'=m+1:=⟨k'-1,by omega⟩
  cases s with
  | nil=>rfl
  | cons b r=>
   simp only[ybn]at h h'
   rw[jM,jM];split
   ·rw[ih k' r false (by omega) (by omega)]
   split
   ·rw[ih k' r o (by omega) (by omega)]
   split
   ·rename_i h35
    have:0<(uD (fun x=>decide (x≠10)) (b::r)).length:=by
     unfold uD;rw[List.takeWhile_cons,h35];simp
    rw[ih k' _ o (by rw[ydj,ybn];omega) (by rw[ydj,ybn];omega)]
   ·cases ht:kF (b::r)with
    | bad e=>rfl
    | tok kd w=>
     have:=(Jy ht).1
     show(jM k _ true).map _=(jM k' _ true).map _
     rw[ih k' _ true (by rw[ydj,ybn];omega) (by rw[ydj,ybn];omega)]
def zI (s:List Nat)(o:Bool):Option (List aQ):=jM (s.length+1) s o
def Rb{k:Nat}  (h:s.length<k):jM k s o=zI s o:=UP _ _ _ _ h (by omega)
def HD  : zI [] o=some (if o=true then [(5,[])]else []):=rfl
def Rc   : zI (10::r) o=(zI r false).map fun l=>if o=true then(5,[])::l else l:=by
 unfold zI;rw[jM,yab rfl];rfl
def Yi   (h:b=32\/b=9):zI (b::r) o=zI r o:=by
 unfold zI;rw[jM,yaa (by omega),yab h];rfl
def Yh   : zI (35::r) o=zI ((35::r).drop (uD (fun x=>decide (x≠10)) (35::r)).length) o:=by
 rw[<- Rb (k:=(35::r).length+1) (by omega),jM,yaa (by omega),yaa (by omega),yab rfl]
 refine Rb ?_
 have:0<(uD (fun x=>decide (x≠10)) (35::r)).length:=by unfold uD;rw[List.takeWhile_cons];simp
 rw[ydj,ybn];omega
def Yg {w:List Nat}{kd:Nat} (h:kF (b::r)=.tok kd w):zI (b::r) o=(zI ((b::r).drop w.length) true).map fun l=>(kd,w)::l:=by
 obtain⟨h1,h2,h3,h4⟩:=za4 h
 have:=(Jy h).1
 rw[<- Rb (k:=(b::r).length+1) (by omega),jM,yaa h1,yaa (by omega),yaa h4,h]
 show(jM _ _ true).map _=_
 rw[Rb (by rw[ydj,ybn];omega)]
def Yj  {e:Nat} (h1:b≠10)(h2:b≠32)(h3:b≠9)(h4:b≠35)(h:kF (b::r)=.bad e):zI (b::r) o=none:=by
 unfold zI;rw[jM,yaa h1,yaa (by omega),yaa h4,h]
def GZ{M:List Nat->Prop}(h0:M [])(h1:∀r,M r->M (10::r))(h2:∀b r,b=32\/b=9->M r->M (b::r))
  (h3:∀r,M ((35::r).drop (uD (fun x=>decide (x≠10)) (35::r)).length)->M (35::r))
  (h4:∀b r kd w,kF (b::r)=.tok kd w->M ((b::r).drop w.length)->M (b::r))
  (h5:∀b r e,b≠10->b≠32->b≠9->b≠35->kF (b::r)=.bad e->M (b::r)):∀s,M s:=by
 have key:∀(n:Nat) (s:List Nat),s.length<=n->M s:=by
  intro n;induction n with
  | zero=>
   intro s hs;have:s=[]:=ycc.1 (by omega)
   subst this;exact h0
  | succ n ih=>
   intro s hs
   cases s with
   | nil=>exact h0
   | cons b r=>
    simp only[ybn]at hs;by_cases a1:b=10
    ·subst a1;exact h1 r (ih r (by omega))
    by_cases a2:b=32\/b=9
    ·exact h2 b r a2 (ih r (by omega))
    by_cases a3:b=35
    ·subst a3
     refine h3 r (ih _ ?_)
     have:0<(uD (fun x=>decide (x≠10)) (35::r)).length:=by unfold uD;rw[List.takeWhile_cons];simp
     rw[ydj,ybn];omega
    cases ht:kF (b::r)with
    | bad e=>exact h5 b r e a1 (by omega) (by omega) a3 ht
    | tok kd w=>
     refine h4 b r kd w ht (ih _ ?_)
     have:=(Jy ht).1
     rw[ydj,ybn];omega
 exact fun s=>key _ s (ybk _)
def HE(b:List Nat):∀(a:List Nat) (o:Bool),zI (a++10::b) o=(zI a o).bind fun la=>(zI b false).map fun lb=>la++lb:=by
 refine GZ ?_ ?_ ?_ ?_ ?_ ?_
 ·intro o
  rw[yah,Rc,HD]
  cases zI b false<;>cases o<;>rfl
 ·intro r ih o
  rw[List.cons_append,Rc,Rc,ih]
  cases zI r false with
  | none=>rfl
  | some l=>cases zI b false<;>cases o<;>rfl
 ·intro c r hc ih o
  rw[List.cons_append,Yi hc,Yi hc,ih]
 ·intro r ih o
  have e:uD (fun x=>decide (x≠10)) (35::r++10::b)=uD (fun x=>decide (x≠10)) (35::r):=Pe (fun c r' h=>by cases h;rfl) _
  have hl:=Ph (p:=fun x=>decide (x≠10)) (35::r)
  rw[List.cons_append,Yh,Yh,<- List.cons_append,e,List.drop_append_of_le_length hl,ih]
 ·intro c r kd w ht ih o
  have ht2:kF (c::(r++10::b))=.tok kd w:=by rw[<- List.cons_append,CH (fun c r' h=>by cases h;exact .inl rfl)];exact ht
  obtain⟨r',hr'⟩:=CJ ht
  have hl:w.length<=(c::r).length:=by rw[hr'];simp
  rw[Yg ht,List.cons_append,Yg ht2,<- List.cons_append,List.drop_append_of_le_length hl,ih]
  cases zI ((c::r).drop w.length) true with
  | none=>rfl
  | some l=>cases zI b false<;>rfl
 ·intro c r e a1 a2 a3 a4 ht o
  have ht2:kF (c::(r++10::b))=.bad e:=by rw[<- List.cons_append,CH (fun c r' h=>by cases h;exact .inl rfl)];exact ht
  rw[Yj a1 a2 a3 a4 ht,List.cons_append,Yj a1 a2 a3 a4 ht2];rfl
def Ev:Bool->List aQ->List Nat
 | _,[]=>[]
 | o,t::l=>if t.1=5 then 10::Ev false l else(if o=true then 32::t.2 else t.2)++Ev true l
def Rs:Bool->List aQ->Prop
 | _,[]=>True
 | o,t::l=>if t.1=5 then o=true/\t.2=[]/\Rs false l else kF t.2=.tok t.1 t.2/\Rs true l
def Ib:Bool->List aQ->Bool
 | o,[]=>o
 | _,t::l=>Ib (!decide (t.1=5)) l
def Rd:∀(s:List Nat) (o:Bool) (l:List aQ),zI s o=some l->Rs o l/\Ib o l=false/\(Ev o l).length<=2*s.length+(if o=true then 1 else 0)/\(∀t∈l,∀b∈t.2,b∈s)/\l.length<=2*s.length+(if o=true then 1 else 0):=by
 refine GZ ?_ ?_ ?_ ?_ ?_ ?_
 ·intro o l h
  rw[HD]at h
  cases h
  cases o
  ·exact⟨trivial,rfl,by simp[Ev],by simp,by simp⟩
  ·exact⟨⟨rfl,rfl,trivial⟩,rfl,by simp[Ev],by simp,by simp⟩
 ·intro r ih o l h
  rw[Rc]at h
  cases hr:zI r false with
  | none=>rw[hr]at h;cases h
  | some m=>
   rw[hr]at h;obtain⟨g1,g2,g3,g4,g5⟩:=ih false m hr
   cases o with
   | false=>
    cases h;exact⟨g1,g2,by simp at g3 ⊢;omega,fun t ht b hb=>ybr _ (g4 t ht b hb),by simp at g5 ⊢;omega⟩
   | true=>
    cases h;refine⟨⟨rfl,rfl,g1⟩,g2,?_,fun t ht b hb=>?_,by simp at g5 ⊢;omega⟩
    ·show(10::Ev false m).length<=_
     simp at g3 ⊢;omega
    ·rcases ybs.1 ht with rfl | ht
     ·cases hb
     ·exact ybr _ (g4 t ht b hb)
 ·intro c r hc ih o l h
  rw[Yi hc]at h;obtain⟨g1,g2,g3,g4,g5⟩:=ih o l h
  exact⟨g1,g2,by simp;omega,fun t ht b hb=>ybr _ (g4 t ht b hb),by simp;omega⟩
 ·intro r ih o l h
  rw[Yh]at h;obtain⟨g1,g2,g3,g4,g5⟩:=ih o l h
  rw[ydj]at g3 g5;exact⟨g1,g2,by omega,fun t ht b hb=>List.mem_of_mem_drop (g4 t ht b hb),by omega⟩
 ·intro c r kd w ht ih o l h
  rw[Yg ht]at h
  cases hr:zI ((c::r).drop w.length) true with
  | none=>rw[hr]at h;cases h
  | some m=>
   rw[hr]at h
   cases h;obtain⟨g1,g2,g3,g4,g5⟩:=ih true m hr
   obtain⟨f1,_,_,f5⟩:=Jy ht
   obtain⟨r',hr'⟩:=CJ ht
   have hl:w.length<=(c::r).length:=by rw[hr'];simp
   rw[ydj]at g3 g5;simp only[if_true]at g3 g5;refine⟨by rw[Rs,yaa f5];exact⟨za2 ht,g1⟩,by rw[Ib];simpa[f5]using g2,?_,fun t ht' b hb=>?_,?_⟩
   ·rw[Ev,yaa f5]
    cases o<;>simp<;>simp only[ybn]at *<;>omega
   ·rcases ybs.1 ht' with rfl | ht'
    ·rw[hr'];exact ydc _ hb
    ·exact List.mem_of_mem_drop (g4 t ht' b hb)
   ·cases o<;>simp<;>simp only[ybn]at *<;>omega
 ·intro c r e a1 a2 a3 a4 ht o l h
  rw[Yj a1 a2 a3 a4 ht]at h;cases h
def HF(s:List Nat):ktR (jV s)=zI s false:=zh8 _ _ _ _ _
def zh7 {l:List aQ}(h:zI s false=some l):∃m,jV s=.ok m/\m.map kt=l:=by
 have e:=HF s
 rw[h]at e
 cases hl:jV s with
 | ok m=>rw[hl]at e;exact⟨m,rfl,yci e⟩
 | er a b c=>rw[hl]at e;cases e
def Yk {m:List uC}(h:jV s=.ok m):zI s false=some (m.map kt):=by rw[<- HF,h];rfl
end
section
structure Cg (tk tk':List uC):Prop where
 acc:acc tk=acc tk'
 kind:zD tk=zD tk'
 text:fE tk=fE tk'
 len:tk.length=tk'.length
end
section
variable {n n':Nat}{α:Type}{p:pD}
def VP.same(tk:List uC):VP:=⟨tk,tk,0,tk.length,False,False,0⟩
def GM{tk:List uC}{w:List Nat} (h:tk.length<=n):acc tk w n=false:=by unfold acc;rw[List.getElem?_eq_none h]
def Xu{tk:List uC}{q:Nat}(h:tk.length<=n):zD tk q n=false:=by unfold zD;rw[List.getElem?_eq_none h]
theorem VW.same{tk:List uC}(hg:∀x∈tk,rP x):VW (VP.same tk) where
 acc:=fun _ _ _ _=>rfl
 kind:=fun _ _ _ _=>rfl
 text:=fun _ _ _=>rfl
 qacc:=fun w _=>GM (ybk _)
 qkind:=fun q _=>Xu (ybk _)
 qname:=by
  have:=Xu (tk:=tk) (q:=1) (ybk _)
  unfold sK;exact(congrArg (· && _) this).trans rfl
 full:=fun h=>h.elim
 good:=hg
section
variable {tk:List uC}(hg:∀x∈tk,rP x)
include hg
def Av {V:α->Prop}{f:PM α}(h:VW (VP.same tk)->rB (VP.same tk) True V f f) {a:α}(hr:f n=.ok a n'):n<=n'/\NE tk n n'/\V a:=by
 have:=((h (VW.same hg)).ra trivial n (yaw _)).mo
 rw[hr]at this;exact this
def zfq {V:α->Prop}{f:PM α}(h:VW (VP.same tk)->rB (VP.same tk) True V f f){i e:Nat}(hr:f n=.er e i):n<=i/\NE tk n i/\(e=120\/e=121\/e=122):=by
 have:=((h (VW.same hg)).ra trivial n (yaw _)).mo
 rw[hr]at this;exact this
structure PBd (p:pD) (n:Nat):Prop where
 defs:p.defs.length<=n
 tables:p.tables.length<=n
 clauses:p.clauses.length<=n
 rows:∀x∈p.tables,x.rows.length<=n/\∀r∈x.rows,vH.cpy r.f
 exprs:∀x∈p.clauses,lE.cpy x
omit hg in
theorem PBd.mono  (h:PBd p n)(hn:n<=n'):PBd p n':=
 ⟨by have:=h.defs;omega,by have:=h.tables;omega,by have:=h.clauses;omega,fun x hx=>⟨by have:=(h.rows x hx).1;omega,(h.rows x hx).2⟩,h.exprs⟩
def zh4{p':pD} (h:PBd p n)(hr:jO tk p n=.ok p' n'):n<n'/\PBd p' n':=by
 unfold jO at hr;split at hr
 ·obtain⟨d,n1,h1,h2⟩:=PR.bind_inv hr
  have:=(Av hg (fun hv=>Ci hv) h1).1
  cases h2;have k:=h.mono (n':=n') (by omega)
  exact⟨by omega,by have:=h.defs;simp;omega,k.tables,k.clauses,k.rows,k.exprs⟩
 split at hr
 ·obtain⟨d,n1,h1,h2⟩:=PR.bind_inv hr
  have:=(Av hg (fun hv=>Ci hv) h1).1
  cases h2;have k:=h.mono (n':=n') (by omega)
  exact⟨by omega,by have:=h.defs;simp;omega,k.tables,k.clauses,k.rows,k.exprs⟩
 split at hr
 ·obtain⟨d,n1,h1,h2⟩:=PR.bind_inv hr
  have hd:=Av hg (fun hv=>Om hv) h1
  cases h2;have k:=h.mono (n':=n') (by omega)
  refine⟨by omega,k.defs,by have:=h.tables;simp;omega,k.clauses,fun x hx=>?_,k.exprs⟩
  rcases yaf.1 hx with hx | hx
  ·exact k.rows x hx
  ·simp at hx;subst hx
   have h0:x.rows=[]:=hd.2.2
   rw[h0];exact⟨by simp,by simp⟩
 split at hr
 ·rename_i hrow
  simp only[ybb,ycp,List.isEmpty_eq_false_iff]at hrow;obtain⟨d,n1,h1,h2⟩:=PR.bind_inv hr
  have hd:=Av hg (fun hv=>Pm hv) h1
  cases h2;have k:=h.mono (n':=n') (by omega)
  obtain⟨A,x,hA⟩:∃A x,p.tables=A++[x]:=⟨p.tables.dropLast,p.tables.getLast hrow.1,(List.dropLast_concat_getLast hrow.1).symm⟩
  have e:fP p.tables d=A++[⟨x.name,x.two,x.rows++[d]⟩]:=by rw[hA];simp[fP]
  refine⟨by omega,k.defs,?_,k.clauses,fun y hy=>?_,k.exprs⟩
  ·show(fP p.tables d).length<=n'
   have:=k.tables
   rw[e];rw[hA]at this;simpa using this
  ·have hy:y∈fP p.tables d:=hy
   rw[e]at hy;rcases yaf.1 hy with hy | hy
   ·exact k.rows y (by rw[hA];simp[hy])
   ·simp at hy;subst hy
    have hx:=h.rows x (by rw[hA];simp)
    refine⟨by have:=hx.1;simp;omega,fun r hr=>?_⟩
    rcases yaf.1 hr with hr | hr
    ·exact hx.2 r hr
    ·simp at hr;subst hr;exact hd.2.2
 split at hr
 ·obtain⟨d,n1,h1,h2⟩:=PR.bind_inv hr
  have hd:=Av hg (fun hv=>Sn hv) h1
  cases h2;have k:=h.mono (n':=n') (by omega)
  refine⟨by omega,k.defs,k.tables,by have:=h.clauses;simp;omega,k.rows,fun x hx=>?_⟩
  rcases yaf.1 hx with hx | hx
  ·exact k.exprs x hx
  ·simp at hx;subst hx;exact hd.2.2
 ·cases hr
def GY:∀(m:Nat) (p p':pD) (n n':Nat),PBd p n->n<=tk.length->oJ tk m p n=.ok p' n'->n'<=tk.length/\PBd p' n':=by
 intro m;induction m with
 | zero=>intro p p' n n' h hn hr;cases hr;exact⟨hn,h⟩
 | succ m ih=>
  intro p p' n n' h hn hr;unfold oJ at hr;split at hr
  ·obtain⟨q,n1,h1,h2⟩:=PR.bind_inv hr
   obtain⟨w,n2,h3,h4⟩:=PR.bind_inv h2
   obtain⟨k1,k2⟩:=zh4 hg h h1
   have h5:n2<=tk.length/\n1<=n2:=by
    unfold tE at h3;split at h3
    ·rename_i hk
     cases h3;unfold zD at hk
     cases hx:tk[n1]? with
     | none=>rw[hx]at hk;cases hk
     | some t=>have:=(ybc.1 hx).1;omega
    ·cases h3
   exact ih _ _ _ _ (k2.mono h5.2) h5.1 h4
  ·cases hr;exact⟨hn,h⟩
def CE(hl:tk.length<300000)  (h:pF tk=.ok p n):pD.cpy p:=by
 unfold pF at h;obtain⟨u,n1,h1,h2⟩:=PR.bind_inv h
 obtain⟨w,n2,h3,h4⟩:=PR.bind_inv h2
 obtain⟨v,n3,h5,h6⟩:=PR.bind_inv h4
 have h7:n3<=tk.length:=by
  unfold tE at h5;split at h5
  ·rename_i hk
   cases h5;unfold zD at hk
   cases hx:tk[n2]? with
   | none=>rw[hx]at hk;cases hk
   | some t=>have:=(ybc.1 hx).1;omega
  ·cases h5
 obtain⟨k1,k2⟩:=GY hg _ _ _ _ _ ⟨by simp,by simp,by simp,by simp,by simp⟩ h7 h6
 exact⟨by have:=k2.defs;omega,by have:=k2.tables;omega,by have:=k2.clauses;omega,fun x hx=>⟨by have:=(k2.rows x hx).1;omega,(k2.rows x hx).2⟩,k2.exprs⟩
end
end
section
variable [eC]
def RP.err{α:Type}:RP α->Nat | .ok _=>0 | .er e _ _=>e
def RP.pl{α:Type}:RP α->Nat × Nat | .ok _=>(0,0) | .er _ a b=>(a,b)
def RP.val{α:Type}(z:α):RP α->α | .ok x=>x | .er _ _ _=>z
def plV (p:Nat × Nat):List zA:=[.int .i64 (p.1:Int),.int .i64 (p.2:Int)]
def Mq:pD:=⟨[],[],[],[]⟩
def Xv{t:Tr vA}{sz:Nat}:bA t sz [] .nilslice:=⟨[],.inl ⟨rfl,rfl⟩,wF.2 rfl⟩
def XA{t:Tr vA}:RD t Mq.d zP:=
 oI.2 ⟨[[.str []],[.nilslice],[.nilslice],[.nilslice]],rfl,dC.2 ⟨_,_,rfl,pK.2 rfl,dC.2 ⟨_,_,rfl,pM.2 ⟨_,rfl,Xv⟩,dC.2 ⟨_,_,rfl,pM.2 ⟨_,rfl,Xv⟩,dC.2 ⟨_,_,rfl,pM.2 ⟨_,rfl,Xv⟩,wF.2 rfl⟩⟩⟩⟩⟩
def agPl{p:Nat × Nat}:jJ xX (.agg (plV p))=some (cellsOf (plV p)):=cQ rfl
section
variable {t:Tr vA}{Q:sB}{s:List Nat}{J:kE}
def Xc{K:kG->kG->Int->T}(hg:rL t)(hby:∀b∈s,b<256)
  (hQ:∀t' cs,aA t t'->RD t' ((mI pF s).val Mq).d cs->pA yA.base (Wq yA F vC) J (K (cellsOf cs) (cellsOf (plV (mI pF s).pl)) ((mI pF s).err:Int)) t' Q) :
  pA yA.base (Wq yA F vC) J (.call 10 [.str s] fun a=>.opt (uX 0 a)<|uG Cy fun X2=>.opt (uX 1 a)<|uG xX fun X=>.opt (uX 2 a)<|uI fun n=>.ite (gC (uM3 X2)) (.ite true (K X2 X n) .fail) .fail) t Q:=by
 refine yB ?_
 rw[q10];refine zhm hg hby ?_
 have key:∀t' cs,aA t t'->RD t' ((mI pF s).val Mq).d cs->pA yA.base (Wq yA F vC) J (.opt (uX 0 (.tup [.agg cs,.agg (plV (mI pF s).pl),.int .i64 ((mI pF s).err:Int)]))<|uG Cy fun X2=>.opt (uX 1 (.tup [.agg cs,.agg (plV (mI pF s).pl),.int .i64 ((mI pF s).err:Int)]))<|uG xX fun X=>.opt (uX 2 (.tup [.agg cs,.agg (plV (mI pF s).pl),.int .i64 ((mI pF s).err:Int)]))<|uI fun n=>.ite (gC (uM3 X2)) (.ite true (K X2 X n) .fail) .fail) t' Q:=by
  intro t' cs k1 k2;have hc:uM3 (cellsOf cs)=cs:=Fo k2
  refine iA (v:=.agg cs) rfl (aC (agP k2) (iA (v:=.agg (plV (mI pF s).pl)) rfl (aC agPl (iA (v:=.int .i64 ((mI pF s).err:Int)) rfl (pB (rA ?_ (rA rfl (hQ t' cs k1 k2))))))))
  show fB zA.one (uM3 (cellsOf cs))=true
  rw[hc];obtain⟨a,b,c,rfl,_⟩:=bY k2;exact k2.all
 cases hr:mI pF s with
 | ok x=>rw[hr]at key;exact fun t' cs k1 k2=>key t' cs k1 k2
 | er e a b=>rw[hr]at key;exact fun t' k1=>key t' zP k1 XA
def zdi{K:T}(k:pA yA.base (Wq yA F vC) J K t Q):pA yA.base (Wq yA F vC) J (.call 9 []<|uB fun b=>.ite (!b) oC K) t Q:=by
 refine yB ?_
 have h9:wC yA F 9 [] t=some (.bool true):=Kx (g:=Pw) (by kernel_rfl) fun H=>rfl
 rw[q9,h9,sA];exact cD (qB (by decide) k)
def zhb{K:zA->T}{p:pD}{cs ds:List zA}(hp:pD.cpy p)(h:RD t p.d cs)(h2:RD t p.d ds)(k:pA yA.base (Wq yA F vC) J (K (.bool true)) t Q):pA yA.base (Wq yA F vC) J (.call 12 [.agg cs,.agg ds] K) t Q:=by
 refine yB ?_
 rw[q12,sam47 hp h h2,sA];exact k
end
def Ra{s:List Nat}(h:s.length<=65536):tK s=jV s:=by unfold tK;rw[yaa (by omega)]
def UO{s:List Nat}{m:List uC}(h:tK s=.ok m):s.length<=65536:=by
 unfold tK at h;split at h
 ·cases h
 ·omega
def zbp{s:List Nat}:pD.cpy ((mI pF s).val Mq):=by
 have z:pD.cpy Mq:=⟨by decide,by decide,by decide,fun x hx=>(by cases hx),fun x hx=>(by cases hx)⟩
 cases hl:tK s with
 | er e a b=>rw[Wj hl];exact z
 | ok m=>
  obtain⟨_,h1,h2⟩:=Lm hl
  rw[Pl hl]
  cases hr:pF m with
  | ok x n=>exact CE h2 (by omega) hr
  | er e i=>exact z
end
section
variable [eC]
def Qs{s:List Nat}{n:Nat}:(iB (n:Int) (Int.ofNat (zB s))=true) ↔ n<s.length:=by
 rw[jF,oD];show(n:Int)<((s.length:Nat):Int) ↔ _
 omega
end
section
def inLine(l:List aQ):Prop:=l≠[]/\∀t∈l,t.1≠5/\kF t.2=.tok t.1 t.2
section
variable {tk:List uC}{K:List aQ}
def zgq(hK:tk.map kt=K){n q:Nat}{v:List Nat}(h:K[n]?=some (q,v)):fE tk n=v:=by
 subst hK;rw[ybu]at h;unfold fE
 cases hx:tk[n]? with
 | none=>rw[hx]at h;cases h
 | some t=>rw[hx]at h;cases h;rfl
end
structure Ex (m:List uC) (u:List aQ) (x:fA):Prop where
 toks:m.map kt=u++[(5,[])]
 line:inLine u
 good:∀t∈m,rP t
 ok:oW m 0=.ok x u.length
end
section
def eqS_ne{v w:List Nat}(h:v≠w):qG v w=false:=by
 cases he:qG v w with
 | false=>rfl
 | true=>exact absurd ((uM _ _).1 he) h
variable {m T:List uC}{u:List aQ}{x:fA}
abbrev startX(x:fA):fA:=gW 7 (.mk 26 [] ⟨0,rH,(0:Nat)⟩ [x]) (Sm ⟨2,vI [49] false,0⟩)
end
section
variable [eC]
section
variable {t:Tr vA}{Q:sB}{s:List Nat}{J:kE}{W:kE}
def BA{a b:List Nat}{K:zA->T}(h:a.length+b.length<4000000)(k:pA yA.base W J (K (.str (a++b))) t Q):pA yA.base W J (.opt (mX a b) K) t Q:=iA (Wh (by omega)) k
end
end
section
def HN:∀(l:List aQ) (o:Bool),Ib o l=false->l≠[]->∃w,l[l.length-1]?=some (5,w):=by
 intro l;induction l with
 | nil=>intro o _ h;exact absurd rfl h
 | cons t l ih=>
  intro o h _;rw[Ib]at h
  cases l with
  | nil=>
   obtain⟨k,w⟩:=t
   refine⟨w,?_⟩
   have:k=5:=by simpa[Ib]using h
   subst this;rfl
  | cons y l=>
   obtain⟨w,hw⟩:=ih _ h (by simp)
   exact⟨w,by simpa using hw⟩
section
variable {m:List uC}(hg:∀x∈m,rP x)(he:zD m 5 (m.length-1)=true)
include he
def Qm{n i:Nat}(hn:n<m.length)(h:NE m n i):i<m.length:=by
 apply Nat.lt_of_not_le
 intro hi;have:=h (m.length-1) (by omega) (by omega)
 rw[he]at this;cases this
include hg
def UK:∀(f:Nat) (p:pD) (n e i:Nat),oJ m f p n=.er e i->n<=i/\i<m.length/\(e=120\/e=121\/e=122):=by
 intro f;induction f with
 | zero=>intro p n e i h;cases h
 | succ f ih=>
  intro p n e i h;unfold oJ at h;split at h
  ·rename_i hn
   cases h1:jO m p n with
   | er e' i'=>
    rw[h1]at h
    cases h;obtain⟨k1,k2,k3⟩:=zfq hg (fun hv=>Hj hv) h1
    exact⟨k1,Qm he hn k2,k3⟩
   | ok p1 n1=>
    rw[h1]at h;obtain⟨k1,k2,_⟩:=Av hg (fun hv=>Hj hv) h1
    change (tE m 5 n1).bind _=_ at h
    cases h2:tE m 5 n1 with
    | er e' i'=>
     rw[h2]at h
     cases h;unfold tE at h2;split at h2<;>cases h2
     exact⟨k1,Qm he hn k2,.inl rfl⟩
    | ok w n2=>
     rw[h2]at h;have:=Um h2
     obtain⟨k4,k5,k6⟩:=ih _ _ _ _ h
     exact⟨by omega,k5,k6⟩
  ·cases h
def zgo{e i:Nat}(hm:m≠[])(h:pF m=.er e i):i<m.length/\(e=120\/e=121\/e=122):=by
 have h0:0<m.length:=List.length_pos_iff.2 hm
 unfold pF at h
 cases h1:rE m Gg 0 with
 | er e' i'=>
  rw[h1]at h;cases h;unfold rE at h1;split at h1<;>cases h1
  exact⟨h0,.inl rfl⟩
 | ok u n1=>
  rw[h1]at h;obtain⟨k1,k2,_⟩:=Av hg (fun hv=>kP hv) h1
  change (rI m n1).bind _=_ at h
  cases h2:rI m n1 with
  | er e' i'=>
   rw[h2]at h;cases h;obtain⟨k3,k4,k5⟩:=zfq hg (fun hv=>Br hv) h2
   exact⟨Qm he h0 (k2.join k4),k5⟩
  | ok w n2=>
   rw[h2]at h;obtain⟨k3,k4,_⟩:=Av hg (fun hv=>Br hv) h2
   change (tE m 5 n2).bind _=_ at h
   cases h3:tE m 5 n2 with
   | er e' i'=>
    rw[h3]at h;cases h;unfold tE at h3;split at h3<;>cases h3
    exact⟨Qm he h0 (k2.join k4),.inl rfl⟩
   | ok v n3=>
    rw[h3]at h;exact(UK hg he _ _ _ _ _ h).2
structure Cut (m tk2:List uC) (i:Nat):Prop where
 acc:∀j,j<i->∀w,Proofs.acc tk2 w j=Proofs.acc m w j
 kind:∀j,j<i->∀q,zD tk2 q j=zD m q j
 text:∀j,j<i->fE tk2 j=fE m j
 qacc:∀w,Proofs.acc tk2 w i=false
 qkind:∀q,q≠5->zD tk2 q i=false
 fin:(tk2.length=i+1/\zD tk2 5 i=true)\/(tk2.length=i/\(i=0\/zD m 5 (i-1)=true))
end
end
section
variable [eC]
variable {t tf:Tr vA}
def zji{L:List kD}{l:List Nat}{x:zA}{Q:sB}(hx:bA tf 1 (eD l) x)(ho:lA yA.base tf t L)(hl:l.length<300000)(hQ:Tn yA.base tf L 1 (eD l) Q):Wc yA F 160 [x] t Q:=
 w160 (zc7 el41 hx ho (by rw[qT];omega) hQ)
def LN{w:tJ}(hl:w.limbs.length<300000):cU yA.base (Wq yA F vC) 150 w.d:=by
 intro L tf t cs Q ho hd hQ;obtain⟨v,rfl,hv⟩:=Dy hd
 rw[q150];refine w150 ?_
 simp only[gC,t150,pA,q160];refine zji hv ho hl fun tf' t' u k1 k2 k3=>?_
 have hr:=lV (w:=w) k3
 exact tN (by rw[jH];simp only[ycg,yck,k3.one];rfl) (tN hr.all (hQ tf' t' _ k1 k2 hr))
def LO{f:vH}(hl:f.n.limbs.length<300000/\f.d.limbs.length<300000):cU yA.base (Wq yA F vC) 134 f.dd:=by
 intro L tf t cs Q ho hd hQ;obtain⟨u,v,rfl,hu,hv⟩:=rd_frac hd
 rw[q134];refine w134 ?_
 simp only[uG,gC,aI,t134,pA];refine LN hl.1 ho (lV (w:=f.n) hu) fun tf1 t1 c1 k1 k2 k3=>?_
 have hz1:=vL k3 (tJ.zs _)
 have a1:=k3.all
 obtain⟨u1,rfl,hu1⟩:=Dy k3
 rw[hz1,sA];refine tN a1 ?_
 refine LN hl.2 k2 (lV (w:=f.d) (hv.mono k1)) fun tf2 t2 c2 m1 m2 m3=>?_
 have hz2:=vL m3 (tJ.zs _)
 have a2:=m3.all
 obtain⟨v1,rfl,hv1⟩:=Dy m3
 rw[hz2,sA];have hr:=wU (f:=f) (hu1.mono m1) hv1
 exact tN a2 (tN hr.all (hQ tf2 t2 _ (k1.trans m1) m2 hr))
def zjk{x:oG}(hl:x.f.n.limbs.length<300000/\x.f.d.limbs.length<300000):cU yA.base (Wq yA F vC) 114 x.d:=by
 intro L tf t cs Q ho hd hQ;obtain⟨u,v,rfl,hu,hv⟩:=Dz hd
 rw[q114];refine w114 ?_
 simp only[uG,gC,uZ,uY,uM5,t114,pA];refine LO hl ho (wU (f:=x.f) hu hv) fun tf1 t1 c1 k1 k2 k3=>?_
 have hz1:=vL k3 (vH.zs _)
 have a1:=k3.all
 obtain⟨u1,v1,rfl,hu1,hv1⟩:=rd_frac k3
 rw[hz1,sA];have hr:=Ej (x:=x) hu1 hv1
 exact tN a1 (tN hr.all (hQ tf1 t1 _ k1 k2 hr))
theorem zjj{r:lG}(hl:r.f.n.limbs.length<300000/\r.f.d.limbs.length<300000):cU yA.base (Wq yA F vC) 113 r.d:=by
 intro L tf t cs Q ho hd hQ;obtain⟨u,v,rfl,hu,hv⟩:=Pp hd
 rw[q113];refine w113 ?_
 simp only[uG,gC,uZ,uM5,t113,pA];refine LO hl ho (wU (f:=r.f) hu hv) fun tf1 t1 c1 k1 k2 k3=>?_
 have hz1:=vL k3 (vH.zs _)
 have a1:=k3.all
 obtain⟨u1,v1,rfl,hu1,hv1⟩:=rd_frac k3
 rw[hz1,sA];have hr:=mk_row (x:=r) hu1 hv1
 exact tN a1 (tN hr.all (hQ tf1 t1 _ k1 k2 hr))
mutual
theorem AI:∀(x:fA),fA.cpy x->cU yA.base (Wq yA F vC) 93 x.d
 | .mk op name v args,h=>by
  intro L tf t cs Q ho hd hQ;obtain⟨a,b,c,rfl,ha,hb,hc⟩:=uK hd
  simp only[fA.op,fA.name,fA.v,fA.args]at ha hb hc ⊢
  unfold fA.cpy at h;rw[q93];refine w93 ?_
  simp only[uG,gC,uZ,uY,uM4,t93,pA];refine zjk h.1 ho (Ej (x:=v) ha hb) fun tf1 t1 c1 k1 k2 k3=>?_
  have hz1:=vL k3 (oG.zs _)
  have a1:=k3.all
  obtain⟨u1,v1,rfl,hu1,hv1⟩:=Dz k3
  rw[hz1,sA];refine tN a1 ?_
  rw[q115];refine w115 ?_
  simp only[uZ,t115,pA];refine LM (ds:=args.map fA.d) el48 sl48 (by decide) (fun d hd=>?_) (fun d hd=>?_) (by simp_all) (fun v i t hw=>j115_2 hw) (fun tf2 t2 v2 m1 m2 m3=>?_) (hc.mono k1) k2
  ·obtain⟨x,_,rfl⟩:=yaq.1 hd
   exact x.zs
  ·obtain⟨x,hx,rfl⟩:=yaq.1 hd
   exact LJ args h.2.2 x hx
  ·have hr:=Ek (op:=op) (name:=name) (v:=v) (args:=args) (hu1.mono m1) (hv1.mono m1) m3
   exact tN (by rw[jH];simp only[ycg,yck,m3.one];rfl) (tN hr.all (hQ tf2 t2 _ (k1.trans m1) m2 hr))
theorem LJ:∀(l:List fA),fA.cpys l->∀x∈l,cU yA.base (Wq yA F vC) 93 x.d
 | [],_,x,hx=>by cases hx
 | y::l,h,x,hx=>by
  unfold fA.cpys at h;rcases ybs.1 hx with e | hx
  ·rw[e];exact AI y h.1
  ·exact LJ l h.2 x hx
end
theorem zjm{x:pG}(hn:x.rows.length<300000)(hr:∀r∈x.rows,r.f.n.limbs.length<300000/\r.f.d.limbs.length<300000):cU yA.base (Wq yA F vC) 61 x.d:=by
 intro L tf t cs Q ho hd hQ;obtain⟨a,rfl,ha⟩:=Wv hd
 rw[q61];refine w61 ?_
 simp only[gC,t61,pA];rw[q92];refine w92 ?_
 simp only[uZ,t92,pA];refine LM (ds:=x.rows.map lG.d) el128 sl128 (by decide) (fun d hd=>?_) (fun d hd=>?_) (by simp_all) (fun v i t hw=>j92_2 hw) (fun tf2 t2 v2 m1 m2 m3=>?_) ha ho
 ·obtain⟨r,_,rfl⟩:=yaq.1 hd
  exact r.zs
 ·grind [zjj]
 ·have hr:=zb5 (x:=x) m3
  exact tN (by rw[jH];simp only[ycg,yck,m3.one];rfl) (tN hr.all (hQ tf2 t2 _ m1 m2 hr))
def zjl{x:lE}(h1:fA.cpy x.when_)(h2:fA.cpy x.then_):cU yA.base (Wq yA F vC) 62 x.d:=by
 intro L tf t cs Q ho hd hQ;obtain⟨a,b,c,a',b',c',rfl,hw,ht⟩:=Pq hd
 rw[q62];refine w62 ?_
 simp only[uG,gC,uZ,uY,uM1,t62,pA];refine AI _ h1 ho hw fun tf1 t1 c1 k1 k2 k3=>?_
 have hz1:=vL k3 (fA.zs _)
 have a1:=k3.all
 have k3':=k3
 obtain⟨u1,u2,u3,rfl,_⟩:=uK k3'
 rw[hz1,sA];refine tN a1 ?_
 refine AI _ h2 k2 (RD.mono k1 _ _ ht) fun tf2 t2 c2 m1 m2 m3=>?_
 have hz2:=vL m3 (fA.zs _)
 have a2:=m3.all
 have m3':=m3
 obtain⟨v1,v2,v3,rfl,_⟩:=uK m3'
 rw[hz2,sA];have hr:=TZ (x:=x) (RD.mono m1 _ _ k3) m3
 exact tN a2 (tN hr.all (hQ tf2 t2 _ (k1.trans m1) m2 hr))
end
section
variable {sz:Nat}{A B:List kD}{l:List D}{v:zA}
variable [eC]
section
variable {t tf:Tr vA}{C:oA}
theorem lA.appendD{T el n:Nat} {m:List D}{x:zA}(hT:eJ C T el sz)(h:lA C.base tf t (A++bB C.base sz l v::B))(hx:bA tf sz m x)(hl:l.length+m.length<400000)(hn:t.get n=none)(hbase:C.base<=n) :
  ∃v' k t',gE C T T v x ⟨n,t⟩=some (v',⟨k,t'⟩)/\lA C.base tf t' (A++bB C.base sz (l++m) v'::B)/\zA.one v'=true:=by
 have hv:eL C.base tf t sz l v:=h.ok (bB C.base sz l v) (by simp)
 obtain⟨cm,h1,h2⟩:=hx
 have hlen:=h2.length
 by_cases h0:m=[]
 ·subst h0
  have hc:cm=[]:=ycc.1 (by simpa using hlen)
  subst hc;have he:=h1.mono h.tle
  rw[ycd];rcases hv with⟨rfl,rfl⟩ | ⟨b,cl,c,rfl,hb0,hb1,hb2,hb3,hb4⟩
  ·exact⟨_,_,t,ZN hT he,h,rfl⟩
  ·obtain⟨f1,f2⟩:=he.first (n:=n)
   have:=zai (C:=C) (t:=t) (b:=b) (q:=n) (k:=l.length) (m:=0) (n:=l.length) hT f2 f1 (by omega)
   exact⟨_,_,t,this,h,rfl⟩
 ·have hp:0<m.length:=List.length_pos_iff.2 h0
  obtain⟨t',k1,k2,k3,k4⟩:=Td hT hv (h1.mono h.tle) h2 (by
   intro a ha;obtain⟨cs,hcs,ha⟩:=List.mem_flatten.1 ha
   obtain⟨j,hj,rfl⟩:=List.mem_iff_getElem.1 hcs
   obtain⟨cs',e1,e2⟩:=h2.get (i:=j) (ybd (show j<m.length by omega))
   rw[ybd hj]at e1
   cases e1
   exact RD.ones _ _ e2 a ha) hp hl hn hbase h.tle
  refine⟨_,_,t',k1,lA.upd (o:=bB C.base sz l v) h (fun k h1 h2=>k4 k ?_ (fun e=>h1 (sZ.2 e))) (fun k hk=>?_) k2 (by simp[bB,aG]) k3,rfl⟩
  all_goals grind [bB,aG]
end
section
variable {t tf:Tr vA}
def pZ{tf t:Tr vA}    (h:lA yA.base tf t (A++bB yA.base sz l v::B)):fB zA.one [v]=true:=by
 have hv:eL yA.base tf t sz l v:=h.ok (bB yA.base sz l v) (by simp)
 rw[jH];simp only[ycg,yck,hv.one];rfl
def copy11{p:pD}{cs:List zA}{Q:sB}(h:pD.cpy p)(hd:RD t p.d cs)
  (hQ:∀tf' t' a b c,aA t tf'->lA yA.base tf' t' [bB yA.base 24 (p.clauses.map lE.d) c,bB yA.base 3 (p.tables.map pG.d) b,bB yA.base 3 (p.defs.map bF.d) a]->Q (.agg [.str p.name,a,b,c]) t'):Wc yA F 11 [.agg cs] t Q:=by
 obtain⟨a,b,c,rfl,ha,hb,hc⟩:=bY hd
 have ho:lA yA.base t t []:=⟨aA.refl _,by simp,by simp,by simp⟩
 refine w11 ?_
 unfold t11 gC;refine yB ?_
 rw[q30];refine w30 ?_
 unfold t30;have o1:lA yA.base t t ([]++bB yA.base 3 [] .nilslice::[]):=lA.add (A:=[]) (B:=[]) (o':=bB yA.base 3 [] .nilslice) ho (fun k _=>rfl) (fun k hk=>by cases hk) (.inl ⟨rfl,rfl⟩) (by simp[bB,aG]) (aA.refl _)
 refine lC fun n hn hbase=>?_
 obtain⟨v1,k1,t1,e1,o2,e3⟩:=lA.appendD (A:=[]) el23 o1 ha (by have:=h.defs;simp;omega) hn hbase
 refine⟨_,_,e1,?_⟩
 rw[yah]at o2;refine rA (pZ (A:=[]) o2) (yB ?_)
 rw[q31];refine w31 ?_
 unfold t31;refine LL (W:=Wq yA F vC) (ds:=p.tables.map pG.d) el24 sl24 (by decide) (fun d hd=>?_) (fun d hd=>?_) (by rw[ybf];exact h.tables) (fun v i t hw=>j31_2 hw) (fun tf2 t2 b1 m1 m2=>?_) hb o2
 ·obtain⟨r,_,rfl⟩:=yaq.1 hd
  exact r.zs
 ·obtain⟨r,hm,rfl⟩:=yaq.1 hd
  exact zjm (h.rows r hm).1 (h.rows r hm).2
 refine rA (pZ (A:=[]) m2) (yB ?_)
 rw[q32];refine w32 ?_
 unfold t32;refine LL (W:=Wq yA F vC) (ds:=p.clauses.map lE.d) el25 sl25 (by decide) (fun d hd=>?_) (fun d hd=>?_) (by rw[ybf];exact h.clauses) (fun v i t hw=>j32_2 hw) (fun tf3 t3 c1 n1 n2=>?_) (hc.mono m1) m2
 ·obtain⟨r,_,rfl⟩:=yaq.1 hd
  exact r.zs
 ·obtain⟨r,hm,rfl⟩:=yaq.1 hd
  exact zjl (h.exprs r hm).1 (h.exprs r hm).2
 refine rA (pZ (A:=[]) n2) (rA ?_ ?_)
 ·have h1:=pZ (A:=[bB yA.base 24 (p.clauses.map lE.d) c1,bB yA.base 3 (p.tables.map pG.d) b1]) n2
  have h2:=pZ (A:=[bB yA.base 24 (p.clauses.map lE.d) c1]) n2
  have h3:=pZ (A:=[]) n2
  simp only[jH,ycg,yck,Bool.and_true]at h1 h2 h3 ⊢
  rw[h1,h2,h3];rfl
 ·exact hQ tf3 t3 _ _ _ (m1.trans n1) n2
end
end
section
variable {tk:List uC}{w:List Nat}{n n':Nat}{p p':pD}{S:VP}
def iK (p q:pD):pD:=⟨p.name,p.defs++q.defs,p.tables++q.tables,p.clauses++q.clauses⟩
def zj1 {v:List Nat} (h:acc tk v n=true)(hw:v≠w):acc tk w n=false:=by
 unfold acc at *
 cases hx:tk[n]? with
 | none=>rfl
 | some t=>
  rw[hx]at h;simp only[ybb]at h;have:=(uM _ _).1 h.2
  show(_&&qG t.text w)=false
  rw[this,eqS_ne hw,yay]
def UM   (hg:∀x∈tk,rP x)(h:jO tk p n=.ok p' n'):∃w,acc tk w n=true:=by
 unfold jO at h;split at h
 ·exact⟨_,by assumption⟩
 split at h
 ·exact⟨_,by assumption⟩
 split at h
 ·exact⟨_,by assumption⟩
 split at h
 ·rename_i h4
  simp only[ybb]at h4;exact⟨_,h4.2⟩
 split at h
 ·exact⟨_,by assumption⟩
 ·cases h
--
--
--
def Hf (hv:VW S)(hd:¬ S.dp){α:Type}{V:α->Prop}{f f2:PM α}(h:rB S True V f f2) {a:α}(hlo:S.lo<=n)(hr:f n=.ok a n')(hk:n'<=S.k):f2 (n+S.d)=.ok a (n'+S.d):=by
 have ra:=h.ra trivial n hlo
 have hm:=ra.mo
 rw[hr]at hm;rcases ra.ok (Nat.le_trans hm.1 hk) a n' hr hk with e | ⟨e,_⟩
 ·exact e
 ·exact absurd e hd
def zcb (hv:VW S)(hd:¬ S.dp){pre:pD} (hlo:S.lo<=n)(hk:n'<=S.k)(hr:jO S.tk p n=.ok p' n'):jO S.tk2 (iK pre p) (n+S.d)=.ok (iK pre p') (n'+S.d):=by
 have hlt:n<S.k:=by
  obtain⟨w,hw⟩:=UM hv.good hr
  have:n<n':=by
   have hm:=((Hj (H:=True) hv (p:=p)).ra trivial n hlo).mo
   rw[hr]at hm;unfold jO at hr;split at hr
   ·obtain⟨a,n1,h1,h2⟩:=PR.bind_inv hr
    have:=Ay (S:=S) (Ci hv) (by omega) h1
    cases h2;omega
   split at hr
   ·obtain⟨a,n1,h1,h2⟩:=PR.bind_inv hr
    have:=Ay (S:=S) (Ci hv) (by omega) h1
    cases h2;omega
   split at hr
   ·obtain⟨a,n1,h1,h2⟩:=PR.bind_inv hr
    have:=Ay (S:=S) (Om hv) (by omega) h1
    cases h2;omega
   split at hr
   ·obtain⟨a,n1,h1,h2⟩:=PR.bind_inv hr
    have:=Ay (S:=S) (Pm hv) (by omega) h1
    cases h2;omega
   split at hr
   ·obtain⟨a,n1,h1,h2⟩:=PR.bind_inv hr
    have:=Ay (S:=S) (Sn hv) (by omega) h1
    cases h2;omega
   ·cases hr
  omega
 have ha:∀w,acc S.tk2 w (n+S.d)=acc S.tk w n:=hv.acc n hlo hlt
 have en:n+S.d+1=n+1+S.d:=by omega
 unfold jO at hr ⊢
 rw[ha,ha,ha,ha,ha,en];split at hr
 ·rename_i h1
  obtain⟨a,n1,h2,h3⟩:=PR.bind_inv hr
  cases h3;rw[yab h1,Hf hv hd (Ci hv) (by omega) h2 hk]
  show PR.ok _ _=PR.ok _ _
  unfold iK;simp
 rename_i h1;rw[yaa h1];split at hr
 ·rename_i h1
  obtain⟨a,n1,h2,h3⟩:=PR.bind_inv hr
  cases h3;rw[yab h1,Hf hv hd (Ci hv) (by omega) h2 hk]
  show PR.ok _ _=PR.ok _ _
  unfold iK;simp
 rename_i h1;rw[yaa h1];split at hr
 ·rename_i h1
  obtain⟨a,n1,h2,h3⟩:=PR.bind_inv hr
  cases h3;rw[yab h1,Hf hv hd (Om hv) (by omega) h2 hk]
  show PR.ok _ _=PR.ok _ _
  unfold iK;simp
 rename_i h1;rw[yaa h1];split at hr
 ·rename_i h1
  obtain⟨a,n1,h2,h3⟩:=PR.bind_inv hr
  cases h3;simp only[ybb,ycp,List.isEmpty_eq_false_iff]at h1;obtain⟨A,x,hA⟩:∃A x,p.tables=A++[x]:=⟨p.tables.dropLast,p.tables.getLast h1.1,(List.dropLast_concat_getLast h1.1).symm⟩
  have e1:Bv (iK pre p).tables=Bv p.tables:=by unfold iK Bv;rw[hA];simp
  have e2:fP (iK pre p).tables a=pre.tables++fP p.tables a:=by unfold iK fP;rw[hA];simp
  rw[yab (by unfold iK;rw[hA];simp[h1.2]),e1,Hf hv hd (Pm hv) (by omega) h2 hk]
  show PR.ok _ _=PR.ok _ _
  rw[e2];rfl
 split at hr
 ·rename_i h1 h2
  obtain⟨a,n1,h3,h4⟩:=PR.bind_inv hr
  cases h4;have hnr:acc S.tk wRow n=false:=zj1 h2 (by decide)
  rw[hnr,yay,yaa (by simp),yab h2,Hf hv hd (Sn hv) (by omega) h3 hk]
  show PR.ok _ _=PR.ok _ _
  unfold iK;simp
 ·cases hr
--
def Jz   (h:tE tk 5 n=.ok w n'):zD tk 5 n=true/\n'=n+1/\n<tk.length:=by
 unfold tE at h;split at h
 ·rename_i hk
  cases h;refine⟨hk,rfl,?_⟩
  unfold zD at hk
  cases hx:tk[n]? with
  | none=>rw[hx]at hk;cases hk
  | some t=>exact(ybc.1 hx).1
 ·cases h
def Uk  (h:zD tk 5 n=true):tE tk 5 n=.ok (fE tk n) (n+1):=by unfold tE;rw[h,yab rfl]
def UL (hv:VW S)(hd:¬ S.dp)(hkl:S.k=S.tk.length)(hl2:S.tk2.length=S.tk.length+S.d):∀(f f2:Nat) (pre p p':pD) (n n':Nat),S.lo<=n->S.tk.length<=n+f->S.tk2.length<=n+S.d+f2->oJ S.tk f p n=.ok p' n'->∃m,oJ S.tk2 f2 (iK pre p) (n+S.d)=.ok (iK pre p') m:=by
 intro f;induction f with
 | zero=>
  intro f2 pre p p' n n' hlo h1 h2 hr
  cases hr
  cases f2 with
  | zero=>exact⟨_,rfl⟩
  | succ f2=>exact⟨_,by rw[oJ,yaa (by omega)]⟩
 | succ f ih=>
  intro f2 pre p p' n n' hlo h1 h2 hr;unfold oJ at hr;split at hr
  ·rename_i hn
   obtain⟨q,n1,h3,h4⟩:=PR.bind_inv hr
   obtain⟨w,n2,h5,h6⟩:=PR.bind_inv h4
   obtain⟨k1,rfl,k2⟩:=Jz h5
   obtain⟨f3,rfl⟩:∃f3,f2=f3+1:=⟨f2-1,by omega⟩
   have hup:n<=n1:=Ay (S:=S) (Hj hv) hlo h3
   have hk2:zD S.tk2 5 (n1+S.d)=true:=by rw[hv.kind n1 (by omega) (by omega),k1]
   obtain⟨m,hm⟩:=ih f3 pre q p' (n1+1) n' (by omega) (by omega) (by omega) h6
   refine⟨m,?_⟩
   rw[oJ,yab (by omega),zcb hv hd hlo (by omega) h3]
   show(tE S.tk2 5 (n1+S.d)).bind _=_
   rw[Uk hk2];show oJ S.tk2 f3 (iK pre q) (n1+S.d+1)=_
   rw[show n1+S.d+1=n1+1+S.d by omega];exact hm
  ·cases hr
   rename_i hn
   cases f2 with
   | zero=>exact⟨_,rfl⟩
   | succ f2=>exact⟨_,by rw[oJ,yaa (by omega)]⟩
def UJ (hv:VW S)(hd:¬ S.dp)(h0:S.d=0)(hlo:S.lo=0)(hkl:S.k+1=S.tk.length)(hk5:zD S.tk2 5 S.k=true)(hl2:S.tk.length<=S.tk2.length):∀(f f2:Nat) (p p':pD) (n n':Nat),n<=S.tk.length->S.tk.length<=n+f->S.tk2.length<=n+f2->oJ S.tk f p n=.ok p' n'->∃f3,S.tk2.length<=S.tk.length+f3/\oJ S.tk2 f2 p n=oJ S.tk2 f3 p' S.tk.length:=by
 intro f;induction f with
 | zero=>
  intro f2 p p' n n' hn h1 h2 hr
  cases hr;have:n=S.tk.length:=by omega
  subst this;exact⟨f2,h2,rfl⟩
 | succ f ih=>
  intro f2 p p' n n' hn h1 h2 hr;unfold oJ at hr;split at hr
  ·rename_i hn
   obtain⟨q,n1,h3,h4⟩:=PR.bind_inv hr
   obtain⟨w,n2,h5,h6⟩:=PR.bind_inv h4
   obtain⟨k1,rfl,k2⟩:=Jz h5
   obtain⟨f3,rfl⟩:∃f3,f2=f3+1:=⟨f2-1,by omega⟩
   have hup:n<=n1:=Ay (S:=S) (Hj hv) (by omega) h3
   have hline:=Hf hv hd (Hj hv) (by omega) h3 (by omega)
   rw[h0,yct,yct]at hline;have hk2:zD S.tk2 5 n1=true:=by
    by_cases hlt:n1<S.k
    ·have:=hv.kind n1 (by omega) hlt 5
     rw[h0,yct]at this;rw[this,k1]
    ·have:n1=S.k:=by omega
     rw[this];exact hk5
   obtain⟨f4,g1,g2⟩:=ih f3 q p' (n1+1) n' (by omega) (by omega) (by omega) h6
   refine⟨f4,g1,?_⟩
   rw[oJ,yab (by omega),hline]
   show(tE S.tk2 5 n1).bind _=_
   rw[Uk hk2];exact g2
  ·cases hr
   rename_i hn2;have:n=S.tk.length:=by omega
   subst this;exact⟨f2,h2,rfl⟩
def bT{tk2:List uC}{i j:Nat}(h:(tk2[j]?).map kt=(tk[i]?).map kt):(∀w,acc tk2 w j=acc tk w i)/\(∀q,zD tk2 q j=zD tk q i)/\fE tk2 j=fE tk i:=by
 refine⟨fun w=>?_,fun q=>?_,?_⟩
 ·unfold acc
  cases h1:tk2[j]?<;>cases h2:tk[i]?<;>rw[h1,h2]at h<;>simp[kt]at h
  rename_i a b;show((decide (a.kind=1)||decide (a.kind=4))&&qG a.text w)=((decide (b.kind=1)||decide (b.kind=4))&&qG b.text w)
  rw[h.1,h.2]
 ·unfold zD
  cases h1:tk2[j]?<;>cases h2:tk[i]?<;>rw[h1,h2]at h<;>simp[kt]at h
  rename_i a b;show decide (a.kind=q)=decide (b.kind=q)
  rw[h.1]
 ·unfold fE
  cases h1:tk2[j]?<;>cases h2:tk[i]?<;>rw[h1,h2]at h<;>simp[kt]at h
  exact h.2
def WI{la tq tb:List uC}{lb:List aQ}{q:pD}{n1 n2:Nat}(hga:∀x∈la,rP x)(hgq:∀x∈tq,rP x)(hq:tq.map kt=[(1,Gg),(1,[122]),(5,[])]++lb)(hb:tb.map kt=la.map kt++lb)(hend:zD la 5 (la.length-1)=true)
  (ha:pF la=.ok p n1) (hqr:pF tq=.ok q n2):∃n3,pF tb=.ok (iK p q) n3:=by
 have hlq:tq.length=lb.length+3:=by rw[<- ybf (f:=kt),hq];simp
 have hlb:tb.length=la.length+lb.length:=by rw[<- ybf (f:=kt),hb];simp
 unfold pF at ha;obtain⟨u,m1,a1,a2⟩:=PR.bind_inv ha
 obtain⟨w,m2,a3,a4⟩:=PR.bind_inv a2
 obtain⟨v,m3,a5,a6⟩:=PR.bind_inv a4
 have hm1:acc la Gg 0=true/\m1=1:=by
  unfold rE at a1;split at a1
  ·cases a1;exact⟨by assumption,rfl⟩
  ·cases a1
 obtain⟨b1,rfl⟩:=hm1
 have hm2:sK la 1=true/\m2=2/\w=fE la 1:=by
  unfold rI at a3;split at a3
  ·cases a3;exact⟨by assumption,rfl,rfl⟩
  ·cases a3
 obtain⟨b2,rfl,rfl⟩:=hm2
 obtain⟨b3,rfl,b4⟩:=Jz a5
 have sa:∀i,i<la.length->(tb[i]?).map kt=(la[i]?).map kt:=fun i hi=>by
  rw[<- ybu,<- ybu,hb,yco (by rw[ybf];exact hi)]
 have k5:zD tb 5 (la.length-1)=true:=by rw[(bT (sa _ (by omega))).2.1,hend]
 have tx5:∀q,q≠5->zD tb q (la.length-1)=false:=fun q hq=>by
  unfold zD at k5 ⊢
  cases hx:tb[la.length-1]? with
  | none=>rfl
  | some t=>rw[hx]at k5;have:=of_decide_eq_true k5;exact decide_eq_false (by omega)
 have ac5:∀w,acc tb w (la.length-1)=false:=fun w=>by
  cases h:acc tb w (la.length-1)with
  | false=>rfl
  | true=>have:=Cr h;rw[k5]at this;cases this
 have hv1:VW ⟨la,tb,0,la.length-1,False,False,0⟩:=
  ⟨fun i _ hi=>(bT (sa i (by have:i<la.length-1:=hi;omega))).1,fun i _ hi=>(bT (sa i (by have:i<la.length-1:=hi;omega))).2.1,fun i _ hi=>(bT (sa i (by have:i<la.length-1:=hi;omega))).2.2,
   fun w _=>ac5 w,fun q hq=>tx5 q (by omega),by show sK tb (la.length-1)=false;unfold sK;rw[tx5 1 (by decide)];rfl,fun h=>h.elim,hga⟩
 obtain⟨f3,g1,g2⟩:=UJ hv1 (fun h=>h) rfl rfl (by show la.length-1+1=la.length;omega) k5 (by show la.length<=tb.length;omega) la.length tb.length _ _ 3 _ (by show 3<=la.length;omega) (by show la.length<=3+la.length;omega) (by show tb.length<=3+tb.length;omega) a6
 unfold pF at hqr;obtain⟨u',m1,c1,c2⟩:=PR.bind_inv hqr
 obtain⟨w',m2,c3,c4⟩:=PR.bind_inv c2
 obtain⟨v',m3,c5,c6⟩:=PR.bind_inv c4
 have hm1:m1=1:=by
  unfold rE at c1;split at c1<;>cases c1;rfl
 subst hm1;have hm2:m2=2/\w'=[122]:=by
  unfold rI at c3;split at c3<;>cases c3
  exact⟨rfl,zgq hq (n:=1) rfl⟩
 obtain⟨rfl,rfl⟩:=hm2
 obtain⟨_,rfl,_⟩:=Jz c5
 have sq:∀i,3<=i->(tb[i+(la.length-3)]?).map kt=(tq[i]?).map kt:=fun i hi=>by
  rw[<- ybu,<- ybu,hb,hq,ybp (by rw[ybf];omega),ybp (by simp;omega),ybf]
  congr 1
  simp;omega
 have nb:∀j,tb.length<=j->(∀w,acc tb w j=false)/\∀q,zD tb q j=false:=fun j hj=>⟨fun w=>GM hj,fun q=>Xu hj⟩
 have hkd:tb.length<=tq.length+(la.length-3):=by omega
 have hv2:VW ⟨tq,tb,la.length-3,tq.length,False,False,3⟩:=
  ⟨fun i hi _=>(bT (sq i hi)).1,fun i hi _=>(bT (sq i hi)).2.1,fun i hi _=>(bT (sq i hi)).2.2,
   fun w _=>(nb _ hkd).1 w,fun q _=>(nb _ hkd).2 q,by show sK tb _=false;unfold sK;rw[(nb _ hkd).2 1];rfl,fun h=>h.elim,hgq⟩
 obtain⟨n3,g3⟩:=UL hv2 (fun h=>h) rfl (by show tb.length=tq.length+(la.length-3);omega) tq.length f3 p _ _ 3 _ (ybk 3) (by show tq.length<=3+tq.length;omega) (by show tb.length<=3+(la.length-3)+f3;have:tb.length<=la.length+f3:=g1;omega) c6
 refine⟨n3,?_⟩
 have e0:iK p ⟨[122],[],[],[]⟩=p:=by unfold iK;simp
 have g3:oJ tb f3 (iK p ⟨[122],[],[],[]⟩) (3+(la.length-3))=.ok (iK p q) n3:=g3
 rw[e0,show 3+(la.length-3)=la.length by omega]at g3
 have g2:oJ tb tb.length ⟨fE la 1,[],[],[]⟩ 3=oJ tb f3 p la.length:=g2
 unfold pF rE;rw[(bT (sa 0 (by omega))).1,b1,yab rfl]
 show(rI tb 1).bind _=_
 have hn:sK tb 1=true:=by unfold sK at b2 ⊢;rw[(bT (sa 1 (by omega))).2.1,(bT (sa 1 (by omega))).2.2];exact b2
 unfold rI;rw[hn,yab rfl,(bT (sa 1 (by omega))).2.2]
 show(tE tb 5 2).bind _=_
 rw[Uk (by rw[(bT (sa 2 (by omega))).2.1,b3])]
 show oJ tb tb.length ⟨fE la 1,[],[],[]⟩ 3=_
 rw[g2,g3]
end
section
variable {p:pD}{t:Tr vA}{a b:List Nat}
variable [eC]
def CD{tk:List uC}(hg:∀x∈tk,rP x) {n:Nat}(h:pF tk=.ok p n):PBd p tk.length:=by
 unfold pF at h;obtain⟨u,n1,h1,h2⟩:=PR.bind_inv h
 obtain⟨w,n2,h3,h4⟩:=PR.bind_inv h2
 obtain⟨v,n3,h5,h6⟩:=PR.bind_inv h4
 obtain⟨_,rfl,h7⟩:=Jz h5
 obtain⟨k1,k2⟩:=GY hg _ _ _ _ _ ⟨by simp,by simp,by simp,by simp,by simp⟩ (by omega) h6
 exact k2.mono k1
def FM  {a b c:zA}(ha:bA t 3 (p.defs.map bF.d) a)(hb:bA t 3 (p.tables.map pG.d) b)(hc:bA t 24 (p.clauses.map lE.d) c):RD t p.d [.str p.name,a,b,c]:=
 oI.2 ⟨[[.str p.name],[a],[b],[c]],rfl,dC.2 ⟨_,_,rfl,pK.2 rfl,dC.2 ⟨_,_,rfl,pM.2 ⟨_,rfl,ha⟩,dC.2 ⟨_,_,rfl,pM.2 ⟨_,rfl,hb⟩,dC.2 ⟨_,_,rfl,pM.2 ⟨_,rfl,hc⟩,wF.2 rfl⟩⟩⟩⟩⟩
def Hi{tf:Tr vA}{sz:Nat}{l:List D}{v:zA}{A B:List kD}(h:lA yA.base tf t (A++bB yA.base sz l v::B)):bA t sz l v:=by
 have hv:eL yA.base tf t sz l v:=h.ok (bB yA.base sz l v) (by simp)
 exact eL.read hv h.tle
def Xz{l r:List Nat}(h1:∀b∈l,b<256)(h2:∀b∈r,b<256):∀b∈l++r,b<256:=fun b hb=>by
 rcases yaf.1 hb with hb | hb
 ·exact h1 b hb
 ·exact h2 b hb
def WJ (ha:a.length<=1500)(hb:b.length<=1500)(e1:(mI pF a).err=0)(e2:(mI pF ([112,108,97,110,32,122,10]++b)).err=0) :
  ∃p q,mI pF a=.ok p/\mI pF ([112,108,97,110,32,122,10]++b)=.ok q/\mI pF (a++[10]++b)=.ok (iK p q)/\PBd p 10000/\PBd q 10000/\pD.cpy p:=by
 have okP:∀ {s:List Nat},(mI pF s).err=0->∃m p n,tK s=.ok m/\pF m=.ok p n/\mI pF s=.ok p:=by
  intro s h
  cases hl:tK s with
  | er e x y=>rw[Wj hl]at h;exact absurd h (HC hl)
  | ok m=>
   have hr:=Pl (top:=pF) hl
   cases ht:pF m with
   | ok p n=>rw[ht]at hr;exact⟨m,p,n,rfl,ht,hr⟩
   | er e i=>
    rw[ht]at hr;rw[hr]at h;have h:e=0:=h
    subst h;obtain⟨_,_,hg⟩:=Lm hl
    by_cases h0:m=[]
    ·subst h0
     have:pF ([]:List uC)=.er 120 0:=rfl
     rw[this]at ht;cases ht
    ·have h4:=Yk (by rw[<- Ra (UO hl)];exact hl:jV s=.ok m)
     obtain⟨w,hw⟩:=HN _ _ (Rd _ _ _ h4).2.1 (by simpa using h0)
     have hk5:zD m 5 (m.length-1)=true:=by
      rw[ybf,ybu]at hw;unfold zD
      cases hx:m[m.length-1]? with
      | none=>rw[hx]at hw;cases hw
      | some x=>rw[hx]at hw;have h2:kt x=(5,w):=yci hw;have:x.kind=5:=congrArg Prod.fst h2;simp[this]
     have:=(zgo hg hk5 h0 ht).2
     omega
 obtain⟨la,p,n1,l1,t1,r1⟩:=okP e1
 obtain⟨tq,q,n2,l2,t2,r2⟩:=okP e2
 obtain⟨_,hla,hga⟩:=Lm l1
 obtain⟨_,hlq,hgq⟩:=Lm l2
 have s1:=Yk (by rw[<- Ra (by omega)];exact l1:jV a=.ok la)
 have s2:=Yk (by rw[<- Ra (by simp;omega)];exact l2:jV ([112,108,97,110,32,122,10]++b)=.ok tq)
 have hz:zI [112,108,97,110,32,122] false=some [(1,Gg),(1,[122]),(5,[])]:=by kernel_rfl
 have s2':zI ([112,108,97,110,32,122]++10::b) false=some (tq.map kt):=s2
 rw[HE,hz]at s2'
 cases hb2:zI b false with
 | none=>rw[hb2]at s2';cases s2'
 | some lb=>
  rw[hb2]at s2'
  have hq:tq.map kt=[(1,Gg),(1,[122]),(5,[])]++lb:=(yci s2').symm
  have s3:zI (a++[10]++b) false=some (la.map kt++lb):=by
   rw[ybz];show zI (a++10::b) false=_
   rw[HE,s1,hb2];rfl
  obtain⟨tb,l3,k3⟩:=zh7 s3
  have hne:la≠[]:=fun e=>by
   subst e;have:pF ([]:List uC)=.er 120 0:=rfl
   rw[this]at t1;cases t1
  obtain⟨w,hw⟩:=HN _ _ (Rd _ _ _ s1).2.1 (by simpa using hne)
  have hk5:zD la 5 (la.length-1)=true:=by
   rw[ybf,ybu]at hw;unfold zD
   cases hx:la[la.length-1]? with
   | none=>rw[hx]at hw;cases hw
   | some x=>rw[hx]at hw;have h2:kt x=(5,w):=yci hw;have:x.kind=5:=congrArg Prod.fst h2;simp[this]
  obtain⟨n3,t3⟩:=WI hga hgq hq k3 hk5 t1 t2
  have la1:=(Rd _ _ _ s1).2.2.2.2
  have la2:=(Rd _ _ _ s2).2.2.2.2
  simp only[ybf,ybq,if_false,ybg,ybn,ybx]at la1 la2;refine⟨p,q,r1,r2,?_,(CD hga t1).mono (by omega),(CD hgq t2).mono (by omega),CE hga hla t1⟩
  rw[Pl (by rw[Ra (by simp;omega)];exact l3),t3]
def WK  (hg:rL t)(ha:∀x∈a,x<256)(hb:∀x∈b,x<256):Wc yA F 3 [.str a,.str b] t (fun v _=>v=.bool true):=by
 refine w3 ?_
 unfold t3;refine zdi ?_
 by_cases hla:1500<a.length
 ·exact rA (Qs.2 hla) rfl
 refine qB (fun h=>hla (Qs.1 h)) ?_
 by_cases hlb:1500<b.length
 ·exact rA (Qs.2 hlb) rfl
 refine qB (fun h=>hlb (Qs.1 h)) (Xc (K:=fun X4 X n8=>.opt _ _) hg ha fun t1 c1 h1 r1=>?_)
 refine BA (by simp;omega) (dF (Xc (K:=fun X13 X n17=>.opt _ _) (hg.mono h1) (Xz (by decide) hb) fun t2 c2 h2 r2=>?_))
 refine BA (by simp;omega) (dF (BA (by simp;omega) (dF (Xc (K:=fun X24 X n=>.ite _ _ _) ((hg.mono h1).mono h2) (Xz (Xz ha (by decide)) hb) fun t3 c3 h3 r3=>?_))))
 by_cases e1:(mI pF a).err=0
 case neg=>exact rA (qQ.2 (by omega)) rfl
 refine qB (fun h=>qQ.1 h (by omega)) ?_
 by_cases e2:(mI pF ([112,108,97,110,32,122,10]++b)).err=0
 case neg=>exact rA (qQ.2 (by omega)) rfl
 refine qB (fun h=>qQ.1 h (by omega)) ?_
 obtain⟨p,q,q1,q2,q3,bp,bq,hp⟩:=WJ (by omega) (by omega) e1 e2
 have hpq:pD.cpy (iK p q):=by have:=zbp (s:=a++[10]++b);rwa [q3]at this
 rw[q1]at r1;rw[q2]at r2;rw[q3]at r3 ⊢
 have r1:RD t1 p.d c1:=r1
 have r2:RD t2 q.d c2:=r2
 have r3:RD t3 (iK p q).d c3:=r3
 have hP1:uA3 (cellsOf c1)=.agg c1:=congrArg zA.agg (Fo r1)
 have hP3:uA3 (cellsOf c3)=.agg c3:=congrArg zA.agg (Fo r3)
 rw[hP1,hP3];obtain⟨qa,qb,qc,rfl,d1,d2,d3⟩:=bY r2
 have m1:=bp.defs
 have m2:=bp.tables
 have m3:=bp.clauses
 have m4:=bq.defs
 have m5:=bq.tables
 have m6:=bq.clauses
 refine yB ?_
 rw[q11];refine copy11 hp (r1.mono (h2.trans h3)) fun tf4 t4 x1 x2 x3 l4 o4=>?_
 have rp:RD t4 p.d [.str p.name,x1,x2,x3]:=FM (Hi (A:=[_,_]) o4) (Hi (A:=[_]) o4) (Hi (A:=[]) o4)
 refine aC (agP rp) (rA rp.all (lC fun n hn hbase=>?_))
 have l24:=h3.trans l4
 obtain⟨y1,k1,t5,f1,o5,_⟩:=lA.appendD (A:=[bB yA.base 24 (p.clauses.map lE.d) x3,bB yA.base 3 (p.tables.map pG.d) x2]) (B:=[]) el23 o4 (d1.mono l24) (by simp only[ybf];omega) hn hbase
 refine⟨_,_,f1,rA (pZ (A:=[_,_]) o5) (lC fun n hn hbase=>?_)⟩
 obtain⟨y2,k2,t6,f2,o6,_⟩:=lA.appendD (A:=[bB yA.base 24 (p.clauses.map lE.d) x3]) (B:=[bB yA.base 3 (p.defs.map bF.d++q.defs.map bF.d) y1]) el24 o5 (d2.mono l24) (by simp only[ybf];omega) hn hbase
 refine⟨_,_,f2,rA (pZ (A:=[_]) o6) (lC fun n hn hbase=>?_)⟩
 obtain⟨y3,k3,t7,f3,o7,_⟩:=lA.appendD (A:=[]) (B:=[bB yA.base 3 (p.tables.map pG.d++q.tables.map pG.d) y2,bB yA.base 3 (p.defs.map bF.d++q.defs.map bF.d) y1]) el25 o6 (d3.mono l24) (by simp only[ybf];omega) hn hbase
 refine⟨_,_,f3,rA (pZ (A:=[]) o7) (rA rfl ?_)⟩
 have w1:=Hi (A:=[_,_]) o7
 have w2:=Hi (A:=[_]) o7
 have w3:=Hi (A:=[]) o7
 rw[<- List.map_append]at w1 w2 w3;have rs:RD t7 (iK p q).d [.str p.name,y1,y2,y3]:=FM (p:=iK p q) w1 w2 w3
 exact zhb hpq (r3.mono (l4.trans o7.tle)) rs (cD rfl)
end
end Go.Proofs
namespace Go.Am
open Go Go.RowKit Go.Proofs
def extends3{w:World}(hL:aM w){a b:ByteArray}:Calls Tryz.prog 3 #[.string a,.string b] w fun e w'=>e=.returned (.bool true)/\Below w.heap.size w w':=
 OW hL 3 [.str (rF a),.str (rF b)] _ (by intro _;kernel_rfl) (.cons (by rw[uA];exact⟨_,rfl,rfl⟩) (.single (by rw[uA];exact⟨_,rfl,rfl⟩))) ⟨_,WK (ziy hL) (MS a) (MS b),fun v t h=>h⟩
end Go.Am
