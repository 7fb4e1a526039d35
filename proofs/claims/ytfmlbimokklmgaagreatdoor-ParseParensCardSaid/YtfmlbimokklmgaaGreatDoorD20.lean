/- Operands and lines over two lists of tokens that agree up to a place. -/
import Derived.KernelRfl
import Derived.Test.YtfmlbimokklmgaaGreatDoorD19
set_option linter.all false
noncomputable section
set_option maxRecDepth 100000
namespace Go.Proofs
open Go Go.Am
variable {tk:List cB}{n':Nat}{a:List Nat}{α:Type}{e e2:PM aA}
section
variable {S:VP}{H:Prop}{n:Nat}{o o2:PM aA}
def CT {q n:Nat} (h:tG tk q n=.ok a n'):n<n':=by
 unfold tG at h;split at h<;>cases h;omega
def PR.bind_inv{β:Type}{r:PR α}{f:α->Nat->PR β}{b:β}{n:Nat}(h:r.bind f=.ok b n):∃a n1,r=.ok a n1/\f a n1=.ok b n:=by
 cases r with
 | ok a n1=>exact⟨a,n1,rfl,h⟩
 | er e i=>cases h
def TQ {neg:Bool}{n:Nat}{v:fG}(h:pK tk neg n=.ok v n'):n<n':=by
 unfold pK at h;obtain⟨a,n1,h1,h2⟩:=PR.bind_inv h
 have:=CT h1
 split at h2
 ·split at h2
  ·cases h2
  ·split at h2<;>cases h2;omega
 ·cases h2;omega
def VO (v:Option fG):Prop:=match v with | some v=>fG.cpy v | none=>True
def Tx{k:Nat}{i:Int}:fG.cpy ⟨k,wH,i⟩:=by simp[fG.cpy,wH]
def YG(hv:VW S):qC S H VO (sX S.tk) (sX S.tk2):=by
 have hq:∀(neg:Bool),qC S H VO (fun n=>(pK S.tk neg n).bind fun v n1=>.ok (some v) n1) (fun n=>(pK S.tk2 neg n).bind fun v n1=>.ok (some v) n1):=fun neg=>(TP hv).bind hv fun v=>qC.ret fun h=>h.2
 have hm:∀(neg:Bool),qC S H VO (fun n=>(tG S.tk 2 n).bind fun s n1=>.ok (some ⟨3,tJ s neg,0⟩) n1) (fun n=>(tG S.tk2 2 n).bind fun s n1=>.ok (some ⟨3,tJ s neg,0⟩) n1):=fun neg=>(CS hv (by omega)).bind hv fun s=>qC.ret fun h=>KZ (h.2 rfl)
 have hm2:qC S H VO (fun n=>(fun(neg:Bool)=>(tG S.tk 2 (if neg then n+1 else n)).bind fun s n1=>.ok (some ⟨3,tJ s neg,0⟩) n1) (acc S.tk cL n)) (fun n=>(fun(neg:Bool)=>(tG S.tk2 2 (if neg then n+1 else n)).bind fun s n1=>.ok (some ⟨3,tJ s neg,0⟩) n1) (acc S.tk2 cL n)):=by
  have:=qC.acc hv (w:=cL) (by decide) (hm true) (hm false)
  have e:∀tk:List cB,(fun n=>(fun(neg:Bool)=>(tG tk 2 (if neg then n+1 else n)).bind fun s n1=>(.ok (some ⟨3,tJ s neg,0⟩) n1:PR (Option fG))) (acc tk cL n))=fun n=>if acc tk cL n=true then(tG tk 2 (n+1)).bind fun s n1=>.ok (some ⟨3,tJ s true,0⟩) n1 else(tG tk 2 n).bind fun s n1=>.ok (some ⟨3,tJ s false,0⟩) n1:=fun tk=>by
   funext n;cases acc tk cL n<;>rfl
  rw[e,e];exact this
 refine qC.acc hv (w:=Kg) (A:=fun n=>.ok (some (fG.mk 1 wH 1)) n) (A2:=fun n=>.ok (some (fG.mk 1 wH 1)) n) (by decide) (qC.ret (V:=VO) fun _=>Tx) ?_
 refine qC.acc hv (w:=Ki) (A:=fun n=>.ok (some (fG.mk 1 wH 0)) n) (A2:=fun n=>.ok (some (fG.mk 1 wH 0)) n) (by decide) (qC.ret (V:=VO) fun _=>Tx) ?_
 refine qC.ite (p:=fun n=>iE S.tk 3 n) (p2:=fun n=>iE S.tk2 3 n) (fun i hi=>hv.kind i hi 3) (hv.qkind 3 (.inr rfl)) (A:=fun n=>(rN S.tk n).bind fun d n1=>.ok (some (fG.mk 4 wH d)) n1) (A2:=fun n=>(rN S.tk2 n).bind fun d n1=>.ok (some (fG.mk 4 wH d)) n1) ((zay hv).bind hv fun d=>qC.ret (V:=VO) fun _=>Tx) (fun n a n' _ h=>?_) ?_
 ·obtain⟨d,n1,h1,h2⟩:=PR.bind_inv h
  unfold rN at h1;obtain⟨d,n2,h3,h4⟩:=PR.bind_inv h1
  have:=CT h3
  cases h4;cases h2;exact this
 refine qC.acc hv (w:=Kh) (by decide) hm2 ?_
 refine qC.acc hv (w:=cL) (by decide) (hq true) ?_
 refine qC.ite (p:=fun n=>iE S.tk 2 n) (p2:=fun n=>iE S.tk2 2 n) (fun i hi=>hv.kind i hi 2) (hv.qkind 2 (.inl rfl)) (hq false) (fun n a n' _ h=>?_) (qC.ret fun _=>trivial)
 obtain⟨v,n1,h1,h2⟩:=PR.bind_inv h
 have:=TQ h1
 cases h2;exact this
def VL (c:Nat)(l:List aA):Prop:=l.length<=c/\aA.cpys l
def MQ:∀ {l:List aA} {x:aA},aA.cpys l->aA.cpy x->aA.cpys (l++[x])
 | [],x,_,h=>⟨h,trivial⟩
 | y::l,x,h1,h2=>⟨h1.1,MQ h1.2 h2⟩
def VL.snoc{c:Nat}{l:List aA}{x:aA}(h:VL c l)(hx:aA.cpy x):VL (c+1) (l++[x]):=⟨by simpa using h.1,MQ h.2 hx⟩
def VK(hv:VW S) (he:qC S H aA.cpy e e2):∀(k c:Nat) (l:List aA) (H':Prop),(H'->H)->(H'->VL c l)->qC S H' (VL (c+k)) (Cm S.tk e k l) (Cm S.tk2 e2 k l):=by
 intro k;induction k with
 | zero=>intro c l H' _ h;exact qC.ret h
 | succ k ih=>
  intro c l H' h0 h;refine(Dc hv).bind hv fun _=>(he.mono (fun h=>h0 h.1) fun _ h=>h).bind hv fun x=>?_
  have:=ih (c+1) (l++[x]) ((H'/\True)/\aA.cpy x) (fun h=>h0 h.1.1) fun hx=>(h hx.1.1).snoc hx.2
  rwa [show c+1+k=c+(k+1) by omega]at this
def RN(hv:VW S) (he:qC S H aA.cpy e e2):∀(k c:Nat) (l:List aA) (H':Prop),(H'->H)->(H'->VL c l)->qC S H' (VL (c+k)) (aV S.tk e k l) (aV S.tk2 e2 k l):=by
 intro k;induction k with
 | zero=>intro c l H' _ h;exact qC.ret h
 | succ k ih=>
  intro c l H' h0 h;refine qC.acc hv (w:=[44]) (A:=fun n=>(e n).bind fun x n2=>aV S.tk e k (l++[x]) n2) (A2:=fun n=>(e2 n).bind fun x n2=>aV S.tk2 e2 k (l++[x]) n2) (B:=fun n=>.ok l n) (B2:=fun n=>.ok l n) (by decide) ?_ (qC.ret fun h'=>⟨by have:=(h h').1;omega,(h h').2⟩)
  refine(he.mono h0 fun _ h=>h).bind hv fun x=>?_
  have:=ih (c+1) (l++[x]) (H'/\aA.cpy x) (fun h=>h0 h.1) fun hx=>(h hx.1).snoc hx.2
  rwa [show c+1+k=c+(k+1) by omega]at this
def VM:∀i,jT i∉eV:=by
 intro i;unfold jT;split<;>decide
def NS:∀f∈oQ,f.least<=3/\f.most<=3/\f.word∉eV:=by decide
def Cb(tk:List cB)(e:PM aA)(f:CF):PM aA:=fun n=>(xE tk [40] n).bind fun _ n1=>
  (if f.named then(vJ tk n1).bind fun w n2=>(xE tk [44] n2).bind fun _ n3=>.ok w n3 else .ok [] n1:PR (List Nat)).bind fun w n2=>
  (e n2).bind fun x n3=>(Cm tk e (f.least-1) [x] n3).bind fun l n4=>(aV tk e (f.most-f.least) l n4).bind fun l n5=>
  (if f.op=19 then(xE tk [44] n5).bind fun _ n6=>sM tk jT 6 6 1 n6 else .ok 0 n5:PR Nat).bind fun m n6=>
  (xE tk [41] n6).bind fun _ n7=>.ok (.mk f.op w ⟨0,wH,m⟩ l) n7
def SS(hv:VW S) (he:qC S H aA.cpy e e2){f:CF}(hf:f∈oQ):qC S H aA.cpy (Cb S.tk e f) (Cb S.tk2 e2 f):=by
 obtain⟨f1,f2,_⟩:=NS f hf
 refine(Dc hv).bind hv fun _=>?_
 refine qC.bind hv (V:=fun _=>True) (f:=fun n1=>(if f.named then(vJ S.tk n1).bind fun w n2=>(xE S.tk [44] n2).bind fun _ n3=>.ok w n3 else .ok [] n1:PR (List Nat))) (f2:=fun n1=>(if f.named then(vJ S.tk2 n1).bind fun w n2=>(xE S.tk2 [44] n2).bind fun _ n3=>.ok w n3 else .ok [] n1:PR (List Nat)))
  (qC.cases f.named (A:=fun n1=>(vJ S.tk n1).bind fun w n2=>(xE S.tk [44] n2).bind fun _ n3=>.ok w n3) (A2:=fun n1=>(vJ S.tk2 n1).bind fun w n2=>(xE S.tk2 [44] n2).bind fun _ n3=>.ok w n3) (B:=fun n=>.ok [] n) (B2:=fun n=>.ok [] n)
   (fun _=>(HN hv).bind hv fun w=>(Dc hv).bind hv fun _=>qC.ret fun _=>trivial) fun _=>qC.ret fun _=>trivial) fun w=>?_
 refine(he.mono (fun h=>h.1.1) fun _ h=>h).bind hv fun x=>?_
 refine(VK hv he (f.least-1) 1 [x] _ (fun h=>h.1.1.1) fun h=>⟨by simp,h.2,trivial⟩).bind hv fun l=>?_
 refine(RN hv he (f.most-f.least) (1+(f.least-1)) l _ (fun h=>h.1.1.1.1) fun h=>h.2).bind hv fun l'=>?_
 refine qC.bind hv (V:=fun _=>True) (f:=fun n5=>(if f.op=19 then(xE S.tk [44] n5).bind fun _ n6=>sM S.tk jT 6 6 1 n6 else .ok 0 n5:PR Nat)) (f2:=fun n5=>(if f.op=19 then(xE S.tk2 [44] n5).bind fun _ n6=>sM S.tk2 jT 6 6 1 n6 else .ok 0 n5:PR Nat)) ?_ fun m=>(Dc hv).bind hv fun _=>qC.ret fun h=>?_
 ·by_cases h19:f.op=19
  ·simp only[yab h19]
   exact(Dc hv).bind hv fun _=>YN hv VM 6 1
  ·simp only[yaa h19]
   exact qC.ret fun _=>trivial
 ·have hl:=h.1.1.2
  unfold aA.cpy;exact⟨⟨by simp[wH],by simp[wH]⟩,by have:=hl.1;omega,hl.2⟩
def zba(hv:VW S) (he:qC S H aA.cpy e e2):qC S H aA.cpy (yU S.tk e) (yU S.tk2 e2):=by
 have eq:∀(tk:List cB) (e:PM aA) (n:Nat),yU tk e n=match oQ.find? fun f=>acc tk f.word n with | none=>.er 120 n | some f=>Cb tk e f (n+1):=fun tk e n=>rfl
 have hq:(oQ.find? fun f=>acc S.tk2 f.word (S.k+S.d))=none:=List.find?_eq_none.2 fun f hf=>by rw[hv.qacc _ (NS f hf).2.2];simp
 refine⟨fun hH n=>?_,fun _=>by rw[eq,hq];exact⟨rfl,.inl rfl⟩⟩
 rw[eq,eq];have same:n<S.k->(oQ.find? fun f=>acc S.tk2 f.word (n+S.d))=oQ.find? fun f=>acc S.tk f.word n:=fun hn=>by congr 1;funext f;exact hv.acc n hn _
 cases h:oQ.find? fun f=>acc S.tk f.word n with
 | none=>
  refine(RA.fail (.inl rfl)).right fun hn=>?_
  by_cases hk:n<S.k
  ·rw[same hk,h]
  ·have:n=S.k:=by omega
   subst this;rw[hq]
 | some f=>
  have ha:acc S.tk f.word n=true:=by simpa using List.find?_some h
  refine RA.step (Gk ha) ((SS hv he (List.mem_of_find?_eq_some h)).ra hH (n+1)) fun hn=>?_
  rw[same hn,h];show Cb S.tk2 e2 f (n+S.d+1)=_
  congr 1;omega
def zc4 {n:Nat} (h:vJ tk n=.ok a n'):n<n':=by
 unfold vJ at h;split at h<;>cases h;omega
def up_of {V:α->Prop}{f f2:PM α}(h:qC S True V f f2){n:Nat}{a:α}(hr:f n=.ok a n'):n<=n':=by
 have:=(h.ra trivial n).mo
 rw[hr]at this;exact this.1
def KM(hv:VW S)(ho:qC S True aA.cpy o o2):qC S True aA.cpy (kP S.tk o) (kP S.tk2 o2):=by
 have he:=AF hv ho
 refine(YG hv).bind hv fun v=>?_
 have ho':qC S (True/\VO v) aA.cpy o o2:=ho.mono (fun _=>trivial) fun _ h=>h
 have he':qC S (True/\VO v) aA.cpy (nI S.tk o) (nI S.tk2 o2):=he.mono (fun _=>trivial) fun _ h=>h
 cases v with
 | some v=>exact qC.ret fun h=>by unfold Iz aA.cpy;exact⟨h.2,by simp,trivial⟩
 | none=>
  refine qC.acc hv (w:=[40]) (A:=fun n=>(nI S.tk o n).bind fun x n1=>(xE S.tk [41] n1).bind fun _ n2=>.ok x n2) (A2:=fun n=>(nI S.tk2 o2 n).bind fun x n1=>(xE S.tk2 [41] n1).bind fun _ n2=>.ok x n2) (by decide) (he'.bind hv fun x=>(Dc hv).bind hv fun _=>qC.ret fun h=>h.1.2) ?_
  refine qC.acc hv (w:=Ud) (A:=fun n=>.ok (aA.mk 2 [] tO []) n) (A2:=fun n=>.ok (aA.mk 2 [] tO []) n) (by decide) (qC.ret fun _=>⟨⟨by simp[tO,wH],by simp[tO,wH]⟩,by simp,trivial⟩) ?_
  refine qC.acc hv (w:=Ox) (by decide) (BH hv ho') ?_
  refine qC.acc hv (w:=wHas) (by decide) (BH hv ho') ?_
  refine qC.ite (p:=fun n=>mL S.tk n) (p2:=fun n=>mL S.tk2 n) (fun i hi=>HL hv hi) hv.qname (BH hv ho') (fun n a n' _ h=>?_) (zba hv he')
  unfold atP at h;obtain⟨w,n1,h1,h2⟩:=PR.bind_inv h
  obtain⟨u,n2,h3,h4⟩:=PR.bind_inv h2
  obtain⟨x,n3,h5,h6⟩:=PR.bind_inv h4
  have a1:=zc4 h1
  have a2:n1<=n2:=up_of (S:=S) (Dc hv) h3
  have a3:=up_of ho h5
  cases h6;omega
def GP(hv:VW S):∀(j j2:Nat),(j2=j\/(j2+1=j/\S.dp))->qC S True aA.cpy (nH S.tk j) (nH S.tk2 j2):=by
 intro j;induction j with
 | zero=>
  intro j2 h;have:j2=0:=by
   rcases h with h | h
   ·exact h
   ·exact absurd h.1 (by omega)
  subst this;exact qC.fail (.inr rfl)
 | succ j ih=>
  intro j2 h
  cases j2 with
  | zero=>
   have hd:S.dp:=by rcases h with h | h;omega;exact h.2
   have hr:qC S True aA.cpy (kP S.tk (nH S.tk j)) (kP S.tk2 (nH S.tk2 j)):=KM hv (ih j (.inl rfl))
   exact⟨fun hH n=>⟨(hr.ra hH n).mo,fun _ a n' _ _=>.inr ⟨hd,_,rfl⟩,fun _ hfu=>absurd hd (hv.full hfu).1⟩,fun hfu=>absurd hd (hv.full hfu).1⟩
  | succ j2=>exact KM hv (ih j2 (h.imp (by omega) fun h=>⟨by omega,h.2⟩))
def So(hv:VW S):qC S True aA.cpy (tN S.tk) (tN S.tk2):=AF hv (GP hv 101 101 (.inl rfl))
def dG.cpy(c:dG):Prop:=aA.cpy c.when_/\aA.cpy c.then_
end
end Go.Proofs
namespace Go.Proofs
open Go Go.Am
section
variable {p:Nat->Bool}{r s w:List Nat}{b k n:Nat}
def qZ(r:List Nat):Prop:=∀c r',r=c::r'->c=10\/c=32
def Ws  (hr:∀c r',r=c::r'->p c=false):∀s:List Nat,nD p (s++r)=nD p s:=by
 intro s;unfold nD;induction s with
 | nil=>
  cases r with
  | nil=>rfl
  | cons c r=>rw[yah,List.takeWhile_cons,hr c r rfl];rfl
 | cons x s ih=>rw[List.cons_append,List.takeWhile_cons,List.takeWhile_cons,ih]
def Wd  (hr:qZ r)(h1:p 10=false)(h2:p 32=false):∀c r',r=c::r'->p c=false:=by
 intro c r' e;rcases hr c r' e with rfl | rfl
 ·exact h1
 ·exact h2
def Wt (s:List Nat):(nD p s).length<=s.length:=(List.takeWhile_sublist p).length_le
def YD (hr:qZ r):qH (s++r)=qH s:=by
 by_cases h:10<=s.length
 ·unfold qH
  have e:∀i∈List.range 10,yL i ((s++r).getD i 0)=yL i (s.getD i 0):=fun i hi=>by
   rw[List.mem_range]at hi;rw[List.getD_eq_getElem?_getD,List.getD_eq_getElem?_getD,yco (by omega)]
  rw[show(List.range 10).all (fun i=>yL i ((s++r).getD i 0))=(List.range 10).all (fun i=>yL i (s.getD i 0)) from by
   rw[Bool.eq_iff_iff,ycb,ycb];exact⟨fun h i hi=>by rw[<- e i hi];exact h i hi,fun h i hi=>by rw[e i hi];exact h i hi⟩]
  rw[decide_eq_true h,decide_eq_true (by rw[ybg];omega)]
 ·have h1:qH s=false:=by unfold qH;rw[decide_eq_false h];rfl
  rw[h1];refine HC (i:=s.length) (by omega) ?_
  rw[List.getD_eq_getElem?_getD,ybp (ybk _),Nat.sub_self]
  cases r with
  | nil=>unfold yL;split<;>rfl
  | cons c r=>
   rcases hr c r rfl with rfl | rfl <;> (unfold yL;split<;>rfl)
def LA (hr:qZ r) (hn:n<=s.length):jP (s++r) n=jP s n:=by
 unfold jP;by_cases h:n<s.length
 ·rw[yco h]
 ·have:n=s.length:=by omega
  subst this;rw[ybp (ybk _),Nat.sub_self,List.getElem?_eq_none (ybk _)]
  cases r with
  | nil=>rfl
  | cons c r=>rcases hr c r rfl with rfl | rfl<;>rfl
def Zz (hr:qZ r):tD (s++r)=tD s:=Ws (Wd hr rfl rfl) s
def OD (hr:qZ r) (hn:n<=s.length):((s++r)[n]?=some 47) ↔ s[n]?=some 47:=by
 by_cases h:n<s.length
 ·rw[yco h]
 ·have:n=s.length:=by omega
  subst this;rw[ybp (ybk _),Nat.sub_self,List.getElem?_eq_none (ybk _)]
  cases r with
  | nil=>simp
  | cons c r=>rcases hr c r rfl with rfl | rfl<;>simp
def ER (hr:qZ r):uF (s++r)=uF s:=by
 unfold uF;rw[Zz hr];have hl:(tD s).length<=s.length:=Wt s
 by_cases h:s[(tD s).length]?=some 47
 ·rw[yab ((OD hr hl).2 h),yab h]
  have:(tD s).length<s.length:=(ybc.1 h).1
  rw[List.drop_append_of_le_length (by omega)]
  exact Ws (Wd hr rfl rfl) _
 ·rw[yaa (fun e=>h ((OD hr hl).1 e)),yaa h]
def SF (h:uF s≠[]):s[(tD s).length]?=some 47/\uF s=nD iD (s.drop ((tD s).length+1)):=by
 have h2:s[(tD s).length]?=some 47:=by
  unfold uF at h;by_cases h2:s[(tD s).length]?=some 47
  ·exact h2
  ·rw[yaa h2]at h;exact absurd rfl h
 exact⟨h2,by unfold uF;rw[yab h2]⟩
def GX(s:List Nat):tF s<=s.length:=by
 have hl:(tD s).length<=s.length:=Wt s
 unfold tF;split
 ·exact hl
 ·rename_i h
  obtain⟨h2,e⟩:=SF h
  have:=(ybc.1 h2).1
  have:=Wt (p:=iD) (s.drop ((tD s).length+1))
  rw[ydj,<- e]at this;omega
def zb0  (hr:qZ r):mE ((b::s)++r)=mE (b::s):=by
 have e1:=Ws (p:=uJ) (Wd hr rfl rfl) (b::s)
 have e2:=YD (s:=b::s) hr
 have e3:tF ((b::s)++r)=tF (b::s):=by unfold tF;rw[ER hr,Zz hr]
 have e4:lI ((b::s)++r)=lI (b::s):=by unfold lI;rw[e3,LA hr (GX _),ER hr,Zz hr]
 show(if xN b=true then _ else _)=if xN b=true then _ else _
 show(if xN b=true then(if 24<(nD uJ ((b::s)++r)).length then TR.bad 111 else .tok 1 (nD uJ ((b::s)++r)))else if (iD b&&qH ((b::s)++r))=true then(if dN ((b::s)++r)=true then .bad 113 else .tok 3 (((b::s)++r).take 10))else if iD b=true then(if lI ((b::s)++r)=true then .bad 112 else .tok 2 (((b::s)++r).take (tF ((b::s)++r))))else if Mr b=true then .tok 4 [b]else .bad 110)=_
 rw[e1,e2,e4,e3,List.take_append_of_le_length (GX _)]
 cases hd:qH (b::s)with
 | false=>simp only[yay,ybq,if_false]
 | true=>
  have h10:10<=(b::s).length:=by unfold qH at hd;simp only[ybb,decide_eq_true_eq]at hd;exact hd.1
  have e5:dN ((b::s)++r)=dN (b::s):=by
   unfold dN;rw[LA hr h10,List.take_append_of_le_length h10];by_cases h:10<(b::s).length
   ·rw[decide_eq_true h,decide_eq_true (by rw[ybg];omega)]
   ·have h11:(b::s).length=10:=by omega
    have:jP (b::s) 10=false:=by unfold jP;rw[List.getElem?_eq_none (by omega)]
    rw[this,yay,yay]
  rw[e5,List.take_append_of_le_length h10]
def zhy   (h:mE s=.tok k w):∃r,s=w++r:=by
 unfold mE at h;split at h
 ·cases h
 ·rename_i b s
  split at h
  ·split at h
   ·cases h
   ·cases h;obtain⟨r,h,_⟩:=Lh (p:=uJ) (s:=b::s);exact⟨r,h⟩
  ·split at h
   ·split at h
    ·cases h
    ·cases h;exact⟨_,(List.take_append_drop 10 _).symm⟩
   ·split at h
    ·split at h
     ·cases h
     ·cases h;exact⟨_,(List.take_append_drop _ _).symm⟩
    ·split at h
     ·cases h;exact⟨s,rfl⟩
     ·cases h
def CR   (h:mE s=.tok k w):mE w=.tok k w:=by
 have h0:=h
 unfold mE at h;split at h
 ·cases h
 ·rename_i b s
  split at h
  ·rename_i hb
   split at h
   ·cases h
   ·rename_i h24
    injection h with h1 h2
    subst h1;have e:nD uJ w=w:=by
     have:=tY (p:=uJ) (a:=w) (r:=[]) (by rw[<- h2];exact Li) (fun _ _ e=>by cases e)
     rwa [ycd]at this
    have hw:∃w',w=b::w':=by
     have:uJ b=true:=by unfold uJ;rw[hb];rfl
     rw[<- h2];unfold nD;rw[List.takeWhile_cons,this];exact⟨_,rfl⟩
    obtain⟨w',hw⟩:=hw
    rw[h2]at h24;rw[hw]at e ⊢ h24
    unfold mE;simp only[hb,if_true,e,yaa h24]
  ·rename_i hb
   split at h
   ·rename_i hd
    simp only[ybb]at hd;obtain⟨hd1,hd2⟩:=hd
    split at h
    ·cases h
    ·rename_i hbad
     injection h with h1 h2
     subst h1;have h10:10<=(b::s).length:=by unfold qH at hd2;simp only[ybb,decide_eq_true_eq]at hd2;exact hd2.1
     have hwl:w.length=10:=by rw[<- h2,yda];omega
     have hw:∃w',w=b::w':=⟨s.take 9,by rw[<- h2];rfl⟩
     have hdw:qH w=true:=by
      unfold qH at hd2 ⊢
      simp only[ybb,decide_eq_true_eq]at hd2 ⊢
      refine⟨by omega,?_⟩
      rw[ycb]at hd2 ⊢
      intro i hi;have:=hd2.2 i hi
      rw[List.mem_range]at hi;rw[List.getD_eq_getElem?_getD]at this ⊢
      rw[<- h2,List.getElem?_take_of_lt hi];exact this
     have hbw:¬ dN w=true:=by
      unfold dN at hbad ⊢
      rw[h2]at hbad;simp only[ycq,ybb,decide_eq_true_eq,not_or,not_and]at hbad ⊢
      refine⟨fun e=>by omega,?_⟩
      rw[yca (by omega)]
      exact hbad.2
     have htk:w.take 10=w:=yca (by omega)
     obtain⟨w',hw⟩:=hw
     rw[hw]at hdw hbw htk ⊢
     unfold mE;simp only[yaa hb,hd1,hdw,Bool.and_self,if_true,yaa hbw,htk]
   ·rename_i hd
    split at h
    ·rename_i hdg
     split at h
     ·cases h
     ·rename_i hbad
      injection h with h1 h2
      subst h1;obtain⟨q,hq1,hq2⟩:=Lh (p:=iD) (s:=b::s)
      change b::s=tD (b::s)++q at hq1
      have hall:∀x∈tD (b::s),iD x=true:=Li
      have hfb:∃f',tD (b::s)=b::f':=by unfold tD nD;rw[List.takeWhile_cons,hdg];exact⟨_,rfl⟩
      generalize hf:tD (b::s)=f at hq1 hall hfb
      unfold lI at hbad;simp only[ycq,decide_eq_true_eq,not_or]at hbad;obtain⟨⟨⟨⟨n1,n2⟩,n3⟩,n4⟩,n5⟩:=hbad
      rw[hf]at n3;by_cases hsec:uF (b::s)=[]
      ·have hl:tF (b::s)=f.length:=by unfold tF;rw[yab hsec,hf]
       have hw:w=f:=by rw[<- h2,hl,hq1,Pj]
       subst hw;have hff:tD w=w:=by
        have:=tY (p:=iD) (a:=w) (r:=[]) hall (fun _ _ e=>by cases e)
        rwa [ycd]at this
       have hs2:uF w=[]:=by unfold uF;rw[hff,List.getElem?_eq_none (ybk _),yaa (by simp)]
       have hl2:tF w=w.length:=by unfold tF;rw[yab hs2,hff]
       have hdt:qH w=false:=HI fun x hx=>(AP (hall x hx)).2.2.2.2.1
       have hnb:¬ lI w=true:=by
        unfold lI;simp only[ycq,decide_eq_true_eq,not_or];rw[hl2,hs2,hff];refine⟨⟨⟨⟨by omega,?_⟩,n3⟩,by decide⟩,by decide⟩
        unfold jP;rw[List.getElem?_eq_none (ybk _)]
        simp
       have htk:w.take w.length=w:=List.take_length
       obtain⟨w',hw⟩:=hfb
       rw[hw]at hnb hdt hl2 htk ⊢
       unfold mE;simp only[yaa hb,hdg,hdt,yay,if_true,yaa hnb,hl2,htk];simp
      ·have hsl:(b::s)[f.length]?=some 47:=by
        unfold uF at hsec;rw[hf]at hsec;by_cases h47:(b::s)[f.length]?=some 47
        ·exact h47
        ·rw[yaa h47]at hsec;exact absurd rfl hsec
       rw[hq1,Sf]at hsl;obtain⟨q',rfl⟩:∃q',q=47::q':=by
        cases q with
        | nil=>cases hsl
        | cons x q=>cases hsl;exact⟨q,rfl⟩
       have hs2:uF (b::s)=nD iD q':=by
        unfold uF;rw[hf,hq1,Sf,yab (show(47::q').head?=some 47 from rfl),Sr]
       obtain⟨q2,hg1,hg2⟩:=Lh (p:=iD) (s:=q')
       have hga:∀x∈nD iD q',iD x=true:=Li
       rw[hs2]at n4 n5 hsec;have hl:tF (b::s)=f.length+1+(nD iD q').length:=by unfold tF;rw[hs2,yaa hsec,hf]
       generalize hgg:nD iD q'=g at *
       have hw:w=f++47::g:=by
        rw[<- h2,hl,hq1,hg1];rw[show f++47::(g++q2)=(f++47::g)++q2 by simp]
        have:f.length+1+g.length=(f++47::g).length:=by simp;omega
        rw[this,Pj]
       have hff:tD w=f:=by rw[hw];exact tY hall (fun x _ e=>by cases e;rfl)
       have hs3:uF w=g:=by
        unfold uF;rw[hff,hw,Sf,yab (show(47::g).head?=some 47 from rfl),Sr]
        have:=tY (p:=iD) (a:=g) (r:=[]) hga (fun _ _ e=>by cases e)
        rwa [ycd]at this
       have hl2:tF w=w.length:=by unfold tF;rw[hs3,yaa hsec,hff,hw];simp;omega
       have hll:w.length=f.length+1+g.length:=by rw[hw];simp;omega
       have hdt:qH w=false:=HI fun x hx=>by
        rw[hw]at hx;rcases yaf.1 hx with hx | hx
        ·exact(AP (hall x hx)).2.2.2.2.1
        ·rcases ybs.1 hx with rfl | hx
         ·omega
         ·exact(AP (hga x hx)).2.2.2.2.1
       have hnb:¬ lI w=true:=by
        unfold lI;simp only[ycq,decide_eq_true_eq,not_or];rw[hl2,hs3,hff];refine⟨⟨⟨⟨by omega,?_⟩,n3⟩,n4⟩,n5⟩
        unfold jP;rw[List.getElem?_eq_none (ybk _)]
        simp
       have htk:w.take w.length=w:=List.take_length
       obtain⟨f',hf'⟩:=hfb
       have hwb:∃w',w=b::w':=⟨f'++47::g,by rw[hw,hf'];rfl⟩
       clear hw hff hs3
       obtain⟨w',hw⟩:=hwb
       subst hw;unfold mE;simp only[yaa hb,hdg,hdt,yay,if_true,yaa hnb,hl2,htk];simp
    ·split at h
     ·rename_i hdg hsg
      injection h with h1 h2
      subst h1 h2
      have:(iD b&&qH [b])=false:=by simp[hdg]
      unfold mE;simp only[yaa hb,this,yaa hdg,hsg,if_true];simp
     ·cases h
def QH   (h:mE s=.tok k w)(hr:qZ r):mE (w++r)=.tok k w:=by
 have h1:=CR h
 cases w with
 | nil=>exact absurd (Bt h).1 (by simp)
 | cons b w=>rw[zb0 hr];exact h1
def zb2    (h:mE (b::r)=.tok k w):b≠10/\b≠32/\b≠9/\b≠35:=by
 refine⟨?_,?_,?_,?_⟩ <;> (rintro rfl;unfold mE at h;simp[xN,iD,Mr]at h)
end
section
variable {r s:List Nat}{o:Bool}{b:Nat}
abbrev kG:=Nat × List Nat
def kt (t:cB):kG:=(t.kind,t.text)
def ktR:LR->Option (List kG)
 | .ok l=>some (l.map kt)
 | .er _ _ _=>none
def zN:Nat->List Nat->Bool->Option (List kG)
 | 0,_,_=>some []
 | _+1,[],o=>some (if o=true then [(5,[])]else [])
 | k+1,b::r,o=>
  if b=10 then(zN k r false).map fun l=>if o=true then(5,[])::l else l
  else if b=32\/b=9 then zN k r o
  else if b=35 then zN k ((b::r).drop (nD (fun x=>decide (x≠10)) (b::r)).length) o
  else match mE (b::r)with
   | .bad _=>none
   | .tok kd w=>(zN k ((b::r).drop w.length) true).map fun l=>(kd,w)::l
def zjg:∀(k:Nat) (s:List Nat) (ln cl:Nat) (op:Option (Nat × Nat)),ktR (yN k s ln cl op)=zN k s op.isSome:=by
 have cons:∀(t:cB) (r:LR),ktR (r.cons t)=(ktR r).map fun l=>kt t::l:=fun t r=>by cases r<;>rfl
 have close:∀(op:Option (Nat × Nat)) (r:LR),ktR (LR.close op r)=(ktR r).map fun l=>if op.isSome=true then(5,[])::l else l:=fun op r=>by
  cases op with
  | none=>cases r<;>rfl
  | some p=>exact cons _ r
 intro k;induction k with
 | zero=>intro s ln cl op;rfl
 | succ k ih=>
  intro s ln cl op
  cases s with
  | nil=>rw[yN,close];rfl
  | cons b r=>
   rw[yN,zN];split
   ·rw[close,ih];rfl
   split
   ·exact ih _ _ _ _
   split
   ·exact ih _ _ _ _
   ·cases mE (b::r)with
    | bad e=>rfl
    | tok kd w=>exact(cons _ _).trans (by rw[ih];rfl)
def WB:∀(k k':Nat) (s:List Nat) (o:Bool),s.length<k->s.length<k'->zN k s o=zN k' s o:=by
 intro k;induction k with
 | zero=>intro k' s o h;omega
 | succ k ih=>
  intro k' s o h h';obtain⟨k',rfl⟩:∃m,k'=m+1:=⟨k'-1,by omega⟩
  cases s with
  | nil=>rfl
  | cons b r=>
   simp only[ybn]at h h'
   rw[zN,zN];split
   ·rw[ih k' r false (by omega) (by omega)]
   split
   ·rw[ih k' r o (by omega) (by omega)]
   split
   ·rename_i h35
    have:0<(nD (fun x=>decide (x≠10)) (b::r)).length:=by
     unfold nD;rw[List.takeWhile_cons,h35];simp
    rw[ih k' _ o (by rw[ydj,ybn];omega) (by rw[ydj,ybn];omega)]
   ·cases ht:mE (b::r)with
    | bad e=>rfl
    | tok kd w=>
     have:=(Bt ht).1
     show(zN k _ true).map _=(zN k' _ true).map _
     rw[ih k' _ true (by rw[ydj,ybn];omega) (by rw[ydj,ybn];omega)]
def bK (s:List Nat)(o:Bool):Option (List kG):=zN (s.length+1) s o
def Rp{k:Nat}  (h:s.length<k):zN k s o=bK s o:=WB _ _ _ _ h (by omega)
def zdd  : bK [] o=some (if o=true then [(5,[])]else []):=rfl
def HY   : bK (10::r) o=(bK r false).map fun l=>if o=true then(5,[])::l else l:=by
 unfold bK;rw[zN,yab rfl];rfl
def IC   (h:b=32\/b=9):bK (b::r) o=bK r o:=by
 unfold bK;rw[zN,yaa (by omega),yab h];rfl
def zde   : bK (35::r) o=bK ((35::r).drop (nD (fun x=>decide (x≠10)) (35::r)).length) o:=by
 rw[<- Rp (k:=(35::r).length+1) (by omega),zN,yaa (by omega),yaa (by omega),yab rfl]
 refine Rp ?_
 have:0<(nD (fun x=>decide (x≠10)) (35::r)).length:=by unfold nD;rw[List.takeWhile_cons];simp
 rw[ydj,ybn];omega
def HX {w:List Nat}{kd:Nat} (h:mE (b::r)=.tok kd w):bK (b::r) o=(bK ((b::r).drop w.length) true).map fun l=>(kd,w)::l:=by
 obtain⟨h1,h2,h3,h4⟩:=zb2 h
 have:=(Bt h).1
 rw[<- Rp (k:=(b::r).length+1) (by omega),zN,yaa h1,yaa (by omega),yaa h4,h]
 show(zN _ _ true).map _=_
 rw[Rp (by rw[ydj,ybn];omega)]
def zdf  {e:Nat} (h1:b≠10)(h2:b≠32)(h3:b≠9)(h4:b≠35)(h:mE (b::r)=.bad e):bK (b::r) o=none:=by
 unfold bK;rw[zN,yaa h1,yaa (by omega),yaa h4,h]
def WA{M:List Nat->Prop}(h0:M [])(h1:∀r,M r->M (10::r))(h2:∀b r,b=32\/b=9->M r->M (b::r))
  (h3:∀r,M ((35::r).drop (nD (fun x=>decide (x≠10)) (35::r)).length)->M (35::r))
  (h4:∀b r kd w,mE (b::r)=.tok kd w->M ((b::r).drop w.length)->M (b::r))
  (h5:∀b r e,b≠10->b≠32->b≠9->b≠35->mE (b::r)=.bad e->M (b::r)):∀s,M s:=by
 have key:∀(n:Nat) (s:List Nat),s.length<=n->M s:=by
  intro n;induction n with
  | zero=>
   intro s hs;have:s=[]:=ycc.1 (by omega)
   subst this;exact h0
  | succ n ih=>
   intro s hs
   cases s with
   | nil=>exact h0
   | cons b r=>
    simp only[ybn]at hs;by_cases a1:b=10
    ·subst a1;exact h1 r (ih r (by omega))
    by_cases a2:b=32\/b=9
    ·exact h2 b r a2 (ih r (by omega))
    by_cases a3:b=35
    ·subst a3
     refine h3 r (ih _ ?_)
     have:0<(nD (fun x=>decide (x≠10)) (35::r)).length:=by unfold nD;rw[List.takeWhile_cons];simp
     rw[ydj,ybn];omega
    cases ht:mE (b::r)with
    | bad e=>exact h5 b r e a1 (by omega) (by omega) a3 ht
    | tok kd w=>
     refine h4 b r kd w ht (ih _ ?_)
     have:=(Bt ht).1
     rw[ydj,ybn];omega
 exact fun s=>key _ s (ybk _)
def pF:Bool->List kG->List Nat
 | _,[]=>[]
 | o,t::l=>if t.1=5 then 10::pF false l else(if o=true then 32::t.2 else t.2)++pF true l
def Ze:∀(l:List cB) (o:Bool),wK o l=pF o (l.map kt):=by
 intro l;induction l with
 | nil=>intro o;rfl
 | cons t l ih=>intro o;rw[wK,ycm,pF,ih,ih];rfl
def aK:Bool->List kG->Prop
 | _,[]=>True
 | o,t::l=>if t.1=5 then o=true/\t.2=[]/\aK false l else mE t.2=.tok t.1 t.2/\aK true l
def iL:Bool->List kG->Bool
 | o,[]=>o
 | _,t::l=>iL (!decide (t.1=5)) l
def WO{l:List kG}(h:aK true l):qZ (pF true l):=by
 intro c r e
 cases l with
 | nil=>cases e
 | cons t l=>
  rw[pF]at e;split at e
  ·cases e;exact .inl rfl
  ·rw[yab rfl]at e;cases e;exact .inr rfl
def HZ:∀(l:List kG) (o:Bool),aK o l->bK (pF o l) o=some (l++if iL o l=true then [(5,[])]else []):=by
 intro l;induction l with
 | nil=>intro o _;rfl
 | cons t l ih=>
  intro o h;obtain⟨k,w⟩:=t
  rw[aK]at h;rw[pF];by_cases h5:k=5
  ·rw[yab h5]at h ⊢
   obtain⟨rfl,h2,h3⟩:=h
   have h2:w=[]:=h2
   subst h5 h2
   rw[HY,ih _ h3];rfl
  ·rw[yaa h5]at h ⊢
   obtain⟨h1,h2⟩:=h
   have h1:mE w=.tok k w:=h1
   have hs:=QH h1 (WO h2)
   have hlen:=(Bt h1).1
   obtain⟨b,w',rfl⟩:∃b w',w=b::w':=by cases w with | nil=>cases hlen | cons b w'=>exact⟨b,w',rfl⟩
   have key:bK ((b::w')++pF true l) o=some ((k,b::w')::l++if iL true l=true then [(5,[])]else []):=by
    have hs:mE (b::(w'++pF true l))=.tok k (b::w'):=hs
    rw[List.cons_append,HX hs,<- List.cons_append,zd5,ih _ h2];rfl
   have he:iL o ((k,b::w')::l)=iL true l:=by rw[iL];simp[h5]
   rw[he]
   cases o with
   | true=>
    show bK (32::((b::w')++pF true l)) true=_
    rw[IC (.inl rfl)];exact key
   | false=>exact key
def IA:∀(s:List Nat) (o:Bool) (l:List kG),bK s o=some l->aK o l/\iL o l=false/\(pF o l).length<=2*s.length+(if o=true then 1 else 0)/\(∀t∈l,∀b∈t.2,b∈s)/\l.length<=2*s.length+(if o=true then 1 else 0):=by
 refine WA ?_ ?_ ?_ ?_ ?_ ?_
 ·intro o l h
  rw[zdd]at h
  cases h
  cases o
  ·exact⟨trivial,rfl,by simp[pF],by simp,by simp⟩
  ·exact⟨⟨rfl,rfl,trivial⟩,rfl,by simp[pF],by simp,by simp⟩
 ·intro r ih o l h
  rw[HY]at h
  cases hr:bK r false with
  | none=>rw[hr]at h;cases h
  | some m=>
   rw[hr]at h;obtain⟨g1,g2,g3,g4,g5⟩:=ih false m hr
   cases o with
   | false=>
    cases h;exact⟨g1,g2,by simp at g3 ⊢;omega,fun t ht b hb=>ybr _ (g4 t ht b hb),by simp at g5 ⊢;omega⟩
   | true=>
    cases h;refine⟨⟨rfl,rfl,g1⟩,g2,?_,fun t ht b hb=>?_,by simp at g5 ⊢;omega⟩
    ·show(10::pF false m).length<=_
     simp at g3 ⊢;omega
    ·rcases ybs.1 ht with rfl | ht
     ·cases hb
     ·exact ybr _ (g4 t ht b hb)
 ·intro c r hc ih o l h
  rw[IC hc]at h;obtain⟨g1,g2,g3,g4,g5⟩:=ih o l h
  exact⟨g1,g2,by simp;omega,fun t ht b hb=>ybr _ (g4 t ht b hb),by simp;omega⟩
 ·intro r ih o l h
  rw[zde]at h;obtain⟨g1,g2,g3,g4,g5⟩:=ih o l h
  rw[ydj]at g3 g5;exact⟨g1,g2,by omega,fun t ht b hb=>List.mem_of_mem_drop (g4 t ht b hb),by omega⟩
 ·intro c r kd w ht ih o l h
  rw[HX ht]at h
  cases hr:bK ((c::r).drop w.length) true with
  | none=>rw[hr]at h;cases h
  | some m=>
   rw[hr]at h
   cases h;obtain⟨g1,g2,g3,g4,g5⟩:=ih true m hr
   obtain⟨f1,_,_,f5⟩:=Bt ht
   obtain⟨r',hr'⟩:=zhy ht
   have hl:w.length<=(c::r).length:=by rw[hr'];simp
   rw[ydj]at g3 g5;simp only[if_true]at g3 g5;refine⟨by rw[aK,yaa f5];exact⟨CR ht,g1⟩,by rw[iL];simpa[f5]using g2,?_,fun t ht' b hb=>?_,?_⟩
   ·rw[pF,yaa f5]
    cases o<;>simp<;>simp only[ybn]at *<;>omega
   ·rcases ybs.1 ht' with rfl | ht'
    ·rw[hr'];exact ydc _ hb
    ·exact List.mem_of_mem_drop (g4 t ht' b hb)
   ·cases o<;>simp<;>simp only[ybn]at *<;>omega
 ·intro c r e a1 a2 a3 a4 ht o l h
  rw[zdf a1 a2 a3 a4 ht]at h;cases h
def Se:∀ {l:List kG} {o:Bool},aK o l->∀x∈l,x.1≠5->mE x.2=.tok x.1 x.2
 | [],_,_,x,hx,_=>by cases hx
 | t::l,o,h,x,hx,h5=>by
  rw[aK]at h;rcases ybs.1 hx with rfl | hx
  ·rw[yaa h5]at h;exact h.1
  ·split at h
   ·exact Se h.2.2 x hx h5
   ·exact Se h.2 x hx h5
def IE(s:List Nat):ktR (fU s)=bK s false:=zjg _ _ _ _ _
def Rq {l:List kG}(h:bK s false=some l):∃m,fU s=.ok m/\m.map kt=l:=by
 have e:=IE s
 rw[h]at e
 cases hl:fU s with
 | ok m=>rw[hl]at e;exact⟨m,rfl,yci e⟩
 | er a b c=>rw[hl]at e;cases e
def ID {m:List cB}(h:fU s=.ok m):bK s false=some (m.map kt):=by rw[<- IE,h];rfl
end
section
structure Cg (tk tk':List cB):Prop where
 acc:acc tk=acc tk'
 kind:iE tk=iE tk'
 text:iH tk=iH tk'
 len:tk.length=tk'.length
end
section
variable {n:Nat}{α:Type}
def VP.same(tk:List cB):VP:=⟨tk,tk,0,tk.length,False,False⟩
def zc2{tk:List cB}{w:List Nat} (h:tk.length<=n):acc tk w n=false:=by unfold acc;rw[List.getElem?_eq_none h]
def HH{tk:List cB}{q:Nat}(h:tk.length<=n):iE tk q n=false:=by unfold iE;rw[List.getElem?_eq_none h]
theorem VW.same{tk:List cB}(hg:∀x∈tk,oU x):VW (VP.same tk) where
 acc:=fun _ _ _=>rfl
 kind:=fun _ _ _=>rfl
 text:=fun _ _=>rfl
 qacc:=fun w _=>zc2 (ybk _)
 qkind:=fun q _=>HH (ybk _)
 qname:=by
  have:=HH (tk:=tk) (q:=1) (ybk _)
  unfold mL;exact(congrArg (· && _) this).trans rfl
 full:=fun h=>h.elim
 good:=hg
section
variable {tk:List cB}(hg:∀x∈tk,oU x)
include hg
def zew {V:α->Prop}{f:PM α}(h:VW (VP.same tk)->qC (VP.same tk) True V f f){n':Nat}{a:α}(hr:f n=.ok a n'):n<=n'/\NE tk n n'/\V a:=by
 have:=((h (VW.same hg)).ra trivial n).mo
 rw[hr]at this;exact this
def err_of {V:α->Prop}{f:PM α}(h:VW (VP.same tk)->qC (VP.same tk) True V f f){i e:Nat}(hr:f n=.er e i):n<=i/\NE tk n i/\(e=120\/e=121\/e=122):=by
 have:=((h (VW.same hg)).ra trivial n).mo
 rw[hr]at this;exact this
def zby{x:aA} (h:jF tk=.ok x n):aA.cpy x:=by
 unfold jF at h;obtain⟨y,n1,h1,h2⟩:=PR.bind_inv h
 obtain⟨u,n2,h3,h4⟩:=PR.bind_inv h2
 cases h4;exact(zew hg (fun hv=>So hv) h1).2.2
structure PBd (p:fH) (n:Nat):Prop where
 defs:p.defs.length<=n
 tables:p.tables.length<=n
 clauses:p.clauses.length<=n
 rows:∀x∈p.tables,x.rows.length<=n/\∀r∈x.rows,mI.cpy r.f
 exprs:∀x∈p.clauses,dG.cpy x
end
end
section
variable {K:jI->jI->Int->T}
variable [yD]
def RP.err{α:Type}:RP α->Nat | .ok _=>0 | .er e _ _=>e
def RP.pl{α:Type}:RP α->Nat × Nat | .ok _=>(0,0) | .er _ a b=>(a,b)
def RP.val{α:Type}(z:α):RP α->α | .ok x=>x | .er _ _ _=>z
def wQ (p:Nat × Nat):List zA:=[.int .i64 (p.1:Int),.int .i64 (p.2:Int)]
def AM:fH:=⟨[],[],[],[]⟩
def Yb{t:Tr uA}{sz:Nat}:xB t sz [] .nilslice:=⟨[],.inl ⟨rfl,rfl⟩,cF.2 rfl⟩
def zan{t:Tr uA}:RD t AM.d zP:=
 vK.2 ⟨[[.str []],[.nilslice],[.nilslice],[.nilslice]],rfl,rD.2 ⟨_,_,rfl,eL.2 rfl,rD.2 ⟨_,_,rfl,jQ.2 ⟨_,rfl,Yb⟩,rD.2 ⟨_,_,rfl,jQ.2 ⟨_,rfl,Yb⟩,rD.2 ⟨_,_,rfl,jQ.2 ⟨_,rfl,Yb⟩,cF.2 rfl⟩⟩⟩⟩⟩
def agPl{p:Nat × Nat}:mK eP (.agg (wQ p))=some (cellsOf (wQ p)):=nQ rfl
section
variable {t:Tr uA}{Q:jB}{s:List Nat}{J:qF}
def zis (hg:aJ t)(hby:∀b∈s,b<256)
  (hQ:∀t' cs,yB t t'->RD t' ((mG gK s).val AM).d cs->qA yA.base (Wq yA F rC) J (K (cellsOf cs) (cellsOf (wQ (mG gK s).pl)) ((mG gK s).err:Int)) t' Q) :
  qA yA.base (Wq yA F rC) J (.call 10 [.str s] fun a=>.opt (uX 0 a)<|uG zz4z fun X2=>.opt (uX 1 a)<|uG eP fun X=>.opt (uX 2 a)<|uI fun n=>.ite (wF (uM3 X2)) (.ite true (K X2 X n) .fail) .fail) t Q:=by
 refine tB ?_
 rw[q10];refine ziv hg hby ?_
 have key:∀t' cs,yB t t'->RD t' ((mG gK s).val AM).d cs->qA yA.base (Wq yA F rC) J (.opt (uX 0 (.tup [.agg cs,.agg (wQ (mG gK s).pl),.int .i64 ((mG gK s).err:Int)]))<|uG zz4z fun X2=>.opt (uX 1 (.tup [.agg cs,.agg (wQ (mG gK s).pl),.int .i64 ((mG gK s).err:Int)]))<|uG eP fun X=>.opt (uX 2 (.tup [.agg cs,.agg (wQ (mG gK s).pl),.int .i64 ((mG gK s).err:Int)]))<|uI fun n=>.ite (wF (uM3 X2)) (.ite true (K X2 X n) .fail) .fail) t' Q:=by
  intro t' cs k1 k2;have hc:uM3 (cellsOf cs)=cs:=Nu k2
  refine mA (v:=.agg cs) rfl (dC (agP k2) (mA (v:=.agg (wQ (mG gK s).pl)) rfl (dC agPl (mA (v:=.int .i64 ((mG gK s).err:Int)) rfl (kB (rA ?_ (rA rfl (hQ t' cs k1 k2))))))))
  show zC zA.one (uM3 (cellsOf cs))=true
  rw[hc];obtain⟨a,b,c,rfl,_⟩:=Hm k2;exact k2.all
 cases hr:mG gK s with
 | ok x=>rw[hr]at key;exact fun t' cs k1 k2=>key t' cs k1 k2
 | er e a b=>rw[hr]at key;exact fun t' k1=>key t' zP k1 zan
def AE (hg:aJ t)(hby:∀b∈s,b<256)
  (hQ:∀t' cs,yB t t'->RD t' ((mG jF s).val Bl).d cs->qA yA.base (Wq yA F rC) J (K (cellsOf cs) (cellsOf (wQ (mG jF s).pl)) ((mG jF s).err:Int)) t' Q) :
  qA yA.base (Wq yA F rC) J (.call 15 [.str s] fun a=>.opt (uX 0 a)<|uG tU fun X2=>.opt (uX 1 a)<|uG eP fun X=>.opt (uX 2 a)<|uI fun n=>.ite (wF (uM1 X2)) (.ite true (K X2 X n) .fail) .fail) t Q:=by
 refine tB ?_
 rw[q15];refine expr15 hg hby ?_
 have key:∀t' cs,yB t t'->RD t' ((mG jF s).val Bl).d cs->qA yA.base (Wq yA F rC) J (.opt (uX 0 (.tup [.agg cs,.agg (wQ (mG jF s).pl),.int .i64 ((mG jF s).err:Int)]))<|uG tU fun X2=>.opt (uX 1 (.tup [.agg cs,.agg (wQ (mG jF s).pl),.int .i64 ((mG jF s).err:Int)]))<|uG eP fun X=>.opt (uX 2 (.tup [.agg cs,.agg (wQ (mG jF s).pl),.int .i64 ((mG jF s).err:Int)]))<|uI fun n=>.ite (wF (uM1 X2)) (.ite true (K X2 X n) .fail) .fail) t' Q:=by
  intro t' cs k1 k2;have hc:uM1 (cellsOf cs)=cs:=Gb k2
  refine mA (v:=.agg cs) rfl (dC (oN k2) (mA (v:=.agg (wQ (mG jF s).pl)) rfl (dC agPl (mA (v:=.int .i64 ((mG jF s).err:Int)) rfl (kB (rA ?_ (rA rfl (hQ t' cs k1 k2))))))))
  show zC zA.one (uM1 (cellsOf cs))=true
  rw[hc];obtain⟨a,b,c,rfl,_⟩:=wJ k2;exact k2.all
 cases hr:mG jF s with
 | ok x=>rw[hr]at key;exact fun t' cs k1 k2=>key t' cs k1 k2
 | er e a b=>rw[hr]at key;exact fun t' k1=>key t' zE k1 Tz
def zjf{K:zA->jI->Int->T}(hg:aJ t)(hby:∀b∈s,b<256)
  (hok:∀m,xK s=.ok m->∀t' v,yB t t'->xB t' 4 (m.map cB.d) v->qA yA.base (Wq yA F rC) J (K v (cellsOf (wQ (0,0))) 0) t' Q)
  (her:∀e a b,xK s=.er e a b->∀t',yB t t'->qA yA.base (Wq yA F rC) J (K .nilslice (cellsOf (wQ (a,b))) (e:Int)) t' Q) :
  qA yA.base (Wq yA F rC) J (.call 22 [.str s] fun a2=>.opt (uX 0 a2) fun a3=>.opt (uX 1 a2)<|uG eP fun X=>.opt (uX 2 a2)<|uI fun n7=>.ite true (K a3 X n7) .fail) t Q:=by
 refine tB ?_
 rw[q22];refine zfy hg hby ?_
 cases hr:xK s with
 | ok m=>exact fun t' v k1 k2=>mA (v:=v) rfl (mA (v:=.agg (wQ (0,0))) rfl (dC agPl (mA (v:=.int .i64 0) rfl (kB (rA rfl (hok m hr t' v k1 k2))))))
 | er e a b=>exact fun t' k1=>mA (v:=.nilslice) rfl (mA (v:=.agg (wQ (a,b))) rfl (dC agPl (mA (v:=.int .i64 (e:Int)) rfl (kB (rA rfl (her e a b hr t' k1))))))
def zep{K:T}(k:qA yA.base (Wq yA F rC) J K t Q):qA yA.base (Wq yA F rC) J (.call 9 []<|uB fun b=>.ite (!b) uD K) t Q:=by
 refine tB ?_
 have h9:iC yA F 9 [] t=some (.bool true):=Lr (g:=Qp) (by kernel_rfl) fun H=>rfl
 rw[q9,h9,iA];exact vE (oB (by decide) k)
def Qc{K:zA->T}{x:aA}{cs ds:List zA}(hx:aA.cpy x)(h:RD t x.d cs)(h2:RD t x.d ds)(k:qA yA.base (Wq yA F rC) J (K (.bool true)) t Q):qA yA.base (Wq yA F rC) J (.call 16 [.agg cs,.agg ds] K) t Q:=by
 refine tB ?_
 rw[q16,sam51 x hx cs ds h h2,iA];exact k
end
def Ih{s:List Nat}(h:s.length<=65536):xK s=fU s:=by unfold xK;rw[yaa (by omega)]
def joined{s:List Nat}{m:List cB}(hs:s.length<=3000)(hby:∀b∈s,b<256)(h:xK s=.ok m) :
  (wK false m).length<=6000/\(∀x∈m,∀b∈x.text,b<256)/\aK false (m.map kt)/\iL false (m.map kt)=false/\m.length<=6000/\∃m',xK (wK false m)=.ok m'/\m'.map kt=m.map kt:=by
 rw[Ih (by omega)]at h
 have h1:=ID h
 obtain⟨g1,g2,g3,g4,g5⟩:=IA _ _ _ h1
 rw[<- Ze]at g3;simp only[ybq,if_false]at g3 g5;have h2:=HZ _ _ g1
 rw[g2,yaa (by simp),ycd,<- Ze]at h2
 obtain⟨m',k1,k2⟩:=Rq h2
 rw[ybf]at g5;exact⟨by omega,fun x hx b hb=>hby b (g4 (kt x) (List.mem_map_of_mem hx) b hb),g1,g2,by omega,m',by rw[Ih (by omega)];exact k1,k2⟩
def Zd:∀ {l:List cB} {o:Bool},(∀x∈l,∀b∈x.text,b<256)->∀b∈wK o l,b<256
 | [],_,_,b,hb=>by cases hb
 | t::l,o,h,b,hb=>by
  rw[wK]at hb;split at hb
  ·rcases ybs.1 hb with rfl | hb
   ·omega
   ·exact Zd (fun x hx=>h x (by simp[hx])) b hb
  ·rcases yaf.1 hb with hb | hb
   ·split at hb
    ·rcases ybs.1 hb with rfl | hb
     ·omega
     ·exact h t (by simp) b hb
    ·exact h t (by simp) b hb
   ·exact Zd (fun x hx=>h x (by simp[hx])) b hb
end
section
variable [yD]
def ll_le{s:List Nat}{n:Nat}:(oC (n:Int) (Int.ofNat (wB s))=true) ↔ n<s.length:=by
 rw[lG,jD];show(n:Int)<((s.length:Nat):Int) ↔ _
 omega
end
section
variable [yD]
section
variable {t:Tr uA}
def MD{x:aA}{cs:List zA}(n op:Nat)(h:RD t x.d cs)(ho:x.op=op)(hn:x.args.length=n):iC yA F 17 [.agg cs,.int .u8 (op:Int),.int .i64 (n:Int)] t=some (.bool true):=by
 subst ho;obtain⟨a,b,c,rfl,_,_,hc⟩:=wJ h
 refine bE.2 (w17 ?_)
 unfold t17 uI;have hl:=hc.len
 rw[ybf,hn]at hl;exact rA (by rw[oF];simp) (mA hl (kB ⟨by rw[oF];simp,rfl⟩))
def fa3{b o:Nat}:jC yA 50 3 (.ptr b o)=some (.ptr b (o+8)):=by kernel_rfl
def zg4{l:List aA}{v:zA}(h:xB t 9 (l.map aA.d) v){i:Nat}{y:aA}(hy:l[i]?=some y) :
  ∃b o cs,mC yA 48 v (.int .i64 (i:Int))=some (.ptr b o)/\fA yA 50 ⟨0,t⟩ (.ptr b o)=some (.agg cs)/\RD t y.d cs/\fA yA 9 ⟨0,t⟩ (.ptr b (o+1))=some (.str y.name)/\∃w,fA yA 48 ⟨0,t⟩ (.ptr b (o+8))=some w/\xB t 9 (y.args.map aA.d) w:=by
 obtain⟨b,o,cs,h1,h2,h3,_,h5⟩:=sl48.at (fun e=>by cases e) h (i:=i) (d:=y.d) (by rw[ybu,hy];rfl)
 refine⟨b,o,cs,h1,h2,h5,?_⟩
 obtain⟨a,b',c,rfl,_,_,hc⟩:=wJ h5
 exact⟨h3.load1 (j:=1) jN rfl rfl,c,h3.load1 (j:=8) ty48 rfl rfl,hc⟩
end
end
section
variable {e i q:Nat}{v:List Nat}{m:List cB}{A B u:List kG}
def Zf:∀(l l':List kG) (o:Bool),pF o (l++l')=pF o l++pF (iL o l) l':=by
 intro l;induction l with
 | nil=>intro l' o;rfl
 | cons t l ih=>
  intro l' o;rw[List.cons_append,pF,pF,iL,ih,ih];by_cases h5:t.1=5
  ·rw[yab h5,yab h5,h5];rfl
  ·rw[yaa h5,yaa h5,decide_eq_false h5,ybz];rfl
def KX:∀(l l':List kG) (o:Bool),aK o l->aK (iL o l) l'->aK o (l++l'):=by
 intro l;induction l with
 | nil=>intro l' o _ h;exact h
 | cons t l ih=>
  intro l' o h h';rw[List.cons_append,aK];rw[aK]at h;rw[iL]at h'
  by_cases h5:t.1=5
  ·rw[yab h5]at h ⊢
   rw[h5]at h'
   exact⟨h.1,h.2.1,ih _ _ h.2.2 h'⟩
  ·rw[yaa h5]at h ⊢
   rw[decide_eq_false h5]at h'
   exact⟨h.1,ih _ _ h.2 h'⟩
def ME:∀(l l':List kG) (o:Bool),iL o (l++l')=iL (iL o l) l':=by
 intro l;induction l with
 | nil=>intro l' o;rfl
 | cons t l ih=>intro l' o;rw[List.cons_append,iL,iL,ih]
def Zn(l:List kG):Prop:=l≠[]/\∀t∈l,t.1≠5/\mE t.2=.tok t.1 t.2
def HW:∀ {l:List kG} (o:Bool),(∀t∈l,t.1≠5/\mE t.2=.tok t.1 t.2)->aK o l/\(l≠[]->iL o l=true):=by
 intro l;induction l with
 | nil=>intro o _;exact⟨trivial,fun h=>absurd rfl h⟩
 | cons t l ih=>
  intro o h;obtain⟨h1,h2⟩:=h t (by simp)
  obtain⟨k1,k2⟩:=ih true fun x hx=>h x (by simp[hx])
  refine⟨by rw[aK,yaa h1];exact⟨h2,k1⟩,fun _=>?_⟩
  rw[iL,decide_eq_false h1]
  cases l with
  | nil=>rfl
  | cons y l=>exact k2 (by simp)
def JX{l:List kG}(h:Zn l):pF true l=32::pF false l:=by
 obtain⟨h0,h⟩:=h
 cases l with
 | nil=>exact absurd rfl h0
 | cons t l=>
  obtain⟨h1,h2⟩:=h t (by simp)
  rw[pF,pF,yaa h1,yaa h1];rfl
section
variable {tk:List cB}{o:PM aA}{n n':Nat}{x:aA}{l:List (List Nat × Nat)}
def Nr(h:o n=.ok x n')(hq:wI tk l n'=none):iP tk o l n=.ok x n':=by
 unfold iP;rw[h];show rM tk o l tk.length x n'=_
 cases tk.length with
 | zero=>rfl
 | succ m=>rw[rM,hq]
def Sz (h:o n=.er e i):iP tk o l n=.er e i:=by unfold iP;rw[h];rfl
def Hp(tk:List cB)(n:Nat):Prop:=∀w∈[[42],[47],[43],[45],[60],[61],wAnd,wOr],acc tk w n=false
def Ho(hq:Hp tk n)(hl:∀p∈l,p.1∈[[42],[47],[43],[45],[60],[61],wAnd,wOr]):wI tk l n=none:=by
 unfold wI;rw[List.find?_eq_none.2 fun p hp=>by rw[hq _ (hl p hp)];simp]
 rfl
def FW(h:o n=.ok x n')(hq:Hp tk n'):vW tk o n=.ok x n':=Nr h (Ho hq (by decide))
def sum_up(h:vW tk o n=.ok x n')(hq:Hp tk n'):nT tk o n=.ok x n':=Nr h (Ho hq (by decide))
def FD(hn:acc tk vT n=false)(h:nT tk o n=.ok x n')(hq:Hp tk n'):nI tk o n=.ok x n':=by
 have hc:kY tk o n=.ok x n':=by
  unfold kY;rw[h];show(match wI tk [([60],13),([61],14)] n' with | none=>PR.ok x n' | some op=>_)=_
  rw[Ho hq (by decide)]
 have hg:qW tk o n=.ok x n':=by
  unfold qW;have:xM tk tk.length n=0:=by
   cases tk.length with
   | zero=>rfl
   | succ m=>rw[xM,hn,yaa (by simp)]
  rw[this,yct,hc];rfl
 exact Nr (Nr hg (Ho hq (by decide))) (Ho hq (by decide))
def zkd(hn:acc tk vT n=false)(h:o n=.ok x n')(hq:Hp tk n'):nI tk o n=.ok x n':=FD hn (sum_up (FW h hq) hq) hq
def LU (hn:acc tk vT n=false)(h:o n=.er e i):nI tk o n=.er e i:=by
 have hs:nT tk o n=.er e i:=Sz (Sz h)
 have hc:kY tk o n=.er e i:=by unfold kY;rw[hs];rfl
 have hg:qW tk o n=.er e i:=by
  unfold qW;have:xM tk tk.length n=0:=by
   cases tk.length with
   | zero=>rfl
   | succ m=>rw[xM,hn,yaa (by simp)]
  rw[this,yct,hc];rfl
 exact Sz (Sz hg)
end
section
variable {tk:List cB}{K:List kG}
def Tu(hK:tk.map kt=K){n:Nat} (h:K[n]?=some (q,v))(w:List Nat):acc tk w n=((decide (q=1)||decide (q=4))&&sG v w):=by
 subst hK;rw[ybu]at h;unfold acc
 cases hx:tk[n]? with
 | none=>rw[hx]at h;cases h
 | some t=>rw[hx]at h;cases h;rfl
def Ag(hK:tk.map kt=K){n:Nat} (h:K[n]?=some (q,v))(j:Nat):iE tk j n=decide (q=j):=by
 subst hK;rw[ybu]at h;unfold iE
 cases hx:tk[n]? with
 | none=>rw[hx]at h;cases h
 | some t=>rw[hx]at h;cases h;rfl
def Kr(hK:tk.map kt=K){n:Nat} (h:K[n]?=some (q,v)):iH tk n=v:=by
 subst hK;rw[ybu]at h;unfold iH
 cases hx:tk[n]? with
 | none=>rw[hx]at h;cases h
 | some t=>rw[hx]at h;cases h;rfl
def Yp(hK:tk.map kt=K):tk.length=K.length:=by rw[<- hK,ybf]
end
structure Ex (m:List cB) (u:List kG) (x:aA):Prop where
 toks:m.map kt=u++[(5,[])]
 line:Zn u
 good:∀t∈m,oU t
 ok:tN m 0=.ok x u.length
def ex_of {x:aA}{n:Nat}(hg:∀t∈m,oU t)(hk:aK false (m.map kt))(h:jF m=.ok x n):∃u,Ex m u x:=by
 unfold jF at h;obtain⟨y,L,h1,h2⟩:=PR.bind_inv h
 obtain⟨v,n2,h3,h4⟩:=PR.bind_inv h2
 cases h4;obtain⟨k1,k2,_⟩:=zew hg (fun hv=>So hv) h1
 unfold sY at h3;obtain⟨w,n3,h5,h6⟩:=PR.bind_inv h3
 have h7:iE m 5 L=true/\n3=L+1:=by
  unfold tG at h5;split at h5
  ·cases h5;exact⟨by assumption,rfl⟩
  ·cases h5
 have h8:m.length<=L+1:=by
  split at h6
  ·cases h6
  ·omega
 have h9:L<m.length:=by
  have:=h7.1
  unfold iE at this
  cases hx:m[L]? with
  | none=>rw[hx]at this;cases this
  | some t=>exact(ybc.1 hx).1
 have hne:∀t∈(m.map kt).take L,t.1≠5:=by
  intro t ht;rw[<- List.map_take]at ht;obtain⟨t',ht',rfl⟩:=yaq.1 ht
  obtain⟨j,hj,rfl⟩:=List.mem_iff_getElem.1 ht'
  rw[yda]at hj;have:=k2 j (by omega) (by omega)
  unfold iE at this;rw[ybd (by omega)]at this
  rw[List.getElem_take];exact of_decide_eq_false this
 have hlast:(m.map kt)[L]?=some (5,[]):=by
  rw[ybu,ybd h9];have h5:(m[L]).kind=5:=by
   have:=h7.1
   unfold iE at this;rw[ybd h9]at this;exact of_decide_eq_true this
  have key:∀(l:List kG) (o:Bool),aK o l->∀t∈l,t.1=5->t.2=[]:=by
   intro l;induction l with
   | nil=>intro o _ t ht;cases ht
   | cons y l ih=>
    intro o h t ht h5;rw[aK]at h;rcases ybs.1 ht with rfl | ht
    ·rw[yab h5]at h;exact h.2.1
    ·split at h
     ·exact ih _ h.2.2 t ht h5
     ·exact ih _ h.2 t ht h5
  have:=key _ _ hk (kt m[L]) (List.mem_map_of_mem (ycj h9)) h5
  show some (Proofs.kt m[L])=_
  have e:Proofs.kt m[L]=((Proofs.kt m[L]).1,(Proofs.kt m[L]).2):=rfl
  rw[e,this];show some (m[L].kind,([]:List Nat))=_
  rw[h5]
 have hsplit:m.map kt=(m.map kt).take L++[(5,[])]:=by
  have e1:(m.map kt).take (L+1)=m.map kt:=yca (by rw[ybf];omega)
  have e2:=List.take_succ (l:=m.map kt) (i:=L)
  rw[e1,hlast]at e2;exact e2
 have hul:((m.map kt).take L).length=L:=by rw[yda,ybf];omega
 refine⟨(m.map kt).take L,hsplit,⟨fun e=>?_,fun t ht=>⟨hne t ht,?_⟩⟩,hg,by rw[hul];exact h1⟩
 ·rw[e]at hsplit
  rw[hsplit]at hk;simp[aK]at hk
 ·exact Se hk t (List.mem_of_mem_take ht) (hne t ht)
theorem Ex.at{m:List cB}{u:List kG}{x:aA}(h:Ex m u x){T:List cB}{A B:List kG}{q:Nat}{v:List Nat}(hT:T.map kt=A++(u++(q,v)::B))(hq:(q=5/\v=[])\/(q=4/\v=[41])\/(q=1/\v=iK))(dp:Prop) :
  VW ⟨m,T,A.length,u.length,False,dp⟩:=by
 have hT':∀i,i<u.length->(T[i+A.length]?).map kt=(m[i]?).map kt:=by
  intro i hi;rw[<- ybu,<- ybu,hT,h.toks,yap,ybp (by omega),Nat.add_sub_cancel_left,yco hi,yco hi]
 have hq2:(A++(u++(q,v)::B))[u.length+A.length]?=some (q,v):=by
  rw[yap,ybp (by omega),Nat.add_sub_cancel_left,ybp (by omega),Nat.sub_self];rfl
 refine⟨fun i hi w=>?_,fun i hi j=>?_,fun i hi=>?_,fun w hw=>?_,fun j hj=>?_,?_,fun hf=>hf.elim,h.good⟩
 ·have:=hT' i hi
  show acc T w (i+A.length)=acc m w i
  unfold acc
  cases h1:T[i+A.length]?<;>cases h2:m[i]?<;>rw[h1,h2]at this<;>simp[kt]at this
  rename_i a b;show((decide (a.kind=1)||decide (a.kind=4))&&sG a.text w)=((decide (b.kind=1)||decide (b.kind=4))&&sG b.text w)
  rw[this.1,this.2]
 ·have:=hT' i hi
  show iE T j (i+A.length)=iE m j i
  unfold iE
  cases h1:T[i+A.length]?<;>cases h2:m[i]?<;>rw[h1,h2]at this<;>simp[kt]at this
  rename_i a b;show decide (a.kind=j)=decide (b.kind=j)
  rw[this.1]
 ·have:=hT' i hi
  show iH T (i+A.length)=iH m i
  unfold iH
  cases h1:T[i+A.length]?<;>cases h2:m[i]?<;>rw[h1,h2]at this<;>simp[kt]at this
  exact this.2
 ·show acc T w (u.length+A.length)=false
  rw[Tu hT hq2];rcases hq with⟨rfl,rfl⟩ | ⟨rfl,rfl⟩ | ⟨rfl,rfl⟩
  ·rfl
  ·have:sG [41] w=false:=by
    cases he:sG [41] w with
    | false=>rfl
    | true=>exact absurd ((sN _ _).1 he).symm (fun e=>hw (by rw[e];simp))
   rw[this];rfl
  ·have:sG iK w=false:=by
    cases he:sG iK w with
    | false=>rfl
    | true=>exact absurd ((sN _ _).1 he).symm (fun e=>hw (by rw[e];simp))
   rw[this];rfl
 ·show iE T j (u.length+A.length)=false
  rw[Ag hT hq2];exact decide_eq_false (by omega)
 ·show mL T (u.length+A.length)=false
  unfold mL;rw[Ag hT hq2,Kr hT hq2];rcases hq with⟨rfl,rfl⟩ | ⟨rfl,rfl⟩ | ⟨rfl,rfl⟩<;>decide +kernel
theorem Ex.same  {x:aA}(h:Ex m u x){T:List cB}   (hT:T.map kt=A++(u++(q,v)::B))(hq:(q=5/\v=[])\/(q=4/\v=[41])\/(q=1/\v=iK)) :
  tN T A.length=.ok x (A.length+u.length):=by
 have hv:=h.at hT hq False
 have:=((So hv).ra trivial 0).ok (yaw _) x u.length h.ok (ybk _)
 rcases this with e | ⟨e,_⟩
 ·simp only[ybw]at e
  rw[yap];exact e
 ·exact e.elim
def Ex.deep  {x:aA}(h:Ex m u x){T:List cB}   (hT:T.map kt=A++(u++(q,v)::B))(hq:(q=5/\v=[])\/(q=4/\v=[41])\/(q=1/\v=iK)) :
  nI T (nH T 100) A.length=.ok x (A.length+u.length)\/∃i,nI T (nH T 100) A.length=.er 122 i:=by
 have hv:=h.at hT hq True
 have:=((AF hv (GP hv 101 100 (.inr ⟨rfl,trivial⟩))).ra trivial 0).ok (yaw _) x u.length h.ok (ybk _)
 simp only[ybw]at this;rcases this with e | ⟨_,e⟩
 ·left;rw[yap A.length];exact e
 ·exact .inr e
end
section
def eqS_ne{v w:List Nat}(h:v≠w):sG v w=false:=by
 cases he:sG v w with
 | false=>rfl
 | true=>exact absurd ((sN _ _).1 he) h
section
variable {tk:List cB}{K:List kG}{o:PM aA}{n q:Nat}{v:List Nat}
def aN(hK:tk.map kt=K)(h:K[n]?=some (q,v)){w:List Nat}(hw:v≠w):acc tk w n=false:=by rw[Tu hK h,eqS_ne hw,yay]
def Nz(hK:tk.map kt=K)(h:K[n]?=some (q,v))(hq:q=1\/q=4):acc tk v n=true:=by
 rw[Tu hK h,(sN v v).2 rfl]
 rcases hq with rfl | rfl<;>rfl
def FS(hK:tk.map kt=K)(h:K[n]?=some (q,v))(hv:v∉[[42],[47],[43],[45],[60],[61],wAnd,wOr]):Hp tk n:=fun w hw=>aN hK h fun e=>hv (e ▸ hw)
def MU(hK:tk.map kt=K)(h:K[n]?=some (q,v))(hq:q≠2/\q≠3)(hv:v∉[Kg,Ki,Kh,cL]):sX tk n=.ok none n:=by
 unfold sX;have e:∀w∈[Kg,Ki,Kh,cL],acc tk w n=false:=fun w hw=>aN hK h fun e=>hv (e ▸ hw)
 rw[e Kg (by simp),e Ki (by simp),e Kh (by simp),e cL (by simp),Ag hK h,Ag hK h,decide_eq_false hq.1,decide_eq_false hq.2]
 rfl
def zdq(hK:tk.map kt=K)(h:K[n]?=some (4,[40])):kP tk o n=(nI tk o (n+1)).bind fun x n1=>(xE tk [41] n1).bind fun _ n2=>.ok x n2:=by
 unfold kP;rw[MU hK h (by decide) (by decide)]
 show(if acc tk [40] n=true then _ else _)=_
 rw[Nz hK h (.inr rfl),yab rfl]
def zdp(hK:tk.map kt=K)(h:K[n]?=some (1,mM)):kP tk o n=Cb tk (nI tk o) ⟨mM,26,false,1,1⟩ (n+1):=by
 unfold kP;rw[MU hK h (by decide) (by decide)]
 show(if acc tk [40] n=true then _ else _)=_
 have hn:mL tk n=false:=by
  unfold mL;rw[Kr hK h,show Ia mM=false by kernel_rfl,yay]
 rw[aN hK h (by decide),aN hK h (by decide),aN hK h (by decide),aN hK h (by decide),hn]
 have hf:(oQ.find? fun f=>acc tk f.word n)=some ⟨mM,26,false,1,1⟩:=by
  rw[show(fun f:CF=>acc tk f.word n)=fun f=>sG mM f.word from funext fun f=>by rw[Tu hK h];rfl]
  rfl
 show yU tk (nI tk o) n=_
 unfold yU;rw[hf];rfl
def in_one(hK:tk.map kt=K)(h:K[n]?=some (2,[49]))(h2:K[n+1]?=some (5,[])):kP tk o n=.ok (Iz ⟨2,tJ [49] false,0⟩) (n+1):=by
 have hq:pK tk false n=.ok ⟨2,tJ [49] false,0⟩ (n+1):=by
  unfold pK tG;rw[Ag hK h,Kr hK h];show(if (acc tk qU (n+1)||acc tk yY (n+1))=true then _ else _)=_
  rw[aN hK h2 (by decide),aN hK h2 (by decide)]
  rfl
 have hc:sX tk n=.ok (some ⟨2,tJ [49] false,0⟩) (n+1):=by
  unfold sX;rw[aN hK h (by decide),aN hK h (by decide),aN hK h (by decide),aN hK h (by decide),Ag hK h,Ag hK h,hq]
  rfl
 unfold kP;rw[hc];rfl
def Au(hK:tk.map kt=K)(h:K[n]?=some (q,v))(hq:q=1\/q=4):xE tk v n=.ok () (n+1):=by
 unfold xE;rw[Nz hK h hq,yab rfl]
def Pi(hK:tk.map kt=K)(h:K[n]?=some (q,v)):tG tk q n=.ok v (n+1):=by
 unfold tG;rw[Ag hK h,decide_eq_true rfl,yab rfl,Kr hK h]
def GR(hK:tk.map kt=K)(h:K[n]?=some (5,v))(hl:K.length=n+1):sY tk n=.ok () (n+1):=by
 unfold sY;rw[Pi hK h];show(if n+1<tk.length then _ else _)=_
 rw[Yp hK,hl,yaa (by omega)]
def Yd(hK:tk.map kt=K)(h:K[n]?=some (1,v))(hv:Ia v=true):vJ tk n=.ok v (n+1):=by
 unfold vJ mL;rw[Ag hK h,Kr hK h,hv];rfl
def ML(hK:tk.map kt=K)(h:K[n]?=some (3,v)):rN tk n=.ok ((tX v).getD 0:Nat) (n+1):=by
 unfold rN;rw[Pi hK h];rfl
end
variable {m T:List cB}{u:List kG}{x:aA}
def Co{A B:List kG}{i:Nat}:(A++(u++B))[A.length+u.length+i]?=B[i]?:=by
 rw[show A.length+u.length+i=A.length+(u.length+i) by omega,ybp (by omega),Nat.add_sub_cancel_left,ybp (by omega),Nat.add_sub_cancel_left]
def UD(h:Ex m u x)(hT:T.map kt=[(4,[40])]++(u++(4,[41])::[(5,[])])):(∃n,jF T=.ok x n)\/∃i,jF T=.er 122 i:=by
 have h0:([(4,[40])]++(u++(4,[41])::[(5,[])]):List kG)[0]?=some (4,[40]):=rfl
 have h1:([(4,[40])]++(u++(4,[41])::[(5,[])]):List kG)[1+u.length]?=some (4,[41]):=Co (A:=[(4,[40])]) (i:=0)
 have h2:([(4,[40])]++(u++(4,[41])::[(5,[])]):List kG)[1+u.length+1]?=some (5,[]):=Co (A:=[(4,[40])]) (i:=1)
 have hn:=aN (w:=vT) hT h0 (by decide)
 have hin:nH T 101 0=(nI T (nH T 100) 1).bind fun x n1=>(xE T [41] n1).bind fun _ n2=>.ok x n2:=zdq hT h0
 rcases h.deep hT (.inr (.inl ⟨rfl,rfl⟩))with e | ⟨i,e⟩
 ·have e:nI T (nH T 100) 1=.ok x (1+u.length):=e
  have hop:nH T 101 0=.ok x (1+u.length+1):=by
   rw[hin,e];show(xE T [41] (1+u.length)).bind _=_
   rw[Au hT h1 (.inr rfl)];rfl
  have ht:tN T 0=.ok x (1+u.length+1):=zkd hn hop (FS hT h2 (by decide))
  refine .inl ⟨1+u.length+1+1,?_⟩
  unfold jF;rw[ht];show(sY T (1+u.length+1)).bind _=_
  rw[GR hT h2 (by simp;omega)];rfl
 ·have e:nI T (nH T 100) 1=.er 122 i:=e
  have ht:tN T 0=.er 122 i:=LU hn (by rw[hin,e];rfl)
  exact .inr ⟨i,by unfold jF;rw[ht];rfl⟩
abbrev Kx(x:aA):aA:=oX 7 (.mk 26 [] ⟨0,wH,(0:Nat)⟩ [x]) (Iz ⟨2,tJ [49] false,0⟩)
def RI(h:Ex m u x)(hT:T.map kt=[(1,mM),(4,[40])]++(u++(4,[41])::[(4,[43]),(2,[49]),(5,[])])):(∃n,jF T=.ok (Kx x) n)\/∃i,jF T=.er 122 i:=by
 have h0:([(1,mM),(4,[40])]++(u++(4,[41])::[(4,[43]),(2,[49]),(5,[])]):List kG)[0]?=some (1,mM):=rfl
 have h1:([(1,mM),(4,[40])]++(u++(4,[41])::[(4,[43]),(2,[49]),(5,[])]):List kG)[1]?=some (4,[40]):=rfl
 have k0:([(1,mM),(4,[40])]++(u++(4,[41])::[(4,[43]),(2,[49]),(5,[])]):List kG)[2+u.length]?=some (4,[41]):=Co (A:=[(1,mM),(4,[40])]) (i:=0)
 have k1:([(1,mM),(4,[40])]++(u++(4,[41])::[(4,[43]),(2,[49]),(5,[])]):List kG)[2+u.length+1]?=some (4,[43]):=Co (A:=[(1,mM),(4,[40])]) (i:=1)
 have k2:([(1,mM),(4,[40])]++(u++(4,[41])::[(4,[43]),(2,[49]),(5,[])]):List kG)[2+u.length+1+1]?=some (2,[49]):=Co (A:=[(1,mM),(4,[40])]) (i:=2)
 have k3:([(1,mM),(4,[40])]++(u++(4,[41])::[(4,[43]),(2,[49]),(5,[])]):List kG)[2+u.length+1+1+1]?=some (5,[]):=Co (A:=[(1,mM),(4,[40])]) (i:=3)
 have hn:=aN (w:=vT) hT h0 (by decide)
 have hlen:T.length=2+u.length+1+1+1+1:=by rw[Yp hT];simp;omega
 have hin:nH T 101 0=Cb T (nI T (nH T 100)) ⟨mM,26,false,1,1⟩ 1:=zdp hT h0
 have hrest:Cb T (nI T (nH T 100)) ⟨mM,26,false,1,1⟩ 1=(nI T (nH T 100) 2).bind fun x n3=>(xE T [41] n3).bind fun _ n7=>.ok (.mk 26 [] ⟨0,wH,(0:Nat)⟩ [x]) n7:=by
  unfold Cb;rw[Au hT h1 (.inr rfl)]
  show(nI T (nH T 100) 2).bind _=_
  cases nI T (nH T 100) 2<;>rfl
 rcases h.deep hT (.inr (.inl ⟨rfl,rfl⟩))with e | ⟨i,e⟩
 ·have e:nI T (nH T 100) 2=.ok x (2+u.length):=e
  have hop:nH T 101 0=.ok (.mk 26 [] ⟨0,wH,(0:Nat)⟩ [x]) (2+u.length+1):=by
   rw[hin,hrest,e];show(xE T [41] (2+u.length)).bind _=_
   rw[Au hT k0 (.inr rfl)];rfl
  have q1:∀w∈[[42],[47]],acc T w (2+u.length+1)=false:=fun w hw=>aN hT k1 (fun e=>by subst e;revert hw;decide)
  have hp1:vW T (nH T 101) 0=.ok (.mk 26 [] ⟨0,wH,(0:Nat)⟩ [x]) (2+u.length+1):=Nr hop (by
   unfold wI;rw[List.find?_eq_none.2 fun p hp=>by
    have:acc T p.1 (2+u.length+1)=false:=q1 _ (by revert p;decide)
    rw[this];simp]
   rfl)
  have hq3:=FS hT k3 (by decide)
  have hp2:vW T (nH T 101) (2+u.length+1+1)=.ok (Iz ⟨2,tJ [49] false,0⟩) (2+u.length+1+1+1):=FW (in_one hT k2 k3) hq3
  have hs:nT T (nH T 101) 0=.ok (Kx x) (2+u.length+1+1+1):=by
   unfold nT iP;rw[hp1];show rM T (vW T (nH T 101)) [([43],7),([45],8)] T.length _ (2+u.length+1)=_
   have ho:wI T [([43],7),([45],8)] (2+u.length+1)=some 7:=by
    unfold wI;rw[List.find?_cons_of_pos (by exact Nz hT k1 (.inr rfl))]
    rfl
   rw[hlen,rM,ho];show((vW T (nH T 101) (2+u.length+1+1)).bind _)=_
   rw[hp2];show rM T (vW T (nH T 101)) [([43],7),([45],8)] (2+u.length+1+1+1) (Kx x) (2+u.length+1+1+1)=_
   rw[rM,Ho hq3 (by decide)]
  have ht:tN T 0=.ok (Kx x) (2+u.length+1+1+1):=FD hn hs hq3
  refine .inl ⟨2+u.length+1+1+1+1,?_⟩
  unfold jF;rw[ht];show(sY T (2+u.length+1+1+1)).bind _=_
  rw[GR hT k3 (by simp;omega)];rfl
 ·have e:nI T (nH T 100) 2=.er 122 i:=e
  have ht:tN T 0=.er 122 i:=LU hn (by rw[hin,hrest,e];rfl)
  exact .inr ⟨i,by unfold jF;rw[ht];rfl⟩
def xQ:List kG:=[(1,wPlan),(1,[112]),(5,[]),(1,Oy),(1,[97]),(1,[98]),(1,zhm),(3,[49,57,48,48,45,48,49,45,48,49]),(1,wTo),(1,wEnd),(1,Gt),(3,[49,57,48,48,45,48,49,45,48,49]),(1,zhk)]
def YL(h:Ex m u x)(hT:T.map kt=xQ++(u++(1,iK)::(u++[(5,[])]))):∃n c,gK T=.ok ⟨[112],[],[],[c]⟩ n/\c.when_=x/\c.then_=x:=by
 have hT2:T.map kt=(xQ++u++[(1,iK)])++(u++(5,[])::[]):=by rw[hT];simp
 have hK:∀i,i<13->(xQ++(u++(1,iK)::(u++[(5,[])])))[i]?=xQ[i]?:=fun i hi=>yco hi
 generalize hKK:xQ++(u++(1,iK)::(u++[(5,[])]))=K at hT hK
 have g:∀i (p:kG),i<13->xQ[i]?=some p->K[i]?=some p:=fun i p hi hp=>(hK i hi).trans hp
 have e1:tN T 13=.ok x (13+u.length):=h.same (A:=xQ) (hT.trans hKK.symm) (.inr (.inr ⟨rfl,rfl⟩))
 have e2:tN T (13+u.length+1)=.ok x (13+u.length+1+u.length):=by
  have:=h.same hT2 (.inl ⟨rfl,rfl⟩)
  have hl:(xQ++u++[(1,iK)]).length=13+u.length+1:=by simp[xQ];omega
  rw[hl]at this;exact this
 have k1:K[13+u.length]?=some (1,iK):=by rw[<- hKK];exact Co (A:=xQ) (i:=0)
 have k2:K[13+u.length+1+u.length]?=some (5,[]):=by
  have:=Co (u:=u) (A:=xQ++u++[(1,iK)]) (B:=[(5,[])]) (i:=0)
  have hl:(xQ++u++[(1,iK)]).length=13+u.length+1:=by simp[xQ];omega
  rw[hl]at this;rw[<- hKK];simpa using this
 have hlen:T.length=13+u.length+1+u.length+1:=by rw[Yp hT,<- hKK];simp[xQ];omega
 have hd:tX [49,57,48,48,45,48,49,45,48,49]=some 0:=by decide +kernel
 have hcl:jY T 4=.ok ⟨[97],[98],0,65536,0,false,x,x⟩ (13+u.length+1+u.length):=by
  unfold jY;rw[Yd hT (g 4 _ (by omega) rfl) (by kernel_rfl)]
  show(vJ T 5).bind _=_
  rw[Yd hT (g 5 _ (by omega) rfl) (by kernel_rfl)]
  show(xE T zhm 6).bind _=_
  rw[Au hT (g 6 _ (by omega) rfl) (.inl rfl)]
  show(rN T 7).bind _=_
  rw[ML hT (g 7 _ (by omega) rfl),hd]
  show(xE T wTo 8).bind _=_
  rw[Au hT (g 8 _ (by omega) rfl) (.inl rfl)]
  show((if acc T wEnd 9=true then .ok 65536 (9+1)else rN T 9:PR Int)).bind _=_
  rw[Nz hT (g 9 _ (by omega) rfl) (.inl rfl),yab rfl]
  show(xE T Gt 10).bind _=_
  rw[Au hT (g 10 _ (by omega) rfl) (.inl rfl)]
  show(rN T 11).bind _=_
  rw[ML hT (g 11 _ (by omega) rfl),hd]
  show(if acc T wOff 12=true then _ else _)=_
  rw[aN hT (g 12 _ (by omega) rfl) (by decide),yaa (by simp),Au hT (g 12 _ (by omega) rfl) (.inl rfl)]
  show(tN T 13).bind _=_
  rw[e1];show(xE T iK (13+u.length)).bind _=_
  rw[Au hT k1 (.inl rfl)]
  show(tN T (13+u.length+1)).bind _=_
  rw[e2];rfl
 have hline:Cq T ⟨[112],[],[],[]⟩ 3=.ok ⟨[112],[],[],[⟨[97],[98],0,65536,0,false,x,x⟩]⟩ (13+u.length+1+u.length):=by
  unfold Cq;have a3:=g 3 _ (by omega) rfl
  rw[aN hT a3 (by decide),aN hT a3 (by decide),aN hT a3 (by decide),Nz hT a3 (.inl rfl)]
  show(jY T 4).bind _=_
  rw[hcl];rfl
 refine⟨13+u.length+1+u.length+1,⟨[97],[98],0,65536,0,false,x,x⟩,?_,rfl,rfl⟩
 unfold gK;rw[Au hT (g 0 _ (by omega) rfl) (.inl rfl)]
 show(vJ T 1).bind _=_
 rw[Yd hT (g 1 _ (by omega) rfl) (by kernel_rfl)]
 show(tG T 5 2).bind _=_
 rw[Pi hT (g 2 _ (by omega) rfl)]
 show gU T T.length ⟨[112],[],[],[]⟩ 3=_
 have hl2:gU T (13+u.length+1+u.length+1) ⟨[112],[],[],[]⟩ 3=.ok ⟨[112],[],[],[⟨[97],[98],0,65536,0,false,x,x⟩]⟩ (13+u.length+1+u.length+1):=by
  rw[gU,yab (by omega),hline]
  show(tG T 5 (13+u.length+1+u.length)).bind _=_
  rw[Pi hT k2];show gU T (13+u.length+1+u.length) _ (13+u.length+1+u.length+1)=_
  rw[show 13+u.length+1+u.length=(12+u.length+1+u.length)+1 by omega,gU,yaa (by omega)]
 rw[hlen];exact hl2
end
section
def tokB (k:Nat)(w:List Nat):Bool:=match mE w with | .tok a b=>Nat.beq a k&&sG b w | .bad _=>false
def Uq{k:Nat}{w:List Nat}(h:tokB k w=true):mE w=.tok k w:=by
 unfold tokB at h;split at h
 ·rename_i a b he
  simp only[ybb]at h;rw[he,Nat.eq_of_beq_eq_true h.1,(sN _ _).1 h.2]
 ·cases h
def Na:Bool->List kG->Bool
 | _,[]=>true
 | o,t::l=>if t.1=5 then o&&sG t.2 []&&Na false l else tokB t.1 t.2&&Na true l
def zdw:∀(l:List kG) (o:Bool),Na o l=true->aK o l:=by
 intro l;induction l with
 | nil=>intro o _;trivial
 | cons t l ih=>
  intro o h;rw[Na]at h;rw[aK];split
  ·rename_i h5
   rw[yab h5]at h;simp only[ybb]at h;exact⟨h.1.1,(sN _ _).1 h.1.2,ih _ h.2⟩
  ·rename_i h5
   rw[yaa h5]at h;simp only[ybb]at h;exact⟨Uq h.1,ih _ h.2⟩
def Ym{A u B:List kG}(hA:Na false A=true)(hA2:iL false A=true)(hu:Zn u)(hB:∀t∈B,t.1≠5/\mE t.2=.tok t.1 t.2) :
  bK (pF false A++(32::pF false u++pF true B)) false=some (A++(u++(B++[(5,[])]))):=by
 have gu:=HW true hu.2
 have gB:=HW true hB
 have eu:=gu.2 hu.1
 have eB:iL true B=true:=by
  cases B with
  | nil=>rfl
  | cons t B=>exact gB.2 (by simp)
 have hg:aK false (A++(u++B)):=KX _ _ _ (zdw _ _ hA) (by rw[hA2];exact KX _ _ _ gu.1 (by rw[eu];exact gB.1))
 have he:iL false (A++(u++B))=true:=by rw[ME,ME,hA2,eu,eB]
 have hj:pF false (A++(u++B))=pF false A++(32::pF false u++pF true B):=by rw[Zf,Zf,hA2,eu,JX hu]
 have:=HZ _ _ hg
 rw[hj,he,yab rfl]at this;rw[this];simp
def GF{t:kG}(h5:t.1≠5)(h:tokB t.1 t.2=true):t.1≠5/\mE t.2=.tok t.1 t.2:=⟨h5,Uq h⟩
section
variable {m:List cB}{u:List kG}{x:aA}
def UE(h:Ex m u x):∃T,fU ([40,32]++pF false u++[32,41])=.ok T/\((∃n,jF T=.ok x n)\/∃i,jF T=.er 122 i):=by
 have:=Ym (A:=[(4,[40])]) (B:=[(4,[41])]) (by kernel_rfl) rfl h.line (fun t ht=>by simp at ht;subst ht;exact GF (by decide) (by kernel_rfl))
 obtain⟨T,h1,h2⟩:=Rq this
 refine⟨T,by rw[<- h1];congr 1,UD h (by rw[h2];rfl)⟩
def RJ(h:Ex m u x):∃T,fU ([115,116,97,114,116,32,40,32]++pF false u++[32,41,32,43,32,49])=.ok T/\((∃n,jF T=.ok (Kx x) n)\/∃i,jF T=.er 122 i):=by
 have:=Ym (A:=[(1,mM),(4,[40])]) (B:=[(4,[41]),(4,[43]),(2,[49])]) (by kernel_rfl) rfl h.line (fun t ht=>by
  simp at ht;rcases ht with rfl | rfl | rfl<;>exact GF (by decide) (by kernel_rfl))
 obtain⟨T,h1,h2⟩:=Rq this
 refine⟨T,by rw[<- h1];congr 1,RI h (by rw[h2];rfl)⟩
def zb5:(1,iK).1≠5/\mE iK=.tok 1 iK:=⟨by decide,Uq (by kernel_rfl)⟩
def YM(h:Ex m u x):∃T,fU ([112,108,97,110,32,112,10,99,108,97,117,115,101,32,97,32,98,32,102,114,111,109,32,49,57,48,48,45,48,49,45,48,49,32,116,111,32,101,110,100,32,107,110,111,119,110,32,49,57,48,48,45,48,49,45,48,49,32,119,104,101,110,32]++pF false u++[32,116,104,101,110,32]++pF false u)=.ok T/\∃n c,gK T=.ok ⟨[112],[],[],[c]⟩ n/\c.when_=x/\c.then_=x:=by
 have hB:∀t∈(1,iK)::u,t.1≠5/\mE t.2=.tok t.1 t.2:=fun t ht=>by
  rcases ybs.1 ht with rfl | ht
  ·exact zb5
  ·exact h.line.2 t ht
 have:=Ym (A:=xQ) (B:=(1,iK)::u) (by kernel_rfl) rfl h.line hB
 obtain⟨T,h1,h2⟩:=Rq this
 have e1:pF true ((1,iK)::u)=[32,116,104,101,110,32]++pF false u:=by
  show(32::iK)++pF true u=_
  rw[JX h.line];rfl
 have e2:pF false xQ=[112,108,97,110,32,112,10,99,108,97,117,115,101,32,97,32,98,32,102,114,111,109,32,49,57,48,48,45,48,49,45,48,49,32,116,111,32,101,110,100,32,107,110,111,119,110,32,49,57,48,48,45,48,49,45,48,49,32,119,104,101,110]:=by kernel_rfl
 have e3:∀(P j C:List Nat),P++[32]++j++C++j=P++(32::j++(C++j)):=fun P j C=>by simp
 refine⟨T,by rw[<- h1,e1,e2,<- e3];rfl,YL h (by rw[h2];rfl)⟩
end
end
section
variable {b o:Nat}{K:zA->T}{v:zA}{x:aA}
variable [yD]
section
variable {t:Tr uA}{Q:jB}{s:List Nat}{J:qF}{W:qF}
def Gi{a b:List Nat} (h:a.length+b.length<4000000)(k:qA yA.base W J (K (.str (a++b))) t Q):qA yA.base W J (.opt (wS a b) K) t Q:=mA (Wp (by omega)) k
def zdy{m:List cB} {n:Nat} (hv:xB t 4 (m.map cB.d) v)(hn:n<=m.length)(k:∀v',xB t 4 ((m.take n).map cB.d) v'->qA yA.base W J (K v') t Q) :
  qA yA.base W J (.light (fun m=>bF yA 66 ⟨0,m⟩ v none (some (.int .i64 (n:Int)))) K) t Q:=by
 obtain⟨v',h1,h2⟩:=sl66.front hv (k:=n) (by rw[ybf];exact hn)
 refine vC h1 (k v' ?_)
 rw[List.map_take];exact h2
def za6{c:dG} (h:xB t 24 ([c].map dG.d) v):∃b o cx cy,mC yA 25 v (.int .i64 ((0:Nat):Int))=some (.ptr b o)/\fA yA 50 ⟨0,t⟩ (.ptr b (o+6))=some (.agg cx)/\fA yA 50 ⟨0,t⟩ (.ptr b (o+15))=some (.agg cy)/\RD t c.when_.d cx/\RD t c.then_.d cy:=by
 obtain⟨b,o,cs,h1,_,h3,h4,h5⟩:=sl25.at (fun e=>by cases e) h (i:=0) (d:=c.d) rfl
 obtain⟨a1,a2,a3,b1,b2,b3,rfl,k1,k2⟩:=FI h5
 refine⟨b,o,_,_,h1,?_,?_,k1,k2⟩
 ·exact h3.load (j:=6) (n:=9) Bq rfl rfl (by simp[Df])
 ·exact h3.load (j:=15) (n:=9) Bq rfl rfl (by simp[Df])
def g6  : jC yA 72 6 (.ptr b o)=some (.ptr b (o+6)):=by kernel_rfl
def g7  : jC yA 72 7 (.ptr b o)=some (.ptr b (o+15)):=by kernel_rfl
def Eg {cs:List zA}(h:RD t x.d cs):zS (cellsOf cs)=.agg cs:=congrArg zA.agg (Gb h)
end
def MK{T:List cB}{s:List Nat} (hl:xK s=.ok T)(h:(∃n,jF T=.ok x n)\/∃i,jF T=.er 122 i):(mG jF s).err=0/\(mG jF s).val Bl=x\/(mG jF s).err=122:=by
 rw[He hl];rcases h with⟨n,h⟩ | ⟨i,h⟩<;>rw[h]
 ·exact .inl ⟨rfl,rfl⟩
 ·exact .inr rfl
def UC{t:Tr uA}{s:List Nat}(hg:aJ t)(hby:∀b∈s,b<256):Wc yA F 7 [.str s] t (fun v _=>v=.bool true):=by
 refine w7 ?_
 unfold t7;refine zep ?_
 by_cases hs:1000<s.length
 ·exact rA (ll_le.2 hs) rfl
 refine oB (fun h=>hs (ll_le.1 h)) (AE (K:=fun X4 X n8=>.call 22 _ _) hg hby fun t1 c1 h1 r1=>?_)
 have hg1:=hg.mono h1
 refine zjf (K:=fun a X n=>.ite (!wC _ 0) _ _) hg1 hby (fun m hm t2 v h2 hv=>?_) (fun e a b hl t2 h2=>?_)
 ·cases hr:mG jF s with
  | er e a b=>
   have he:e≠0:=by
    rw[He hm]at hr
    cases ht:jF m with
    | ok x n=>rw[ht]at hr;cases hr
    | er e' i=>
     rw[ht]at hr;injection hr with hr _ _
     subst hr;obtain⟨_,_,hg3⟩:=Ro hm
     unfold jF at ht
     cases h4:tN m 0 with
     | er e2 i2=>
      rw[h4]at ht;cases ht;have:=(err_of hg3 (fun hv=>So hv) h4).2.2
      omega
     | ok y n=>
      rw[h4]at ht;change (sY m n).bind _=_ at ht
      unfold sY at ht
      cases h5:tG m 5 n with
      | er e2 i2=>
       rw[h5]at ht;cases ht;unfold tG at h5;split at h5<;>cases h5
       decide
      | ok w n2=>
       rw[h5]at ht;change (if n2<m.length then PR.er 120 n2 else PR.ok () n2:PR Unit).bind _=_ at ht
       split at ht<;>cases ht
       decide
   have hne:(!wC ((RP.err (RP.er e a b:RP aA):Nat):Int) 0)=true:=sW.2 (by show(e:Int)≠0;omega)
   exact rA hne (by show zA.bool _=_;rw[hne])
  | ok x=>
   rw[hr]at r1;have r1:RD t1 x.d c1:=r1
   obtain⟨g1,g2,g3,g4,g5,_⟩:=joined (by omega) hby hm
   obtain⟨_,hlen,hgood⟩:=Ro hm
   rw[He hm]at hr
   cases ht:jF m with
   | er e i=>rw[ht]at hr;cases hr
   | ok y n=>
   rw[ht]at hr
   cases hr;obtain⟨u,hu⟩:=ex_of hgood g3 ht
   have hml:m.length=u.length+1:=by rw[<- ybf (f:=kt),hu.toks];simp
   have hut:(m.take u.length).map kt=u:=by rw[List.map_take,hu.toks,List.take_append_of_le_length (ybk _),List.take_length]
   have hjt:wK false (m.take u.length)=pF false u:=by rw[Ze,hut]
   have hxc:=zby hgood ht
   have hvl:cC v=some (.int .i64 (m.length:Int)):=by have:=hv.len;rwa [ybf]at this
   have hsh:(pF false u).length<=2000:=by
    have h4:=ID (by rw[<- Ih (by omega)];exact hm:fU s=.ok m)
    have:=(IA _ _ _ h4).2.2.1
    rw[hu.toks,Zf,ybg]at this;simp at this;omega
   have hub:∀b∈pF false u,b<256:=by
    rw[<- hjt];exact Zd fun z hz=>g2 z (List.mem_of_mem_take hz)
   refine oB (show ¬ (!wC 0 0)=true by decide) (oB (by decide) (mA hvl (kB (oB (fun e=>by have:=kL.1 e;omega) (mA hvl (kB ?_))))))
   have ew:bA .i64 ((m.length:Int)-1)=(u.length:Int):=by rw[aC (by omega) (by omega)];omega
   show qA _ _ _ (.light (fun m'=>bF yA 66 ⟨0,m'⟩ v none (some (.int .i64 (bA .i64 ((m.length:Int)-1))))) _) _ _
   rw[ew];refine zdy (m:=m) hv (by omega) fun v' hv'=>tB ?_
   rw[q23];refine join23 hv' (fun z hz h5=>⟨?_,g2 z (List.mem_of_mem_take hz)⟩) (by rw[hjt];omega) (by rw[yda];omega) fun t3 h3=>vF ?_
   ·have:=(Bt (Se g3 (kt z) (List.mem_map_of_mem (List.mem_of_mem_take hz)) h5)).1
    intro e;have e:(kt z).2=[]:=e
    rw[e]at this;cases this
   rw[hjt];have hg3:=(hg1.mono h2).mono h3
   obtain⟨TA,lA,pA⟩:=UE hu
   obtain⟨TB,lB,pB⟩:=RJ hu
   obtain⟨TC,lC,n',cl,pC,pw,pt⟩:=YM hu
   have lit:∀(l:List Nat),(∀b∈l,b<256)->∀b∈l++pF false u,b<256:=fun l hl b hb=>by
    rcases yaf.1 hb with hb | hb
    ·exact hl b hb
    ·exact hub b hb
   have lit2:∀(l r:List Nat),(∀b∈l,b<256)->(∀b∈r,b<256)->∀b∈l++pF false u++r,b<256:=fun l r hl hr b hb=>by
    rcases yaf.1 hb with hb | hb
    ·exact lit l hl b hb
    ·exact hr b hb
   refine Gi (by simp;omega) (vF (Gi (by simp;omega) (vF ?_)))
   refine AE (K:=fun X28 X n32=>.opt _ _) hg3 (lit2 _ _ (by decide) (by decide)) fun t4 c4 h4 r4=>?_
   refine Gi (by simp;omega) (vF (Gi (by simp;omega) (vF ?_)))
   refine AE (K:=fun X39 X n43=>.opt _ _) (hg3.mono h4) (lit2 _ _ (by decide) (by decide)) fun t5 c5 h5 r5=>?_
   refine Gi (by simp;omega) (vF (Gi (by simp;omega) (vF (Gi (by simp;omega) (vF ?_)))))
   refine zis (K:=fun X52 X n=>.ite (!wC n 0) _ _) ((hg3.mono h4).mono h5) (fun b hb=>?_) fun t6 c6 h6 r6=>?_
   ·rcases yaf.1 hb with hb | hb
    ·exact lit2 _ _ (by decide) (by decide) b hb
    ·exact hub b hb
   have dA:=MK (s:=[40,32]++pF false u++[32,41]) (by rw[Ih (by simp;omega)];exact lA) pA
   have dB:=MK (s:=[115,116,97,114,116,32,40,32]++pF false u++[32,41,32,43,32,49]) (by rw[Ih (by simp;omega)];exact lB) pB
   have hC:mG gK ([112,108,97,110,32,112,10,99,108,97,117,115,101,32,97,32,98,32,102,114,111,109,32,49,57,48,48,45,48,49,45,48,49,32,116,111,32,101,110,100,32,107,110,111,119,110,32,49,57,48,48,45,48,49,45,48,49,32,119,104,101,110,32]++pF false u++[32,116,104,101,110,32]++pF false u)=.ok ⟨[112],[],[],[cl]⟩:=by
    rw[He (by rw[Ih (by simp;omega)];exact lC),pC]
   rw[hC]at r6 ⊢
   have r6:RD t6 (fH.d ⟨[112],[],[],[cl]⟩) c6:=r6
   obtain⟨q1,q2,q3,rfl,_,_,hcl⟩:=Hm r6
   have hcll:cC q3=some (.int .i64 1):=hcl.len
   obtain⟨b,o,cx,cy,i1,i2,i3,i4,i5⟩:=za6 hcl
   rw[pw]at i4;rw[pt]at i5;have rx:=r1.mono (((h2.trans h3).trans h4).trans (h5.trans h6))
   rw[Eg r1];refine oB (show ¬ (!wC 0 0)=true by decide) (mA hcll (kB (oB (by decide) (mA i1 (mA g6 (vC i2 (dC (oN i4) ?_)))))))
   rw[Eg i4];refine Qc hxc i4 rx (vE (oB (by decide) (mA i1 (mA g7 (vC i3 (dC (oN i5) ?_))))))
   rw[Eg i5];refine Qc hxc i5 rx (vE (oB (by decide) ?_))
   have q12:∀ {t:Tr uA} (n43:Nat),(n43=0\/n43=122)->qA yA.base (Wq yA F rC) (Jq yA F 7) (uQ12 (n43:Int)) t (fun v _=>v=.bool true):=by
    rintro t n43 (rfl | rfl)
    ·exact rA rfl rfl
    ·exact oB (by decide) rfl
   have dB':(mG jF ([115,116,97,114,116,32,40,32]++pF false u++[32,41,32,43,32,49])).err=0\/(mG jF ([115,116,97,114,116,32,40,32]++pF false u++[32,41,32,43,32,49])).err=122:=dB.imp (fun h=>h.1) id
   rcases dA with⟨eA,vA⟩ | eA
   ·rw[eA]
    refine oB (by decide) ?_
    rcases dB with⟨eB,vB⟩ | eB
    ·rw[eB]
     rw[vA]at r4;rw[vB]at r5;rw[Eg r4,Eg r5];have r4:=r4.mono (h5.trans h6)
     have r5:=r5.mono h6
     refine oB (by decide) (Qc hxc rx r4 (vE (rA rfl (tB ?_))))
     rw[q17];show qE (iC yA F 17 [.agg c5,.int .u8 ((7:Nat):Int),.int .i64 ((2:Nat):Int)] t6) _
     rw[MD 2 7 r5 rfl rfl,iA];obtain⟨z1,z2,z3,ec5,_,_,hz⟩:=wJ r5
     have hv8:(cellsOf c5).v 8=z3:=by rw[ec5];rfl
     obtain⟨b1,o1,d1,j1,j2,j3,j4,w,j5,j6⟩:=zg4 hz (i:=0) rfl
     refine vE (rA rfl (mA (by rw[hv8];exact j1) (vC j2 (dC (oN j3) (tB ?_)))))
     rw[q17,Eg j3];show qE (iC yA F 17 [.agg d1,.int .u8 ((26:Nat):Int),.int .i64 ((1:Nat):Int)] t6) _
     rw[MD 1 26 j3 rfl rfl,iA];obtain⟨b2,o2,d2,y1,y2,y3,_⟩:=zg4 j6 (i:=0) rfl
     refine vE (rA rfl (mA (by rw[hv8];exact j1) (mA fa3 (vC j5 (mA y1 (vC y2 (dC (oN y3) ?_)))))))
     rw[Eg y3];exact Qc hxc y3 rx (vE rfl)
    ·rw[eB]
     exact rA (by decide) (rA (by decide) (q12 122 (.inr rfl)))
   ·rw[eA]
    refine rA (by decide) (oB (by decide) (rA (by decide) ?_))
    rcases dB' with e | e<;>rw[e]
    ·exact q12 0 (.inl rfl)
    ·exact q12 122 (.inr rfl)
 ·have he:=Yn hl
  have hr:=Wu (top:=jF) hl
  rw[hr];have hne:(!wC ((RP.err (RP.er e a b:RP aA):Nat):Int) 0)=true:=sW.2 (by show(e:Int)≠0;omega)
  exact rA hne (by show zA.bool _=_;rw[hne])
end
end Go.Proofs
namespace Go.Am
open Go Go.RowKit Go.Proofs
def parens7{w:World}(hL:nN w){a:ByteArray}:Calls Tryz.prog 7 #[.string a] w fun e w'=>e=.returned (.bool true)/\Below w.heap.size w w':=
 QE hL 7 [.str (eF a)] _ (by intro _;kernel_rfl) (.single (by rw[tA];exact⟨_,rfl,rfl⟩)) ⟨_,UC (zj5 hL) (zem a),fun v t h=>h⟩
end Go.Am
