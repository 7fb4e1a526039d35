/- lex.Join. -/
import Derived.Test.YtfmlbimokklmgaaGreatDoorC19
set_option linter.all false
noncomputable section
set_option maxRecDepth 100000
namespace Go.Proofs
open Go Go.Am
variable {ts:List (List Nat)}{v:zA}
variable [fC]
section
variable {t tf:Tr vA}{bx:Nat}{s:List Nat}{Q:qB}
def zg7  (hts:∀m∈ts,m≠[]/\jB 256 m)(h:BX 110 [] tf t bx s)(hv:aA tf 1 (ts.map D.str) v)(hl:s.length+ts.flatten.length<400000)(hn:ts.length<1000)(hQ:∀t',BX 110 [] tf t' bx (s++ts.flatten)->Q (.tup []) t'):Wc yA F 50 [v,.ptr bx 0] t Q:=by
 have loop:∀(k i:Nat) (s':List Nat) (t:Tr vA),i+k=ts.length->BX 110 [] tf t bx s'->s'++(ts.drop i).flatten=s++ts.flatten->jp 50 2 [.ptr bx 0,v,.int .i64 (ts.length:Int),.int .i64 (i:Int)] t Q:=by
  intro k;induction k with
  | zero=>
   intro i s' t hi h he;refine j50_2 ?_
   unfold zh7;have:ts.drop i=[]:=ybt (by omega)
   rw[this]at he;simp only[List.flatten_nil,ycd]at he;rw[he]at h;exact sB (by rw[lC];simp;omega) (hQ t h)
  | succ k ih=>
   intro i s' t hi h he;refine j50_2 ?_
   unfold zh7;have hlt:i<ts.length:=by omega
   have hd:(ts.map D.str)[i]?=some (D.str ts[i]):=by rw[ybu,ybd hlt];rfl
   obtain⟨b,o,cs,h1,h2,_,_,h3⟩:=sl93.at (fun _=>rfl) (hv.mono h.le) hd
   have e:cs=[.str ts[i]]:=cK.1 h3
   subst e;obtain⟨a1,a2⟩:=hts ts[i] (ycj hlt)
   have ed:ts.drop i=ts[i]::ts.drop (i+1):=ybl hlt
   rw[ed,yas,<- ybz]at he;have hle:s'.length+ts[i].length<=(s++ts.flatten).length:=by rw[<- he];simp
   refine sA (by rw[lC];simp;omega) (qA h1 (vC h2 (iF (yB ?_))))
   rw[q51];refine h.write a1 a2 (by rw[ybg]at hle;omega) fun v t' h'=>jC ?_
   have ew:iA .i64 ((i:Int)+1)=((i+1:Nat):Int):=by rw[gC (by omega) (by omega)];rfl
   show jp 50 2 [_,_,_,.int .i64 (iA .i64 ((i:Int)+1))] t' Q
   rw[ew];exact ih (i+1) _ t' (by omega) h' he
 refine w50 ?_
 unfold t50;refine qA (hv.mono h.le).len (tB (jC ?_))
 rw[ybf];exact loop ts.length 0 s t (by omega) h (by simp)
def VF{W J:wF}{p:Nat} {ps:List (Nat × zA)}{K:zA->T}(hW:∀a m R,W 50 a m R=Wc yA F 50 a m R)(hp:ps=(List.range ts.length).zip (ts.map zA.str))(hts:∀m∈ts,m≠[]/\jB 256 m)(h2:ts.length=1\/ts.length=2)(h:BX 110 [] tf t bx s)(hl:s.length+ts.flatten.length<400000)(hQ:∀t',BX 110 [] tf t' bx (s++ts.flatten)->rA yA.base W J (K (.tup [])) t' Q) :
  rA yA.base W J (.heavy (eC yA 93 ts.length ps) fun a=>.callv (.func (.func 50) [] [.ptr bx 0]) [a] K) t Q:=by
 refine iC fun b hb hbase=>?_
 have key:∃t',eC yA 93 ts.length ps ⟨b,t⟩=some (.slice b 0 ts.length ts.length,⟨b+1,t'⟩)/\qN t' 1 (.slice b 0 ts.length ts.length) (ts.map fun m=>[zA.str m])/\bA t t'/\yG b t t':=by
  refine Fc (n:=ts.length) ty93 rfl fN rfl rfl (by show ts.length*1<1000000;omega) ?_ (fun i cs hi=>?_) (by simp) hb
  ·rcases h2 with h2 | h2
   ·obtain⟨m,rfl⟩:∃m,ts=[m]:=by match ts,h2 with | [m],_=>exact⟨m,rfl⟩
    subst hp;exact Fo (sz:=1) (z:=[.str []]) (v:=.str m) rfl rfl
   ·obtain⟨m,m',rfl⟩:∃m m',ts=[m,m']:=by match ts,h2 with | [m,m'],_=>exact⟨m,m',rfl⟩
    subst hp;rfl
  ·rw[ybu]at hi
   cases hq:ts[i]? with
   | none=>rw[hq]at hi;cases hi
   | some m=>rw[hq]at hi;cases hi;rfl
 obtain⟨t',k1,k2,k3,k4⟩:=key
 refine⟨_,_,k1,wU (g:=50) (a:=[.slice b 0 ts.length ts.length,.ptr bx 0]) rfl ?_⟩
 rw[hW];have hbn:=h.junk hb k4
 obtain⟨y,hy⟩:∃y,t'.get b=some y:=by
  rcases k2 with⟨e,_⟩ | ⟨b',o,cap,e,_,⟨c,n,lo,hg,_⟩,_⟩
  ·cases e
  ·injection e with e1 _ _ _;subst e1;exact⟨_,hg⟩
 have hfn:tf.get b=none:=by
  cases hq:tf.get b with
  | none=>rfl
  | some u=>rw[h.le _ _ hq]at hb;cases hb
 have hbx:BX 110 [] (tf.set b y) t' bx s:=by
  have h5:=h.both hb y
  refine h5.keep (fun c u hc=>?_) fun c hc=>?_
  ·rw[Tr.get_set]at hc
   split at hc
   ·rename_i e;cases hc;rw[e];exact hy
   ·exact k3 _ _ (h.le _ _ hc)
  ·rw[Tr.get_set]
   split
   ·rename_i e;rw[e];exact hy
   ·rename_i e;exact k4 c e
 have hel:aA (tf.set b y) 1 (ts.map D.str) (.slice b 0 ts.length ts.length):=by
  refine⟨ts.map fun m=>[zA.str m],?_,?_⟩
  ·rcases k2 with⟨e,_⟩ | ⟨b',o,cap,e,e2,⟨c,n,lo,hg,e3⟩,e4⟩
   ·cases e
   ·simp only[ybf]at e e2
    injection e with e5 e6 _ e7
    subst e5 e6 e7
    refine .inr ⟨b,0,ts.length,by simp,by simp,⟨c,n,lo,?_,e3⟩,fun i cs hi=>⟨(e4 i cs hi).1,?_⟩⟩
    ·rw[Tr.get_set,yab rfl,<- hy,hg]
    ·obtain⟨c1,n1,lo1,f1,f2⟩:=(e4 i cs hi).2
     exact⟨c1,n1,lo1,by rw[Tr.get_set,yab rfl,<- hy,f1],f2⟩
  ·clear k1 hp hl hQ h2 hts k2
   induction ts with
   | nil=>exact sF.2 rfl
   | cons m ts ih=>exact aC.2 ⟨_,_,rfl,cK.2 rfl,ih⟩
 exact zg7 hts hbx hel hl (by omega) fun t2 h2=>hQ t2 (h2.less (cN hfn y).1)
def join23{l:List wC} (hv:aA t 4 (l.map wC.d) v)(hg:∀x∈l,x.kind≠5->x.text≠[]/\jB 256 x.text)(hl:(qK false l).length<399999)(hn:l.length<300000)(hQ:∀t',bA t t'->Q (.str (qK false l)) t'):Wc yA F 23 [v] t Q:=by
 refine w23 ?_
 unfold t23;refine iC fun bx hb hbase=>?_
 have hal:∃t',Dy yA 110 ⟨bx,t⟩=some (.ptr bx 0,⟨bx+1,t'⟩)/\cC t' bx (some (.ty 110)) [.nilptr,.nilslice]/\bA t t'/\yG bx t t':=by
  obtain⟨t',a1,a2,a3,a4⟩:=Qs (t:=t) hb [.nilptr,.nilslice] (some (.ty 110))
  refine⟨t',?_,a2,a3,a4⟩
  unfold Dy;rw[ty110,oA];have e:jK yA 110=some (.ty 110):=by kernel_rfl
  rw[e];show some (zA.ptr bx 0,fF ⟨bx,t⟩ [.nilptr,.nilslice] (some (.ty 110)))=_
  rw[a1]
 obtain⟨t1,h1,h2,h3,h4⟩:=hal
 have hlen:oC v=some (.int .i64 (l.length:Int)):=by have:=(hv.mono h3).len;rwa [ybf]at this
 refine⟨_,_,h1,qA hlen (tB (jC ?_))⟩
 have hbx:BX 110 [] t t1 bx []:=⟨hbase,hb,h3,(fun x hx=>by cases hx),by kernel_rfl,.nilptr,.nilslice,.inl rfl,h2,.inl ⟨rfl,rfl⟩,⟨JT,fun _=>rfl⟩⟩
 have loop:∀(k i:Nat) (t':Tr vA),i+k=l.length->BX 110 [] t t' bx (qK false (l.take i))->jp 23 2 [v,.ptr bx 0,.func (.func 50) [] [.ptr bx 0],v,.int .i64 (l.length:Int),.int .i64 (i:Int)] t' Q:=by
  intro k;induction k with
  | zero=>
   intro i t' hi h;refine j23_2 ?_
   unfold zia;rw[yca (by omega)]at h
   refine sB (by rw[lC];simp;omega) (yB ?_)
   rw[q52];exact h.string (by omega) fun t2 k1=>iF (hQ t2 k1)
  | succ k ih=>
   intro i t' hi h;refine j23_2 ?_
   unfold zia;have hlt:i<l.length:=by omega
   have hx:l[i]?=some l[i]:=ybd hlt
   have hd:(l.map wC.d)[i]?=some l[i].d:=by rw[ybu,hx];rfl
   obtain⟨b,o,cs,g1,g2,_,_,g3⟩:=sl66.at (fun h=>by cases h) (hv.mono h.le) hd
   have e:=Wv g3
   subst e;have ew:iA .i64 ((i:Int)+1)=((i+1:Nat):Int):=by rw[gC (by omega) (by omega)];rfl
   have etake:l.take (i+1)=l.take i++[l[i]]:=by rw[List.take_succ,hx];rfl
   have hjl:∀j,(qK false (l.take j)).length<=(qK false l).length:=by
    intro j;have hs:∀(m:List wC) (o:Bool) (m':List wC),(qK o m).length<=(qK o (m++m')).length:=by
     intro m;induction m with
     | nil=>intro o m';simp[qK]
     | cons x m ih=>
      intro o m';simp only[qK,List.cons_append];split
      ·have:=ih false m';simp;exact this
      ·have:=ih true m';simp;exact this
    have:=hs (l.take j) false (l.drop j)
    rwa [List.take_append_drop]at this
   have hj1:=hjl (i+1)
   rw[etake,JI]at hj1;have next:∀(ts:List (List Nat)) (t2:Tr vA),ts.flatten=(if l[i].kind=5 then [10]else(if (if l.take i=[]then false else lP (l.take i) (l.take i).length)=true then 32::l[i].text else l[i].text))->BX 110 [] t t2 bx (qK false (l.take i)++ts.flatten) →
     jp 23 2 [v,.ptr bx 0,.func (.func 50) [] [.ptr bx 0],v,.int .i64 (l.length:Int),.int .i64 (iA .i64 ((i:Int)+1))] t2 Q:=by
    intro ts t2 hts h2;rw[ew];refine ih (i+1) t2 (by omega) ?_
    rw[etake,JI,<- hts];exact h2
   have hop:(if l.take i=[]then false else lP (l.take i) (l.take i).length)=lP l i:=by
    have htl:(l.take i).length=i:=by rw[yda];omega
    by_cases h0:i=0
    ·subst h0;simp[lP]
    ·rw[yaa (by rw[List.take_eq_nil_iff];rintro(h | h);exact h0 h;subst h;simp at hlt),htl]
     unfold lP wE;rw[List.getElem?_take_of_lt (by omega)]
   rw[hop]at next hj1;have hgi:=hg l[i] (ycj hlt)
   refine sA (by rw[lC];simp;omega) (qA g1 (vC g2 (nC (zQ _) (sA rfl ?_))))
   rw[cT0,cT1];have bnd:∀ts:List (List Nat),ts.flatten=(if l[i].kind=5 then [10]else(if lP l i=true then 32::l[i].text else l[i].text))->(qK false (l.take i)).length+ts.flatten.length<400000:=fun ts hts=>by
    rw[hts];rw[ybg]at hj1;omega
   have write:∀(ts:List (List Nat)) (n:Nat) (ps:List (Nat × zA)),n=ts.length->ps=(List.range ts.length).zip (ts.map zA.str)->(∀m∈ts,m≠[]/\jB 256 m)->(ts.length=1\/ts.length=2)->ts.flatten=(if l[i].kind=5 then [10]else(if lP l i=true then 32::l[i].text else l[i].text)) →
     rA yA.base (Wq yA F mB) (Jq yA F 23) (.heavy (eC yA 93 n ps) fun a=>.callv (.func (.func 50) [] [.ptr bx 0]) [a] fun _=>.jump 2 [v,.ptr bx 0,.func (.func 50) [] [.ptr bx 0],v,.int .i64 (l.length:Int),.int .i64 (iA .i64 ((i:Int)+1))]) t' Q:=by
    rintro ts n ps rfl hp hts h2 he
    exact VF (p:=0) (fun a m R=>by rw[q50]) hp hts h2 h (bnd ts he) fun t2 h2=>jC (next ts t2 he h2)
   by_cases h5:l[i].kind=5
   ·refine sA (by rw[cH];omega) ?_
    refine write [[10]] 1 _ rfl rfl (fun m hm=>?_) (.inl rfl) (by rw[yab h5];rfl)
    simp at hm;subst hm;exact⟨by simp,fun x hx=>by simp at hx;omega⟩
   ·obtain⟨a1,a2⟩:=hgi h5
    refine sB (fun e=>h5 (by have:=cH.1 e;omega)) ?_
    have one:lP l i=false->rA yA.base (Wq yA F mB) (Jq yA F 23) (.heavy (eC yA 93 1 [(0,.str l[i].text)]) fun a=>.callv (.func (.func 50) [] [.ptr bx 0]) [a] fun _=>.jump 2 [v,.ptr bx 0,.func (.func 50) [] [.ptr bx 0],v,.int .i64 (l.length:Int),.int .i64 (iA .i64 ((i:Int)+1))]) t' Q:=by
     intro ho;refine write [l[i].text] 1 _ rfl rfl (fun m hm=>?_) (.inl rfl) (by rw[yaa h5,ho];simp)
     simp at hm;subst hm;exact⟨a1,a2⟩
    by_cases h0:0<i
    ·have hx2:l[i-1]?=some (l[i-1]'(by omega)):=ybd (by omega)
     have hd2:(l.map wC.d)[i-1]?=some (l[i-1]'(by omega)).d:=by rw[ybu,hx2];rfl
     obtain⟨b2,o2,cs2,k1,k2,k0,k4,k3⟩:=sl66.at (fun h=>by cases h) (hv.mono h.le) hd2
     have e2:=Wv k3
     subst e2;have ew2:iA .i64 ((i:Int)-1)=((i-1:Nat):Int):=by rw[gC (by omega) (by omega)];omega
     have ho:lP l i = !decide ((l[i-1]'(by omega)).kind=5):=by unfold lP wE;rw[hx2];simp[h0]
     have fld:mC yA 75 0 (.ptr b2 o2)=some (.ptr b2 o2):=by kernel_rfl
     have ld:mA yA 5 ⟨0,t'⟩ (.ptr b2 o2)=some (.int .u8 ((l[i-1]'(by omega)).kind:Int)):=by
      have:=k0.load1 (C:=yA) (j:=0) (ty:=5) ty5 rfl rfl
      rwa [yct]at this
     refine sA (by rw[lC];simp;omega) (qA (v:=.ptr b2 o2) (by show sC yA 66 v (.int .i64 (iA .i64 ((i:Int)-1)))=_;rw[ew2];exact k1) (qA fld (vC ld (tB ?_))))
     by_cases hp:(l[i-1]'(by omega)).kind=5
     ·refine sB ?_ (one (by rw[ho,hp];rfl))
      intro e;exact zS.1 e (by omega)
     ·refine sA (zS.2 (by omega)) ?_
      refine write [[32],l[i].text] 2 _ rfl rfl (fun m hm=>?_) (.inr rfl) (by rw[yaa h5,ho];simp[hp])
      simp at hm;rcases hm with rfl | rfl
      ·exact⟨by simp,fun x hx=>by simp at hx;omega⟩
      ·exact⟨a1,a2⟩
    ·refine sB (by rw[lC];simp;omega) (one ?_)
     have:i=0:=by omega
     subst this;rfl
 have:=loop l.length 0 t1 (by omega) (by simpa[qK]using hbx)
 exact this
end
end Go.Proofs
namespace Go.Proofs
open Go Go.Am
section
variable {l:List (List Nat × Nat)}{tk:List wC}{op:Nat}{s w:List Nat}{x:fA}{c:PM fA}{neg:Bool}
section
variable {S:VP}{H:Prop}{n:Nat}{o o2:PM fA}
def Qh(hv:VW S) {i:Nat}(h:i<S.k):aI S.tk2 l (i+S.d)=aI S.tk l i:=by
 unfold aI;congr 2
 funext o
 exact hv.acc i h o.1
def Xk(hv:VW S) (hl:∀o∈l,o.1∉yU):aI S.tk2 l (S.k+S.d)=none:=by
 unfold aI;rw[List.find?_eq_none.2 fun o ho=>by rw[hv.qacc _ (hl o ho)];simp]
 rfl
def Qi  {n:Nat}(h:aI tk l n=some op):∃w,acc tk w n=true:=by
 unfold aI at h
 cases hx:l.find? fun o=>acc tk o.1 n with
 | none=>rw[hx]at h;cases h
 | some o=>exact⟨o.1,by simpa using List.find?_some hx⟩
def Tf  {n:Nat}(h:acc tk w n=true):n<tk.length:=by
 unfold acc at h
 cases hx:tk[n]? with
 | none=>rw[hx]at h;cases h
 | some x=>exact(ybc.1 hx).1
def Sp(hv:VW S) (hl:∀o∈l,o.1∉yU):∀(m:Nat) (x:fA),aM S.tk2 o2 l m x (S.k+S.d)=.ok x (S.k+S.d):=by
 intro m x
 cases m with
 | zero=>rfl
 | succ m=>rw[aM,Xk hv hl]
def NO {y:fA}(hx:fA.cpy x)(hy:fA.cpy y):fA.cpy (mY op x y):=by
 unfold mY fA.cpy;exact⟨⟨by simp[cJ,rH],by simp[cJ,rH]⟩,by simp,hx,hy,trivial⟩
def zeo   (hx:fA.cpy x):fA.cpy (unX op w x):=by
 unfold unX fA.cpy;exact⟨⟨by simp[cJ,rH],by simp[cJ,rH]⟩,by simp,hx,trivial⟩
def YR(hv:VW S)(hH:H)(ho:pB S H fA.cpy o o2) (hl:∀o∈l,o.1∉yU):∀(m m2 n:Nat) (x:fA),fA.cpy x->S.tk.length<=n+m->S.tk2.length<=n+S.d+m2->RA S fA.cpy n (aM S.tk o l m x n) (aM S.tk2 o2 l m2 x (n+S.d)):=by
 intro m;have none:∀(m2 n:Nat) (x:fA),aI S.tk l n=none->n<=S.k->aM S.tk2 o2 l m2 x (n+S.d)=.ok x (n+S.d):=by
  intro m2 n x h hn;by_cases hk:n<S.k
  ·cases m2 with
   | zero=>rfl
   | succ m2=>rw[aM,Qh hv hk,h]
  ·have:n=S.k:=by omega
   subst this;exact Sp hv hl m2 x
 induction m with
 | zero=>
  intro m2 n x hx h1 _;have:aI S.tk l n=Option.none:=by
   cases h:aI S.tk l n with
   | none=>rfl
   | some op=>
    obtain⟨w,hw⟩:=Qi h
    have:=Tf hw
    omega
  exact(RA.ret (a:=x) hx).right fun hn=>none m2 n x this hn
 | succ m ih=>
  intro m2 n x hx h1 h2
  cases h:aI S.tk l n with
  | none=>
   rw[aM,h];exact(RA.ret (a:=x) hx).right fun hn=>none m2 n x h hn
  | some op=>
   rw[aM,h];obtain⟨w,hw⟩:=Qi h
   refine RA.step (r2':=(o2 (n+1+S.d)).bind fun y n'=>aM S.tk2 o2 l (m2-1) (mY op x y) n') (Gg hw) ?_ fun hn=>?_
   ·refine RA.bind hv (ho.ra hH (n+1)) (fun y n1 hr hy=>?_) (fun hfu y=>by rw[Sp hv hl];exact rfl)
    have:=(ho.ra hH (n+1)).mo
    rw[hr]at this;have:=this.1
    exact ih (m2-1) n1 _ (NO hx hy) (by omega) (by omega)
   ·have h3:=Qh hv (l:=l) hn
    rw[h]at h3;obtain⟨w2,hw2⟩:=Qi h3
    have:=Tf hw2
    obtain⟨m3,rfl⟩:∃m3,m2=m3+1:=⟨m2-1,by omega⟩
    rw[aM,h3];have e:n+S.d+1=n+1+S.d:=by omega
    rw[e];rfl
def Sn(hv:VW S)(ho:pB S H fA.cpy o o2) (hl:∀o∈l,o.1∉yU):pB S H fA.cpy (xR S.tk o l) (xR S.tk2 o2 l):=by
 refine⟨fun hH n=>?_,fun hfu=>uP.bind (ho.rr hfu) fun x=>by rw[Sp hv hl];exact rfl⟩
 exact RA.bind hv (ho.ra hH n) (fun x n1 _ hx=>YR hv hH ho hl _ _ n1 x hx (by omega) (by omega)) fun hfu x=>by rw[Sp hv hl];exact rfl
def TD(hv:VW S)(ho:pB S H fA.cpy o o2):pB S H fA.cpy (Lk S.tk o) (Lk S.tk2 o2):=Sn hv ho (by decide)
def zb1(hv:VW S)(ho:pB S H fA.cpy o o2):pB S H fA.cpy (jV S.tk o) (jV S.tk2 o2):=Sn hv (TD hv ho) (by decide)
def zan(hv:VW S)(ho:pB S H fA.cpy o o2):pB S H fA.cpy (Au S.tk o) (Au S.tk2 o2):=by
 have hs:=zb1 (S:=S) (H:=H) hv ho
 have hl:∀o∈[(([60]:List Nat),13),([61],14)],o.1∉yU:=by decide
 have hz:∀x,uP (S.k+S.d) (match aI S.tk2 [([60],13),([61],14)] (S.k+S.d)with | none=>.ok x (S.k+S.d) | some op=>(jV S.tk2 o2 (S.k+S.d+1)).bind fun y n2=>.ok (mY op x y) n2):=by
  intro x;rw[Xk hv hl];exact rfl
 refine⟨fun hH n=>?_,fun hfu=>uP.bind (hs.rr hfu) hz⟩
 refine RA.bind hv (hs.ra hH n) (fun x n1 _ hx=>?_) fun _=>hz
 cases h:aI S.tk [([60],13),([61],14)] n1 with
 | none=>
  refine(RA.ret (a:=x) hx).right fun hn=>?_
  by_cases hk:n1<S.k
  ·rw[Qh hv hk,h]
  ·have:n1=S.k:=by omega
   subst this;rw[Xk hv hl]
 | some op=>
  obtain⟨w,hw⟩:=Qi h
  refine RA.step (r2':=(jV S.tk2 o2 (n1+1+S.d)).bind fun y n2=>.ok (mY op x y) n2) (Gg hw) ?_ fun hn=>?_
  ·exact RA.bind hv (hs.ra hH (n1+1)) (fun y n2 _ hy=>RA.ret (NO hx hy)) fun _ _=>rfl
  ·rw[Qh hv hn,h]
   have e:n1+S.d+1=n1+1+S.d:=by omega
   rw[e]
def zbb:∀(k:Nat) (x:fA),bY (k+1) x=unX 17 [] (bY k x):=by
 intro k;induction k with
 | zero=>intro x;rfl
 | succ k ih=>intro x;rw[bY,ih];rfl
def wT (tk:List wC)(c:PM fA):Nat->PM fA
 | 0,n=>c n
 | m+1,n=>if acc tk Bh n=true then(wT tk c m (n+1)).bind fun x n'=>.ok (unX 17 [] x) n' else c n
def Xv   : ∀(m n:Nat),wT tk c m n=(c (n+jL tk m n)).bind fun x n'=>.ok (bY (jL tk m n) x) n':=by
 have id:∀r:PR fA,r=r.bind fun x n'=>.ok (bY 0 x) n':=fun r=>by cases r<;>rfl
 intro m;induction m with
 | zero=>intro n;exact id _
 | succ m ih=>
  intro n;rw[wT,jL];split
  ·rw[ih,show n+(jL tk m (n+1)+1)=n+1+jL tk m (n+1) by omega]
   cases c (n+1+jL tk m (n+1))with
   | ok x n'=>show PR.ok _ _=PR.ok _ _;rw[zbb]
   | er e i=>rfl
  ·exact id _
def zcu(hv:VW S){c2:PM fA}(hc:pB S H fA.cpy c c2):∀(m m2 n:Nat),S.tk.length<=n+m->S.tk2.length<=n+S.d+m2->H->RA S fA.cpy n (wT S.tk c m n) (wT S.tk2 c2 m2 (n+S.d)):=by
 have hw:Bh∉yU:=by decide
 have stop:∀(m2 n:Nat),acc S.tk Bh n=false->n<=S.k->wT S.tk2 c2 m2 (n+S.d)=c2 (n+S.d):=by
  intro m2 n h hn
  cases m2 with
  | zero=>rfl
  | succ m2=>
   rw[wT];by_cases hk:n<S.k
   ·rw[hv.acc n hk,h,yaa (by simp)]
   ·have:n=S.k:=by omega
    subst this;rw[hv.qacc _ hw,yaa (by simp)]
 intro m;induction m with
 | zero=>
  intro m2 n h1 _ hH;have:acc S.tk Bh n=false:=by
   cases h:acc S.tk Bh n with
   | false=>rfl
   | true=>have:=Tf h;omega
  exact(hc.ra hH n).right fun hn=>stop m2 n this hn
 | succ m ih=>
  intro m2 n h1 h2 hH;rw[wT]
  cases h:acc S.tk Bh n with
  | false=>rw[yaa (by simp)];exact(hc.ra hH n).right fun hn=>stop m2 n h hn
  | true=>
   rw[yab rfl];have hz:∀m3,S.full->uP (S.k+S.d) (wT S.tk2 c2 m3 (S.k+S.d)):=by
    intro m3 hfu
    cases m3 with
    | zero=>exact hc.rr hfu
    | succ m3=>rw[wT,hv.qacc _ hw,yaa (by simp)];exact hc.rr hfu
   refine RA.step (r2':=(wT S.tk2 c2 (m2-1) (n+1+S.d)).bind fun x n'=>.ok (unX 17 [] x) n') (Gg h) ?_ fun hn=>?_
   ·exact RA.bind hv (ih (m2-1) (n+1) (by omega) (by omega) hH) (fun x n1 _ hx=>RA.ret (zeo hx)) fun _ _=>rfl
   ·have h3:=hv.acc n hn Bh
    rw[h]at h3;have:=Tf h3
    obtain⟨m3,rfl⟩:∃m3,m2=m3+1:=⟨m2-1,by omega⟩
    rw[wT,h3,yab rfl];have e:n+S.d+1=n+1+S.d:=by omega
    rw[e];rfl
def UR(hv:VW S)(ho:pB S H fA.cpy o o2):pB S H fA.cpy (yY S.tk o) (yY S.tk2 o2):=by
 have hc:=zan (S:=S) (H:=H) hv ho
 refine⟨fun hH n=>?_,fun hfu=>?_⟩
 ·unfold yY
  rw[<- Xv,<- Xv];exact zcu hv hc _ _ n (by omega) (by omega) hH
 ·unfold yY
  rw[<- Xv]
  cases S.tk2.length with
  | zero=>exact hc.rr hfu
  | succ m=>rw[wT,hv.qacc _ (by decide),yaa (by simp)];exact hc.rr hfu
def zam(hv:VW S)(ho:pB S H fA.cpy o o2):pB S H fA.cpy (Iu S.tk o) (Iu S.tk2 o2):=Sn hv (UR hv ho) (by decide)
def LG(hv:VW S)(ho:pB S H fA.cpy o o2):pB S H fA.cpy (wP S.tk o) (wP S.tk2 o2):=Sn hv (zam hv ho) (by decide)
def AT(hv:VW S)(ho:pB S H fA.cpy o o2)  : pB S H fA.cpy (jS S.tk o op) (jS S.tk2 o2 op):=
 (Ht hv).bind hv fun w=>(eP hv).bind hv fun _=>(ho.mono (fun h=>h.1.1) fun _ h=>h).bind hv fun x=>pB.ret fun h=>zeo h.2
def mF.cpy(v:mF):Prop:=v.f.n.limbs.length<300000/\v.f.d.limbs.length<300000
def UJ (h:bR s):tD (oN s)<65536^200/\(vH s=true->tD (vO s)<65536^200):=by
 have h10:∀l:List Nat,l.length<=200->(∀b∈l,pD b=true)->tD l<65536^200:=by
  intro l hl hd;have h1:=Fv hd
  have h2:10^l.length<=10^200:=yao (by omega) hl
  have h3:10^200<=65536^200:=Nat.pow_le_pow_left (by decide) 200
  exact Nat.lt_of_lt_of_le h1 (Nat.le_trans h2 h3)
 obtain⟨h1,h2,_,_,h5⟩:=h
 have hA:(oN s).length<=s.length:=by
  unfold oN uD;exact List.takeWhile_sublist _ |>.length_le
 refine⟨h10 _ (by omega) h2,fun hs=>h10 _ ?_ (h5 hs).2.1⟩
 unfold vO;rw[ydj];omega
def Zf  (h:bR s):(tI s neg).n.limbs.length<300000/\(tI s neg).d.limbs.length<300000:=by
 obtain⟨h1,h2⟩:=UJ h
 have hd:(if vH s=true then tD (vO s)else 1)<65536^200:=by
  split
  ·exact h2 (by assumption)
  ·exact Nat.one_lt_pow (by omega) (by omega)
 have k:∀a g:Nat,a<65536^200->(yC (a / g)).length<300000:=fun a g h=>by
  have:=Yk (n:=a / g) (k:=200) (yam (Nat.div_le_self _ _) h)
  omega
 exact⟨k _ _ h1,k _ _ hd⟩
def TB(hv:VW S)  : pB S H mF.cpy (zK S.tk neg) (zK S.tk2 neg):=by
 have hz:∀x:Bool,zK S.tk2 x (S.k+S.d)=.er 120 (S.k+S.d):=fun x=>by
  unfold zK uF;rw[hv.qkind 2 (.inl rfl),yaa (by simp)];rfl
 refine⟨fun _ n=>?_,fun _=>by rw[hz];exact⟨rfl,.inl rfl⟩⟩
 have two:∀m,m<S.k->(acc S.tk2 nV (m+S.d)||acc S.tk2 aY (m+S.d))=(acc S.tk nV m||acc S.tk aY m):=fun m hm=>by rw[hv.acc m hm,hv.acc m hm]
 have tq:(acc S.tk2 nV (S.k+S.d)||acc S.tk2 aY (S.k+S.d))=false:=by rw[hv.qacc _ (by decide),hv.qacc _ (by decide)];rfl
 cases h:wE S.tk 2 n with
 | false=>
  have e:zK S.tk neg n=.er 120 n:=by unfold zK uF;rw[h,yaa (by simp)];rfl
  rw[e];refine(RA.fail (.inl rfl)).right fun hn=>?_
  by_cases hk:n<S.k
  ·unfold zK uF;rw[hv.kind n hk,h,yaa (by simp)];rfl
  ·have:n=S.k:=by omega
   subst this;exact hz neg
 | true=>
  have hn:=IV hv.good h rfl
  have e5:=Rj h (by omega)
  have e:zK S.tk neg n=(if (acc S.tk nV (n+1)||acc S.tk aY (n+1))=true then(if vH (aF S.tk n)=true then .er 120 (n+1)else match fL (aF S.tk n) neg (-1048576) 1048576 with | none=>.er 121 n | some i=>.ok ⟨if acc S.tk nV (n+1)=true then 5 else 6,rH,i⟩ (n+1+1))else .ok ⟨2,tI (aF S.tk n) neg,0⟩ (n+1)):=by
   unfold zK uF;rw[h,yab rfl];rfl
  have e2:n<S.k->zK S.tk2 neg (n+S.d)=(if (acc S.tk2 nV (n+1+S.d)||acc S.tk2 aY (n+1+S.d))=true then(if vH (aF S.tk n)=true then .er 120 (n+1+S.d)else match fL (aF S.tk n) neg (-1048576) 1048576 with | none=>.er 121 (n+S.d) | some i=>.ok ⟨if acc S.tk2 nV (n+1+S.d)=true then 5 else 6,rH,i⟩ (n+1+1+S.d))else .ok ⟨2,tI (aF S.tk n) neg,0⟩ (n+1+S.d)):=by
   intro hk;unfold zK uF;rw[hv.kind n hk,h,yab rfl,hv.text n hk];have a1:n+S.d+1=n+1+S.d:=by omega
   have a2:n+1+S.d+1=n+1+1+S.d:=by omega
   rw[a1,<- a2];rfl
  rw[e]
  cases hd:(acc S.tk nV (n+1)||acc S.tk aY (n+1))with
  | false=>
   rw[yaa (by simp)]
   refine⟨⟨by omega,NE.one e5,Zf hn⟩,fun hn1 a n' hr hn'=>?_,fun _ _ e hr=>by cases hr⟩
   cases hr;have:(acc S.tk2 nV (n+1+S.d)||acc S.tk2 aY (n+1+S.d))=false:=by
    by_cases hk:n+1<S.k
    ·rw[two _ hk,hd]
    ·have:n+1=S.k:=by omega
     rw[this];exact tq
   rw[e2 (by omega),this,yaa (by simp)]
   exact .inl rfl
  | true=>
   have e6:wE S.tk 5 (n+1)=false:=by
    simp only[ycq]at hd;rcases hd with hd | hd<;>exact Gg hd
   have ne:NE S.tk n (n+1+1):=(NE.one e5).join (NE.one e6)
   have q1:n+1<=S.k->¬ n+1<S.k->zK S.tk2 neg (n+S.d)=.ok ⟨2,tI (aF S.tk n) neg,0⟩ (n+1+S.d):=fun h1 h2=>by
    have:n+1=S.k:=by omega
    rw[e2 (by omega),this,tq,yaa (by simp)]
   rw[yab rfl]
   cases hs:vH (aF S.tk n)with
   | true=>
    rw[yab rfl];refine⟨⟨by omega,NE.one e5,by omega⟩,fun _ a n' hr=>(by cases hr),fun hn1 hfu e' hr=>?_⟩
    injection hr with _ hr
    rw[q1 (by omega) (by omega)]
    exact show n+1+S.d=_ by omega
   | false=>
    rw[yaa (by simp)]
    cases hi:fL (aF S.tk n) neg (-1048576) 1048576 with
    | none=>
     refine⟨⟨by omega,NE.nil,by omega⟩,fun _ a n' hr=>(by cases hr),fun hn1 hfu e' hr=>?_⟩
     cases hr;rw[hz];exact⟨rfl,.inl rfl⟩
    | some i=>
     refine⟨⟨by omega,ne,by simp[mF.cpy,rH]⟩,fun hn1 a n' hr hn'=>?_,fun _ _ e hr=>by cases hr⟩
     cases hr;rw[e2 (by omega),two _ (by omega),hd,yab rfl,hs,yaa (by simp),hi,hv.acc _ (by omega)]
     exact .inl rfl
end
end
section
variable {tk:List wC}{n':Nat}{a:List Nat}{α:Type}{e e2:PM fA}
section
variable {S:VP}{H:Prop}{n:Nat}{o o2:PM fA}
def CG {q n:Nat} (h:uF tk q n=.ok a n'):n<n':=by
 unfold uF at h;split at h<;>cases h;omega
def PR.bind_inv{β:Type}{r:PR α}{f:α->Nat->PR β}{b:β}{n:Nat}(h:r.bind f=.ok b n):∃a n1,r=.ok a n1/\f a n1=.ok b n:=by
 cases r with
 | ok a n1=>exact⟨a,n1,rfl,h⟩
 | er e i=>cases h
def TC {neg:Bool}{n:Nat}{v:mF}(h:zK tk neg n=.ok v n'):n<n':=by
 unfold zK at h;obtain⟨a,n1,h1,h2⟩:=PR.bind_inv h
 have:=CG h1
 split at h2
 ·split at h2
  ·cases h2
  ·split at h2<;>cases h2;omega
 ·cases h2;omega
def VO (v:Option mF):Prop:=match v with | some v=>mF.cpy v | none=>True
def Ti{k:Nat}{i:Int}:mF.cpy ⟨k,rH,i⟩:=by simp[mF.cpy,rH]
def MG(hv:VW S):pB S H VO (bW S.tk) (bW S.tk2):=by
 have hq:∀(neg:Bool),pB S H VO (fun n=>(zK S.tk neg n).bind fun v n1=>.ok (some v) n1) (fun n=>(zK S.tk2 neg n).bind fun v n1=>.ok (some v) n1):=fun neg=>(TB hv).bind hv fun v=>pB.ret fun h=>h.2
 have hm:∀(neg:Bool),pB S H VO (fun n=>(uF S.tk 2 n).bind fun s n1=>.ok (some ⟨3,tI s neg,0⟩) n1) (fun n=>(uF S.tk2 2 n).bind fun s n1=>.ok (some ⟨3,tI s neg,0⟩) n1):=fun neg=>(Uh hv (by omega)).bind hv fun s=>pB.ret fun h=>Zf (h.2 rfl)
 have hm2:pB S H VO (fun n=>(fun(neg:Bool)=>(uF S.tk 2 (if neg then n+1 else n)).bind fun s n1=>.ok (some ⟨3,tI s neg,0⟩) n1) (acc S.tk xJ n)) (fun n=>(fun(neg:Bool)=>(uF S.tk2 2 (if neg then n+1 else n)).bind fun s n1=>.ok (some ⟨3,tI s neg,0⟩) n1) (acc S.tk2 xJ n)):=by
  have:=pB.acc hv (w:=xJ) (by decide) (hm true) (hm false)
  have e:∀tk:List wC,(fun n=>(fun(neg:Bool)=>(uF tk 2 (if neg then n+1 else n)).bind fun s n1=>(.ok (some ⟨3,tI s neg,0⟩) n1:PR (Option mF))) (acc tk xJ n))=fun n=>if acc tk xJ n=true then(uF tk 2 (n+1)).bind fun s n1=>.ok (some ⟨3,tI s true,0⟩) n1 else(uF tk 2 n).bind fun s n1=>.ok (some ⟨3,tI s false,0⟩) n1:=fun tk=>by
   funext n;cases acc tk xJ n<;>rfl
  rw[e,e];exact this
 refine pB.acc hv (w:=wTrue) (A:=fun n=>.ok (some (mF.mk 1 rH 1)) n) (A2:=fun n=>.ok (some (mF.mk 1 rH 1)) n) (by decide) (pB.ret (V:=VO) fun _=>Ti) ?_
 refine pB.acc hv (w:=zen) (A:=fun n=>.ok (some (mF.mk 1 rH 0)) n) (A2:=fun n=>.ok (some (mF.mk 1 rH 0)) n) (by decide) (pB.ret (V:=VO) fun _=>Ti) ?_
 refine pB.ite (p:=fun n=>wE S.tk 3 n) (p2:=fun n=>wE S.tk2 3 n) (fun i hi=>hv.kind i hi 3) (hv.qkind 3 (.inr rfl)) (A:=fun n=>(cM S.tk n).bind fun d n1=>.ok (some (mF.mk 4 rH d)) n1) (A2:=fun n=>(cM S.tk2 n).bind fun d n1=>.ok (some (mF.mk 4 rH d)) n1) ((Nh hv).bind hv fun d=>pB.ret (V:=VO) fun _=>Ti) (fun n a n' _ h=>?_) ?_
 ·obtain⟨d,n1,h1,h2⟩:=PR.bind_inv h
  unfold cM at h1;obtain⟨d,n2,h3,h4⟩:=PR.bind_inv h1
  have:=CG h3
  cases h4;cases h2;exact this
 refine pB.acc hv (w:=zem) (by decide) hm2 ?_
 refine pB.acc hv (w:=xJ) (by decide) (hq true) ?_
 refine pB.ite (p:=fun n=>wE S.tk 2 n) (p2:=fun n=>wE S.tk2 2 n) (fun i hi=>hv.kind i hi 2) (hv.qkind 2 (.inl rfl)) (hq false) (fun n a n' _ h=>?_) (pB.ret fun _=>trivial)
 obtain⟨v,n1,h1,h2⟩:=PR.bind_inv h
 have:=TC h1
 cases h2;exact this
def VL (c:Nat)(l:List fA):Prop:=l.length<=c/\fA.cpys l
def MB:∀ {l:List fA} {x:fA},fA.cpys l->fA.cpy x->fA.cpys (l++[x])
 | [],x,_,h=>⟨h,trivial⟩
 | y::l,x,h1,h2=>⟨h1.1,MB h1.2 h2⟩
def VL.snoc{c:Nat}{l:List fA}{x:fA}(h:VL c l)(hx:fA.cpy x):VL (c+1) (l++[x]):=⟨by simpa using h.1,MB h.2 hx⟩
def UV(hv:VW S) (he:pB S H fA.cpy e e2):∀(k c:Nat) (l:List fA) (H':Prop),(H'->H)->(H'->VL c l)->pB S H' (VL (c+k)) (pU S.tk e k l) (pU S.tk2 e2 k l):=by
 intro k;induction k with
 | zero=>intro c l H' _ h;exact pB.ret h
 | succ k ih=>
  intro c l H' h0 h;refine(eP hv).bind hv fun _=>(he.mono (fun h=>h0 h.1) fun _ h=>h).bind hv fun x=>?_
  have:=ih (c+1) (l++[x]) ((H'/\True)/\fA.cpy x) (fun h=>h0 h.1.1) fun hx=>(h hx.1.1).snoc hx.2
  rwa [show c+1+k=c+(k+1) by omega]at this
def RB(hv:VW S) (he:pB S H fA.cpy e e2):∀(k c:Nat) (l:List fA) (H':Prop),(H'->H)->(H'->VL c l)->pB S H' (VL (c+k)) (mQ S.tk e k l) (mQ S.tk2 e2 k l):=by
 intro k;induction k with
 | zero=>intro c l H' _ h;exact pB.ret h
 | succ k ih=>
  intro c l H' h0 h;refine pB.acc hv (w:=[44]) (A:=fun n=>(e n).bind fun x n2=>mQ S.tk e k (l++[x]) n2) (A2:=fun n=>(e2 n).bind fun x n2=>mQ S.tk2 e2 k (l++[x]) n2) (B:=fun n=>.ok l n) (B2:=fun n=>.ok l n) (by decide) ?_ (pB.ret fun h'=>⟨by have:=(h h').1;omega,(h h').2⟩)
  refine(he.mono h0 fun _ h=>h).bind hv fun x=>?_
  have:=ih (c+1) (l++[x]) (H'/\fA.cpy x) (fun h=>h0 h.1) fun hx=>(h hx.1).snoc hx.2
  rwa [show c+1+k=c+(k+1) by omega]at this
def UW:∀i,vT i∉yU:=by
 intro i;unfold vT;split<;>decide
def VY:∀i,Fe i∉yU:=by
 intro i;unfold Fe;split<;>decide
def NH:∀f∈wR,f.least<=3/\f.most<=3/\f.word∉yU:=by decide
def Px(tk:List wC)(e:PM fA)(f:CF):PM fA:=fun n=>(iE tk [40] n).bind fun _ n1=>
  (if f.named then(uJ tk n1).bind fun w n2=>(iE tk [44] n2).bind fun _ n3=>.ok w n3 else .ok [] n1:PR (List Nat)).bind fun w n2=>
  (e n2).bind fun x n3=>(pU tk e (f.least-1) [x] n3).bind fun l n4=>(mQ tk e (f.most-f.least) l n4).bind fun l n5=>
  (if f.op=19 then(iE tk [44] n5).bind fun _ n6=>wK tk vT 6 6 1 n6 else .ok 0 n5:PR Nat).bind fun m n6=>
  (iE tk [41] n6).bind fun _ n7=>.ok (.mk f.op w ⟨0,rH,m⟩ l) n7
def SG(hv:VW S) (he:pB S H fA.cpy e e2){f:CF}(hf:f∈wR):pB S H fA.cpy (Px S.tk e f) (Px S.tk2 e2 f):=by
 obtain⟨f1,f2,_⟩:=NH f hf
 refine(eP hv).bind hv fun _=>?_
 refine pB.bind hv (V:=fun _=>True) (f:=fun n1=>(if f.named then(uJ S.tk n1).bind fun w n2=>(iE S.tk [44] n2).bind fun _ n3=>.ok w n3 else .ok [] n1:PR (List Nat))) (f2:=fun n1=>(if f.named then(uJ S.tk2 n1).bind fun w n2=>(iE S.tk2 [44] n2).bind fun _ n3=>.ok w n3 else .ok [] n1:PR (List Nat)))
  (pB.cases f.named (A:=fun n1=>(uJ S.tk n1).bind fun w n2=>(iE S.tk [44] n2).bind fun _ n3=>.ok w n3) (A2:=fun n1=>(uJ S.tk2 n1).bind fun w n2=>(iE S.tk2 [44] n2).bind fun _ n3=>.ok w n3) (B:=fun n=>.ok [] n) (B2:=fun n=>.ok [] n)
   (fun _=>(Ht hv).bind hv fun w=>(eP hv).bind hv fun _=>pB.ret fun _=>trivial) fun _=>pB.ret fun _=>trivial) fun w=>?_
 refine(he.mono (fun h=>h.1.1) fun _ h=>h).bind hv fun x=>?_
 refine(UV hv he (f.least-1) 1 [x] _ (fun h=>h.1.1.1) fun h=>⟨by simp,h.2,trivial⟩).bind hv fun l=>?_
 refine(RB hv he (f.most-f.least) (1+(f.least-1)) l _ (fun h=>h.1.1.1.1) fun h=>h.2).bind hv fun l'=>?_
 refine pB.bind hv (V:=fun _=>True) (f:=fun n5=>(if f.op=19 then(iE S.tk [44] n5).bind fun _ n6=>wK S.tk vT 6 6 1 n6 else .ok 0 n5:PR Nat)) (f2:=fun n5=>(if f.op=19 then(iE S.tk2 [44] n5).bind fun _ n6=>wK S.tk2 vT 6 6 1 n6 else .ok 0 n5:PR Nat)) ?_ fun m=>(eP hv).bind hv fun _=>pB.ret fun h=>?_
 ·by_cases h19:f.op=19
  ·simp only[yab h19]
   exact(eP hv).bind hv fun _=>MV hv UW 6 1
  ·simp only[yaa h19]
   exact pB.ret fun _=>trivial
 ·have hl:=h.1.1.2
  unfold fA.cpy;exact⟨⟨by simp[rH],by simp[rH]⟩,by have:=hl.1;omega,hl.2⟩
def zat(hv:VW S) (he:pB S H fA.cpy e e2):pB S H fA.cpy (lS S.tk e) (lS S.tk2 e2):=by
 have eq:∀(tk:List wC) (e:PM fA) (n:Nat),lS tk e n=match wR.find? fun f=>acc tk f.word n with | none=>.er 120 n | some f=>Px tk e f (n+1):=fun tk e n=>rfl
 have hq:(wR.find? fun f=>acc S.tk2 f.word (S.k+S.d))=none:=List.find?_eq_none.2 fun f hf=>by rw[hv.qacc _ (NH f hf).2.2];simp
 refine⟨fun hH n=>?_,fun _=>by rw[eq,hq];exact⟨rfl,.inl rfl⟩⟩
 rw[eq,eq];have same:n<S.k->(wR.find? fun f=>acc S.tk2 f.word (n+S.d))=wR.find? fun f=>acc S.tk f.word n:=fun hn=>by congr 1;funext f;exact hv.acc n hn _
 cases h:wR.find? fun f=>acc S.tk f.word n with
 | none=>
  refine(RA.fail (.inl rfl)).right fun hn=>?_
  by_cases hk:n<S.k
  ·rw[same hk,h]
  ·have:n=S.k:=by omega
   subst this;rw[hq]
 | some f=>
  have ha:acc S.tk f.word n=true:=by simpa using List.find?_some h
  refine RA.step (Gg ha) ((SG hv he (List.mem_of_find?_eq_some h)).ra hH (n+1)) fun hn=>?_
  rw[same hn,h];show Px S.tk2 e2 f (n+S.d+1)=_
  congr 1;omega
def zcv {n:Nat} (h:uJ tk n=.ok a n'):n<n':=by
 unfold uJ at h;split at h<;>cases h;omega
def up_of {V:α->Prop}{f f2:PM α}(h:pB S True V f f2){n:Nat}{a:α}(hr:f n=.ok a n'):n<=n':=by
 have:=(h.ra trivial n).mo
 rw[hr]at this;exact this.1
def JX(hv:VW S)(ho:pB S True fA.cpy o o2):pB S True fA.cpy (sS S.tk o) (sS S.tk2 o2):=by
 have he:=LG hv ho
 refine(MG hv).bind hv fun v=>?_
 have ho':pB S (True/\VO v) fA.cpy o o2:=ho.mono (fun _=>trivial) fun _ h=>h
 have he':pB S (True/\VO v) fA.cpy (wP S.tk o) (wP S.tk2 o2):=he.mono (fun _=>trivial) fun _ h=>h
 cases v with
 | some v=>exact pB.ret fun h=>by unfold AJ fA.cpy;exact⟨h.2,by simp,trivial⟩
 | none=>
  refine pB.acc hv (w:=[40]) (A:=fun n=>(wP S.tk o n).bind fun x n1=>(iE S.tk [41] n1).bind fun _ n2=>.ok x n2) (A2:=fun n=>(wP S.tk2 o2 n).bind fun x n1=>(iE S.tk2 [41] n1).bind fun _ n2=>.ok x n2) (by decide) (he'.bind hv fun x=>(eP hv).bind hv fun _=>pB.ret fun h=>h.1.2) ?_
  refine pB.acc hv (w:=To) (A:=fun n=>.ok (fA.mk 2 [] cJ []) n) (A2:=fun n=>.ok (fA.mk 2 [] cJ []) n) (by decide) (pB.ret fun _=>⟨⟨by simp[cJ,rH],by simp[cJ,rH]⟩,by simp,trivial⟩) ?_
  refine pB.acc hv (w:=Oh) (by decide) (AT hv ho') ?_
  refine pB.acc hv (w:=wHas) (by decide) (AT hv ho') ?_
  refine pB.ite (p:=fun n=>qM S.tk n) (p2:=fun n=>qM S.tk2 n) (fun i hi=>GX hv hi) hv.qname (AT hv ho') (fun n a n' _ h=>?_) (zat hv he')
  unfold jS at h;obtain⟨w,n1,h1,h2⟩:=PR.bind_inv h
  obtain⟨u,n2,h3,h4⟩:=PR.bind_inv h2
  obtain⟨x,n3,h5,h6⟩:=PR.bind_inv h4
  have a1:=zcv h1
  have a2:n1<=n2:=up_of (S:=S) (eP hv) h3
  have a3:=up_of ho h5
  cases h6;omega
def TU(hv:VW S):∀(j j2:Nat),(j2=j\/(j2+1=j/\S.dp))->pB S True fA.cpy (aN S.tk j) (aN S.tk2 j2):=by
 intro j;induction j with
 | zero=>
  intro j2 h;have:j2=0:=by
   rcases h with h | h
   ·exact h
   ·exact absurd h.1 (by omega)
  subst this;exact pB.fail (.inr rfl)
 | succ j ih=>
  intro j2 h
  cases j2 with
  | zero=>
   have hd:S.dp:=by rcases h with h | h;omega;exact h.2
   have hr:pB S True fA.cpy (sS S.tk (aN S.tk j)) (sS S.tk2 (aN S.tk2 j)):=JX hv (ih j (.inl rfl))
   exact⟨fun hH n=>⟨(hr.ra hH n).mo,fun _ a n' _ _=>.inr ⟨hd,_,rfl⟩,fun _ hfu=>absurd hd (hv.full hfu).1⟩,fun hfu=>absurd hd (hv.full hfu).1⟩
  | succ j2=>exact JX hv (ih j2 (h.imp (by omega) fun h=>⟨by omega,h.2⟩))
def LA(hv:VW S):pB S True fA.cpy (nS S.tk) (nS S.tk2):=LG hv (TU hv 101 101 (.inl rfl))
def LX(hv:VW S){b:Bool}:pB S H (fun _=>True) (yV S.tk b) (yV S.tk2 b):=(Ht hv).bind hv fun w=>(MV hv VY 6 1).bind hv fun k=>pB.ret fun _=>trivial
def JB(hv:VW S):pB S H (fun _=>True) (bQ S.tk) (bQ S.tk2):=by
 have one:∀neg:Bool,pB S H (fun _=>True) (fun m=>if !wE S.tk 2 m||vH (aF S.tk m)then .er 120 m else match fL (aF S.tk m) neg (-2147483648) 2147483647 with | none=>.er 121 m | some i=>.ok i (m+1))
   (fun m=>if !wE S.tk2 2 m||vH (aF S.tk2 m)then .er 120 m else match fL (aF S.tk2 m) neg (-2147483648) 2147483647 with | none=>.er 121 m | some i=>.ok i (m+1)):=by
  intro neg;have hz:(!wE S.tk2 2 (S.k+S.d)||vH (aF S.tk2 (S.k+S.d)))=true:=by rw[hv.qkind 2 (.inl rfl)];rfl
  refine⟨fun _ n=>?_,fun _=>by show uP _ (if _=true then _ else _);rw[hz,yab rfl];exact⟨rfl,.inl rfl⟩⟩
  show RA S _ n (if (!wE S.tk 2 n||vH (aF S.tk n))=true then _ else _) (if (!wE S.tk2 2 (n+S.d)||vH (aF S.tk2 (n+S.d)))=true then _ else _)
  have hz':∀x y:PR Int,n=S.k->(if (!wE S.tk2 2 (n+S.d)||vH (aF S.tk2 (n+S.d)))=true then x else y)=x:=fun x y e=>by rw[e,hz,yab rfl]
  cases h:(!wE S.tk 2 n||vH (aF S.tk n))with
  | true=>
   rw[yab rfl];refine(RA.fail (.inl rfl)).right fun hn=>?_
   by_cases hk:n<S.k
   ·rw[hv.kind n hk,hv.text n hk,h,yab rfl]
   ·exact hz' _ _ (by omega)
  | false=>
   rw[yaa (by simp)]
   have h2:wE S.tk 2 n=true:=by simp at h;exact h.1
   cases hi:fL (aF S.tk n) neg (-2147483648) 2147483647 with
   | none=>
    refine⟨⟨by omega,NE.nil,by omega⟩,fun _ a n' hr=>(by cases hr),fun hn hfu e hr=>?_⟩
    injection hr with _ hr
    rw[hz' _ _ hr,hr];exact⟨rfl,.inl rfl⟩
   | some i=>
    refine⟨⟨by omega,NE.one (Rj h2 (by omega)),trivial⟩,fun hn a n' hr hn'=>?_,fun _ _ e hr=>by cases hr⟩
    cases hr;rw[hv.kind n (by omega),hv.text n (by omega),h,yaa (by simp),hi]
    left
    show PR.ok _ _=PR.ok _ _
    congr 1;omega
 have e:∀tk:List wC,bQ tk=fun n=>if acc tk xJ n=true then(fun m=>if !wE tk 2 m||vH (aF tk m)then .er 120 m else match fL (aF tk m) true (-2147483648) 2147483647 with | none=>.er 121 m | some i=>.ok i (m+1)) (n+1)else(fun m=>if !wE tk 2 m||vH (aF tk m)then .er 120 m else match fL (aF tk m) false (-2147483648) 2147483647 with | none=>.er 121 m | some i=>.ok i (m+1)) n:=fun tk=>by
  funext n;unfold bQ;cases acc tk xJ n<;>rfl
 rw[e,e];exact pB.acc hv (w:=xJ) (by decide) (one true) (one false)
def zcg(hv:VW S){two:Bool}:pB S H (fun r=>jH.cpy r.f) (eV S.tk two) (eV S.tk2 two):=by
 refine(JB hv).bind hv fun a=>?_
 refine pB.bind hv (V:=fun _=>True) (f:=fun n1=>(if two then bQ S.tk n1 else .ok 0 n1:PR Int)) (f2:=fun n1=>(if two then bQ S.tk2 n1 else .ok 0 n1:PR Int)) (pB.cases two (B:=fun n=>.ok 0 n) (B2:=fun n=>.ok 0 n) (fun _=>JB hv) fun _=>pB.ret fun _=>trivial) fun b=>?_
 refine(eP hv).bind hv fun _=>(Nh hv).bind hv fun d=>(eP hv).bind hv fun _=>?_
 have one:∀(neg:Bool) (H:Prop),pB S H (fun r=>jH.cpy r.f) (fun n=>(uF S.tk 2 n).bind fun s n6=>.ok (⟨a,b,d,tI s neg⟩:oH) n6) (fun n=>(uF S.tk2 2 n).bind fun s n6=>.ok (⟨a,b,d,tI s neg⟩:oH) n6):=fun neg H=>(Uh hv (by omega)).bind hv fun s=>pB.ret fun h=>Zf (h.2 rfl)
 have e:∀tk:List wC,(fun n5=>(fun(neg:Bool)=>(uF tk 2 (if neg then n5+1 else n5)).bind fun s n6=>(.ok (⟨a,b,d,tI s neg⟩:oH) n6:PR oH)) (acc tk xJ n5))=fun n=>if acc tk xJ n=true then(fun n=>(uF tk 2 n).bind fun s n6=>.ok (⟨a,b,d,tI s true⟩:oH) n6) (n+1)else(fun n=>(uF tk 2 n).bind fun s n6=>.ok (⟨a,b,d,tI s false⟩:oH) n6) n:=fun tk=>by
  funext n;cases acc tk xJ n<;>rfl
 show pB S _ _ (fun n5=>(fun(neg:Bool)=>(uF S.tk 2 (if neg then n5+1 else n5)).bind fun s n6=>(.ok (⟨a,b,d,tI s neg⟩:oH) n6:PR oH)) (acc S.tk xJ n5)) (fun n5=>(fun(neg:Bool)=>(uF S.tk2 2 (if neg then n5+1 else n5)).bind fun s n6=>(.ok (⟨a,b,d,tI s neg⟩:oH) n6:PR oH)) (acc S.tk2 xJ n5))
 rw[e,e];exact pB.acc hv (w:=xJ) (by decide) (one true _) (one false _)
def dF.cpy(c:dF):Prop:=fA.cpy c.when_/\fA.cpy c.then_
def Nz:fA.cpy nR:=⟨⟨by simp[cJ,rH],by simp[cJ,rH]⟩,by simp,trivial⟩
def YN(hv:VW S):pB S H dF.cpy (vV S.tk) (vV S.tk2):=by
 have hx:∀H:Prop,pB S H fA.cpy (nS S.tk) (nS S.tk2):=fun H=>(LA hv).mono (fun _=>trivial) fun _ h=>h
 refine(Ht hv).bind hv fun a=>(Ht hv).bind hv fun b=>(eP hv).bind hv fun _=>(Nh hv).bind hv fun f=>(eP hv).bind hv fun _=>?_
 refine pB.bind hv (V:=fun _=>True) (f:=fun n5=>(if acc S.tk wEnd n5 then .ok 65536 (n5+1)else cM S.tk n5:PR Int)) (f2:=fun n5=>(if acc S.tk2 wEnd n5 then .ok 65536 (n5+1)else cM S.tk2 n5:PR Int)) (pB.acc hv (A:=fun n=>.ok 65536 n) (A2:=fun n=>.ok 65536 n) (by decide) (pB.ret fun _=>trivial) (Nh hv)) fun t=>?_
 refine(eP hv).bind hv fun _=>(Nh hv).bind hv fun k=>?_
 refine pB.acc hv (w:=wOff) (A:=fun n=>.ok (dF.mk a b f t k true nR nR) n) (A2:=fun n=>.ok (dF.mk a b f t k true nR nR) n) (by decide) (pB.ret fun _=>⟨Nz,Nz⟩) ?_
 exact(eP hv).bind hv fun _=>(hx _).bind hv fun x=>(eP hv).bind hv fun _=>(hx _).bind hv fun y=>pB.ret fun h=>⟨h.1.1.2,h.2⟩
def QF(hv:VW S):pB S H (fun x=>x.rows=[]) (Bq S.tk) (Bq S.tk2):=by
 refine(Ht hv).bind hv fun w=>?_
 exact pB.acc hv (w:=Gp) (A:=fun n=>.ok (bH.mk w true []) n) (A2:=fun n=>.ok (bH.mk w true []) n) (by decide) (pB.ret fun _=>rfl) ((eP hv).bind hv fun _=>pB.ret fun _=>rfl)
end
end
section
variable {p:Nat->Bool}{r s w:List Nat}{b k n:Nat}
def wZ(r:List Nat):Prop:=∀c r',r=c::r'->c=10\/c=32
def Wg  (hr:∀c r',r=c::r'->p c=false):∀s:List Nat,uD p (s++r)=uD p s:=by
 intro s;unfold uD;induction s with
 | nil=>
  cases r with
  | nil=>rfl
  | cons c r=>rw[yah,List.takeWhile_cons,hr c r rfl];rfl
 | cons x s ih=>rw[List.cons_append,List.takeWhile_cons,List.takeWhile_cons,ih]
def Vs  (hr:wZ r)(h1:p 10=false)(h2:p 32=false):∀c r',r=c::r'->p c=false:=by
 intro c r' e;rcases hr c r' e with rfl | rfl
 ·exact h1
 ·exact h2
def Wi (s:List Nat):(uD p s).length<=s.length:=(List.takeWhile_sublist p).length_le
def YG (hr:wZ r):bG (s++r)=bG s:=by
 by_cases h:10<=s.length
 ·unfold bG
  have e:∀i∈List.range 10,fK i ((s++r).getD i 0)=fK i (s.getD i 0):=fun i hi=>by
   rw[List.mem_range]at hi;rw[List.getD_eq_getElem?_getD,List.getD_eq_getElem?_getD,yco (by omega)]
  rw[show(List.range 10).all (fun i=>fK i ((s++r).getD i 0))=(List.range 10).all (fun i=>fK i (s.getD i 0)) from by
   rw[Bool.eq_iff_iff,ycb,ycb];exact⟨fun h i hi=>by rw[<- e i hi];exact h i hi,fun h i hi=>by rw[e i hi];exact h i hi⟩]
  rw[decide_eq_true h,decide_eq_true (by rw[ybg];omega)]
 ·have h1:bG s=false:=by unfold bG;rw[decide_eq_false h];rfl
  rw[h1];refine GN (i:=s.length) (by omega) ?_
  rw[List.getD_eq_getElem?_getD,ybp (ybk _),Nat.sub_self]
  cases r with
  | nil=>unfold fK;split<;>rfl
  | cons c r=>
   rcases hr c r rfl with rfl | rfl <;> (unfold fK;split<;>rfl)
def KJ (hr:wZ r) (hn:n<=s.length):xP (s++r) n=xP s n:=by
 unfold xP;by_cases h:n<s.length
 ·rw[yco h]
 ·have:n=s.length:=by omega
  subst this;rw[ybp (ybk _),Nat.sub_self,List.getElem?_eq_none (ybk _)]
  cases r with
  | nil=>rfl
  | cons c r=>rcases hr c r rfl with rfl | rfl<;>rfl
def Zm (hr:wZ r):bC (s++r)=bC s:=Wg (Vs hr rfl rfl) s
def NS (hr:wZ r) (hn:n<=s.length):((s++r)[n]?=some 47) ↔ s[n]?=some 47:=by
 by_cases h:n<s.length
 ·rw[yco h]
 ·have:n=s.length:=by omega
  subst this;rw[ybp (ybk _),Nat.sub_self,List.getElem?_eq_none (ybk _)]
  cases r with
  | nil=>simp
  | cons c r=>rcases hr c r rfl with rfl | rfl<;>simp
def EF (hr:wZ r):eE (s++r)=eE s:=by
 unfold eE;rw[Zm hr];have hl:(bC s).length<=s.length:=Wi s
 by_cases h:s[(bC s).length]?=some 47
 ·rw[yab ((NS hr hl).2 h),yab h]
  have:(bC s).length<s.length:=(ybc.1 h).1
  rw[List.drop_append_of_le_length (by omega)]
  exact Wg (Vs hr rfl rfl) _
 ·rw[yaa (fun e=>h ((NS hr hl).1 e)),yaa h]
def RU (h:eE s≠[]):s[(bC s).length]?=some 47/\eE s=uD pD (s.drop ((bC s).length+1)):=by
 have h2:s[(bC s).length]?=some 47:=by
  unfold eE at h;by_cases h2:s[(bC s).length]?=some 47
  ·exact h2
  ·rw[yaa h2]at h;exact absurd rfl h
 exact⟨h2,by unfold eE;rw[yab h2]⟩
def GK(s:List Nat):dE s<=s.length:=by
 have hl:(bC s).length<=s.length:=Wi s
 unfold dE;split
 ·exact hl
 ·rename_i h
  obtain⟨h2,e⟩:=RU h
  have:=(ybc.1 h2).1
  have:=Wi (p:=pD) (s.drop ((bC s).length+1))
  rw[ydj,<- e]at this;omega
def zbm  (hr:wZ r):vF ((b::s)++r)=vF (b::s):=by
 have e1:=Wg (p:=yJ) (Vs hr rfl rfl) (b::s)
 have e2:=YG (s:=b::s) hr
 have e3:dE ((b::s)++r)=dE (b::s):=by unfold dE;rw[EF hr,Zm hr]
 have e4:wI ((b::s)++r)=wI (b::s):=by unfold wI;rw[e3,KJ hr (GK _),EF hr,Zm hr]
 show(if gM b=true then _ else _)=if gM b=true then _ else _
 show(if gM b=true then(if 24<(uD yJ ((b::s)++r)).length then TR.bad 111 else .tok 1 (uD yJ ((b::s)++r)))else if (pD b&&bG ((b::s)++r))=true then(if pN ((b::s)++r)=true then .bad 113 else .tok 3 (((b::s)++r).take 10))else if pD b=true then(if wI ((b::s)++r)=true then .bad 112 else .tok 2 (((b::s)++r).take (dE ((b::s)++r))))else if Ml b=true then .tok 4 [b]else .bad 110)=_
 rw[e1,e2,e4,e3,List.take_append_of_le_length (GK _)]
 cases hd:bG (b::s)with
 | false=>simp only[yay,ybq,if_false]
 | true=>
  have h10:10<=(b::s).length:=by unfold bG at hd;simp only[ybb,decide_eq_true_eq]at hd;exact hd.1
  have e5:pN ((b::s)++r)=pN (b::s):=by
   unfold pN;rw[KJ hr h10,List.take_append_of_le_length h10];by_cases h:10<(b::s).length
   ·rw[decide_eq_true h,decide_eq_true (by rw[ybg];omega)]
   ·have h11:(b::s).length=10:=by omega
    have:xP (b::s) 10=false:=by unfold xP;rw[List.getElem?_eq_none (by omega)]
    rw[this,yay,yay]
  rw[e5,List.take_append_of_le_length h10]
def zhq   (h:vF s=.tok k w):∃r,s=w++r:=by
 unfold vF at h;split at h
 ·cases h
 ·rename_i b s
  split at h
  ·split at h
   ·cases h
   ·cases h;obtain⟨r,h,_⟩:=Lc (p:=yJ) (s:=b::s);exact⟨r,h⟩
  ·split at h
   ·split at h
    ·cases h
    ·cases h;exact⟨_,(List.take_append_drop 10 _).symm⟩
   ·split at h
    ·split at h
     ·cases h
     ·cases h;exact⟨_,(List.take_append_drop _ _).symm⟩
    ·split at h
     ·cases h;exact⟨s,rfl⟩
     ·cases h
def CE   (h:vF s=.tok k w):vF w=.tok k w:=by
 have h0:=h
 unfold vF at h;split at h
 ·cases h
 ·rename_i b s
  split at h
  ·rename_i hb
   split at h
   ·cases h
   ·rename_i h24
    injection h with h1 h2
    subst h1;have e:uD yJ w=w:=by
     have:=aX (p:=yJ) (a:=w) (r:=[]) (by rw[<- h2];exact Ld) (fun _ _ e=>by cases e)
     rwa [ycd]at this
    have hw:∃w',w=b::w':=by
     have:yJ b=true:=by unfold yJ;rw[hb];rfl
     rw[<- h2];unfold uD;rw[List.takeWhile_cons,this];exact⟨_,rfl⟩
    obtain⟨w',hw⟩:=hw
    rw[h2]at h24;rw[hw]at e ⊢ h24
    unfold vF;simp only[hb,if_true,e,yaa h24]
  ·rename_i hb
   split at h
   ·rename_i hd
    simp only[ybb]at hd;obtain⟨hd1,hd2⟩:=hd
    split at h
    ·cases h
    ·rename_i hbad
     injection h with h1 h2
     subst h1;have h10:10<=(b::s).length:=by unfold bG at hd2;simp only[ybb,decide_eq_true_eq]at hd2;exact hd2.1
     have hwl:w.length=10:=by rw[<- h2,yda];omega
     have hw:∃w',w=b::w':=⟨s.take 9,by rw[<- h2];rfl⟩
     have hdw:bG w=true:=by
      unfold bG at hd2 ⊢
      simp only[ybb,decide_eq_true_eq]at hd2 ⊢
      refine⟨by omega,?_⟩
      rw[ycb]at hd2 ⊢
      intro i hi;have:=hd2.2 i hi
      rw[List.mem_range]at hi;rw[List.getD_eq_getElem?_getD]at this ⊢
      rw[<- h2,List.getElem?_take_of_lt hi];exact this
     have hbw:¬ pN w=true:=by
      unfold pN at hbad ⊢
      rw[h2]at hbad;simp only[ycq,ybb,decide_eq_true_eq,not_or,not_and]at hbad ⊢
      refine⟨fun e=>by omega,?_⟩
      rw[yca (by omega)]
      exact hbad.2
     have htk:w.take 10=w:=yca (by omega)
     obtain⟨w',hw⟩:=hw
     rw[hw]at hdw hbw htk ⊢
     unfold vF;simp only[yaa hb,hd1,hdw,Bool.and_self,if_true,yaa hbw,htk]
   ·rename_i hd
    split at h
    ·rename_i hdg
     split at h
     ·cases h
     ·rename_i hbad
      injection h with h1 h2
      subst h1;obtain⟨q,hq1,hq2⟩:=Lc (p:=pD) (s:=b::s)
      change b::s=bC (b::s)++q at hq1
      have hall:∀x∈bC (b::s),pD x=true:=Ld
      have hfb:∃f',bC (b::s)=b::f':=by unfold bC uD;rw[List.takeWhile_cons,hdg];exact⟨_,rfl⟩
      generalize hf:bC (b::s)=f at hq1 hall hfb
      unfold wI at hbad;simp only[ycq,decide_eq_true_eq,not_or]at hbad;obtain⟨⟨⟨⟨n1,n2⟩,n3⟩,n4⟩,n5⟩:=hbad
      rw[hf]at n3;by_cases hsec:eE (b::s)=[]
      ·have hl:dE (b::s)=f.length:=by unfold dE;rw[yab hsec,hf]
       have hw:w=f:=by rw[<- h2,hl,hq1,Ow]
       subst hw;have hff:bC w=w:=by
        have:=aX (p:=pD) (a:=w) (r:=[]) hall (fun _ _ e=>by cases e)
        rwa [ycd]at this
       have hs2:eE w=[]:=by unfold eE;rw[hff,List.getElem?_eq_none (ybk _),yaa (by simp)]
       have hl2:dE w=w.length:=by unfold dE;rw[yab hs2,hff]
       have hdt:bG w=false:=GU fun x hx=>(Zz (hall x hx)).2.2.2.2.1
       have hnb:¬ wI w=true:=by
        unfold wI;simp only[ycq,decide_eq_true_eq,not_or];rw[hl2,hs2,hff];refine⟨⟨⟨⟨by omega,?_⟩,n3⟩,by decide⟩,by decide⟩
        unfold xP;rw[List.getElem?_eq_none (ybk _)]
        simp
       have htk:w.take w.length=w:=List.take_length
       obtain⟨w',hw⟩:=hfb
       rw[hw]at hnb hdt hl2 htk ⊢
       unfold vF;simp only[yaa hb,hdg,hdt,yay,if_true,yaa hnb,hl2,htk];simp
      ·have hsl:(b::s)[f.length]?=some 47:=by
        unfold eE at hsec;rw[hf]at hsec;by_cases h47:(b::s)[f.length]?=some 47
        ·exact h47
        ·rw[yaa h47]at hsec;exact absurd rfl hsec
       rw[hq1,Rv]at hsl;obtain⟨q',rfl⟩:∃q',q=47::q':=by
        cases q with
        | nil=>cases hsl
        | cons x q=>cases hsl;exact⟨q,rfl⟩
       have hs2:eE (b::s)=uD pD q':=by
        unfold eE;rw[hf,hq1,Rv,yab (show(47::q').head?=some 47 from rfl),Sg]
       obtain⟨q2,hg1,hg2⟩:=Lc (p:=pD) (s:=q')
       have hga:∀x∈uD pD q',pD x=true:=Ld
       rw[hs2]at n4 n5 hsec;have hl:dE (b::s)=f.length+1+(uD pD q').length:=by unfold dE;rw[hs2,yaa hsec,hf]
       generalize hgg:uD pD q'=g at *
       have hw:w=f++47::g:=by
        rw[<- h2,hl,hq1,hg1];rw[show f++47::(g++q2)=(f++47::g)++q2 by simp]
        have:f.length+1+g.length=(f++47::g).length:=by simp;omega
        rw[this,Ow]
       have hff:bC w=f:=by rw[hw];exact aX hall (fun x _ e=>by cases e;rfl)
       have hs3:eE w=g:=by
        unfold eE;rw[hff,hw,Rv,yab (show(47::g).head?=some 47 from rfl),Sg]
        have:=aX (p:=pD) (a:=g) (r:=[]) hga (fun _ _ e=>by cases e)
        rwa [ycd]at this
       have hl2:dE w=w.length:=by unfold dE;rw[hs3,yaa hsec,hff,hw];simp;omega
       have hll:w.length=f.length+1+g.length:=by rw[hw];simp;omega
       have hdt:bG w=false:=GU fun x hx=>by
        rw[hw]at hx;rcases yaf.1 hx with hx | hx
        ·exact(Zz (hall x hx)).2.2.2.2.1
        ·rcases ybs.1 hx with rfl | hx
         ·omega
         ·exact(Zz (hga x hx)).2.2.2.2.1
       have hnb:¬ wI w=true:=by
        unfold wI;simp only[ycq,decide_eq_true_eq,not_or];rw[hl2,hs3,hff];refine⟨⟨⟨⟨by omega,?_⟩,n3⟩,n4⟩,n5⟩
        unfold xP;rw[List.getElem?_eq_none (ybk _)]
        simp
       have htk:w.take w.length=w:=List.take_length
       obtain⟨f',hf'⟩:=hfb
       have hwb:∃w',w=b::w':=⟨f'++47::g,by rw[hw,hf'];rfl⟩
       clear hw hff hs3
       obtain⟨w',hw⟩:=hwb
       subst hw;unfold vF;simp only[yaa hb,hdg,hdt,yay,if_true,yaa hnb,hl2,htk];simp
    ·split at h
     ·rename_i hdg hsg
      injection h with h1 h2
      subst h1 h2
      have:(pD b&&bG [b])=false:=by simp[hdg]
      unfold vF;simp only[yaa hb,this,yaa hdg,hsg,if_true];simp
     ·cases h
def PX   (h:vF s=.tok k w)(hr:wZ r):vF (w++r)=.tok k w:=by
 have h1:=CE h
 cases w with
 | nil=>exact absurd (Bn h).1 (by simp)
 | cons b w=>rw[zbm hr];exact h1
def zbo    (h:vF (b::r)=.tok k w):b≠10/\b≠32/\b≠9/\b≠35:=by
 refine⟨?_,?_,?_,?_⟩ <;> (rintro rfl;unfold vF at h;simp[gM,pD,Ml]at h)
end
section
variable {r s:List Nat}{o:Bool}{b:Nat}
abbrev rV:=Nat × List Nat
def kt (t:wC):rV:=(t.kind,t.text)
def ktR:LR->Option (List rV)
 | .ok l=>some (l.map kt)
 | .er _ _ _=>none
def jM:Nat->List Nat->Bool->Option (List rV)
 | 0,_,_=>some []
 | _+1,[],o=>some (if o=true then [(5,[])]else [])
 | k+1,b::r,o=>
  if b=10 then(jM k r false).map fun l=>if o=true then(5,[])::l else l
  else if b=32\/b=9 then jM k r o
  else if b=35 then jM k ((b::r).drop (uD (fun x=>decide (x≠10)) (b::r)).length) o
  else match vF (b::r)with
   | .bad _=>none
   | .tok kd w=>(jM k ((b::r).drop w.length) true).map fun l=>(kd,w)::l
def zjf:∀(k:Nat) (s:List Nat) (ln cl:Nat) (op:Option (Nat × Nat)),ktR (iM k s ln cl op)=jM k s op.isSome:=by
 have cons:∀(t:wC) (r:LR),ktR (r.cons t)=(ktR r).map fun l=>kt t::l:=fun t r=>by cases r<;>rfl
 have close:∀(op:Option (Nat × Nat)) (r:LR),ktR (LR.close op r)=(ktR r).map fun l=>if op.isSome=true then(5,[])::l else l:=fun op r=>by
  cases op with
  | none=>cases r<;>rfl
  | some p=>exact cons _ r
 intro k;induction k with
 | zero=>intro s ln cl op;rfl
 | succ k ih=>
  intro s ln cl op
  cases s with
  | nil=>rw[iM,close];rfl
  | cons b r=>
   rw[iM,jM];split
   ·rw[close,ih];rfl
   split
   ·exact ih _ _ _ _
   split
   ·exact ih _ _ _ _
   ·cases vF (b::r)with
    | bad e=>rfl
    | tok kd w=>exact(cons _ _).trans (by rw[ih];rfl)
def VK:∀(k k':Nat) (s:List Nat) (o:Bool),s.length<k->s.length<k'->jM k s o=jM k' s o:=by
 intro k;induction k with
 | zero=>intro k' s o h;omega
 | succ k ih=>
  intro k' s o h h';obtain⟨k',rfl⟩:∃m,k'=m+1:=⟨k'-1,by omega⟩
  cases s with
  | nil=>rfl
  | cons b r=>
   simp only[ybn]at h h'
   rw[jM,jM];split
   ·rw[ih k' r false (by omega) (by omega)]
   split
   ·rw[ih k' r o (by omega) (by omega)]
   split
   ·rename_i h35
    have:0<(uD (fun x=>decide (x≠10)) (b::r)).length:=by
     unfold uD;rw[List.takeWhile_cons,h35];simp
    rw[ih k' _ o (by rw[ydj,ybn];omega) (by rw[ydj,ybn];omega)]
   ·cases ht:vF (b::r)with
    | bad e=>rfl
    | tok kd w=>
     have:=(Bn ht).1
     show(jM k _ true).map _=(jM k' _ true).map _
     rw[ih k' _ true (by rw[ydj,ybn];omega) (by rw[ydj,ybn];omega)]
def xL (s:List Nat)(o:Bool):Option (List rV):=jM (s.length+1) s o
def Rg{k:Nat}  (h:s.length<k):jM k s o=xL s o:=VK _ _ _ _ h (by omega)
def zc6  : xL [] o=some (if o=true then [(5,[])]else []):=rfl
def HK   : xL (10::r) o=(xL r false).map fun l=>if o=true then(5,[])::l else l:=by
 unfold xL;rw[jM,yab rfl];rfl
def HL   (h:b=32\/b=9):xL (b::r) o=xL r o:=by
 unfold xL;rw[jM,yaa (by omega),yab h];rfl
def zc7   : xL (35::r) o=xL ((35::r).drop (uD (fun x=>decide (x≠10)) (35::r)).length) o:=by
 rw[<- Rg (k:=(35::r).length+1) (by omega),jM,yaa (by omega),yaa (by omega),yab rfl]
 refine Rg ?_
 have:0<(uD (fun x=>decide (x≠10)) (35::r)).length:=by unfold uD;rw[List.takeWhile_cons];simp
 rw[ydj,ybn];omega
def HJ {w:List Nat}{kd:Nat} (h:vF (b::r)=.tok kd w):xL (b::r) o=(xL ((b::r).drop w.length) true).map fun l=>(kd,w)::l:=by
 obtain⟨h1,h2,h3,h4⟩:=zbo h
 have:=(Bn h).1
 rw[<- Rg (k:=(b::r).length+1) (by omega),jM,yaa h1,yaa (by omega),yaa h4,h]
 show(jM _ _ true).map _=_
 rw[Rg (by rw[ydj,ybn];omega)]
def zc8  {e:Nat} (h1:b≠10)(h2:b≠32)(h3:b≠9)(h4:b≠35)(h:vF (b::r)=.bad e):xL (b::r) o=none:=by
 unfold xL;rw[jM,yaa h1,yaa (by omega),yaa h4,h]
def VH{M:List Nat->Prop}(h0:M [])(h1:∀r,M r->M (10::r))(h2:∀b r,b=32\/b=9->M r->M (b::r))
  (h3:∀r,M ((35::r).drop (uD (fun x=>decide (x≠10)) (35::r)).length)->M (35::r))
  (h4:∀b r kd w,vF (b::r)=.tok kd w->M ((b::r).drop w.length)->M (b::r))
  (h5:∀b r e,b≠10->b≠32->b≠9->b≠35->vF (b::r)=.bad e->M (b::r)):∀s,M s:=by
 have key:∀(n:Nat) (s:List Nat),s.length<=n->M s:=by
  intro n;induction n with
  | zero=>
   intro s hs;have:s=[]:=ycc.1 (by omega)
   subst this;exact h0
  | succ n ih=>
   intro s hs
   cases s with
   | nil=>exact h0
   | cons b r=>
    simp only[ybn]at hs;by_cases a1:b=10
    ·subst a1;exact h1 r (ih r (by omega))
    by_cases a2:b=32\/b=9
    ·exact h2 b r a2 (ih r (by omega))
    by_cases a3:b=35
    ·subst a3
     refine h3 r (ih _ ?_)
     have:0<(uD (fun x=>decide (x≠10)) (35::r)).length:=by unfold uD;rw[List.takeWhile_cons];simp
     rw[ydj,ybn];omega
    cases ht:vF (b::r)with
    | bad e=>exact h5 b r e a1 (by omega) (by omega) a3 ht
    | tok kd w=>
     refine h4 b r kd w ht (ih _ ?_)
     have:=(Bn ht).1
     rw[ydj,ybn];omega
 exact fun s=>key _ s (ybk _)
def fP:Bool->List rV->List Nat
 | _,[]=>[]
 | o,t::l=>if t.1=5 then 10::fP false l else(if o=true then 32::t.2 else t.2)++fP true l
def JJ:∀(l:List wC) (o:Bool),qK o l=fP o (l.map kt):=by
 intro l;induction l with
 | nil=>intro o;rfl
 | cons t l ih=>intro o;rw[qK,ycm,fP,ih,ih];rfl
def qY:Bool->List rV->Prop
 | _,[]=>True
 | o,t::l=>if t.1=5 then o=true/\t.2=[]/\qY false l else vF t.2=.tok t.1 t.2/\qY true l
def An:Bool->List rV->Bool
 | o,[]=>o
 | _,t::l=>An (!decide (t.1=5)) l
def WC{l:List rV}(h:qY true l):wZ (fP true l):=by
 intro c r e
 cases l with
 | nil=>cases e
 | cons t l=>
  rw[fP]at e;split at e
  ·cases e;exact .inl rfl
  ·rw[yab rfl]at e;cases e;exact .inr rfl
def VI:∀(l:List rV) (o:Bool),qY o l->xL (fP o l) o=some (l++if An o l=true then [(5,[])]else []):=by
 intro l;induction l with
 | nil=>intro o _;rfl
 | cons t l ih=>
  intro o h;obtain⟨k,w⟩:=t
  rw[qY]at h;rw[fP];by_cases h5:k=5
  ·rw[yab h5]at h ⊢
   obtain⟨rfl,h2,h3⟩:=h
   have h2:w=[]:=h2
   subst h5 h2
   rw[HK,ih _ h3];rfl
  ·rw[yaa h5]at h ⊢
   obtain⟨h1,h2⟩:=h
   have h1:vF w=.tok k w:=h1
   have hs:=PX h1 (WC h2)
   have hlen:=(Bn h1).1
   obtain⟨b,w',rfl⟩:∃b w',w=b::w':=by cases w with | nil=>cases hlen | cons b w'=>exact⟨b,w',rfl⟩
   have key:xL ((b::w')++fP true l) o=some ((k,b::w')::l++if An true l=true then [(5,[])]else []):=by
    have hs:vF (b::(w'++fP true l))=.tok k (b::w'):=hs
    rw[List.cons_append,HJ hs,<- List.cons_append,zdv,ih _ h2];rfl
   have he:An o ((k,b::w')::l)=An true l:=by rw[An];simp[h5]
   rw[he]
   cases o with
   | true=>
    show xL (32::((b::w')++fP true l)) true=_
    rw[HL (.inl rfl)];exact key
   | false=>exact key
def VJ:∀(s:List Nat) (o:Bool) (l:List rV),xL s o=some l->qY o l/\An o l=false/\(fP o l).length<=2*s.length+(if o=true then 1 else 0)/\(∀t∈l,∀b∈t.2,b∈s)/\l.length<=2*s.length+(if o=true then 1 else 0):=by
 refine VH ?_ ?_ ?_ ?_ ?_ ?_
 ·intro o l h
  rw[zc6]at h
  cases h
  cases o
  ·exact⟨trivial,rfl,by simp[fP],by simp,by simp⟩
  ·exact⟨⟨rfl,rfl,trivial⟩,rfl,by simp[fP],by simp,by simp⟩
 ·intro r ih o l h
  rw[HK]at h
  cases hr:xL r false with
  | none=>rw[hr]at h;cases h
  | some m=>
   rw[hr]at h;obtain⟨g1,g2,g3,g4,g5⟩:=ih false m hr
   cases o with
   | false=>
    cases h;exact⟨g1,g2,by simp at g3 ⊢;omega,fun t ht b hb=>ybr _ (g4 t ht b hb),by simp at g5 ⊢;omega⟩
   | true=>
    cases h;refine⟨⟨rfl,rfl,g1⟩,g2,?_,fun t ht b hb=>?_,by simp at g5 ⊢;omega⟩
    ·show(10::fP false m).length<=_
     simp at g3 ⊢;omega
    ·rcases ybs.1 ht with rfl | ht
     ·cases hb
     ·exact ybr _ (g4 t ht b hb)
 ·intro c r hc ih o l h
  rw[HL hc]at h;obtain⟨g1,g2,g3,g4,g5⟩:=ih o l h
  exact⟨g1,g2,by simp;omega,fun t ht b hb=>ybr _ (g4 t ht b hb),by simp;omega⟩
 ·intro r ih o l h
  rw[zc7]at h;obtain⟨g1,g2,g3,g4,g5⟩:=ih o l h
  rw[ydj]at g3 g5;exact⟨g1,g2,by omega,fun t ht b hb=>List.mem_of_mem_drop (g4 t ht b hb),by omega⟩
 ·intro c r kd w ht ih o l h
  rw[HJ ht]at h
  cases hr:xL ((c::r).drop w.length) true with
  | none=>rw[hr]at h;cases h
  | some m=>
   rw[hr]at h
   cases h;obtain⟨g1,g2,g3,g4,g5⟩:=ih true m hr
   obtain⟨f1,_,_,f5⟩:=Bn ht
   obtain⟨r',hr'⟩:=zhq ht
   have hl:w.length<=(c::r).length:=by rw[hr'];simp
   rw[ydj]at g3 g5;simp only[if_true]at g3 g5;refine⟨by rw[qY,yaa f5];exact⟨CE ht,g1⟩,by rw[An];simpa[f5]using g2,?_,fun t ht' b hb=>?_,?_⟩
   ·rw[fP,yaa f5]
    cases o<;>simp<;>simp only[ybn]at *<;>omega
   ·rcases ybs.1 ht' with rfl | ht'
    ·rw[hr'];exact ydc _ hb
    ·exact List.mem_of_mem_drop (g4 t ht' b hb)
   ·cases o<;>simp<;>simp only[ybn]at *<;>omega
 ·intro c r e a1 a2 a3 a4 ht o l h
  rw[zc8 a1 a2 a3 a4 ht]at h;cases h
def Zc:∀ {l:List rV} {o:Bool},qY o l->∀x∈l,x.1≠5->vF x.2=.tok x.1 x.2
 | [],_,_,x,hx,_=>by cases hx
 | t::l,o,h,x,hx,h5=>by
  rw[qY]at h;rcases ybs.1 hx with rfl | hx
  ·rw[yaa h5]at h;exact h.1
  ·split at h
   ·exact Zc h.2.2 x hx h5
   ·exact Zc h.2 x hx h5
def HN(s:List Nat):ktR (Cj s)=xL s false:=zjf _ _ _ _ _
def zjd {l:List rV}(h:xL s false=some l):∃m,Cj s=.ok m/\m.map kt=l:=by
 have e:=HN s
 rw[h]at e
 cases hl:Cj s with
 | ok m=>rw[hl]at e;exact⟨m,rfl,yci e⟩
 | er a b c=>rw[hl]at e;cases e
def zje {m:List wC}(h:Cj s=.ok m):xL s false=some (m.map kt):=by rw[<- HN,h];rfl
end
section
structure Cg (tk tk':List wC):Prop where
 acc:acc tk=acc tk'
 kind:wE tk=wE tk'
 text:aF tk=aF tk'
 len:tk.length=tk'.length
def cg_of{tk tk':List wC}(h:tk.map kt=tk'.map kt):Cg tk tk':=by
 have e:∀n,(tk[n]?).map kt=(tk'[n]?).map kt:=fun n=>by rw[<- ybu,h,ybu]
 refine⟨?_,?_,?_,by rw[<- ybf (f:=kt),h,ybf]⟩
 ·funext w n
  have:=e n
  unfold Proofs.acc
  cases h1:tk[n]?<;>cases h2:tk'[n]?<;>rw[h1,h2]at this<;>simp[kt]at this
  rename_i a b;show((decide (a.kind=1)||decide (a.kind=4))&&oG a.text w)=((decide (b.kind=1)||decide (b.kind=4))&&oG b.text w)
  rw[this.1,this.2]
 ·funext q n
  have:=e n
  unfold wE
  cases h1:tk[n]?<;>cases h2:tk'[n]?<;>rw[h1,h2]at this<;>simp[kt]at this
  rename_i a b;show decide (a.kind=q)=decide (b.kind=q)
  rw[this.1]
 ·funext n
  have:=e n
  unfold aF
  cases h1:tk[n]?<;>cases h2:tk'[n]?<;>rw[h1,h2]at this<;>simp[kt]at this
  exact this.2
section
variable {tk tk':List wC}(h:Cg tk tk')
include h
def Ed(k:Nat):uF tk k=uF tk' k:=by funext n;unfold uF;rw[h.kind,h.text]
def zR(w:List Nat):iE tk w=iE tk' w:=by funext n;unfold iE;rw[h.acc]
def JO:qM tk=qM tk':=by funext n;unfold qM;rw[h.kind,h.text]
def Hu:uJ tk=uJ tk':=by funext n;unfold uJ;rw[JO h,h.text]
def AG:cM tk=cM tk':=by funext n;unfold cM;rw[Ed h]
def MW(f:Nat->List Nat)(m:Nat):wK tk f m=wK tk' f m:=by
 funext k
 induction k with
 | zero=>rfl
 | succ k ih=>funext i n;rw[wK,wK,ih,h.acc]
def GA(l:List (List Nat × Nat)):aI tk l=aI tk' l:=by funext n;unfold aI;rw[h.acc]
def zd9(o:PM fA)(l:List (List Nat × Nat)):aM tk o l=aM tk' o l:=by
 funext m
 induction m with
 | zero=>rfl
 | succ m ih=>funext x n;rw[aM,aM,ih,GA h]
def So(o:PM fA)(l:List (List Nat × Nat)):xR tk o l=xR tk' o l:=by funext n;unfold xR;rw[zd9 h,h.len]
def sumP_c(o:PM fA):jV tk o=jV tk' o:=by unfold jV Lk;rw[So h,So h]
def zkq(o:PM fA):Au tk o=Au tk' o:=by funext n;unfold Au;rw[sumP_c h,GA h]
def ziv:jL tk=jL tk':=by
 funext m
 induction m with
 | zero=>rfl
 | succ m ih=>funext n;rw[jL,jL,ih,h.acc]
def LH(o:PM fA):wP tk o=wP tk' o:=by
 have:yY tk o=yY tk' o:=by funext n;unfold yY;rw[zkq h,ziv h,h.len]
 unfold wP Iu;rw[So h,So h,this]
def zkz(o:PM fA)(op:Nat):jS tk o op=jS tk' o op:=by funext n;unfold jS;rw[Hu h,zR h]
def FG(b:Bool):zK tk b=zK tk' b:=by funext n;unfold zK;rw[Ed h,h.acc]
def MH:bW tk=bW tk':=by funext n;unfold bW;rw[Ed h,h.acc,h.kind,AG h,FG h,FG h]
def ziz(e:PM fA):pU tk e=pU tk' e:=by
 funext k
 induction k with
 | zero=>rfl
 | succ k ih=>funext l n;rw[pU,pU,ih,zR h]
def zic(e:PM fA):mQ tk e=mQ tk' e:=by
 funext k
 induction k with
 | zero=>rfl
 | succ k ih=>funext l n;rw[mQ,mQ,ih,h.acc]
def zku(e:PM fA):lS tk e=lS tk' e:=by funext n;unfold lS;rw[h.acc,Hu h,ziz h,zic h,MW h,zR h,zR h,zR h]
def zdi(o:PM fA):sS tk o=sS tk' o:=by funext n;unfold sS;rw[MH h,LH h,h.acc,zR h,zkz h,zkz h,zkz h,JO h,zku h]
def TV:aN tk=aN tk':=by
 funext k
 induction k with
 | zero=>rfl
 | succ k ih=>funext n;rw[aN,aN,ih,zdi h]
def LC:nS tk=nS tk':=by unfold nS;rw[LH h,TV h]
def GF:Et tk=Et tk':=by funext n;unfold Et;rw[Ed h,h.len]
def topE_c:oJ tk=oJ tk':=by unfold oJ;rw[LC h,GF h]
def topV_c:pJ tk=pJ tk':=by unfold pJ;rw[MH h,GF h]
def zgo(b:Bool):yV tk b=yV tk' b:=by funext n;unfold yV;rw[Hu h,MW h]
def keyP_c:bQ tk=bQ tk':=by funext n;unfold bQ;rw[h.acc,h.kind,h.text]
def rowP_c(b:Bool):eV tk b=eV tk' b:=by funext n;unfold eV;rw[keyP_c h,zR h,zR h,AG h,Ed h,h.acc]
def zap:vV tk=vV tk':=by funext n;unfold vV;rw[Hu h,zR h,zR h,zR h,zR h,zR h,AG h,h.acc,LC h]
def zbs:Bq tk=Bq tk':=by funext n;unfold Bq;rw[Hu h,zR h,h.acc]
def zja(p:zG):wW tk p=wW tk' p:=by funext n;unfold wW;rw[h.acc,zgo h,zgo h,zbs h,rowP_c h,zap h]
def zc3:uT tk=uT tk':=by
 funext m
 induction m with
 | zero=>rfl
 | succ m ih=>funext p n;rw[uT,uT,ih,h.len,zja h,Ed h]
def topP_c:wJ tk=wJ tk':=by unfold wJ;rw[zR h,Hu h,Ed h,zc3 h,h.len]
end
end
section
variable {n n':Nat}{p:zG}
def VP.same(tk:List wC):VP:=⟨tk,tk,0,tk.length,False,False⟩
def zct{tk:List wC}{w:List Nat} (h:tk.length<=n):acc tk w n=false:=by unfold acc;rw[List.getElem?_eq_none h]
def GS{tk:List wC}{q:Nat}(h:tk.length<=n):wE tk q n=false:=by unfold wE;rw[List.getElem?_eq_none h]
theorem VW.same{tk:List wC}(hg:∀x∈tk,dX x):VW (VP.same tk) where
 acc:=fun _ _ _=>rfl
 kind:=fun _ _ _=>rfl
 text:=fun _ _=>rfl
 qacc:=fun w _=>zct (ybk _)
 qkind:=fun q _=>GS (ybk _)
 qname:=by
  have:=GS (tk:=tk) (q:=1) (ybk _)
  unfold qM;exact(congrArg (· && _) this).trans rfl
 full:=fun h=>h.elim
 good:=hg
section
variable {tk:List wC}(hg:∀x∈tk,dX x)
include hg
def Dw{α:Type}{V:α->Prop}{f:PM α}(h:VW (VP.same tk)->pB (VP.same tk) True V f f) {a:α}(hr:f n=.ok a n'):n<=n'/\NE tk n n'/\V a:=by
 have:=((h (VW.same hg)).ra trivial n).mo
 rw[hr]at this;exact this
def zbk{x:fA} (h:oJ tk=.ok x n):fA.cpy x:=by
 unfold oJ at h;obtain⟨y,n1,h1,h2⟩:=PR.bind_inv h
 obtain⟨u,n2,h3,h4⟩:=PR.bind_inv h2
 cases h4;exact(Dw hg (fun hv=>LA hv) h1).2.2
def zbi{x:mF} (h:pJ tk=.ok x n):mF.cpy x:=by
 unfold pJ at h;obtain⟨y,n1,h1,h2⟩:=PR.bind_inv h
 have hv:=(Dw hg (fun hv=>MG hv) h1).2.2
 cases y with
 | none=>cases h2
 | some v=>
  obtain⟨u,n2,h3,h4⟩:=PR.bind_inv h2
  cases h4;exact hv
structure PBd (p:zG) (n:Nat):Prop where
 defs:p.defs.length<=n
 tables:p.tables.length<=n
 clauses:p.clauses.length<=n
 rows:∀x∈p.tables,x.rows.length<=n/\∀r∈x.rows,jH.cpy r.f
 exprs:∀x∈p.clauses,dF.cpy x
omit hg in
theorem PBd.mono  (h:PBd p n)(hn:n<=n'):PBd p n':=
 ⟨by have:=h.defs;omega,by have:=h.tables;omega,by have:=h.clauses;omega,fun x hx=>⟨by have:=(h.rows x hx).1;omega,(h.rows x hx).2⟩,h.exprs⟩
def zi8{p':zG} (h:PBd p n)(hr:wW tk p n=.ok p' n'):n<n'/\PBd p' n':=by
 unfold wW at hr;split at hr
 ·obtain⟨d,n1,h1,h2⟩:=PR.bind_inv hr
  have:=(Dw hg (fun hv=>LX hv) h1).1
  cases h2;have k:=h.mono (n':=n') (by omega)
  exact⟨by omega,by have:=h.defs;simp;omega,k.tables,k.clauses,k.rows,k.exprs⟩
 split at hr
 ·obtain⟨d,n1,h1,h2⟩:=PR.bind_inv hr
  have:=(Dw hg (fun hv=>LX hv) h1).1
  cases h2;have k:=h.mono (n':=n') (by omega)
  exact⟨by omega,by have:=h.defs;simp;omega,k.tables,k.clauses,k.rows,k.exprs⟩
 split at hr
 ·obtain⟨d,n1,h1,h2⟩:=PR.bind_inv hr
  have hd:=Dw hg (fun hv=>QF hv) h1
  cases h2;have k:=h.mono (n':=n') (by omega)
  refine⟨by omega,k.defs,by have:=h.tables;simp;omega,k.clauses,fun x hx=>?_,k.exprs⟩
  rcases yaf.1 hx with hx | hx
  ·exact k.rows x hx
  ·simp at hx;subst hx
   have h0:x.rows=[]:=hd.2.2
   rw[h0];exact⟨by simp,by simp⟩
 split at hr
 ·rename_i hrow
  simp only[ybb,ycp,List.isEmpty_eq_false_iff]at hrow;obtain⟨d,n1,h1,h2⟩:=PR.bind_inv hr
  have hd:=Dw hg (fun hv=>zcg hv) h1
  cases h2;have k:=h.mono (n':=n') (by omega)
  obtain⟨A,x,hA⟩:∃A x,p.tables=A++[x]:=⟨p.tables.dropLast,p.tables.getLast hrow.1,(List.dropLast_concat_getLast hrow.1).symm⟩
  have e:tX p.tables d=A++[⟨x.name,x.two,x.rows++[d]⟩]:=by rw[hA];simp[tX]
  refine⟨by omega,k.defs,?_,k.clauses,fun y hy=>?_,k.exprs⟩
  ·show(tX p.tables d).length<=n'
   have:=k.tables
   rw[e];rw[hA]at this;simpa using this
  ·have hy:y∈tX p.tables d:=hy
   rw[e]at hy;rcases yaf.1 hy with hy | hy
   ·exact k.rows y (by rw[hA];simp[hy])
   ·simp at hy;subst hy
    have hx:=h.rows x (by rw[hA];simp)
    refine⟨by have:=hx.1;simp;omega,fun r hr=>?_⟩
    rcases yaf.1 hr with hr | hr
    ·exact hx.2 r hr
    ·simp at hr;subst hr;exact hd.2.2
 split at hr
 ·obtain⟨d,n1,h1,h2⟩:=PR.bind_inv hr
  have hd:=Dw hg (fun hv=>YN hv) h1
  cases h2;have k:=h.mono (n':=n') (by omega)
  refine⟨by omega,k.defs,k.tables,by have:=h.clauses;simp;omega,k.rows,fun x hx=>?_⟩
  rcases yaf.1 hx with hx | hx
  ·exact k.exprs x hx
  ·simp at hx;subst hx;exact hd.2.2
 ·cases hr
def zc1:∀(m:Nat) (p p':zG) (n n':Nat),PBd p n->n<=tk.length->uT tk m p n=.ok p' n'->n'<=tk.length/\PBd p' n':=by
 intro m;induction m with
 | zero=>intro p p' n n' h hn hr;cases hr;exact⟨hn,h⟩
 | succ m ih=>
  intro p p' n n' h hn hr;unfold uT at hr;split at hr
  ·obtain⟨q,n1,h1,h2⟩:=PR.bind_inv hr
   obtain⟨w,n2,h3,h4⟩:=PR.bind_inv h2
   obtain⟨k1,k2⟩:=zi8 hg h h1
   have h5:n2<=tk.length/\n1<=n2:=by
    unfold uF at h3;split at h3
    ·rename_i hk
     cases h3;unfold wE at hk
     cases hx:tk[n1]? with
     | none=>rw[hx]at hk;cases hk
     | some t=>have:=(ybc.1 hx).1;omega
    ·cases h3
   exact ih _ _ _ _ (k2.mono h5.2) h5.1 h4
  ·cases hr;exact⟨hn,h⟩
def zbj(hl:tk.length<300000)  (h:wJ tk=.ok p n):zG.cpy p:=by
 unfold wJ at h;obtain⟨u,n1,h1,h2⟩:=PR.bind_inv h
 obtain⟨w,n2,h3,h4⟩:=PR.bind_inv h2
 obtain⟨v,n3,h5,h6⟩:=PR.bind_inv h4
 have h7:n3<=tk.length:=by
  unfold uF at h5;split at h5
  ·rename_i hk
   cases h5;unfold wE at hk
   cases hx:tk[n2]? with
   | none=>rw[hx]at hk;cases hk
   | some t=>have:=(ybc.1 hx).1;omega
  ·cases h5
 obtain⟨k1,k2⟩:=zc1 hg _ _ _ _ _ ⟨by simp,by simp,by simp,by simp,by simp⟩ h7 h6
 exact⟨by have:=k2.defs;omega,by have:=k2.tables;omega,by have:=k2.clauses;omega,fun x hx=>⟨by have:=(k2.rows x hx).1;omega,(k2.rows x hx).2⟩,k2.exprs⟩
end
end
section
variable {K:zH->zH->Int->T}{cs ds:List zA}{m:List wC}
variable [fC]
def RP.err{α:Type}:RP α->Nat | .ok _=>0 | .er e _ _=>e
def RP.pl{α:Type}:RP α->Nat × Nat | .ok _=>(0,0) | .er _ a b=>(a,b)
def RP.val{α:Type}(z:α):RP α->α | .ok x=>x | .er _ _ _=>z
def uM (p:Nat × Nat):List zA:=[.int .i64 (p.1:Int),.int .i64 (p.2:Int)]
def Fs:zG:=⟨[],[],[],[]⟩
def Lx{t:Tr vA}{sz:Nat}:aA t sz [] .nilslice:=⟨[],.inl ⟨rfl,rfl⟩,sF.2 rfl⟩
def LQ{t:Tr vA}:RD t Fs.d zP:=
 dJ.2 ⟨[[.str []],[.nilslice],[.nilslice],[.nilslice]],rfl,aC.2 ⟨_,_,rfl,cK.2 rfl,aC.2 ⟨_,_,rfl,tP.2 ⟨_,rfl,Lx⟩,aC.2 ⟨_,_,rfl,tP.2 ⟨_,rfl,Lx⟩,aC.2 ⟨_,_,rfl,tP.2 ⟨_,rfl,Lx⟩,sF.2 rfl⟩⟩⟩⟩⟩
def za8{t:Tr vA}:RD t cJ.d zV:=Hv Lx Lx
def agPl{p:Nat × Nat}:nK nL (.agg (uM p))=some (cellsOf (uM p)):=uO rfl
section
variable {t:Tr vA}{Q:qB}{s:List Nat}{J:wF}
def Xe (hg:bI t)(hby:∀b∈s,b<256)
  (hQ:∀t' cs,bA t t'->RD t' ((xE wJ s).val Fs).d cs->rA yA.base (Wq yA F mB) J (K (cellsOf cs) (cellsOf (uM (xE wJ s).pl)) ((xE wJ s).err:Int)) t' Q) :
  rA yA.base (Wq yA F mB) J (.call 10 [.str s] fun a=>.opt (uX 0 a)<|uG Gl fun X2=>.opt (uX 1 a)<|uG nL fun X=>.opt (uX 2 a)<|uI fun n=>.ite (yE (uM3 X2)) (.ite true (K X2 X n) .fail) .fail) t Q:=by
 refine yB ?_
 rw[q10];refine zio hg hby ?_
 have key:∀t' cs,bA t t'->RD t' ((xE wJ s).val Fs).d cs->rA yA.base (Wq yA F mB) J (.opt (uX 0 (.tup [.agg cs,.agg (uM (xE wJ s).pl),.int .i64 ((xE wJ s).err:Int)]))<|uG Gl fun X2=>.opt (uX 1 (.tup [.agg cs,.agg (uM (xE wJ s).pl),.int .i64 ((xE wJ s).err:Int)]))<|uG nL fun X=>.opt (uX 2 (.tup [.agg cs,.agg (uM (xE wJ s).pl),.int .i64 ((xE wJ s).err:Int)]))<|uI fun n=>.ite (yE (uM3 X2)) (.ite true (K X2 X n) .fail) .fail) t' Q:=by
  intro t' cs k1 k2;have hc:uM3 (cellsOf cs)=cs:=Cx k2
  refine qA (v:=.agg cs) rfl (nC (agP k2) (qA (v:=.agg (uM (xE wJ s).pl)) rfl (nC agPl (qA (v:=.int .i64 ((xE wJ s).err:Int)) rfl (tB (sA ?_ (sA rfl (hQ t' cs k1 k2))))))))
  show kB zA.one (uM3 (cellsOf cs))=true
  rw[hc];obtain⟨a,b,c,rfl,_⟩:=En k2;exact k2.all
 cases hr:xE wJ s with
 | ok x=>rw[hr]at key;exact fun t' cs k1 k2=>key t' cs k1 k2
 | er e a b=>rw[hr]at key;exact fun t' k1=>key t' zP k1 LQ
def LD (hg:bI t)(hby:∀b∈s,b<256)
  (hQ:∀t' cs,bA t t'->RD t' ((xE oJ s).val nR).d cs->rA yA.base (Wq yA F mB) J (K (cellsOf cs) (cellsOf (uM (xE oJ s).pl)) ((xE oJ s).err:Int)) t' Q) :
  rA yA.base (Wq yA F mB) J (.call 15 [.str s] fun a=>.opt (uX 0 a)<|uG Dm fun X2=>.opt (uX 1 a)<|uG nL fun X=>.opt (uX 2 a)<|uI fun n=>.ite (yE (uM1 X2)) (.ite true (K X2 X n) .fail) .fail) t Q:=by
 refine yB ?_
 rw[q15];refine expr15 hg hby ?_
 have key:∀t' cs,bA t t'->RD t' ((xE oJ s).val nR).d cs->rA yA.base (Wq yA F mB) J (.opt (uX 0 (.tup [.agg cs,.agg (uM (xE oJ s).pl),.int .i64 ((xE oJ s).err:Int)]))<|uG Dm fun X2=>.opt (uX 1 (.tup [.agg cs,.agg (uM (xE oJ s).pl),.int .i64 ((xE oJ s).err:Int)]))<|uG nL fun X=>.opt (uX 2 (.tup [.agg cs,.agg (uM (xE oJ s).pl),.int .i64 ((xE oJ s).err:Int)]))<|uI fun n=>.ite (yE (uM1 X2)) (.ite true (K X2 X n) .fail) .fail) t' Q:=by
  intro t' cs k1 k2;have hc:uM1 (cellsOf cs)=cs:=Cy k2
  refine qA (v:=.agg cs) rfl (nC (yQ k2) (qA (v:=.agg (uM (xE oJ s).pl)) rfl (nC agPl (qA (v:=.int .i64 ((xE oJ s).err:Int)) rfl (tB (sA ?_ (sA rfl (hQ t' cs k1 k2))))))))
  show kB zA.one (uM1 (cellsOf cs))=true
  rw[hc];obtain⟨a,b,c,rfl,_⟩:=aJ k2;exact k2.all
 cases hr:xE oJ s with
 | ok x=>rw[hr]at key;exact fun t' cs k1 k2=>key t' cs k1 k2
 | er e a b=>rw[hr]at key;exact fun t' k1=>key t' zE k1 Tj
def BO (hg:bI t)(hby:∀b∈s,b<256)
  (hQ:∀t' cs,bA t t'->RD t' ((xE pJ s).val cJ).d cs->rA yA.base (Wq yA F mB) J (K (cellsOf cs) (cellsOf (uM (xE pJ s).pl)) ((xE pJ s).err:Int)) t' Q) :
  rA yA.base (Wq yA F mB) J (.call 18 [.str s] fun a=>.opt (uX 0 a)<|uG zz3z fun X2=>.opt (uX 1 a)<|uG nL fun X=>.opt (uX 2 a)<|uI fun n=>.ite (yE (uM4 X2)) (.ite true (K X2 X n) .fail) .fail) t Q:=by
 refine yB ?_
 rw[q18];refine zhc hg hby ?_
 have key:∀t' cs,bA t t'->RD t' ((xE pJ s).val cJ).d cs->rA yA.base (Wq yA F mB) J (.opt (uX 0 (.tup [.agg cs,.agg (uM (xE pJ s).pl),.int .i64 ((xE pJ s).err:Int)]))<|uG zz3z fun X2=>.opt (uX 1 (.tup [.agg cs,.agg (uM (xE pJ s).pl),.int .i64 ((xE pJ s).err:Int)]))<|uG nL fun X=>.opt (uX 2 (.tup [.agg cs,.agg (uM (xE pJ s).pl),.int .i64 ((xE pJ s).err:Int)]))<|uI fun n=>.ite (yE (uM4 X2)) (.ite true (K X2 X n) .fail) .fail) t' Q:=by
  intro t' cs k1 k2;have hc:uM4 (cellsOf cs)=cs:=Iy k2
  refine qA (v:=.agg cs) rfl (nC (agV k2) (qA (v:=.agg (uM (xE pJ s).pl)) rfl (nC agPl (qA (v:=.int .i64 ((xE pJ s).err:Int)) rfl (tB (sA ?_ (sA rfl (hQ t' cs k1 k2))))))))
  show kB zA.one (uM4 (cellsOf cs))=true
  rw[hc];obtain⟨a,b,rfl,_⟩:=bV k2;exact k2.all
 cases hr:xE pJ s with
 | ok x=>rw[hr]at key;exact fun t' cs k1 k2=>key t' cs k1 k2
 | er e a b=>rw[hr]at key;exact fun t' k1=>key t' zV k1 za8
def zjc{K:zA->zH->Int->T}(hg:bI t)(hby:∀b∈s,b<256)
  (hok:∀m,oI s=.ok m->∀t' v,bA t t'->aA t' 4 (m.map wC.d) v->rA yA.base (Wq yA F mB) J (K v (cellsOf (uM (0,0))) 0) t' Q)
  (her:∀e a b,oI s=.er e a b->∀t',bA t t'->rA yA.base (Wq yA F mB) J (K .nilslice (cellsOf (uM (a,b))) (e:Int)) t' Q) :
  rA yA.base (Wq yA F mB) J (.call 22 [.str s] fun a2=>.opt (uX 0 a2) fun a3=>.opt (uX 1 a2)<|uG nL fun X=>.opt (uX 2 a2)<|uI fun n7=>.ite true (K a3 X n7) .fail) t Q:=by
 refine yB ?_
 rw[q22];refine zfp hg hby ?_
 cases hr:oI s with
 | ok m=>exact fun t' v k1 k2=>qA (v:=v) rfl (qA (v:=.agg (uM (0,0))) rfl (nC agPl (qA (v:=.int .i64 0) rfl (tB (sA rfl (hok m hr t' v k1 k2))))))
 | er e a b=>exact fun t' k1=>qA (v:=.nilslice) rfl (qA (v:=.agg (uM (a,b))) rfl (nC agPl (qA (v:=.int .i64 (e:Int)) rfl (tB (sA rfl (her e a b hr t' k1))))))
def zef{K:T}(k:rA yA.base (Wq yA F mB) J K t Q):rA yA.base (Wq yA F mB) J (.call 9 []<|uB fun b=>.ite (!b) rC K) t Q:=by
 refine yB ?_
 have h9:uC yA F 9 [] t=some (.bool true):=Lj (g:=Qf) (by kernel_rfl) fun H=>rfl
 rw[q9,h9,pA];exact rD (sB (by decide) k)
def EI{K:zA->T}{p:zG} (hp:zG.cpy p)(h:RD t p.d cs)(h2:RD t p.d ds)(k:rA yA.base (Wq yA F mB) J (K (.bool true)) t Q):rA yA.base (Wq yA F mB) J (.call 12 [.agg cs,.agg ds] K) t Q:=by
 refine yB ?_
 rw[q12,sam47 hp h h2,pA];exact k
def zif{K:zA->T}{x:fA} (hx:fA.cpy x)(h:RD t x.d cs)(h2:RD t x.d ds)(k:rA yA.base (Wq yA F mB) J (K (.bool true)) t Q):rA yA.base (Wq yA F mB) J (.call 16 [.agg cs,.agg ds] K) t Q:=by
 refine yB ?_
 rw[q16,Pr x hx cs ds h h2,pA];exact k
def zie{K:zA->T}{x:mF} (hx:mF.cpy x)(h:RD t x.d cs)(h2:RD t x.d ds)(k:rA yA.base (Wq yA F mB) J (K (.bool true)) t Q):rA yA.base (Wq yA F mB) J (.call 24 [.agg cs,.agg ds] K) t Q:=by
 refine yB ?_
 rw[q24,sam94 hx h h2,pA];exact k
end
def HI{s:List Nat}(h:s.length<=65536):oI s=Cj s:=by unfold oI;rw[yaa (by omega)]
def joined{s:List Nat} (hs:s.length<=3000)(hby:∀b∈s,b<256)(h:oI s=.ok m) :
  (qK false m).length<=6000/\(∀x∈m,∀b∈x.text,b<256)/\qY false (m.map kt)/\An false (m.map kt)=false/\m.length<=6000/\∃m',oI (qK false m)=.ok m'/\m'.map kt=m.map kt:=by
 rw[HI (by omega)]at h
 have h1:=zje h
 obtain⟨g1,g2,g3,g4,g5⟩:=VJ _ _ _ h1
 rw[<- JJ]at g3;simp only[ybq,if_false]at g3 g5;have h2:=VI _ _ g1
 rw[g2,yaa (by simp),ycd,<- JJ]at h2
 obtain⟨m',k1,k2⟩:=zjd h2
 rw[ybf]at g5;exact⟨by omega,fun x hx b hb=>hby b (g4 (kt x) (List.mem_map_of_mem hx) b hb),g1,g2,by omega,m',by rw[HI (by omega)];exact k1,k2⟩
def Yr:∀ {l:List wC} {o:Bool},(∀x∈l,∀b∈x.text,b<256)->∀b∈qK o l,b<256
 | [],_,_,b,hb=>by cases hb
 | t::l,o,h,b,hb=>by
  rw[qK]at hb;split at hb
  ·rcases ybs.1 hb with rfl | hb
   ·omega
   ·exact Yr (fun x hx=>h x (by simp[hx])) b hb
  ·rcases yaf.1 hb with hb | hb
   ·split at hb
    ·rcases ybs.1 hb with rfl | hb
     ·omega
     ·exact h t (by simp) b hb
    ·exact h t (by simp) b hb
   ·exact Yr (fun x hx=>h x (by simp[hx])) b hb
def Wj{α:Type}{top:List wC->PR α}(hc:∀ {tk tk'},Cg tk tk'->top tk=top tk'){s s':List Nat}{m':List wC}(h:oI s=.ok m)(h':oI s'=.ok m')(hk:m'.map kt=m.map kt)(z:α) :
  (xE top s).err=(xE top s').err/\(xE top s).val z=(xE top s').val z:=by
 rw[Bs h,Bs h',hc (cg_of hk)]
 cases top m<;>exact⟨rfl,rfl⟩
def EP{s:List Nat}:zG.cpy ((xE wJ s).val Fs):=by
 have z:zG.cpy Fs:=⟨by decide,by decide,by decide,fun x hx=>(by cases hx),fun x hx=>(by cases hx)⟩
 cases hl:oI s with
 | er e a b=>rw[Ek hl];exact z
 | ok m=>
  obtain⟨_,h1,h2⟩:=Hz hl
  rw[Bs hl]
  cases hr:wJ m with
  | ok x n=>exact zbj h2 (by omega) hr
  | er e i=>exact z
def zce{s:List Nat}:fA.cpy ((xE oJ s).val nR):=by
 cases hl:oI s with
 | er e a b=>rw[Ek hl];exact Nz
 | ok m=>
  obtain⟨_,h1,h2⟩:=Hz hl
  rw[Bs hl]
  cases hr:oJ m with
  | ok x n=>exact zbk h2 hr
  | er e i=>exact Nz
def zcd{s:List Nat}:mF.cpy ((xE pJ s).val cJ):=by
 have z:mF.cpy cJ:=⟨by decide,by decide⟩
 cases hl:oI s with
 | er e a b=>rw[Ek hl];exact z
 | ok m=>
  obtain⟨_,h1,h2⟩:=Hz hl
  rw[Bs hl]
  cases hr:pJ m with
  | ok x n=>exact zbi h2 hr
  | er e i=>exact z
end
section
variable {s:List Nat}
variable [fC]
def ll_le {n:Nat}:(bB (n:Int) (Int.ofNat (zB s))=true) ↔ n<s.length:=by
 rw[rG,qD];show(n:Int)<((s.length:Nat):Int) ↔ _
 omega
def PW{t:Tr vA} (hg:bI t)(hby:∀b∈s,b<256):Wc yA F 6 [.str s] t (fun v _=>v=.bool true):=by
 refine w6 ?_
 unfold t6;refine zef ?_
 by_cases hs:3000<s.length
 ·exact sA (ll_le.2 hs) rfl
 refine sB (fun h=>hs (ll_le.1 h)) (zjc (K:=fun a3 X n7=>.ite (!aB n7 0) _ _) hg hby (fun m hm t1 v h1 hv=>?_) (fun e a b hl t1 h1=>?_))
 ·obtain⟨g1,g2,g3,g4,g5,m',g6,g7⟩:=joined (by omega) hby hm
  refine sB (by decide) (yB ?_)
  rw[q23];refine join23 hv (fun x hx h5=>⟨?_,g2 x hx⟩) (by omega) (by omega) fun t2 h2=>iF ?_
  ·have:=(Bn (Zc g3 (kt x) (List.mem_map_of_mem hx) h5)).1
   intro e;have e:(kt x).2=[]:=e
   rw[e]at this;cases this
  have hg2:=hg.mono (h1.trans h2)
  have hby2:=Yr (o:=false) g2
  obtain⟨pe,pv⟩:=Wj (fun h=>topP_c h) hm g6 g7 Fs
  obtain⟨ee,ev⟩:=Wj (fun h=>topE_c h) hm g6 g7 nR
  obtain⟨ve,vv⟩:=Wj (fun h=>topV_c h) hm g6 g7 cJ
  refine Xe (K:=fun X21 X n25=>.call 10 _ _) hg2 hby fun t3 c3 h3 r3=>?_
  refine Xe (K:=fun X28 X n32=>.call 15 _ _) (hg2.mono h3) hby2 fun t4 c4 h4 r4=>?_
  have hg4:=(hg2.mono h3).mono h4
  refine LD (K:=fun X35 X n39=>.call 15 _ _) hg4 hby fun t5 c5 h5 r5=>?_
  refine LD (K:=fun X42 X n46=>.call 18 _ _) (hg4.mono h5) hby2 fun t6 c6 h6 r6=>?_
  have hg6:=(hg4.mono h5).mono h6
  refine BO (K:=fun X49 X n53=>.call 18 _ _) hg6 hby fun t7 c7 h7 r7=>?_
  refine BO (K:=fun X56 X n=>.ite (aB _ _) _ _) (hg6.mono h7) hby2 fun t8 c8 h8 r8=>?_
  rw[<- pv]at r4;rw[<- ev]at r6;rw[<- vv]at r8;rw[<- pe,<- ee,<- ve];have hP:uA3 (cellsOf c3)=.agg c3:=congrArg zA.agg (Cx r3)
  have hP2:uA3 (cellsOf c4)=.agg c4:=congrArg zA.agg (Cx r4)
  have hE:uA1 (cellsOf c5)=.agg c5:=congrArg zA.agg (Cy r5)
  have hE2:uA1 (cellsOf c6)=.agg c6:=congrArg zA.agg (Cy r6)
  have hV:uA4 (cellsOf c7)=.agg c7:=congrArg zA.agg (Iy r7)
  have hV2:uA4 (cellsOf c8)=.agg c8:=congrArg zA.agg (Iy r8)
  rw[hP,hP2,hE,hE2,hV,hV2];have l38:=((((h4.trans h5).trans h6).trans h7).trans h8)
  refine sA (cH.2 rfl) (sA (cH.2 rfl) (sA (cH.2 rfl) (EI EP (r3.mono l38) (r4.mono (((h5.trans h6).trans h7).trans h8)) (rD (sA rfl (zif zce (r5.mono ((h6.trans h7).trans h8)) (r6.mono (h7.trans h8)) (rD (sA rfl (zie zcd (r7.mono h8) r8 (rD rfl))))))))))
 ·have he:=Rf hl
  refine sA (zS.2 (by omega)) (Xe (K:=fun X10 X n=>.ite (aB n _) _ _) (hg.mono h1) hby fun t2 c2 h2 r2=>?_)
  have hr:=Ek (top:=wJ) hl
  have hP:uA3 (cellsOf c2)=.agg c2:=congrArg zA.agg (Cx r2)
  rw[hP,hr];rw[hr]at r2;exact sA (cH.2 rfl) (sA rfl (EI (p:=Fs) (by have:=EP (s:=s);rwa [hr]at this) r2 LQ (rD rfl)))
end
end Go.Proofs
namespace Go.Am
open Go Go.RowKit Go.Proofs
def zec(a:ByteArray):∀b∈nF a,b<256:=by
 intro b hb;unfold nF at hb;obtain⟨x,_,rfl⟩:=yaq.1 hb
 exact x.toNat_lt
def tokens6{w:World}(hL:yN w){a:ByteArray}:Calls Tryz.prog 6 #[.string a] w fun e w'=>e=.returned (.bool true)/\Below w.heap.size w w':=
 PS hL 6 [.str (nF a)] _ (by intro _;kernel_rfl) (.single (by rw[uA];exact⟨_,rfl,rfl⟩)) ⟨_,PW (zj4 hL) (zec a),fun v t h=>h⟩
end Go.Am
namespace Go.Proofs.YtfmlbimokklmgaaGreatDoor
open Go Go.Am Go.RowKit
def val_str{W:World}{base:Nat}{v:Value}(h:Value.okWide Tryz.prog W .any base 9 v):∃s,v=.string s:=by
 have hu:=Tryz.underlying9
 unfold Value.okWide at h;rw[hu]at h;have h:Value.ok Tryz.prog W .any base 9 v:=h
 unfold Value.ok at h;rw[hu]at h
 cases v<;>first | exact⟨_,rfl⟩ | exact h.elim
end Go.Proofs.YtfmlbimokklmgaaGreatDoor
