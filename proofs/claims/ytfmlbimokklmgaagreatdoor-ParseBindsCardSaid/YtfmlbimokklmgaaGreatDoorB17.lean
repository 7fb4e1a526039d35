/- The parser: literal slices, words taken, chains of operators. -/
import Derived.Test.YtfmlbimokklmgaaGreatDoorB16
set_option linter.all false
noncomputable section
set_option maxRecDepth 100000
namespace Go.Proofs
open Go Go.Am
variable [jC]
section
variable {tf t:Tr vA}{C:rA}
theorem Kj{sz:Nat}{z:List zA}{v:zA}(hz:z.length=sz)(hv:v.cells.length=sz):yK (fun i=>some (i*sz,sz)) [(0,v)] (pH z 1)=some v.cells:=by
 have e:pH z 1=z:=by
  show qD z []=_;rw[xG,ycd]
 rw[e];have o1:aS z (0*sz) sz v=some v.cells:=by
  unfold aS;simp only[sD,hv,Nat.zero_mul,ybw,rR,xP,xG,List.take_zero,yah];rw[sC.2 rfl,qE.2 (by omega)]
  simp only[Bool.and_self,mE];rw[<- hz,List.drop_length,ycd]
 grind [yK,qA]
theorem litN{T el sz b n:Nat}{L:List jE}{y z:rC}{ps:List (Nat × zA)}{cl:List (List zA)}{ds:List D}(hT:C.tys.get T=some y)(hel:y.desc.asSlice=some el)(hz:C.tys.get el=some z)(hs:z.size=sz)(h0:bA z.zero=sz)(hn:n*sz<1000000)
  (hfill:yK (fun i=>some (i*sz,sz)) ps (pH z.zero n)=some cl.flatten) (hcl:∀(i:Nat) cs,cl[i]?=some cs->cs.length=sz) (hlen:cl.length=n) (hr:dD tf ds cl) (ho:cA C.base tf t L) (hb:t.get b=none) :
  ∃tf' t',oD C T n ps ⟨b,t⟩=some (.slice b 0 n n,⟨b+1,t'⟩)/\zB tf tf'/\cA C.base tf' t' L/\aA tf' sz ds (.slice b 0 n n):=by
 obtain⟨t',h1,h2,h3,h4⟩:=Jl hT hel hz hs h0 hn hfill hcl hlen hb
 have ho':=ho.junk hb h4
 have hfb:=ho.tfn hb
 have hg:t'.get b=some (.cells (Tr.ofList cl.flatten) (bA cl.flatten) none):=by
  have:=h1
  unfold oD at this;rw[hT,qA,hel,qA,hz,qA]at this;rw[xB,hs,hfill,qA]at this;obtain⟨_,h5⟩:=this
  have h5:=(Prod.mk.inj (yci h5)).2
  have h6:t.set b (.cells (Tr.ofList cl.flatten) (bA cl.flatten) none)=t':=(xA.mk.inj h5).2
  rw[<- h6,Tr.get_set,yab rfl]
 obtain⟨k1,k2⟩:=ho'.froze (fun hm=>ho.fresh hb hm) hg hfb
 refine⟨_,t',h1,k2,k1,cl,JW hcl (by rw[Tr.get_set,yab rfl]) (.inl rfl) hlen,dD.mono k2 _ _ hr⟩
end
def gQ (x:List Nat × Nat):D:=.st [.str x.1,.int .u8 (x.2:Int)]
theorem rd_op{t:Tr vA}{x:List Nat × Nat}{cs:List zA}(h:RD t (gQ x) cs):cs=[.str x.1,.int .u8 (x.2:Int)]:=by
 grind [gQ,uO,iF,rH,wT,vT]
theorem Vn{t:Tr vA}(x:List Nat × Nat):RD t (gQ x) [.str x.1,.int .u8 (x.2:Int)]:=by
 unfold gQ;exact uO.2 ⟨[[.str x.1],[.int .u8 (x.2:Int)]],rfl,iF.2 ⟨_,_,rfl,wT.2 rfl,iF.2 ⟨_,_,rfl,vT.2 rfl,rH.2 rfl⟩⟩⟩
def eJ (tf:Tr vA)(x:vB)(v:zA):Prop:=∃cs,v=.agg cs/\RD tf x.d cs
def rdXV (tf:Tr vA)(x:iJ)(v:zA):Prop:=∃cs,v=.agg cs/\RD tf x.d cs
abbrev zE:List zA:=[.int .u8 0,.str [],.int .u8 0,.bool false,.nilslice,.bool false,.nilslice,.int .i64 0,.nilslice]
abbrev zV:List zA:=[.int .u8 0,.bool false,.nilslice,.bool false,.nilslice,.int .i64 0]
abbrev cE(X:jI):List zA:=[.int .u8 (X.i 0),.str (X.s 1),.int .u8 (X.i 2),.bool (X.b 3),X.v 4,.bool (X.b 5),X.v 6,.int .i64 (X.i 7),X.v 8]
abbrev cV(X:jI):List zA:=[.int .u8 (X.i 0),.bool (X.b 1),X.v 2,.bool (X.b 3),X.v 4,.int .i64 (X.i 5)]
theorem Ft{tf:Tr vA}{x:vB}{cs:List zA}(h:RD tf x.d cs):cE (cellsOf cs)=cs:=by
 obtain⟨a,b,c,rfl,_⟩:=pJ h
 rfl
theorem wO{tf:Tr vA}{x:vB}{cs:List zA}(h:RD tf x.d cs):vK zE (.agg cs)=some (cellsOf cs):=Ga h (vB.zs _)
theorem agV{tf:Tr vA}{x:iJ}{cs:List zA}(h:RD tf x.d cs):vK zV (.agg cs)=some (cellsOf cs):=Ga h (iJ.zs _)
theorem Ct{tf:Tr vA}{x:vB}{cs:List zA}(h:RD tf x.d cs):cs.length=9:=by
 obtain⟨a,b,c,rfl,_⟩:=pJ h
 rfl
section
variable {P:bK}{tf t:Tr vA}{n d:Nat}{Q E:fA}{J:pF}
theorem St.lit{T el sz b k:Nat}{y z:rC}{ps:List (Nat × zA)}{cl:List (List zA)}{ds:List D}(h:St P tf t n d)(hT:yA.tys.get T=some y)(hel:y.desc.asSlice=some el)(hz:yA.tys.get el=some z)(hs:z.size=sz)(h0:bA z.zero=sz)(hn:k*sz<1000000)
  (hfill:yK (fun i=>some (i*sz,sz)) ps (pH z.zero k)=some cl.flatten) (hcl:∀(i:Nat) cs,cl[i]?=some cs->cs.length=sz) (hlen:cl.length=k) (hr:dD tf ds cl) (hb:t.get b=none) :
  ∃tf' t',oD yA T k ps ⟨b,t⟩=some (.slice b 0 k k,⟨b+1,t'⟩)/\zB tf tf'/\St P tf' t' n d/\aA tf' sz ds (.slice b 0 k k):=by
 obtain⟨tf',t',h1,h2,h3,h4⟩:=litN hT hel hz hs h0 hn hfill hcl hlen hr h.ob hb
 exact⟨tf',t',h1,h2,⟨h.ts.mono h2,h3,h.len,h.le,h.good,h.glob.mono h2⟩,h4⟩
theorem Iz{sz:Nat}{c:List zA}(h:c.length=sz):∀(i:Nat) cs,[c][i]?=some cs->cs.length=sz:=by
 intro i cs hi;match i,hi with
 | 0,hi=>simp_all
theorem Zr{sz:Nat}{c c':List zA}(h:c.length=sz)(h':c'.length=sz):∀(i:Nat) cs,[c,c'][i]?=some cs->cs.length=sz:=by
 intro i cs hi;match i,hi with
 | 0,hi=>simp_all
 | 1,hi=>simp_all
theorem oP{w:List Nat}{X Y:T}(h:St P tf t n d)(k1:jB P.tk w n=true->∀t',St P tf t' (n+1) d->oA yA.base (kF yA F gC nG E) J X t' Q)(k2:jB P.tk w n=false->∀t',St P tf t' n d->oA yA.base (kF yA F gC nG E) J Y t' Q) :
  oA yA.base (kF yA F gC nG E) J (.call 72 [.ptr P.bp 0,.str w] fun a=>.asB a fun b=>.ite b X Y) t Q:=by
 refine tB ?_
 rw[pW 72];refine Qy h fun t' h'=>vE ?_
 cases ha:jB P.tk w n with
 | true=>rw[ha]at h';exact pA rfl (k1 ha t' h')
 | false=>rw[ha]at h';exact qB (by simp) (k2 ha t' h')
theorem JP{w:List Nat}{v:zA}(hv:aA tf 1 [D.str w] v)(h:St P tf t n d)(hk:Ok P rdU d tf (xK P.tk w n) Q E):dK yA F E 57 [.ptr P.bp 0,v] t Q:=by
 refine w57 _ _ ?_
 unfold t57;refine mA hv.len (oB (iC (j57_2 _ _ _ _ ?_)))
 unfold Ms;obtain⟨b,o,cs,h1,h2,_,_,h3⟩:=sl93.at (fun _=>rfl) (hv.mono h.ob.tle) (i:=0) rfl
 have e:cs=[.str w]:=wT.1 h3
 subst e;refine pA (by simp[qC]) (mA h1 (wC h2 (oE (tB ?_))))
 rw[pW 72];refine Qy h fun t' h'=>vE ?_
 unfold xK at hk
 cases ha:jB P.tk w n with
 | true=>
  rw[ha]at h' hk
  refine qB (by simp) (iC (j57_2 _ _ _ _ ?_))
  unfold Ms;have:(lA .i64 (0+1))=1:=by decide
  rw[this];exact qB (by simp[qC]) (Ok.now hk h' rfl)
 | false=>
  rw[ha]at h' hk
  exact pA rfl (tB (Ok.fail h' hk))
theorem zbc{α:Type}{rd:Tr vA->α->zA->Prop}{w:List Nat}{f:Unit->Nat->PR α}{K:zA->T}{Q':fA}(h:St P tf t n d)(hk:Ok P rd d tf ((xK P.tk w n).bind f) Q' E)
  (k:∀n1 tf1 t1,zB tf tf1->St P tf1 t1 n1 d->Ok P rd d tf1 (f () n1) Q' E->oA yA.base (kF yA F gC nG E) J (K (.tup [])) t1 Q) :
  oA yA.base (kF yA F gC nG E) J (.heavy (oD yA 93 1 [(0,.str w)]) fun a=>.call 57 [.ptr P.bp 0,a] K) t Q:=by
 refine pC fun b hb _=>?_
 obtain⟨tf1,t1,h1,h2,h3,h4⟩:=h.lit (k:=1) (sz:=1) (ds:=[D.str w]) (cl:=[[.str w]]) ty93 rfl zN rfl rfl (by omega) (Kj (sz:=1) (z:=[.str []]) (v:=.str w) rfl rfl) (Iz rfl) rfl (iF.2 ⟨_,_,rfl,wT.2 rfl,rH.2 rfl⟩) hb
 refine⟨_,_,h1,tB ?_⟩
 rw[pE 57];exact JP h4 h3 ((hk.mono h2).bind fun a n1 tf2 t2 v hr hl hst hrd hk1=>by cases hrd;exact k n1 tf2 t2 (h2.trans hl) hst hk1)
theorem Vm{l:List (List Nat × Nat)}{v:zA}(hv:aA tf 2 (l.map gQ) v)(hl:l.length<1000)(h:St P tf t n d)
  (hQ:∀t',match oH P.tk l n with | none=>St P tf t' n d->Q (.tup [.int .u8 0,.bool false]) t' | some op=>St P tf t' (n+1) d->Q (.tup [.int .u8 (op:Int),.bool true]) t'):Wc yA F 95 [.ptr P.bp 0,v] t Q:=by
 have loop:∀(k i:Nat) (t:Tr vA),i+k=l.length->St P tf t n d->(∀t',match oH P.tk (l.drop i) n with | none=>St P tf t' n d->Q (.tup [.int .u8 0,.bool false]) t' | some op=>St P tf t' (n+1) d->Q (.tup [.int .u8 (op:Int),.bool true]) t') →
   jp 95 2 [.ptr P.bp 0,v,.int .i64 (l.length:Int),.int .i64 (i:Int)] t Q:=by
  intro k;induction k with
  | zero=>
   intro i t hi h hQ;refine j95_2 ?_
   unfold Sq;have e:l.drop i=[]:=ybt (by omega)
   rw[e]at hQ;exact qB (by simp[qC];omega) (hQ t h)
  | succ k ih=>
   intro i t hi h hQ;refine j95_2 ?_
   unfold Sq uG uB;have hx:l[i]?=some l[i]:=ybd (by omega)
   have hd:(l.map gQ)[i]?=some (gQ l[i]):=by rw[ybu,hx];rfl
   obtain⟨b,o,cs,h1,h2,_,_,h3⟩:=sl161.at (fun h=>by cases h) (hv.mono h.ob.tle) hd
   have e:=rd_op h3
   subst e;rw[ybl (by omega:i<l.length)]at hQ
   unfold oH at hQ;rw[List.find?_cons]at hQ;refine pA (by simp[qC];omega) (mA h1 (wC h2 (eC (X:=cellsOf [.str l[i].1,.int .u8 (l[i].2:Int)]) (iQ rfl) (pA rfl ?_))))
   refine tB ?_
   rw[q72];refine Qy h fun t' h'=>vE ?_
   have e1:(cellsOf [.str l[i].1,.int .u8 (l[i].2:Int)]).s 0=l[i].1:=rfl
   have e2:(cellsOf [.str l[i].1,.int .u8 (l[i].2:Int)]).i 1=(l[i].2:Int):=rfl
   rw[e1]at h' ⊢
   cases ha:jB P.tk l[i].1 n with
   | true=>
    rw[ha]at h' hQ
    refine pA rfl ?_
    rw[e2];exact hQ t' h'
   | false=>
    rw[ha]at h' hQ
    refine qB (by simp) (iC ?_)
    have:nD (i:Int)=.int .i64 ((i+1:Nat):Int):=by
     show zA.int .i64 (lA .i64 ((i:Int)+1))=_
     rw[oC (by omega) (by omega)];rfl
    rw[this];exact ih (i+1) t' (by omega) h' hQ
 refine w95 ?_
 unfold t95;have hlen:=hv.len
 rw[ybf]at hlen;exact mA hlen (oB (iC (loop l.length 0 t (by omega) h (by simpa using hQ))))
def lH(P:bK)(d:Nat)(o:PM vB)(g:Nat):Prop:=∀(tf t:Tr vA) (n:Nat) (Q E:fA),St P tf t n d->Ok P eJ d tf (o n) Q E->dK yA F E g [.ptr P.bp 0] t Q
def Up {α:Type}(o:PM α):Prop:=∀n a n',o n=.ok a n'->n<=n'
theorem zcb{l:List (List Nat × Nat)}{op:Nat}(h:oH P.tk l n=some op):n<P.tk.length:=by
 unfold oH at h
 cases hx:l.find? fun o=>jB P.tk o.1 n with
 | none=>rw[hx]at h;cases h
 | some x=>exact Lb (List.find?_some (p:=fun o:List Nat × Nat=>jB P.tk o.1 n) hx)
theorem Qr{tf:Tr vA}{op:Nat}{x y:vB}{v:zA}(h:aA tf 9 [x.d,y.d] v):RD tf (zH op x y).d [.int .u8 (op:Int),.str [],.int .u8 0,.bool false,.nilslice,.bool false,.nilslice,.int .i64 0,v]:=by
 unfold zH;exact Ji (v:=fW) vR vR h
theorem un_rd{tf:Tr vA}{op:Nat}{w:List Nat}{x:vB}{v:zA}(h:aA tf 9 [x.d] v):RD tf (oO op w x).d [.int .u8 (op:Int),.str w,.int .u8 0,.bool false,.nilslice,.bool false,.nilslice,.int .i64 0,v]:=by
 unfold oO;exact Ji (v:=fW) vR vR h
theorem Vo{v:zA}(h:zA.one v=true){a:zA}(ha:zA.one a=true):cB zA.one [a,v]=true:=by
 rw[dH];simp[h,ha]
theorem St.pair{b:Nat}{x y:vB}{cx cy:List zA}(h:St P tf t n d)(hx:RD tf x.d cx)(hy:RD tf y.d cy)(hb:t.get b=none) :
  ∃tf' t',oD yA 48 2 [(0,.agg cx),(1,.agg cy)] ⟨b,t⟩=some (.slice b 0 2 2,⟨b+1,t'⟩)/\zB tf tf'/\St P tf' t' n d/\aA tf' 9 [x.d,y.d] (.slice b 0 2 2):=
 h.lit (ds:=[x.d,y.d]) (cl:=[cx,cy]) Hl rfl Dr rfl rfl (by omega) (JN rfl (Ct hx) (Ct hy)) (Zr (Ct hx) (Ct hy)) rfl (iF.2 ⟨_,_,rfl,hx,iF.2 ⟨_,_,rfl,hy,rH.2 rfl⟩⟩) hb
theorem St.sole{b:Nat}{x:vB}{cx:List zA}(h:St P tf t n d)(hx:RD tf x.d cx)(hb:t.get b=none) :
  ∃tf' t',oD yA 48 1 [(0,.agg cx)] ⟨b,t⟩=some (.slice b 0 1 1,⟨b+1,t'⟩)/\zB tf tf'/\St P tf' t' n d/\aA tf' 9 [x.d] (.slice b 0 1 1):=by
 have hf:yK (fun i=>some (i*9,9)) [(0,.agg cx)] (pH zE 1)=some [cx].flatten:=by
  rw[Kj (sz:=9) (z:=zE) (v:=.agg cx) rfl (Ct hx)];show some cx=_;simp
 exact h.lit (k:=1) (sz:=9) (ds:=[x.d]) (cl:=[cx]) (ps:=[(0,.agg cx)]) Hl rfl Dr rfl rfl (by omega) hf (Iz (Ct hx)) rfl (iF.2 ⟨_,_,rfl,hx,rH.2 rfl⟩) hb
theorem KY{g:Nat}(hg:Nat.blt g pn=true){v:zA}:wK (.func (.func g) [v] []) []=some (g,[v]):=by
 unfold wK;simp only[zA.asFunc,qA,hg,mE];rfl
theorem YB{o:PM vB}{g:Nat}{l:List (List Nat × Nat)}{v:zA}(ho:lH P d o g)(hup:Up o)(hg:Nat.blt g pn=true)(hp1:(gC g&&Nat.blt g yo)=false)(hp2:Nat.beq g pn=false)(hp3:(nG g&&Nat.blt g pn)=true)(hl:l.length<1000) :
  ∀(m n:Nat) (x:vB) (cs:List zA) (tf t:Tr vA) (Q E:fA),P.tk.length-n<=m->St P tf t n d->aA tf 2 (l.map gQ) v->RD tf x.d cs->Ok P eJ d tf (kM P.tk o l m x n) Q E->xJ E 68 2 ([.ptr P.bp 0,.func (.func g) [.ptr P.bp 0] [],v]++zE++cs) t Q:=by
 intro m;induction m with
 | zero=>
  intro n x cs tf t Q E hm h hv hx hk;obtain⟨a,b,c,rfl,_⟩:=pJ hx
  refine j68_2 _ _ _ _ _ _ _ _ _ _ _ _ _ _ _ _ _ _ _ _ _ ?_
  unfold Mq;refine tB ?_
  rw[pW 95];have hn:oH P.tk l n=none:=by
   cases hx:oH P.tk l n with
   | none=>rfl
   | some op=>have:=zcb hx;omega
  refine Vm hv hl h fun t'=>?_
  rw[hn];intro h';refine mA rfl (oB (mA rfl (vE (pA rfl (pA hx.all ?_)))))
  exact Ok.now hk h' ⟨_,rfl,hx⟩
 | succ m ih=>
  intro n x cs tf t Q E hm h hv hx hk;obtain⟨a,b,c,rfl,_⟩:=pJ hx
  refine j68_2 _ _ _ _ _ _ _ _ _ _ _ _ _ _ _ _ _ _ _ _ _ ?_
  unfold Mq;refine tB ?_
  rw[pW 95];refine Vm hv hl h fun t'=>?_
  unfold kM at hk
  cases hop:oH P.tk l n with
  | none=>
   rw[hop]at hk;intro h';refine mA rfl (oB (mA rfl (vE (pA rfl (pA hx.all ?_)))))
   exact Ok.now hk h' ⟨_,rfl,hx⟩
  | some op=>
   rw[hop]at hk;intro h';refine mA rfl (oB (mA rfl (vE (qB (by simp) (iT (KY hg) ?_)))))
   have e:∀a R,kF yA F gC nG E g a t' R=dK yA F E g a t' R:=fun a R=>by unfold kF;rw[hp1,hp2,hp3];simp
   rw[e];refine ho _ _ _ _ _ h' (hk.bind fun y n1 tf1 t1 vy hr hle hst hrd hk1=>?_)
   obtain⟨cy,rfl,hy⟩:=hrd
   have hn1:=hup _ _ _ hr
   obtain⟨a',b',c',rfl,_⟩:=pJ hy
   refine eC (wO hy) (pA hy.all (pC fun b hb _=>?_))
   have hx1:=RD.mono hle _ _ hx
   obtain⟨tf2,t2,k1,k2,k3,k4⟩:=hst.pair hx1 hy hb
   refine⟨_,_,k1,?_⟩
   refine pA (Vo rfl rfl) (pA (Qr k4).all (iC ?_))
   exact ih n1 (zH op x y) _ tf2 t2 Q E (by omega) k3 (hv.mono (hle.trans k2)) (Qr k4) (hk1.mono k2)
end
end Go.Proofs
namespace Go.Proofs
open Go Go.Am
variable [jC]
theorem PR.bind_ok{α β:Type}{r:PR α}{f:α->Nat->PR β}{b:β}{n:Nat}(h:r.bind f=.ok b n):∃a n1,r=.ok a n1/\f a n1=.ok b n:=by
 cases r with
 | ok a n1=>exact⟨a,n1,rfl,h⟩
 | er e i=>cases h
section
variable {tk:List cC}{o:PM vB}
theorem YC(h:Up o){l:List (List Nat × Nat)}:∀(m:Nat) (x:vB) (n:Nat) (y:vB) (n':Nat),kM tk o l m x n=.ok y n'->n<=n':=by
 intro m;induction m with
 | zero=>intro x n y n' hh;cases hh;exact ybk _
 | succ m ih=>
  intro x n y n' hh;unfold kM at hh
  cases hop:oH tk l n with
  | none=>rw[hop]at hh;cases hh;exact ybk _
  | some op=>
   rw[hop]at hh;obtain⟨a,n1,h1,h2⟩:=PR.bind_ok hh
   have:=h _ _ _ h1
   have:=ih _ _ _ _ h2
   omega
theorem Kv(h:Up o){l:List (List Nat × Nat)}:Up (mN tk o l):=by
 intro n a n' hh;obtain⟨x,n1,h1,h2⟩:=PR.bind_ok hh
 have:=h _ _ _ h1
 have:=YC h _ _ _ _ _ h2
 omega
theorem zaw(h:Up o):Up (iY tk o):=by
 intro n a n' hh;obtain⟨x,n1,h1,h2⟩:=PR.bind_ok hh
 have hs:Up (xR tk o):=Kv (Kv h)
 have:=hs _ _ _ h1
 cases hop:oH tk [([60],13),([61],14)] n1 with
 | none=>rw[hop]at h2;cases h2;assumption
 | some op=>
  rw[hop]at h2;obtain⟨y,n2,h3,h4⟩:=PR.bind_ok h2
  have:=hs _ _ _ h3
  cases h4;omega
theorem ER(h:Up o):Up (Ep tk o):=by
 intro n a n' hh;obtain⟨x,n1,h1,h2⟩:=PR.bind_ok hh
 have:=zaw h _ _ _ h1
 cases h2;omega
theorem KK(h:Up o):Up (Qi tk o):=Kv (ER h)
theorem zaj(h:Up o):Up (jU tk o):=Kv (KK h)
end
section
variable {P:bK}{tf t:Tr vA}{n d:Nat}{Q E:fA}{J:pF}{o:PM vB}{g:Nat}
theorem Ut{W:pF}{x:vB}{v:zA}(hrd:eJ tf x v)(k:Q v t):oA yA.base W J (.asG zE v fun X=>.ite (cB zA.one (cE X)) (.ret (.agg (cE X))) .fail) t Q:=by
 obtain⟨cs,rfl,hx⟩:=hrd
 obtain⟨a,b,c,rfl,_⟩:=pJ hx
 exact eC (wO hx) (pA hx.all k)
theorem KU{l:List (List Nat × Nat)}{v:zA}(ho:lH P d o g)(hup:Up o)(hl:l.length<1000)(h:St P tf t n d)(hv:aA tf 2 (l.map gQ) v)(hk:Ok P eJ d tf (mN P.tk o l n) Q E)
  (hg:Nat.blt g pn=true:=by kernel_rfl) (hp1:(gC g&&Nat.blt g yo)=false:=by kernel_rfl) (hp2:Nat.beq g pn=false:=by kernel_rfl) (hp3:(nG g&&Nat.blt g pn)=true:=by kernel_rfl):dK yA F E 68 [.ptr P.bp 0,.func (.func g) [.ptr P.bp 0] [],v] t Q:=by
 refine w68 _ _ _ ?_
 unfold t68;refine iT (KY hg) ?_
 have e:∀a R,kF yA F gC nG E g a t R=dK yA F E g a t R:=fun a R=>by unfold kF;rw[hp1,hp2,hp3];simp
 rw[e];refine ho _ _ _ _ _ h (hk.bind fun x n1 tf1 t1 vy hr hle hst hrd hk1=>?_)
 obtain⟨cs,rfl,hx⟩:=hrd
 have hx':=hx
 obtain⟨a,b,c,rfl,_⟩:=pJ hx
 refine eC (wO hx) (pA hx.all (iC ?_))
 exact YB ho hup hg hp1 hp2 hp3 hl P.tk.length n1 x _ tf1 t1 Q E (Nat.sub_le _ _) hst (hv.mono hle) hx' hk1
theorem St.ops1{b:Nat}{w:List Nat}{op:Nat}(h:St P tf t n d)(hb:t.get b=none) :
  ∃tf' t',oD yA 161 1 [(0,.agg [.str w,.int .u8 (op:Int)])] ⟨b,t⟩=some (.slice b 0 1 1,⟨b+1,t'⟩)/\zB tf tf'/\St P tf' t' n d/\aA tf' 2 ([(w,op)].map gQ) (.slice b 0 1 1):=by
 have hf:yK (fun i=>some (i*2,2)) [(0,.agg [.str w,.int .u8 (op:Int)])] (pH [.str [],.int .u8 0] 1)=some [[zA.str w,.int .u8 (op:Int)]].flatten:=by
  rw[Kj (sz:=2) (z:=[.str [],.int .u8 0]) (v:=.agg [.str w,.int .u8 (op:Int)]) rfl rfl];rfl
 exact h.lit (k:=1) (sz:=2) (ds:=[gQ (w,op)]) (cl:=[[.str w,.int .u8 (op:Int)]]) Rv rfl Rw rfl rfl (by omega) hf (Iz rfl) rfl (iF.2 ⟨_,_,rfl,Vn (w,op),rH.2 rfl⟩) hb
theorem St.ops2{b:Nat}{w w':List Nat}{op op':Nat}(h:St P tf t n d)(hb:t.get b=none) :
  ∃tf' t',oD yA 161 2 [(0,.agg [.str w,.int .u8 (op:Int)]),(1,.agg [.str w',.int .u8 (op':Int)])] ⟨b,t⟩=some (.slice b 0 2 2,⟨b+1,t'⟩)/\zB tf tf'/\St P tf' t' n d/\aA tf' 2 ([(w,op),(w',op')].map gQ) (.slice b 0 2 2):=
 h.lit (k:=2) (sz:=2) (ds:=[gQ (w,op),gQ (w',op')]) (cl:=[[.str w,.int .u8 (op:Int)],[.str w',.int .u8 (op':Int)]]) Rv rfl Rw rfl rfl (by omega) (JN rfl rfl rfl) (Zr rfl rfl) rfl (iF.2 ⟨_,_,rfl,Vn (w,op),iF.2 ⟨_,_,rfl,Vn (w',op'),rH.2 rfl⟩⟩) hb
theorem zbh{w w':List Nat}{op op':Nat}(ho:lH P d o g)(hup:Up o)(h:St P tf t n d)(hk:Ok P eJ d tf (mN P.tk o [(w,op),(w',op')] n) Q E)
  (hg:Nat.blt g pn=true:=by kernel_rfl) (hp1:(gC g&&Nat.blt g yo)=false:=by kernel_rfl) (hp2:Nat.beq g pn=false:=by kernel_rfl) (hp3:(nG g&&Nat.blt g pn)=true:=by kernel_rfl) :
  oA yA.base (kF yA F gC nG E) J (.heavy (oD yA 161 2 [(0,.agg [.str w,.int .u8 (op:Int)]),(1,.agg [.str w',.int .u8 (op':Int)])]) fun a=>.call 68 [.ptr P.bp 0,.func (.func g) [.ptr P.bp 0] [],a] fun v=>.asG zE v fun X=>.ite (cB zA.one (cE X)) (.ret (.agg (cE X))) .fail) t Q:=by
 refine pC fun b hb _=>?_
 obtain⟨tf1,t1,h1,h2,h3,h4⟩:=h.ops2 (w:=w) (w':=w') (op:=op) (op':=op') hb
 refine⟨_,_,h1,tB ?_⟩
 rw[pE 68];refine KU ho hup (by simp) h3 h4 ?_ hg hp1 hp2 hp3
 have hk:=hk.mono h2
 revert hk
 generalize mN P.tk o [(w,op),(w',op')] n=r
 intro hk
 cases r with
 | ok x n1=>exact fun tf2 t2 v k1 k2 k3=>Ut k3 (hk tf2 t2 v k1 k2 k3)
 | er e i=>exact hk
theorem zbi{w:List Nat}{op:Nat}(ho:lH P d o g)(hup:Up o)(h:St P tf t n d)(hk:Ok P eJ d tf (mN P.tk o [(w,op)] n) Q E)
  (hg:Nat.blt g pn=true:=by kernel_rfl) (hp1:(gC g&&Nat.blt g yo)=false:=by kernel_rfl) (hp2:Nat.beq g pn=false:=by kernel_rfl) (hp3:(nG g&&Nat.blt g pn)=true:=by kernel_rfl) :
  oA yA.base (kF yA F gC nG E) J (.heavy (oD yA 161 1 [(0,.agg [.str w,.int .u8 (op:Int)])]) fun a=>.call 68 [.ptr P.bp 0,.func (.func g) [.ptr P.bp 0] [],a] fun v=>.asG zE v fun X=>.ite (cB zA.one (cE X)) (.ret (.agg (cE X))) .fail) t Q:=by
 refine pC fun b hb _=>?_
 obtain⟨tf1,t1,h1,h2,h3,h4⟩:=h.ops1 (w:=w) (op:=op) hb
 refine⟨_,_,h1,tB ?_⟩
 rw[pE 68];refine KU ho hup (by simp) h3 h4 ?_ hg hp1 hp2 hp3
 have hk:=hk.mono h2
 revert hk
 generalize mN P.tk o [(w,op)] n=r
 intro hk
 cases r with
 | ok x n1=>exact fun tf2 t2 v k1 k2 k3=>Ut k3 (hk tf2 t2 v k1 k2 k3)
 | er e i=>exact hk
theorem zb9(ho:lH P d o 161)(hup:Up o):lH P d (Vf P.tk o) 151:=fun tf t n Q E h hk=>by
 refine w151 _ ?_
 unfold t151;exact pA rfl (pA rfl (zbh ho hup h hk))
theorem BC(ho:lH P d o 161)(hup:Up o):lH P d (xR P.tk o) 135:=fun tf t n Q E h hk=>by
 refine w135 _ ?_
 unfold t135;exact pA rfl (pA rfl (zbh (zb9 ho hup) (Kv hup) h hk))
theorem zd1(ho:lH P d o 161)(hup:Up o):lH P d (iY P.tk o) 117:=fun tf t n Q E h hk=>by
 refine w117 _ ?_
 unfold t117;refine tB ?_
 rw[pE 135];refine BC ho hup _ _ _ _ _ h (hk.bind fun x n1 tf1 t1 v hr hle hst hrd hk1=>?_)
 obtain⟨cs,rfl,hx⟩:=hrd
 obtain⟨a,b,c,rfl,_⟩:=pJ hx
 refine eC (wO hx) (pA hx.all (pA rfl (pA rfl (pC fun b hb _=>?_))))
 obtain⟨tf2,t2,k1,k2,k3,k4⟩:=hst.ops2 (w:=[60]) (op:=13) (w':=[61]) (op':=14) hb
 refine⟨_,_,k1,tB ?_⟩
 rw[pW 95];refine Vm k4 (by simp) k3 fun t3=>?_
 cases hop:oH P.tk [([60],13),([61],14)] n1 with
 | none=>
  rw[hop]at hk1;intro h';have hx2:=RD.mono k2 _ _ hx
  exact mA rfl (oB (mA rfl (vE (pA rfl (pA hx.all (Ok.now (hk1.mono k2) h' ⟨_,rfl,hx2⟩))))))
 | some op=>
  rw[hop]at hk1;intro h';refine mA rfl (oB (mA rfl (vE (qB (by simp) (tB ?_)))))
  rw[pE 135];refine BC ho hup _ _ _ _ _ h' ((hk1.mono k2).bind fun y n2 tf3 t4 v hr2 hle2 hst2 hrd2 hk2=>?_)
  obtain⟨cs2,rfl,hy⟩:=hrd2
  obtain⟨a',b',c',rfl,_⟩:=pJ hy
  refine eC (wO hy) (pA hy.all (pC fun b hb _=>?_))
  obtain⟨tf4,t5,m1,m2,m3,m4⟩:=hst2.pair (RD.mono (k2.trans hle2) _ _ hx) hy hb
  exact⟨_,_,m1,pA (Vo rfl rfl) (pA (Qr m4).all (Ok.now (hk2.mono m2) m3 ⟨_,rfl,Qr m4⟩))⟩
theorem MB{k:Nat}{Q:fA}{P:bK}{n d:Nat}:∀(k:Nat) (x:vB) (cs:List zA) (tf t:Tr vA),k<1000000000->St P tf t n d->RD tf x.d cs->Ok P eJ d tf (.ok (Ls k x) n) Q E->xJ E 96 6 ([.int .i64 (k:Int)]++zE++cs) t Q:=by
 intro k;induction k with
 | zero=>
  intro x cs tf t _ h hx hk;obtain⟨a,b,c,rfl,_⟩:=pJ hx
  refine j96_6 _ _ _ _ _ _ _ _ _ _ _ _ _ _ _ _ _ _ _ ?_
  unfold Mo;exact qB (by simp[qC]) (pA hx.all (Ok.now hk h ⟨_,rfl,hx⟩))
 | succ k ih=>
  intro x cs tf t hkl h hx hk;obtain⟨a,b,c,rfl,_⟩:=pJ hx
  refine j96_6 _ _ _ _ _ _ _ _ _ _ _ _ _ _ _ _ _ _ _ ?_
  unfold Mo;refine pA (by rw[qC];exact decide_eq_true (by omega)) (pC fun b hb _=>?_)
  obtain⟨tf1,t1,h1,h2,h3,h4⟩:=h.sole hx hb
  have hu:=un_rd (op:=17) (w:=[]) h4
  refine⟨_,_,h1,pA (Vo rfl rfl) (pA hu.all (iC ?_))⟩
  have e:lA .i64 (((k+1:Nat):Int)-1)=(k:Int):=by rw[oC (by omega) (by omega)];omega
  rw[e];exact ih (oO 17 [] x) _ tf1 t1 (by omega) h3 hu (hk.mono h2)
theorem Vu{tk:List cC}:∀(m m' n:Nat),tk.length<=n+m->tk.length<=n+m'->sR tk m n=sR tk m' n:=by
 have z:∀m n,tk.length<=n->sR tk m n=0:=by
  intro m n h
  cases m with
  | zero=>rfl
  | succ m=>
   unfold sR;rw[yaa];intro ha;have:=Lb (P:=⟨tk,0,.nilptr,0,0,[]⟩) ha
   have:n<tk.length:=this
   omega
 intro m;induction m with
 | zero=>intro m' n h1 h2;rw[z 0 n (by omega),z m' n (by omega)]
 | succ m ih=>
  intro m' n h1 h2
  cases m' with
  | zero=>rw[z (m+1) n (by omega),z 0 n (by omega)]
  | succ m'=>
   unfold sR;split
   ·rw[ih m' (n+1) (by omega) (by omega)]
   ·rfl
theorem zcf(ho:lH P d o 161)(hup:Up o):lH P d (Ep P.tk o) 96:=fun tf t n Q E h hk=>by
 refine w96 _ ?_
 unfold t96;refine iC ?_
 have loop:∀(m i n:Nat) (t:Tr vA),sR P.tk P.tk.length n=m->i<=n->St P tf t n d->Ok P eJ d tf ((iY P.tk o (n+m)).bind fun x n'=>.ok (Ls (i+m) x) n') Q E->xJ E 96 2 ([.ptr P.bp 0,.int .i64 (i:Int)]++zE) t Q:=by
  intro m;induction m with
  | zero=>
   intro i n t hm hi h hk;refine j96_2 _ _ _ _ _ _ _ _ _ _ _ ?_
   unfold Mp;have hl:=h.len
   refine oP h (fun ha t' h'=>?_) fun ha t' h'=>?_
   ·have:n<P.tk.length:=Lb ha
    rw[Vu _ (P.tk.length+1) _ (by omega) (by omega)]at hm
    unfold sR at hm;rw[yab ha]at hm
    cases hm
   ·refine tB ?_
    rw[pE 117];refine zd1 ho hup _ _ _ _ _ h' (hk.bind fun x n1 tf1 t1 v hr hle hst hrd hk1=>?_)
    obtain⟨cs,rfl,hx⟩:=hrd
    have hx':=hx
    obtain⟨a,b,c,rfl,_⟩:=pJ hx
    refine eC (wO hx) (pA hx.all (iC ?_))
    exact MB (k:=0) i x _ tf1 t1 (by have:=h.le;omega) hst hx' hk1
  | succ m ih=>
   intro i n t hm hi h hk;refine j96_2 _ _ _ _ _ _ _ _ _ _ _ ?_
   unfold Mp;have hl:=h.len
   refine oP h (fun ha t' h'=>?_) fun ha t' h'=>?_
   ·have hlt:n<P.tk.length:=Lb ha
    rw[Vu _ (P.tk.length+1) _ (by omega) (by omega)]at hm
    unfold sR at hm;rw[yab ha]at hm;have e:lA .i64 ((i:Int)+1)=((i+1:Nat):Int):=by rw[oC (by omega) (by omega)];rfl
    refine iC ?_
    rw[e];exact ih (i+1) (n+1) t' (by omega) (by omega) h' (by rwa [show n+1+m=n+(m+1) by omega,show i+1+m=i+(m+1) by omega])
   ·rw[Vu _ (P.tk.length+1) _ (by omega) (by omega)]at hm
    unfold sR at hm;rw[yaa (by simp[ha])]at hm
    cases hm
 exact loop _ 0 n t rfl (by omega) h (by rw[ybw];exact hk)
theorem zdz(ho:lH P d o 161)(hup:Up o):lH P d (Qi P.tk o) 69:=fun tf t n Q E h hk=>by
 refine w69 _ ?_
 unfold t69;exact pA rfl (zbi (zcf ho hup) (ER hup) h hk)
theorem Xv(ho:lH P d o 161)(hup:Up o):lH P d (jU P.tk o) 42:=fun tf t n Q E h hk=>by
 refine w42 _ ?_
 unfold t42;exact pA rfl (zbi (zdz ho hup) (KK hup) h hk)
end
end Go.Proofs
namespace Go.Proofs
open Go Go.Am
variable [jC]
structure Bd:Prop where
 frac:∀ {s:List Nat} {neg:Bool} {tf t:Tr vA} {L:List jE} {Q:fA},qX s->cA yA.base tf t L->(∀tf' t' cs,zB tf tf'->cA yA.base tf' t' L->RD tf' (yW s neg).dd cs->Q (.agg cs) t')->Wc yA F 74 [.str s,.bool neg] t Q
 int:∀ {s:List Nat} {neg:Bool} {lo hi:Int} {t:Tr vA},qX s->vL s=false -> -4294967296<=lo->hi<=4294967296->∃i:Int,fB yA F 102 [.str s,.bool neg,.int .i64 lo,.int .i64 hi] t=some (.tup [.int .i64 i,.bool (lU s neg lo hi).isSome])/\∀j,lU s neg lo hi=some j->i=j
 date:∀ {s:List Nat} {t:Tr vA},rK t->Qh s->fB yA F 97 [.str s] t=some (.tup [.int .i64 (((lY s).getD 0:Nat):Int),.int .i64 0])
theorem XQ:∀s:List Nat,jY [47] s=vL s:=by
 intro s;unfold vL;induction s with
 | nil=>rfl
 | cons b s ih=>
  unfold jY;rw[ih,List.contains_cons];have e:kS [47] (b::s)=(47 == b):=by
   show(bif Nat.beq 47 b then kS [] s else false)=_
   have:kS [] s=true:=by cases s<;>rfl
   rw[this]
   cases h:Nat.beq 47 b with
   | true=>rw[sC.1 h];simp
   | false=>
    have:¬ 47=b:=fun e=>by rw[e,Nat.beq_refl]at h;cases h
    simp[this]
  rw[e]
  cases (47 == b)<;>rfl
theorem Sg{tk:List cC}{k n n1:Nat}{a:List Nat}(h:dP tk k n=.ok a n1):fL tk k n=true/\a=eP tk n/\n1=n+1:=by
 unfold dP at h;split at h
 ·cases h;exact⟨by assumption,rfl,rfl⟩
 ·cases h
section
variable {P:bK}{tf t:Tr vA}{n d:Nat}{Q E:fA}{J:pF}{o:PM vB}
theorem St.at(h:St P tf t n d){k i:Nat}(hk:fL P.tk k i=true):∃x∈P.tk,x.kind=k/\x.text=eP P.tk i:=by
 unfold fL at hk;unfold eP
 cases hx:P.tk[i]? with
 | none=>rw[hx]at hk;cases hk
 | some x=>rw[hx]at hk;exact⟨x,ycv hx,of_decide_eq_true hk,rfl⟩
theorem St.num(h:St P tf t n d){i:Nat}(hk:fL P.tk 2 i=true):qX (eP P.tk i):=by
 obtain⟨x,h1,h2,h3⟩:=h.at hk
 rw[<- h3];exact(h.good x h1).1 h2
theorem St.date(h:St P tf t n d){i:Nat}(hk:fL P.tk 3 i=true):Qh (eP P.tk i):=by
 obtain⟨x,h1,h2,h3⟩:=h.at hk
 rw[<- h3];exact(h.good x h1).2 h2
theorem zdw(hL:Bd)(h:St P tf t n d)(hk:Ok P rdInt d tf (zdx P.tk n) Q E):dK yA F E 73 [.ptr P.bp 0] t Q:=by
 refine w73 _ ?_
 unfold t73;refine tB ?_
 rw[pE 59];refine Hp (k:=3) (by omega) h (hk.bind fun a n1 tf1 t1 v hr hle hst hrd hk1=>?_)
 obtain⟨x,_,e,rfl⟩:=hrd
 obtain⟨h1,h2,_⟩:=Sg hr
 have hd:=h.date h1
 rw[<- h2]at hd;refine eC (agT _) (tB ?_)
 rw[pQ 97,cT1,e,hL.date (hst.glob.mono hst.ob.tle) hd,sA]
 exact mA rfl (oB (mA rfl (oB (Ok.now hk1 hst rfl))))
theorem zbt{ty b:Nat}{f:Nat->List Nat}(hT:yA.tys.get ty=some ⟨.arr 7 9,7,112,[.str [],.str [],.str [],.str [],.str [],.str [],.str []],true⟩)(h:At t b 0 ((List.range 7).map fun i=>.str (f i))){i:Nat}(hi:i<7) :
  aB yA ty (.ptr b 0) (.int .u8 (i:Int))=some (.ptr b (0+i))/\iA yA 9 ⟨0,t⟩ (.ptr b (0+i))=some (.str (f i)):=by
 refine⟨?_,h.load1 zN rfl ?_⟩
 ·unfold aB
  rw[hT,qA];have e:(zA.int .u8 (i:Int)).asNat=some i:=rfl
  rw[e,qA];simp only[zA.asSlice];simp only[zA.asPtr,yE.asArr,qA];rw[zN,qA,vC.2 hi,mE,Nat.mul_one]
 ·rw[ybu,List.getElem?_range hi];rfl
theorem zcg(hg:rK t){i:Nat}(hi:i<256):fB yA F 188 [.int .u8 (i:Int)] t=some (.str (Aa i)):=by
 refine tE.2 (w188 ?_)
 unfold t188 uS;have hw:lA .i64 (i:Int)=(i:Int):=oC (by omega) (by omega)
 by_cases h7:i<7
 ·obtain⟨h1,h2⟩:=zbt ty201 hg.2.1 h7
  exact pA (by rw[qC];unfold uW;rw[hw];exact decide_eq_true (by omega)) (mA h1 (wC h2 (oE ⟨rfl,rfl⟩)))
 ·refine qB (by rw[qC];unfold uW;rw[hw];simp;omega) ⟨?_,rfl⟩
  have:Aa i=[]:=by
   match i,h7 with
   | i+7,_=>rfl
  rw[this]
theorem XX{f:Nat->List Nat}{g most:Nat}(hf:∀(t:Tr vA),rK t->∀i:Nat,i<256->fB yA F g [.int .u8 (i:Int)] t=some (.str (f i)))(hg:Nat.blt g pn=true)(hp:(gC g&&Nat.blt g yo)=true)(hm:most<200)(h:St P tf t n d)(hk:Ok P rdU8 d tf (fU P.tk f most most 1 n) Q E):dK yA F E 110 [.ptr P.bp 0,.int .u8 1,.int .u8 (most:Int),.func (.func g) [] []] t Q:=by
 refine w110 _ _ _ _ ?_
 unfold t110;refine iC ?_
 have loop:∀(k i:Nat) (t:Tr vA),i+k=most+1->St P tf t n d->Ok P rdU8 d tf (fU P.tk f most k i n) Q E->xJ E 110 2 [.ptr P.bp 0,.int .u8 (most:Int),.func (.func g) [] [],.int .u8 (i:Int)] t Q:=by
  intro k;induction k with
  | zero=>
   intro i t hi h hk;refine IC _ _ _ _ ?_
   unfold Mz;exact qB (by rw[oQ];simp;omega) (tB (Ok.fail h hk))
  | succ k ih=>
   intro i t hi h hk;refine IC _ _ _ _ ?_
   unfold Mz;unfold fU at hk;rw[yaa (by omega)]at hk
   have e:wK (.func (.func g) [] []) [.int .u8 (i:Int)]=some (g,[.int .u8 (i:Int)]):=by
    unfold wK;simp only[zA.asFunc,qA,hg,mE];rfl
   refine pA (by rw[oQ];exact decide_eq_true (by omega)) (iT e ?_)
   unfold kF;rw[yab hp,hf t (h.glob.mono h.ob.tle) i (by omega),sA]
   refine oE (oP h (fun ha t' h'=>?_) fun ha t' h'=>?_)
   ·rw[ha]at hk
    exact Ok.now hk h' rfl
   ·rw[ha]at hk
    have e:lA .u8 ((i:Int)+1)=((i+1:Nat):Int):=by
     rw[Lr (by omega) (by omega)];rfl
    rw[e];exact iC (ih (i+1) t' (by omega) h' hk)
 exact loop most 1 t (by omega) h hk
end
end Go.Proofs
namespace Go.Proofs
open Go Go.Am
variable [jC]
theorem Hd{t:Tr vA}{k:Nat}{i:Int}:RD t (iJ.d ⟨k,dQ,i⟩) [.int .u8 (k:Int),.bool false,.nilslice,.bool false,.nilslice,.int .i64 i]:=Wa (x:=⟨k,dQ,i⟩) vR vR
theorem JB{t:Tr vA}{f:zI}{cs:List zA}(h:RD t f.dd cs):∃u v,cs=[.bool f.n.neg,u,.bool f.d.neg,v]/\vK [.bool false,.nilslice,.bool false,.nilslice] (.agg cs)=some (cellsOf cs)/\∀(k:Nat) (i:Int),RD t (iJ.d ⟨k,f,i⟩) [.int .u8 (k:Int),.bool f.n.neg,u,.bool f.d.neg,v,.int .i64 i]:=by
 obtain⟨u,v,rfl,h1,h2⟩:=Go.Am.rd_frac h
 exact⟨u,v,rfl,Ga h (zI.zs _),fun k i=>Wa (x:=⟨k,f,i⟩) h1 h2⟩
section
variable {P:bK}{tf t:Tr vA}{n d:Nat}{Q E:fA}{J:pF}{o:PM vB}
theorem JA{K:zA->T}{s:List Nat}{neg:Bool}(hL:Bd)(h:St P tf t n d)(hs:qX s)(k:∀tf' t' cs,zB tf tf'->St P tf' t' n d->RD tf' (yW s neg).dd cs->oA yA.base (kF yA F gC nG E) J (K (.agg cs)) t' Q) :
  oA yA.base (kF yA F gC nG E) J (.call 74 [.str s,.bool neg] K) t Q:=by
 refine tB ?_
 rw[pW 74];exact hL.frac hs h.ob fun tf' t' cs k1 k2 k3=>k tf' t' cs k1 ⟨h.ts.mono k1,k2,h.len,h.le,h.good,h.glob.mono k1⟩ k3
theorem RU(hL:Bd){neg:Bool}(h:St P tf t n d)(hk:Ok P rdXV d tf (gZ P.tk neg n) Q E):dK yA F E 75 [.ptr P.bp 0,.bool neg] t Q:=by
 refine w75 _ _ ?_
 unfold t75;refine mA nl (mA f1 (wC h.l1 (oB (tB ?_))))
 rw[pE 59];unfold gZ at hk;refine Hp (k:=2) (by omega) h (hk.bind fun a n1 tf1 t1 v hr hle hst hrd hk1=>?_)
 obtain⟨x,_,e,rfl⟩:=hrd
 obtain⟨g1,g2,g3⟩:=Sg hr
 have hn:=h.num g1
 rw[<- g2]at hn;have hnl:=h.le
 subst e;refine eC (agT _) (pA rfl (mA nl (mA f1 (wC hst.l1 (oB ?_)))))
 have tail:∀(k:Nat) (t2:Tr vA),St P tf1 t2 (n1+1) d->Ok P rdXV d tf1 (if vL x.text then .er 120 n1 else match lU x.text neg (-1048576) 1048576 with
   | none=>.er 121 n
   | some i=>.ok ⟨k,dQ,i⟩ (n1+1)) Q E->xJ E 75 21 [.ptr P.bp 0,.bool neg,.int .i64 (n:Int),.int .u8 (k:Int),.int .i64 (n1:Int),.int .u8 0,.bool false,.nilslice,.bool false,.nilslice,.int .i64 0,.int .u8 (x.kind:Int),.str x.text,.int .i64 (x.line:Int),.int .i64 (x.col:Int)] t2 Q:=by
  intro k t2 h2 hk2;refine j75_21 _ _ _ _ _ _ _ _ _ _ _ _ _ _ _ ?_
  unfold Su;refine tB ?_
  rw[pQ 66,KG (by have:=hn.1;omega),sA,XQ]
  refine vE ?_
  cases hs:vL x.text with
  | true=>
   rw[hs,yab rfl]at hk2;refine pA rfl (mA nl (mA f1 (pC fun b _ _=>?_)))
   obtain⟨t3,k1,k2⟩:=h2.set1 (n':=n1) (by have:=h2.le;omega)
   exact⟨_,_,k1 b,tB (Ok.fail k2 hk2)⟩
  | false=>
   rw[hs,yaa (by simp)]at hk2
   refine qB (by simp) (iC (j75_27 _ _ _ _ _ _ _ _ _ _ _ _ _ _ ?_))
   unfold Ss;obtain⟨i,hi,hj⟩:=hL.int (s:=x.text) (neg:=neg) (lo := -1048576) (hi:=1048576) (t:=t2) hn hs (by omega) (by omega)
   refine tB ?_
   rw[pQ 102,hi,sA];refine mA rfl (oB (mA rfl (vE ?_)))
   cases hv:lU x.text neg (-1048576) 1048576 with
   | none=>
    rw[hv]at hk2;refine pA rfl (mA nl (mA f1 (pC fun b _ _=>?_)))
    obtain⟨t3,k1,k2⟩:=h2.set1 (n':=n) (by omega)
    exact⟨_,_,k1 b,tB (Ok.fail k2 hk2)⟩
   | some j=>
    rw[hv]at hk2;have:=hj j hv
    subst this;exact qB (by simp) (pA rfl (pA rfl (Ok.now hk2 h2 ⟨_,rfl,Hd⟩)))
 refine oP hst (fun ha t2 h2=>?_) fun ha t2 h2=>?_
 ·refine iC (tail 5 t2 h2 ?_)
  rw[ha]at hk1;simp only[Bool.true_or,if_true]at hk1;exact hk1
 ·refine oP h2 (fun hb t3 h3=>?_) fun hb t3 h3=>?_
  ·refine iC (tail 6 t3 h3 ?_)
   rw[ha,hb]at hk1;simp only[Bool.or_true,if_true,ybq,if_false]at hk1;exact hk1
  ·rw[ha,hb]at hk1
   refine JA hL h3 hn fun tf4 t4 cs k1 k2 k3=>?_
   obtain⟨u,v,rfl,hz,hd⟩:=JB k3
   refine eC hz (pA rfl (pA (hd 2 0).all ?_))
   exact Ok.now (Ok.mono hk1 k1) k2 ⟨_,rfl,hd 2 0⟩
def rdOV (tf:Tr vA)(x:Option iJ)(v:zA):Prop:=match x with
 | some x=>∃cs,v=.tup [.agg cs,.bool true]/\RD tf x.d cs
 | none=>v=.tup [.agg zV,.bool false]
theorem zav(hL:Bd)(h:St P tf t n d)(hk:Ok P rdOV d tf (vW P.tk n) Q E):dK yA F E 47 [.ptr P.bp 0] t Q:=by
 refine w47 _ ?_
 unfold t47;refine tB ?_
 rw[pQ 71,Ir h,sA];unfold vW at hk;rw[Pe (by omega),Pe (by omega)]at hk
 refine eC (agT _) (pA rfl (oP h (fun ha t1 h1=>?_) fun ha t1 h1=>?_))
 ·rw[ha,yab rfl]at hk
  exact pA rfl (pA rfl (Ok.now hk h1 ⟨_,rfl,Hd⟩))
 rw[ha,yaa (by simp)]at hk
 refine oP h1 (fun ha t2 h2=>?_) fun ha t2 h2=>?_
 ·rw[ha,yab rfl]at hk
  exact pA rfl (pA rfl (Ok.now hk h2 ⟨_,rfl,Hd⟩))
 rw[ha,yaa (by simp)]at hk
 by_cases hd:(vH P n).kind=3
 ·rw[decide_eq_true hd,yab rfl]at hk
  refine pA (by rw[cT0,hd];rfl) (tB ?_)
  rw[pE 73];refine zdw hL h2 (hk.bind fun a n1 tf3 t3 v hr hle hst hrd hk1=>?_)
  subst hrd;exact oB (pA rfl (pA rfl (Ok.now hk1 hst ⟨_,rfl,Hd⟩)))
 rw[decide_eq_false hd,yaa (by simp)]at hk
 refine qB (by rw[cT0];simp[sE];omega) (oP h2 (fun ha t3 h3=>?_) fun ha t3 h3=>?_)
 ·rw[ha,yab rfl]at hk
  refine tB ?_
  rw[pW 72];refine Qy h3 fun t4 h4=>vE (tB ?_)
  rw[pE 59];have e:(if jB P.tk Bl (n+1)then n+2 else n+1)=(if jB P.tk Bl (n+1)then n+1+1 else n+1):=by split<;>rfl
  simp only[e]at hk;refine Hp (k:=2) (by omega) h4 (hk.bind fun a n1 tf5 t5 v hr hle hst hrd hk1=>?_)
  obtain⟨x,_,e,rfl⟩:=hrd
  obtain⟨g1,g2,g3⟩:=Sg hr
  have hn:=h.num g1
  rw[<- g2,<- e]at hn;subst e;refine eC (agT _) (JA hL hst hn fun tf6 t6 cs k1 k2 k3=>?_)
  obtain⟨u,v,rfl,hz,hd⟩:=JB k3
  refine eC hz (pA rfl (pA (hd 3 0).all ?_))
  exact Ok.now (Ok.mono hk1 k1) k2 ⟨_,rfl,hd 3 0⟩
 rw[ha,yaa (by simp)]at hk
 have quant:∀(neg:Bool) (m:Nat) (t4:Tr vA),St P tf t4 m d->Ok P rdOV d tf ((gZ P.tk neg m).bind fun v n1=>.ok (some v) n1) Q E →
   oA yA.base (kF yA F gC nG E) (JqE yA F E 47) (.call 75 [.ptr P.bp 0,.bool neg] fun a=>.asG zV a fun X=>.ite (cB zA.one (cV X)) (.ret (.tup [.agg (cV X),.bool true])) .fail) t4 Q:=by
  intro neg m t4 h4 hk4;refine tB ?_
  rw[pE 75];refine RU hL h4 (hk4.bind fun a n1 tf5 t5 v hr hle hst hrd hk1=>?_)
  obtain⟨cs,rfl,hx⟩:=hrd
  have hx':=hx
  obtain⟨u,w,rfl,_⟩:=Uz hx
  exact eC (agV hx) (pA hx.all (Ok.now hk1 hst ⟨_,rfl,hx'⟩))
 refine oP h3 (fun ha t4 h4=>?_) fun ha t4 h4=>?_
 ·rw[ha,yab rfl]at hk
  exact quant true _ t4 h4 hk
 rw[ha,yaa (by simp)]at hk
 by_cases hd:(vH P n).kind=2
 ·rw[decide_eq_true hd,yab rfl]at hk
  exact pA (by rw[cT0,hd];rfl) (quant false _ t4 h4 hk)
 rw[decide_eq_false hd,yaa (by simp)]at hk
 exact qB (by rw[cT0];simp[sE];omega) (pA rfl (pA rfl (Ok.now hk h4 rfl)))
theorem zea(ho:lH P d o 161){op:Nat}(h:St P tf t n d)(hk:Ok P eJ d tf (atP P.tk o op n) Q E):dK yA F E 180 [.ptr P.bp 0,.int .u8 (op:Int)] t Q:=by
 refine w180 _ _ ?_
 unfold t180;refine tB ?_
 rw[pE 58];refine ET h (hk.bind fun w n1 tf1 t1 v hr hle hst hrd hk1=>?_)
 subst hrd;refine oE (zbc hst hk1 fun n2 tf2 t2 hle2 hst2 hk2=>?_)
 refine tB ?_
 rw[pE 161];refine ho _ _ _ _ _ hst2 (hk2.bind fun x n3 tf3 t3 v hr3 hle3 hst3 hrd3 hk3=>?_)
 obtain⟨cs,rfl,hx⟩:=hrd3
 have hx':=hx
 obtain⟨a,b,c,rfl,_⟩:=pJ hx
 refine eC (wO hx) (pC fun b hb _=>?_)
 obtain⟨tf4,t4,k1,k2,k3,k4⟩:=hst3.sole hx' hb
 have hu:=un_rd (op:=op) (w:=w) k4
 exact⟨_,_,k1,pA (by rw[dH];rfl) (pA hu.all (Ok.now (hk3.mono k2) k3 ⟨_,rfl,hu⟩))⟩
theorem Ok.ret{W:pF}{r:PR vB}(hk:Ok P eJ d tf r Q E):Ok P eJ d tf r (fun v t'=>oA yA.base W J (.asG zE v fun X=>.ite (cB zA.one (cE X)) (.ret (.agg (cE X))) .fail) t' Q) E:=by
 cases r with
 | ok x n1=>exact fun tf2 t2 v k1 k2 k3=>Ut k3 (hk tf2 t2 v k1 k2 k3)
 | er e i=>exact hk
theorem UY(hL:Bd)(ho:lH P d o 161)(hup:Up o)(hc:lH P d (Ap P.tk (jU P.tk o)) 181):lH P d (pN P.tk o) 168:=fun tf t n Q E h hk=>by
 refine w168 _ ?_
 unfold t168;refine tB ?_
 rw[pE 47];unfold pN at hk;refine zav hL h (hk.bind fun v n1 tf1 t1 u hr hle h0 hrd hk1=>?_)
 cases v with
 | some v=>
  obtain⟨cs,rfl,hx⟩:=hrd
  have hx':=hx
  obtain⟨a,b,rfl,ha,hb⟩:=Uz hx
  have hc:RD tf1 (Yl v).d [.int .u8 1,.str [],.int .u8 v.kind,.bool v.f.n.neg,a,.bool v.f.d.neg,b,.int .i64 v.i,.nilslice]:=Ji (op:=1) (name:=[]) (v:=v) (args:=[]) ha hb vR
  exact mA rfl (eC (agV hx) (mA rfl (vE (pA hx.all (pA rfl (pA rfl (pA hc.all (Ok.now hk1 h0 ⟨_,rfl,hc⟩))))))))
 | none=>
  have hrd:u=.tup [.agg zV,.bool false]:=hrd
  subst hrd;refine mA rfl (eC (agV (x:=fW) (Hd (t:=tf1))) (mA rfl (vE (pA rfl (qB (by simp) ?_)))))
  have hk1:Ok P eJ d tf1 (if jB P.tk [40] n1 then(jU P.tk o (n1+1)).bind fun x n1=>(xK P.tk [41] n1).bind fun _ n2=>.ok x n2
   else if jB P.tk vM n1 then .ok (.mk 2 [] fW []) (n1+1)
   else if jB P.tk Lx n1 then atP P.tk o 3 (n1+1)
   else if jB P.tk wHas n1 then atP P.tk o 4 (n1+1)
   else if eV P.tk n1 then atP P.tk o 5 n1
   else Ap P.tk (jU P.tk o) n1) Q E:=hk1
  refine oP h0 (fun ha t2 h2=>?_) fun ha t2 h2=>?_
  ·rw[ha,yab rfl]at hk1
   refine tB ?_
   rw[pE 42];refine Xv ho hup _ _ _ _ _ h2 (hk1.bind fun x n2 tf3 t3 v hr hle hst hrd hk2=>?_)
   obtain⟨cs,rfl,hx⟩:=hrd
   have hx':=hx
   obtain⟨a,b,c,rfl,_⟩:=pJ hx
   refine eC (wO hx) (pA hx.all (zbc hst hk2 fun n3 tf4 t4 hle4 hst4 hk4=>?_))
   have hx4:=RD.mono hle4 _ _ hx'
   exact pA hx.all (Ok.now hk4 hst4 ⟨_,rfl,hx4⟩)
  rw[ha,yaa (by simp)]at hk1
  refine oP h2 (fun ha t2 h2=>?_) fun ha t2 h2=>?_
  ·rw[ha,yab rfl]at hk1
   exact pA rfl (pA rfl (Ok.now hk1 h2 ⟨_,rfl,Ji (op:=2) (name:=[]) (v:=fW) (args:=[]) vR vR vR⟩))
  rw[ha,yaa (by simp)]at hk1
  refine oP h2 (fun ha t2 h2=>?_) fun ha t2 h2=>?_
  ·rw[ha,yab rfl]at hk1
   refine tB ?_
   rw[pE 180];exact zea ho (op:=3) h2 hk1.ret
  rw[ha,yaa (by simp)]at hk1
  refine oP h2 (fun ha t2 h2=>?_) fun ha t2 h2=>?_
  ·rw[ha,yab rfl]at hk1
   refine tB ?_
   rw[pE 180];exact zea ho (op:=4) h2 hk1.ret
  rw[ha,yaa (by simp)]at hk1
  refine tB ?_
  rw[pQ 88,IH h2,sA];refine vE ?_
  cases hb:eV P.tk n1 with
  | true=>
   rw[hb,yab rfl]at hk1;refine pA rfl (tB ?_)
   rw[pE 180];exact zea ho (op:=5) h2 hk1.ret
  | false=>
   rw[hb,yaa (by simp)]at hk1
   refine qB (by simp) (tB ?_)
   rw[pE 181];exact hc _ _ _ _ _ h2 hk1.ret
end
end Go.Proofs
namespace Go.Proofs
open Go Go.Am
variable [jC]
section
variable {base:Nat}{tf t:Tr vA}{C:rA}{A B:List jE}
theorem cA.append1{T el sz n:Nat}{l:List D}{dd:D}{v x:zA}{cs:List zA}(hT:Di C T el sz)(h:cA C.base tf t (A++iL C.base sz l v::B))(hx:aA tf sz [dd] x)(hl:l.length+1<400000)(hn:t.get n=none)(hbase:C.base<=n) :
  ∃t' v',yJ C T T v x ⟨n,t⟩=some (v',⟨n+1,t'⟩)/\cA C.base tf t' (A++iL C.base sz (l++[dd]) v'::B)/\zA.one v'=true:=by
 obtain⟨cl,h1,h2⟩:=hx
 have hv:uT C.base tf t sz l v:=h.ok (iL C.base sz l v) (by simp)
 obtain⟨c,r,rfl,h3,h4⟩:=iF.1 h2
 rw[rH]at h4;subst h4;obtain⟨t',k1,k2,k3,k4⟩:=ZI hT (m:=[dd]) hv (h1.mono h.tle) h2 (by
  have:=h3.all
  rw[dH,ycb]at this;simpa using this) (by simp) (by simpa using hl) hn hbase h.tle
 refine⟨t',_,k1,?_,rfl⟩
 refine cA.upd (o:=iL C.base sz l v) h (fun k h1 h2=>k4 k ?_ (fun e=>h1 (Om.2 e))) (fun k hk=>?_) k2 (by simp[iL,cY]) k3
 all_goals grind [iL,cY]
end
theorem el48:Di yA 48 50 9:=⟨⟨_,Hl,rfl,rfl⟩,⟨_,Dr,rfl,rfl,by decide,by decide⟩,fun y h=>by rw[Dr]at h;cases h;rfl⟩
def bK.wL(P:bK)(L:List jE):bK:=⟨P.tk,P.bp,P.ts,P.el,P.ec,L⟩
def CF.cs(f:CF):List zA:=[.str f.word,.int .u8 (f.op:Int),.bool f.named,.int .i64 (f.least:Int),.int .i64 (f.most:Int)]
abbrev Kh:List zA:=[.str [108,111,111,107],.int .u8 6,.bool true,.int .i64 1,.int .i64 2,.str [109,105,110],.int .u8 11,.bool false,.int .i64 2,.int .i64 2,.str [109,97,120],.int .u8 12,.bool false,.int .i64 2,.int .i64 2,.str [98,101,116,119,101,101,110],.int .u8 20,.bool false,.int .i64 2,.int .i64 2,.str [105,102],.int .u8 18,.bool false,.int .i64 3,.int .i64 3,.str [114,111,117,110,100],.int .u8 19,.bool false,.int .i64 2,.int .i64 2,.str [115,101,114,118,105,99,101],.int .u8 21,.bool true,.int .i64 2,.int .i64 2,.str [103,114,111,119],.int .u8 23,.bool true,.int .i64 2,.int .i64 2,.str [98,101,115,116],.int .u8 22,.bool true,.int .i64 3,.int .i64 3,.str [109,111,110,116,104,115],.int .u8 24,.bool false,.int .i64 1,.int .i64 1,.str [110,117,109,98,101,114],.int .u8 25,.bool false,.int .i64 1,.int .i64 1,.str [115,116,97,114,116],.int .u8 26,.bool false,.int .i64 1,.int .i64 1]
section
variable {P:bK}{tf t:Tr vA}{n d:Nat}{Q E:fA}{J:pF}{o:PM vB}
theorem St.box{b:Nat}{v:zA}(h:St P tf t n d)(hb:t.get b=none):∃tf' t',jL v ⟨b,t⟩=some (.ptr b 0,⟨b+1,t'⟩)/\zB tf tf'/\St P tf' t' n d/\vD tf' b none v.cells:=by
 obtain⟨t',h1,⟨c,h2,h2'⟩,h3,h4⟩:=Qm (v:=v) hb
 have ho:=h.ob.junk hb h4
 have hfb:=h.ob.tfn hb
 obtain⟨k1,k2⟩:=ho.froze (fun hm=>h.ob.fresh hb hm) h2 hfb
 exact⟨_,t',h1,k2,⟨h.ts.mono k2,k1,h.len,h.le,h.good,h.glob.mono k2⟩,c,by rw[Tr.get_set,yab rfl],h2'⟩
theorem St.fixed{T b:Nat}{y:rC}{v:zA}(h:St P tf t n d)(hT:yA.tys.get T=some y)(hz:v.cells.length=y.size)(hz2:y.zero.length=y.size)(hone:cB zA.one v.cells=true)(hb:t.get b=none)(hbase:yA.base<=b) :
  ∃t1,sJ yA T ⟨b,t⟩=some (.ptr b 0,⟨b+1,t1⟩)/\∃tf' t2,(∀q,uC yA T (.ptr b 0) v ⟨q,t1⟩=some (rD,⟨q,t2⟩))/\zB tf tf'/\St P tf' t2 n d/\vD tf' b none v.cells:=by
 obtain⟨t1,h1,h2,h3,h4⟩:=bR (C:=yA) hT hb
 refine⟨t1,h1,?_⟩
 have o1:=cA.newCel (A:=[kV P n d]) (B:=P.L) h.ob hb hbase h2 h3 h4
 obtain⟨t2,k1,k2⟩:=cA.setCel (A:=[kV P n d]) (j:=0) (v:=v) o1 hT hz (by omega) hone
 have hov:oM y.zero 0 v.cells=v.cells:=by
  unfold oM;rw[List.take_zero,yah,ybt (by omega),ycd]
 rw[hov]at k2;obtain⟨c,g1,g2⟩:=k2.cel
 have hni:=k2.notin (o:=lC b none v.cells) (k:=b) (by simp[lC])
 obtain⟨m1,m2⟩:=(cA.drop k2).froze hni g1 (k2.low b (by simp[lC])).2
 exact⟨_,t2,k1,m2,⟨h.ts.mono m2,m1,h.len,h.le,h.good,h.glob.mono m2⟩,c,by rw[Tr.get_set,yab rfl],g2⟩
theorem xU{a:Nat}{w:Nat}(h:vD tf a none [.ptr w 0])(hst:St P tf t n d):iA yA 84 ⟨0,t⟩ (.ptr a 0)=some (.ptr w 0):=(vD.le h hst.ob.tle).load1 ty84 rfl rfl
theorem zdb:∀i:Nat,i<12->∃f,Aq[i]?=some f/\qH yA 250 (.agg Kh) (.int .i64 (i:Int))=some (.agg f.cs):=by
 intro i hi;have:i=0\/i=1\/i=2\/i=3\/i=4\/i=5\/i=6\/i=7\/i=8\/i=9\/i=10\/i=11:=by omega
 rcases this with rfl | rfl | rfl | rfl | rfl | rfl | rfl | rfl | rfl | rfl | rfl | rfl<;>exact⟨_,rfl,by kernel_rfl⟩
def zdd(tk:List cC):PM CF:=fun n=>match Aq.find? fun f=>jB tk f.word n with
 | none=>.er 120 n
 | some f=>.ok f (n+1)
def rdCF (_:Tr vA)(f:CF)(v:zA):Prop:=f∈Aq/\v=.agg f.cs
theorem zdc{a1 a0:Nat}(h1:vD tf a1 none Kh)(h0:vD tf a0 none [.ptr P.bp 0])(h:St P tf t n d)(hk:Ok P rdCF d tf (zdd P.tk n) Q E):dK yA F E 187 [.ptr a1 0,.ptr a0 0] t Q:=by
 refine w187 _ _ ?_
 unfold t187;have hl1:iA yA 250 ⟨0,t⟩ (.ptr a1 0)=some (.agg Kh):=by
  have:=(vD.le h1 h.ob.tle).at.load (j:=0) (n:=60) ty250 rfl rfl (by decide)
  simpa using this
 refine wC hl1 (iC ?_)
 have loop:∀(k i:Nat) (t:Tr vA),i+k=12->St P tf t n d->Ok P rdCF d tf (match (Aq.drop i).find? fun f=>jB P.tk f.word n with | none=>.er 120 n | some f=>.ok f (n+1)) Q E →
   xJ E 187 2 [.ptr a0 0,.agg Kh,.int .i64 (i:Int),.str [],.int .u8 0,.bool false,.int .i64 0,.int .i64 0] t Q:=by
  intro k;induction k with
  | zero=>
   intro i t hi h hk;refine HF _ _ _ _ _ _ _ _ ?_
   unfold Mv;have e:Aq.drop i=[]:=ybt (by show 12<=i;omega)
   rw[e]at hk;exact qB (by rw[qC];simp;omega) (wC (xU h0 h) (tB (Ok.fail h hk)))
  | succ k ih=>
   intro i t hi h hk;refine HF _ _ _ _ _ _ _ _ ?_
   unfold Mv;obtain⟨f,hf,hv⟩:=zdb i (by omega)
   obtain⟨hlt,hfe⟩:=ybc.1 hf
   rw[ybl hlt,hfe,List.find?_cons]at hk;refine pA (by rw[qC];exact decide_eq_true (by omega)) (mA hv (eC (X:=cellsOf f.cs) (iQ rfl) (pA rfl (wC (xU h0 h) (oP h (fun ha t' h'=>?_) fun ha t' h'=>?_)))))
   ·have ha:jB P.tk f.word n=true:=ha
    rw[ha]at hk;exact pA rfl (Ok.now hk h' ⟨ycv hf,rfl⟩)
   ·have ha:jB P.tk f.word n=false:=ha
    rw[ha]at hk;have e:lA .i64 ((i:Int)+1)=((i+1:Nat):Int):=by rw[oC (by omega) (by omega)];rfl
    rw[e];exact iC (ih (i+1) t' (by omega) h' hk)
 exact loop 12 0 t rfl h hk
abbrev nM(l:List vB)(v:zA):jE:=iL yA.base 9 (l.map vB.d) v
theorem St.args{l:List vB}{v:zA}{L:List jE}(h:St (P.wL (nM l v::L)) tf t n d):uT yA.base tf t 9 (l.map vB.d) v:=h.ob.ok (nM l v) (by simp[bK.wL])
theorem St.more{l:List vB}{x:vB}{v:zA}{cx:List zA}{L:List jE}(h:St (P.wL (nM l v::L)) tf t n d)(hx:RD tf x.d cx)(hl:l.length<1000){b:Nat}(hb:t.get b=none) :
  ∃t1 w,oD yA 48 1 [(0,.agg cx)] ⟨b,t⟩=some (w,⟨b+1,t1⟩)/\∀c,t1.get c=none->yA.base<=c->∃tf2 t2 v2,yJ yA 48 48 v w ⟨c,t1⟩=some (v2,⟨c+1,t2⟩)/\zB tf tf2/\St (P.wL (nM (l++[x]) v2::L)) tf2 t2 n d/\cB zA.one [v2]=true:=by
 obtain⟨tf1,t1,h1,h2,h3,h4⟩:=h.sole hx hb
 refine⟨t1,_,h1,fun c hc hcb=>?_⟩
 have ho:=h3.ob
 obtain⟨t2,v2,k1,k2,k3⟩:=cA.append1 (A:=[kV P n d]) (B:=L) (cs:=[]) el48 ho h4 (by simp;omega) hc hcb
 refine⟨tf1,t2,v2,k1,h2,⟨h3.ts,?_,h3.len,h3.le,h3.good,h3.glob⟩,by rw[dH];simp[k3]⟩
 show cA yA.base tf1 t2 ([kV P n d]++iL yA.base 9 ((l++[x]).map vB.d) v2::L)
 rw[List.map_append];exact k2
end
end Go.Proofs
namespace Go.Proofs
open Go Go.Am
variable [jC]
theorem PR.bind_assoc{α β γ:Type}(r:PR α)(f:α->Nat->PR β)(g:β->Nat->PR γ):(r.bind f).bind g=r.bind fun a n=>(f a n).bind g:=by cases r<;>rfl
section
variable {tk:List cC}{o:PM vB}
theorem Cu{w:List Nat}:Up (xK tk w):=by
 intro n a n' h;unfold xK at h;split at h<;>cases h;omega
theorem EU:Up (jV tk):=by
 intro n a n' h;unfold jV at h;split at h<;>cases h;omega
theorem Sf{k:Nat}:Up (dP tk k):=by
 intro n a n' h;unfold dP at h;split at h<;>cases h;omega
theorem kJ{α β:Type}{r:PM α}{f:α->PM β}(h1:Up r)(h2:∀a,Up (f a)):Up fun n=>(r n).bind f:=by
 intro n b n' h;obtain⟨a,n1,e1,e2⟩:=PR.bind_ok h
 have:=h1 _ _ _ e1
 have:=h2 _ _ _ _ e2
 omega
theorem tR{α:Type}{a:α}:Up (fun n=>(.ok a n:PR α)):=by intro n b n' h;cases h;omega
theorem zas:Up (zdx tk):=kJ Sf fun _=>tR
theorem XY{f:Nat->List Nat}{m:Nat}:∀(k i:Nat),Up (fU tk f m k i):=by
 intro k;induction k with
 | zero=>intro i n a n' h;cases h
 | succ k ih=>
  intro i n a n' h;unfold fU at h;split at h
  ·cases h
  ·split at h
   ·cases h;omega
   ·exact ih _ _ _ _ h
theorem DJ{neg:Bool}:Up (gZ tk neg):=by
 intro n b n' h;unfold gZ at h;obtain⟨a,n1,e1,e2⟩:=PR.bind_ok h
 have:=Sf _ _ _ e1
 split at e2
 ·split at e2
  ·cases e2
  ·split at e2<;>cases e2;omega
 ·cases e2;omega
theorem XR:Up (vW tk):=by
 intro n b n' h;unfold vW at h;split at h
 ·cases h;omega
 split at h
 ·cases h;omega
 split at h
 ·exact kJ zas (fun _=>tR) _ _ _ h
 split at h
 ·obtain⟨a,n1,e1,e2⟩:=PR.bind_ok h
  have:=Sf _ _ _ e1
  cases e2
  split at this<;>omega
 split at h
 ·have:=kJ DJ (fun _=>tR) _ _ _ h
  omega
 split at h
 ·exact kJ DJ (fun _=>tR) _ _ _ h
 cases h;omega
theorem TJ{e:PM vB}(he:Up e):∀(k:Nat) (l:List vB),Up (Jh tk e k l):=by
 intro k;induction k with
 | zero=>intro l;exact tR
 | succ k ih=>intro l;exact kJ Cu fun _=>kJ he fun x=>ih (l++[x])
theorem PG{e:PM vB}(he:Up e):∀(k:Nat) (l:List vB),Up (Dz tk e k l):=by
 intro k;induction k with
 | zero=>intro l;exact tR
 | succ k ih=>
  intro l n b n' h;unfold Dz at h;split at h
  ·have:=kJ he (fun x=>ih (l++[x])) _ _ _ h
   omega
  ·cases h;omega
theorem Ys(ho:Up o){op:Nat}:Up (atP tk o op):=kJ EU fun _=>kJ Cu fun _=>kJ ho fun _=>tR
theorem za0{e:PM vB}(he:Up e):Up (Ap tk e):=by
 intro n b n' h;unfold Ap at h;split at h
 ·cases h
 ·rename_i f _
  have hw:Up (fun n1=>(if f.named then(jV tk n1).bind fun w n2=>(xK tk [44] n2).bind fun _ n3=>.ok w n3 else .ok [] n1:PR (List Nat))):=by
   cases f.named with
   | true=>exact kJ EU fun _=>kJ Cu fun _=>tR
   | false=>exact tR
  have hm:Up (fun n5=>(if f.op=19 then(xK tk [44] n5).bind fun _ n6=>fU tk Aa 6 6 1 n6 else .ok 0 n5:PR Nat)):=by
   by_cases h19:f.op=19
   ·simp only[yab h19];exact kJ Cu fun _=>XY _ _
   ·simp only[yaa h19];exact tR
  have:=kJ Cu (fun _=>kJ hw fun w=>kJ he fun x=>kJ (TJ he (f.least-1) [x]) fun l=>kJ (PG he (f.most-f.least) l) fun l=>kJ hm fun m=>kJ Cu fun _=>tR (a:=vB.mk f.op w ⟨0,dQ,m⟩ l)) _ _ _ h
  omega
theorem UZ(ho:Up o):Up (pN tk o):=by
 have he:=zaj (tk:=tk) ho
 refine kJ XR fun v=>?_
 cases v with
 | some v=>exact tR
 | none=>
  intro n b n' h;simp only at h
  split at h
  ·have:=kJ he (fun x=>kJ Cu fun _=>tR (a:=x)) _ _ _ h
   omega
  split at h
  ·cases h;omega
  split at h
  ·have:=Ys ho _ _ _ h;omega
  split at h
  ·have:=Ys ho _ _ _ h;omega
  split at h
  ·exact Ys ho _ _ _ h
  ·exact za0 he _ _ _ h
end
section
variable {P:bK}{tf t:Tr vA}{n d:Nat}{Q E:fA}{J:pF}{o:PM vB}{ob:jE}
theorem St.drop1(h:St (P.wL (ob::P.L)) tf t n d):St P tf t n d:=⟨h.ts,cA.drop (A:=[kV P n d]) (o:=ob) h.ob,h.len,h.le,h.good,h.glob⟩
theorem Ok.bindL{α β:Type}{rd1:Tr vA->α->zA->Prop}{rd:Tr vA->β->zA->Prop}{r:PR α}{f:α->Nat->PR β}{Q1:fA}(h:Ok P rd d tf (r.bind f) Q E)
  (k:∀a n1 tf1 t1 v,r=.ok a n1->zB tf tf1->St (P.wL (ob::P.L)) tf1 t1 n1 d->rd1 tf1 a v->Ok P rd d tf1 (f a n1) Q E->Q1 v t1):Ok (P.wL (ob::P.L)) rd1 d tf r Q1 E:=by
 cases r with
 | ok a n=>exact fun tf' t' v h1 h2 h3=>k a n tf' t' v rfl h1 h2 h3 (Ok.mono h h1)
 | er e i=>exact fun tf' t' n' d' h1 h2=>h tf' t' n' d' h1 h2.drop1
theorem Kk{w:List Nat}{K:zA->T}(h:St P tf t n d)(hk:Ok P rdU d tf (xK P.tk w n) (fun v t'=>oA yA.base (kF yA F gC nG E) J (K v) t' Q) E) :
  oA yA.base (kF yA F gC nG E) J (.heavy (oD yA 93 1 [(0,.str w)]) fun a=>.call 57 [.ptr P.bp 0,a] K) t Q:=by
 refine pC fun b hb _=>?_
 obtain⟨tf1,t1,h1,h2,h3,h4⟩:=h.lit (k:=1) (sz:=1) (ds:=[D.str w]) (cl:=[[.str w]]) ty93 rfl zN rfl rfl (by omega) (Kj (sz:=1) (z:=[.str []]) (v:=.str w) rfl rfl) (Iz rfl) rfl (iF.2 ⟨_,_,rfl,wT.2 rfl,rH.2 rfl⟩) hb
 refine⟨_,_,h1,tB ?_⟩
 rw[pE 57];exact JP h4 h3 (hk.mono h2)
def Sj(tk:List cC)(f:CF)(w:List Nat)(l:List vB)(m:Nat):PM vB:=fun n=>(xK tk [41] n).bind fun _ n7=>.ok (.mk f.op w ⟨0,dQ,m⟩ l) n7
def Sh(tk:List cC)(f:CF)(w:List Nat)(l:List vB):PM vB:=fun n5=>(if f.op=19 then(xK tk [44] n5).bind fun _ n6=>fU tk Aa 6 6 1 n6 else .ok 0 n5:PR Nat).bind fun m n6=>Sj tk f w l m n6
def Si(tk:List cC)(e:PM vB)(f:CF)(w:List Nat)(k:Nat)(l:List vB):PM vB:=fun n=>(Dz tk e k l n).bind fun l n5=>Sh tk f w l n5
def Mk(tk:List cC)(e:PM vB)(f:CF)(w:List Nat)(k:Nat)(l:List vB):PM vB:=fun n=>(Jh tk e k l n).bind fun l n4=>Si tk e f w (f.most-f.least) l n4
theorem za1{tk:List cC}{e:PM vB}:Ap tk e n=(zdd tk n).bind fun f n1=>(xK tk [40] n1).bind fun _ n1=>
  (if f.named then(jV tk n1).bind fun w n2=>(xK tk [44] n2).bind fun _ n3=>.ok w n3 else .ok [] n1:PR (List Nat)).bind fun w n2=>(e n2).bind fun x n3=>Mk tk e f w (f.least-1) [x] n3:=by
 unfold Ap zdd
 cases Aq.find? fun f=>jB tk f.word n with
 | none=>rfl
 | some f=>rfl
abbrev c6(f:CF)(w:List Nat)(m:Nat)(v:zA):List zA:=[.int .u8 (f.op:Int),.str w,.int .u8 0,.bool false,.nilslice,.bool false,.nilslice,.int .i64 (m:Int),v]
theorem AJ{f:CF}{w:List Nat}{l:List vB}{m a0:Nat}{v:zA}(h0:vD tf a0 none [.ptr P.bp 0])(h:St (P.wL (nM l v::P.L)) tf t n d)(hk:Ok P eJ d tf (Sj P.tk f w l m n) Q E):xJ E 181 37 ([.ptr a0 0]++zE++c6 f w m v) t Q:=by
 refine zcu _ _ _ _ _ _ _ _ _ _ _ _ _ _ _ _ _ _ _ ?_
 unfold Tb;unfold Sj at hk;refine wC (xU h0 h) (Kk (P:=P.wL (nM l v::P.L)) h (hk.bindL fun _ n1 tf1 t1 u hr hle hst hrd hk1=>?_))
 obtain⟨tf2,k1,k2,k3⟩:=cA.freezeL (A:=[kV P n1 d]) (B:=P.L) hst.ob
 have hd:RD tf2 (vB.mk f.op w ⟨0,dQ,m⟩ l).d (c6 f w m v):=Ji (v:=⟨0,dQ,m⟩) vR vR k3
 refine pA hd.all (Ok.now (Ok.mono hk1 k1) (t:=t1) ⟨hst.ts.mono k1,k2,hst.len,hst.le,hst.good,hst.glob.mono k1⟩ ⟨_,rfl,hd⟩)
theorem tM_ok{f:CF}{w:List Nat}{l:List vB}{a0:Nat}{v:zA}(hop:f.op<256)(h0:vD tf a0 none [.ptr P.bp 0])(h:St (P.wL (nM l v::P.L)) tf t n d)(hk:Ok P eJ d tf (Sh P.tk f w l n) Q E) :
  oA yA.base (kF yA F gC nG E) (JqE yA F E 181) (.ite (tC (f.op:Int) 19)
 (.light (fun m=>iA yA 84 ⟨0,m⟩ (.ptr a0 0)) fun a10=>.heavy (oD yA 93 1 [(0,(.str [44]))]) fun a11=>
 .call 57 [a10,a11] fun a12=>
 .light (fun m=>iA yA 84 ⟨0,m⟩ (.ptr a0 0)) fun a13=>.call 110 [a13,(.int .u8 1),(.int .u8 6),(.func (.func 188) [] [])] fun a14=>
 .asI .u8 a14 fun n15=>.ite true (.jump 37 ([.ptr a0 0]++zE++[.int .u8 (f.op:Int),.str w,.int .u8 0,.bool false,.nilslice,.bool false,.nilslice,.int .i64 (lA .i64 n15),v])) .fail)
 (.jump 37 ([.ptr a0 0]++zE++c6 f w 0 v))) t Q:=by
 unfold Sh at hk;by_cases h19:f.op=19
 ·rw[yab h19,PR.bind_assoc]at hk
  refine pA (by rw[h19];rfl) (wC (xU h0 h) (Kk (P:=P.wL (nM l v::P.L)) h (hk.bindL fun _ n1 tf1 t1 u hr hle hst hrd hk1=>?_)))
  refine wC (xU (vD.le h0 hle) hst) (tB ?_)
  rw[pE 110];refine XX (P:=P.wL (nM l v::P.L)) (f:=Aa) (most:=6) (fun t hg i hi=>zcg hg hi) (by kernel_rfl) (by kernel_rfl) (by omega) hst (hk1.bindL fun m n2 tf2 t2 u hr2 hle2 hst2 hrd2 hk2=>?_)
  subst hrd2;refine oB (pA rfl (iC ?_))
  have hm:m<256:=by
   have:∀(k i:Nat),i<=7->fU P.tk Aa 6 k i n1=.ok m n2->m<256:=by
    intro k;induction k with
    | zero=>intro i _ h;cases h
    | succ k ih=>
     intro i hi h;unfold fU at h;split at h
     ·cases h
     ·split at h
      ·cases h;omega
      ·exact ih (i+1) (by omega) h
   exact this 6 1 (by omega) hr2
  have hw:lA .i64 (m:Int)=(m:Int):=oC (by omega) (by omega)
  rw[hw];exact AJ (vD.le h0 (hle.trans hle2)) hst2 hk2
 ·rw[yaa h19]at hk
  refine qB (by rw[sE];simp;omega) (iC ?_)
  exact AJ h0 h hk
theorem Vz{K:zA->T}{l:List vB}{v:zA}{a0:Nat}{f:vB->Nat->PR vB}{e:PM vB}(he:∀L,lH (P.wL L) d e 42)(h0:vD tf a0 none [.ptr P.bp 0])(hl:l.length<1000)(h:St (P.wL (nM l v::P.L)) tf t n d)(hk:Ok P eJ d tf ((e n).bind f) Q E)
  (k:∀x n1 tf1 t1 v',zB tf tf1->St (P.wL (nM (l++[x]) v'::P.L)) tf1 t1 n1 d->Ok P eJ d tf1 (f x n1) Q E->oA yA.base (kF yA F gC nG E) J (K v') t1 Q) :
  oA yA.base (kF yA F gC nG E) J (.light (fun m=>iA yA 84 ⟨0,m⟩ (.ptr a0 0)) fun a=>.call 42 [a] fun a6=>.asG zE a6 fun X=>.ite (same 10 v v) (.heavy (oD yA 48 1 [(0,.agg (cE X))]) fun a8=>.ite (same 10 v v) (.heavy (yJ yA 48 48 v a8) fun a9=>.ite (cB zA.one [a9]) (K a9) .fail) .fail) .fail) t Q:=by
 refine wC (xU h0 h) (tB ?_)
 rw[pE 42];refine he (nM l v::P.L) _ _ _ _ _ h (hk.bindL fun x n1 tf1 t1 u hr hle hst hrd hk1=>?_)
 obtain⟨cs,rfl,hx⟩:=hrd
 have hx':=hx
 obtain⟨a,b,c,rfl,_⟩:=pJ hx
 have hs:same 10 v v=true:=hst.args.same
 refine eC (wO hx) (pA hs (pC fun b hb _=>?_))
 obtain⟨t2,w,k1,k2⟩:=hst.more hx' hl hb
 refine⟨_,_,k1,pA hs (pC fun c hc hcb=>?_)⟩
 obtain⟨tf3,t3,v3,m1,m2,m3,m4⟩:=k2 c hc hcb
 exact⟨_,_,m1,pA m4 (k x n1 tf3 t3 v3 (hle.trans m2) m3 (Ok.mono hk1 m2))⟩
theorem t6_ok{f:CF}{w:List Nat}{a0:Nat}{e:PM vB}(he:∀L,lH (P.wL L) d e 42)(hop:f.op<256)(hmost:f.most<900):∀(k:Nat) (l:List vB) (v:zA) (n:Nat) (tf t:Tr vA),l.length+k=f.most->vD tf a0 none [.ptr P.bp 0]->St (P.wL (nM l v::P.L)) tf t n d->Ok P eJ d tf (Si P.tk e f w k l n) Q E →
  xJ E 181 6 ([.ptr a0 0]++zE++f.cs++c6 f w 0 v) t Q:=by
 intro k;induction k with
 | zero=>
  intro l v n tf t hlen h0 h hk;refine HH _ _ _ _ _ _ _ _ _ _ _ _ _ _ _ _ _ _ _ _ _ _ _ _ ?_
  unfold Mw;have hv:=h.args.len
  rw[ybf]at hv;exact mA hv (oB (qB (by rw[qC];simp;omega) (tM_ok hop h0 h hk)))
 | succ k ih=>
  intro l v n tf t hlen h0 h hk;refine HH _ _ _ _ _ _ _ _ _ _ _ _ _ _ _ _ _ _ _ _ _ _ _ _ ?_
  unfold Mw;have hv:=h.args.len
  rw[ybf]at hv;unfold Si Dz at hk;refine mA hv (oB (pA (by rw[qC];exact decide_eq_true (by omega)) (wC (xU h0 h) (oP (P:=P.wL (nM l v::P.L)) h (fun ha t2 h2=>?_) fun ha t2 h2=>?_))))
  ·have ha:jB P.tk [44] n=true:=ha
   rw[ha,yab rfl,PR.bind_assoc]at hk;exact Vz he h0 (by omega) h2 hk fun x n1 tf3 t3 v3 k1 k2 k3=>iC (ih (l++[x]) v3 n1 tf3 t3 (by simp;omega) (vD.le h0 k1) k2 k3)
  ·have ha:jB P.tk [44] n=false:=ha
   rw[ha,yaa (by simp)]at hk
   exact tM_ok hop h0 h2 hk
theorem t2_ok{f:CF}{w:List Nat}{a0:Nat}{e:PM vB}(he:∀L,lH (P.wL L) d e 42)(hop:f.op<256)(hmost:f.most<900)(hle:f.least<=f.most):∀(k:Nat) (l:List vB) (v:zA) (n:Nat) (tf t:Tr vA),l.length+k=f.least->vD tf a0 none [.ptr P.bp 0]->St (P.wL (nM l v::P.L)) tf t n d->Ok P eJ d tf (Mk P.tk e f w k l n) Q E →
  xJ E 181 2 ([.ptr a0 0]++zE++f.cs++c6 f w 0 v) t Q:=by
 intro k;induction k with
 | zero=>
  intro l v n tf t hlen h0 h hk;refine HI _ _ _ _ _ _ _ _ _ _ _ _ _ _ _ _ _ _ _ _ _ _ _ _ ?_
  unfold Mx;have hv:=h.args.len
  rw[ybf]at hv;exact mA hv (oB (qB (by rw[qC];simp;omega) (iC (t6_ok he hop hmost _ l v n tf t (by omega) h0 h hk))))
 | succ k ih=>
  intro l v n tf t hlen h0 h hk;refine HI _ _ _ _ _ _ _ _ _ _ _ _ _ _ _ _ _ _ _ _ _ _ _ _ ?_
  unfold Mx;have hv:=h.args.len
  rw[ybf]at hv;unfold Mk Jh at hk;rw[PR.bind_assoc]at hk;refine mA hv (oB (pA (by rw[qC];exact decide_eq_true (by omega)) (wC (xU h0 h) (Kk (P:=P.wL (nM l v::P.L)) h (hk.bindL fun _ n1 tf1 t1 u hr hle1 hst hrd hk1=>?_)))))
  rw[PR.bind_assoc]at hk1;exact Vz he (vD.le h0 hle1) (by omega) hst hk1 fun x n2 tf3 t3 v3 k1 k2 k3=>iC (ih (l++[x]) v3 n2 tf3 t3 (by simp;omega) (vD.le h0 (hle1.trans k1)) k2 k3)
theorem AK{f:CF}{w:List Nat}{a0:Nat}{e:PM vB}(he:∀L,lH (P.wL L) d e 42)(hop:f.op<256)(hmost:f.most<900)(hle:f.least<=f.most)(h1:1<=f.least)(h0:vD tf a0 none [.ptr P.bp 0])(h:St P tf t n d)(hk:Ok P eJ d tf ((e n).bind fun x n3=>Mk P.tk e f w (f.least-1) [x] n3) Q E) :
  xJ E 181 19 ([.ptr a0 0]++zE++f.cs++c6 f w 0 .nilslice) t Q:=by
 refine zcv _ _ _ _ _ _ _ _ _ _ _ _ _ _ _ _ _ _ _ _ _ _ _ _ ?_
 unfold Tc;have h':St (P.wL (nM [] .nilslice::P.L)) tf t n d:=⟨h.ts,cA.add (A:=[kV P n d]) (B:=P.L) (o':=nM [] .nilslice) h.ob (fun _ _=>rfl) (fun k hk=>by simp[iL,cY]at hk) (.inl ⟨rfl,rfl⟩) (by simp[iL,cY]) h.ob.tle,h.len,h.le,h.good,h.glob⟩
 exact Vz he h0 (by simp) h' hk fun x n1 tf1 t1 v1 k1 k2 k3=>iC (t2_ok he hop hmost hle (f.least-1) [x] v1 n1 tf1 t1 (by simp;omega) (vD.le h0 k1) k2 k3)
theorem zae:∀f∈Aq,f.op<256/\f.most<900/\f.least<=f.most/\1<=f.least:=by decide
theorem Yn{e:PM vB}(he:∀L,lH (P.wL L) d e 42):lH P d (Ap P.tk e) 181:=fun tf t n Q E h hk=>by
 rw[za1]at hk;refine w181 _ ?_
 unfold t181;refine pC fun a0 ha0 _=>?_
 obtain⟨tf1,t1,h1,h2,h3,h4⟩:=h.box (v:=.ptr P.bp 0) ha0
 refine⟨_,_,h1,?_⟩
 refine pA rfl (pA rfl (pA rfl (pA rfl (pA rfl (pA rfl (pA rfl (pA rfl (pA rfl (pA rfl (pA rfl (pA rfl (pA rfl (pC fun a1 ha1 hb1=>?_)))))))))))))
 obtain⟨t2,k1,tf3,t3,k2,k3,k4,k5⟩:=h3.fixed (v:=.agg Kh) ty250 rfl rfl rfl ha1 hb1
 refine⟨_,_,k1,pC fun c _ _=>⟨_,_,k2 c,?_⟩⟩
 have g0:vD tf3 a0 none [.ptr P.bp 0]:=vD.le h4 k3
 refine iT (g:=187) (a:=[.ptr a1 0,.ptr a0 0]) rfl ?_
 rw[pE 187];refine zdc k5 g0 k4 ((hk.mono (h2.trans k3)).bind fun f n1 tf4 t4 u hr hle hst hrd hk1=>?_)
 obtain⟨hf,rfl⟩:=hrd
 obtain⟨f1,f2,f3,f4⟩:=zae f hf
 have g4:=vD.le g0 hle
 refine eC (X:=cellsOf f.cs) (iQ rfl) (pA rfl (pA rfl (pA rfl (wC (xU g4 hst) (Kk hst (hk1.bind fun _ n2 tf5 t5 u2 hr2 hle2 hst2 hrd2 hk2=>?_))))))
 have g5:=vD.le g4 hle2
 cases hn:f.named with
 | true=>
  rw[hn,yab rfl,PR.bind_assoc]at hk2;refine pA hn (wC (xU g5 hst2) (tB ?_))
  rw[pE 58];refine ET hst2 (hk2.bind fun w n3 tf6 t6 u3 hr3 hle3 hst3 hrd3 hk3=>?_)
  subst hrd3;rw[PR.bind_assoc]at hk3;have g6:=vD.le g5 hle3
  refine oE (pA rfl (wC (xU g6 hst3) (Kk hst3 (hk3.bind fun _ n4 tf7 t7 u4 hr4 hle4 hst4 hrd4 hk4=>?_))))
  exact iC (AK he f1 f2 f3 f4 (vD.le g6 hle4) hst4 hk4)
 | false=>
  rw[hn,yaa (by simp)]at hk2
  refine qB (by rw[show(cellsOf f.cs).b 2=f.named from rfl,hn];simp) (iC ?_)
  exact AK he f1 f2 f3 f4 g5 hst2 hk2
theorem EC(hL:Bd){tk:List cC}:∀(k d:Nat),d+k=101->∀P:bK,P.tk=tk->Up (yL tk k)/\lH P d (yL tk k) 161:=by
 intro k;induction k with
 | zero=>
  intro d hd P hP;refine⟨fun n a n' h=>(by cases h),fun tf t n Q E h hk=>?_⟩
  refine w161 _ ?_
  unfold t161;exact mA nl (mA f2 (wC h.l2 (oB (pA (by rw[qC];exact decide_eq_true (by omega)) (tB (Ok.fail h hk))))))
 | succ k ih=>
  intro d hd P hP;have hup:Up (yL tk k):=(ih (d+1) (by omega) P hP).1
  have hi:∀L,lH (P.wL L) (d+1) (yL tk k) 161:=fun L=>(ih (d+1) (by omega) (P.wL L) hP).2
  subst hP;have hin:lH P (d+1) (pN P.tk (yL P.tk k)) 168:=UY hL (hi P.L) hup (Yn fun L=>Xv (hi L) hup)
  refine⟨?_,fun tf t n Q E h hk=>?_⟩
  ·exact UZ hup
  ·refine w161 _ ?_
   unfold t161;refine mA nl (mA f2 (wC h.l2 (oB (qB (by rw[qC];simp;omega) (iC (j161_7 _ _ _ _ _ _ _ _ _ _ ?_))))))
   unfold Tp;refine mA nl (mA f2 (wC h.l2 (oB (mA nl (mA f2 (pC fun b _ _=>?_))))))
   obtain⟨t1,h1,h2⟩:=h.set2 (d':=d+1)
   have e:lA .i64 ((d:Int)+1)=((d+1:Nat):Int):=by rw[oC (by omega) (by omega)];rfl
   rw[e];refine⟨_,_,h1 b,tB ?_⟩
   rw[pE 168];refine hin _ _ _ _ _ h2 ?_
   have hk:Ok P eJ d tf (pN P.tk (yL P.tk k) n) Q E:=hk
   revert hk
   generalize pN P.tk (yL P.tk k) n=r
   intro hk
   cases r with
   | er e i=>exact hk
   | ok x n1=>
    intro tf2 t2 v k1 k2 ⟨cs,hv,hx⟩
    subst hv;have hx':=hx
    obtain⟨a,b,c,rfl,_⟩:=pJ hx
    refine eC (wO hx) (pA hx.all (mA nl (mA f2 (wC k2.l2 (oB (mA nl (mA f2 (pC fun b _ _=>?_))))))))
    obtain⟨t3,m1,m2⟩:=k2.set2 (d':=d)
    have e:lA .i64 (((d+1:Nat):Int)-1)=(d:Int):=by rw[oC (by omega) (by omega)];omega
    rw[e];exact⟨_,_,m1 b,pA hx.all (hk tf2 t3 _ k1 m2 ⟨_,rfl,hx'⟩)⟩
theorem zai(hL:Bd):lH P 0 (exprT P.tk) 42:=Xv (EC hL 101 0 rfl P rfl).2 (EC hL 101 0 rfl P rfl).1
end
end Go.Proofs
namespace Go.Proofs
open Go Go.Am
theorem zdv(n:Nat):∀s:List Nat,s.foldl (fun n b=>n*10+(b-48)) n=n*10^s.length+yD s:=by
 intro s;induction s generalizing n with
 | nil=>simp[yD]
 | cons b s ih=>
  show s.foldl _ (n*10+(b-48))=_+s.foldl _ (0*10+(b-48))
  rw[ih,ih,ybn,yag];grind
theorem Qg(a b:List Nat):yD (a++b)=yD a*10^b.length+yD b:=by
 unfold yD;rw[List.foldl_append,zdv];rfl
theorem Yh(a:List Nat)(x:Nat):yD (a++[x])=yD a*10+(x-48):=by
 rw[Qg];simp[yD]
theorem Fo:∀ {s:List Nat},(∀b∈s,fD b=true)->yD s<10^s.length:=by
 intro s;induction s with
 | nil=>intro _;simp[yD]
 | cons b s ih=>
  intro h;have h1:=h b (by simp)
  have h2:=ih fun c hc=>h c (by simp[hc])
  have:yD (b::s)=(b-48)*10^s.length+yD s:=by
   have:=Qg [b] s
   simpa[yD]using this
  rw[this,ybn,yag];unfold fD at h1;simp only[ybb,decide_eq_true_eq]at h1;have:(b-48)*10^s.length<=9*10^s.length:=ybi _ (by omega)
  omega
theorem zaq{s:List Nat}(hd:∀b∈s,fD b=true)(h0:s≠[])(hp:s.head?≠some 48):0<yD s:=by
 cases s with
 | nil=>exact absurd rfl h0
 | cons b s=>
  have h1:=hd b (by simp)
  unfold fD at h1;simp only[ybb,decide_eq_true_eq]at h1;have:yD (b::s)=(b-48)*10^s.length+yD s:=by
   have:=Qg [b] s
   simpa[yD]using this
  rw[this];have hb:b≠48:=fun e=>hp (by simp[e])
  have:1*10^s.length<=(b-48)*10^s.length:=ybi _ (by omega)
  have:0<10^s.length:=Nat.pow_pos (by omega)
  omega
theorem qV(n:Nat):val 65536 (iB n)=n:=by
 induction n using Nat.strongRecOn with
 | ind n ih=>
  unfold iB;split
  ·rename_i h;simp[val,h]
  ·show n%65536+65536*val 65536 (iB (n / 65536))=n
   rw[ih _ (by omega)]
   omega
theorem aU(n:Nat):mB 65536 (iB n):=by
 induction n using Nat.strongRecOn with
 | ind n ih=>
  unfold iB;split
  ·intro x hx;cases hx
  ·intro x hx
   rcases ybs.1 hx with rfl | hx
   ·omega
   ·exact ih _ (by omega) x hx
theorem Jf(n:Nat):norm (iB n):=by
 induction n using Nat.strongRecOn with
 | ind n ih=>
  unfold iB;split
  ·intro h;exact absurd rfl h
  ·intro h
   have h2:=ih (n / 65536) (by omega)
   by_cases h3:iB (n / 65536)=[]
   ·simp only[h3,List.getLast_singleton]
    have h4:=qV (n / 65536)
    rw[h3]at h4;have:n / 65536=0:=h4.symm
    omega
   ·rw[List.getLast_cons h3]
    exact h2 h3
theorem Wr{l:List Nat}{n:Nat}(h1:mB 65536 l)(h2:norm l)(h3:val 65536 l=n):l=iB n:=
 EN (B:=65536) (by omega) h1 (aU n) h2 (Jf n) (by rw[qV,h3])
theorem Cl{n:Nat}:iB n=[] ↔ n=0:=by
 constructor
 ·intro h
  have:=qV n
  rw[h]at this;exact this.symm
 ·intro h;subst h;unfold iB;rfl
theorem GP{n k:Nat}(h:n<65536^k):(iB n).length<=k:=by
 induction k generalizing n with
 | zero=>
  have:n=0:=by simpa using h
  rw[Cl.2 this];simp
 | succ k ih=>
  unfold iB;split
  ·simp
  ·have:n / 65536<65536^k:=by
    rw[yag]at h;exact ycu (by rw[ybh];exact h)
   have:=ih this
   simp;omega
end Go.Proofs
namespace Go.Proofs
open Go Go.Am
variable [jC]
section
variable {t:Tr vA}{Q:fA}
theorem pK{b:Bool}{v:zA}(h:zA.one v=true):cB zA.one [.bool b,v]=true:=by
 show(bif zA.one (.bool b)then(bif zA.one v then true else false)else false)=true
 rw[h];rfl
theorem jM{b:Bool}{v:zA}{l:List Nat}(h:aA t 1 (cD l) v):vK [.bool false,.nilslice] (.agg [.bool b,v])=some (cellsOf [.bool b,v]):=Ga (Oi (w:=⟨b,l⟩) h) (aI.zs _)
theorem QQ{l:List Nat}{v:zA}{neg:Bool}(hv:aA t 1 (xC .u32 l) v)(hl:l.length<=500)(hlt:mB 4294967296 l)
  (hQ:∀t' u,zB t t'->aA t' 1 (cD (iB (val 4294967296 l))) u->Q (.tup [.agg [.bool (if wE l=[]then false else neg),u],.int .i64 0]) t'):Wc yA F 122 [.bool neg,v] t Q:=by
 refine w122 ?_
 unfold t122 uG;refine tB ?_
 rw[q141];refine Rt hv (by omega) hlt fun t' u hle hu=>?_
 have hlt2:mB 65536 (wE (oG (wE l))):=aR (Qx (aR hlt))
 have hval:val 65536 (wE (oG (wE l)))=val 4294967296 l:=by rw[mT,Ma,mT]
 have e:wE (oG (wE l))=iB (val 4294967296 l):=Wr hlt2 (zU _) hval
 rw[e]at hu;have hlen:(iB (val 4294967296 l)).length<=1000:=by
  rw[<- e];have:=Hu (oG (wE l))
  rw[Hi]at this;have:=Hu l
  omega
 have hul:=aA.len (l:=cD (iB (val 4294967296 l))) hu
 rw[wW]at hul;refine eC (jM hu) (pA (pK hu.one) (mA hul (oB (qB (by rw[qC];simp;omega) (pA (pK hu.one) ?_)))))
 exact hQ t' u hle hu
theorem Vj{s:List Nat}(hs:∀b∈s,fD b=true)(h0:s≠[])(hp:dO s=false)(hl:s.length<=200)(hQ:∀t' u,zB t t'->aA t' 1 (cD (iB (yD s))) u->Q (.tup [.agg [.bool false,u],.int .i64 0]) t'):Wc yA F 99 [.str s] t Q:=by
 have dig:∀b∈s,48<=b/\b<=57:=fun b hb=>by have:=hs b hb;unfold fD at this;simpa using this
 have hlen:0<s.length:=List.length_pos_iff.2 h0
 obtain⟨x,hx⟩:∃x,s[0]?=some x:=⟨s[0],ybd hlen⟩
 have hxd:=dig x (ycv hx)
 have hx0:=xL hx
 rw[show((0:Nat):Int)=0 from rfl]at hx0
 have ll:∀s:List Nat,(Int.ofNat (bA s))=(s.length:Int):=fun s=>by rw[sD];rfl
 have words:∀(n:Nat) (r w:List Nat) (v:zA) (t1:Tr vA),r.length<=n->(∀b∈r,fD b=true)->r.length<=200->w.length+r.length<=300->zB t t1->aA t1 1 (xC .u32 w) v->mB 4294967296 w->val 4294967296 w*10^r.length+yD r=yD s →
   jp 99 6 [.str r,.bool false,v,.bool false,.nilslice] t1 Q:=by
  intro n;induction n with
  | zero=>
   intro r w v t1 hr hd hr2 hw hle hv hlt hval;have:r=[]:=ycc.1 (by omega)
   subst this;refine j99_6 ?_
   unfold Sn uG uI;rw[ll];refine qB (by simp[qC]) (tB ?_)
   rw[q122];refine QQ hv (by omega) hlt fun t2 u k1 k2=>?_
   have:(if wE w=[]then false else false)=false:=by split<;>rfl
   rw[this];have hval:val 4294967296 w=yD s:=by simpa[yD]using hval
   rw[hval]at k2;exact mA rfl (eC (jM k2) (mA rfl (oB (pA (pK k2.one) (hQ t2 u (hle.trans k1) k2)))))
  | succ n ih=>
   intro r w v t1 hr hd hr2 hw hle hv hlt hval;by_cases hz:r.length=0
   ·exact ih r w v t1 (by omega) hd hr2 hw hle hv hlt hval
   refine j99_6 ?_
   unfold Sn uG uI;have hc:(bif yC (Int.ofNat (bA r)) 9 then(Int.ofNat (bA r))else 9)=((min 9 r.length:Nat):Int):=by
    rw[ll,qC];by_cases h9:r.length<9
    ·rw[decide_eq_true (by omega)];show(r.length:Int)=_;omega
    ·rw[decide_eq_false (by omega)];show(9:Int)=_;omega
   rw[hc,ll];refine pA (by rw[qC];exact decide_eq_true (by omega)) (iC ?_)
   have hcl:min 9 r.length<=r.length:=Nat.min_le_right _ _
   generalize hcd:min 9 r.length=c at *
   have hc9:c<=9:=by omega
   have hpc:∀i,i<=c->10^i<=1000000000:=fun i hi=>by
    have:10^i<=10^9:=yao (by omega) (by omega)
    simpa using this
   have hdt:∀i,yD (r.take i)<10^i\/r.length<i:=fun i=>by
    by_cases hi:i<=r.length
    ·have:=Fo (s:=r.take i) fun b hb=>hd b (List.mem_of_mem_take hb)
     rw[yda,Nat.min_eq_left hi]at this;exact .inl this
    ·exact .inr (by omega)
   have inner:∀(k i:Nat),i+k=c->jp 99 10 [.str r,.bool false,v,.int .i64 (c:Int),.int .u32 ((10^i:Nat):Int),.int .u32 ((yD (r.take i):Nat):Int),.int .i64 (c:Int),.int .i64 (i:Int),.bool false,.nilslice] t1 Q:=by
    intro k;induction k with
    | zero=>
     intro i hi;have hi:i=c:=by omega
     subst hi;refine HD ?_
     unfold Sp;refine qB (by simp[qC]) (tB ?_)
     rw[q121];have hp1:=hpc i (ybk _)
     have hp2:yD (r.take i)<10^i:=(hdt i).resolve_right (by omega)
     refine NT hv (by omega) hlt (by omega) (by omega) fun t2 w2 v2 k1 k2 k3 k4 k5 k6=>?_
     refine mA (Na (by omega)) (oE (iC ?_))
     refine ih (r.drop i) w2 v2 t2 (by rw[ydj];omega) (fun b hb=>hd b (List.mem_of_mem_drop hb)) (by rw[ydj];omega) (by rw[ydj];omega) (hle.trans k1) k2 k3 ?_
     have hsp:yD r=yD (r.take i)*10^(r.drop i).length+yD (r.drop i):=by rw[<- Qg,List.take_append_drop]
     have hlr:r.length=i+(r.drop i).length:=by rw[ydj];omega
     rw[k5,<- hval,hsp,hlr,Nat.pow_add];grind
    | succ k ih2=>
     intro i hi;have hri:r[i]?=some r[i]:=ybd (by omega)
     have hrd:48<=r[i]/\r[i]<=57:=by have:=hd r[i] (ycj _);unfold fD at this;simpa using this
     refine HD ?_
     unfold Sp uU;have hp1:=hpc (i+1) (by omega)
     have hp2:yD (r.take (i+1))<10^(i+1):=(hdt (i+1)).resolve_right (by omega)
     rw[mO hri,Yh]at hp2;refine pA (by rw[qC];exact decide_eq_true (by omega)) (mA (xL hri) (oB (iC ?_)))
     rw[yag]at hp1 hp2;have e1:lA .u32 (((10^i:Nat):Int)*10)=((10^(i+1):Nat):Int):=by rw[wS (by omega) (by omega),yag];omega
     have e2:lA .u32 (lA .u32 (((yD (r.take i):Nat):Int)*10)+lA .u32 (lA .u8 ((r[i]:Int)-48)))=((yD (r.take (i+1)):Nat):Int):=by
      rw[Lr (by omega) (by omega),wS (n:=((yD (r.take i):Nat):Int)*10) (by omega) (by omega),wS (n:=(r[i]:Int)-48) (by omega) (by omega),wS (by omega) (by omega),mO hri,Yh]
      omega
     have e3:nD (i:Int)=.int .i64 ((i+1:Nat):Int):=by
      show zA.int .i64 (lA .i64 ((i:Int)+1))=_
      rw[oC (by omega) (by omega)];rfl
     rw[e1,e2,e3];exact ih2 (i+1) (by omega)
   exact inner c 0 (by omega)
 have check:∀(k i:Nat),i+k=s.length->jp 99 2 [.str s,.bool false,.int .i64 (s.length:Int),.int .i64 (i:Int),.bool false,.nilslice] t Q:=by
  intro k;induction k with
  | zero=>
   intro i hi;refine j99_2 ?_
   unfold So;rw[ll];refine qB (by rw[qC];simp;omega) (qB (by rw[qC];simp;omega) (iC ?_))
   exact words s.length s [] .nilslice t (ybk _) hs hl (by simp;omega) (zB.refl _) vR (fun x hx=>by cases hx) (by simp[val])
  | succ k ih=>
   intro i hi;have hsi:s[i]?=some s[i]:=ybd (by omega)
   have hsd:=dig s[i] (ycj _)
   refine j99_2 ?_
   unfold So uU;have e3:nD (i:Int)=.int .i64 ((i+1:Nat):Int):=by
    show zA.int .i64 (lA .i64 ((i:Int)+1))=_
    rw[oC (by omega) (by omega)];rfl
   refine pA (by rw[qC];exact decide_eq_true (by omega)) (mA (xL hsi) (oB (qB (by rw[qC];simp;omega) (mA (xL hsi) (oB (qB (by rw[qC];simp;omega) (iC ?_)))))))
   rw[e3];exact ih (i+1) (by omega)
 refine w99 ?_
 unfold t99 uU;rw[ll];refine pA (by rw[qC];exact decide_eq_true (by omega)) (mA hx0 (oB (qB (by rw[sE];simp;omega) (iC ?_))))
 have e45:tC (x:Int) 45=false:=by rw[sE];simp;omega
 rw[e45];refine j99_11 ?_
 unfold AH uU;rw[ll];refine qB (by rw[sE];simp;omega) (mA hx0 (oB ?_))
 by_cases h48:x=48
 ·have hl1:s.length=1:=by
   unfold dO at hp;have:s.head?=some 48:=by
    cases s with
    | nil=>cases hx
    | cons a r=>cases hx;simp[h48]
   rw[this]at hp;simp at hp;omega
  refine pA (by rw[sE];simp;omega) (qB (by simp) (qB (by rw[qC];simp;omega) (iC ?_)))
  exact check s.length 0 (by omega)
 ·refine qB (by rw[sE];simp;omega) (iC ?_)
  exact check s.length 0 (by omega)
end
end Go.Proofs
namespace Go.Proofs
open Go Go.Am
variable [jC]
theorem Bn{n:Nat}(h:(iB n).length<=1024):qO false (iB n)=true:=by
 unfold qO;split
 ·rfl
 ·rename_i hne
  have hn:=Jf n hne
  have:(iB n).getLast?≠some 0:=by
   rw[List.getLast?_eq_some_getLast hne];intro e;exact hn (yci e)
  simp[h,this]
theorem el41:Di yA 41 79 1:=⟨⟨_,Hm,rfl,rfl⟩,⟨_,rZ,rfl,rfl,by decide,by decide⟩,fun y h=>by rw[rZ]at h;cases h;rfl⟩
section
variable {t:Tr vA}{Q:fA}
theorem sameA{b:Bool}{v:zA}{l:List Nat}(h:aA t 1 (cD l) v):same 10 (.agg [.bool b,v]) (.agg [.bool b,v])=true:=by
 have h1:=aA.same (d:=9) h
 have h2:same 9 (.bool b) (.bool b)=true:=QD
 show(same 9 (.bool b) (.bool b)&&(same 9 v v&&true))=true
 rw[h1,h2];rfl
theorem Zk{l:List Nat}{v:zA}(hv:aA t 1 (xC .u32 l) v)(hl:l.length<400000)(hlt:mB 4294967296 l)(hQ:∀t' u,zB t t'->aA t' 1 (cD (iB (val 4294967296 l))) u->Q (.agg [.bool false,u]) t'):Wc yA F 141 [.bool false,v] t Q:=by
 refine Rt hv hl hlt fun t' u hle hu=>?_
 have hlt2:mB 65536 (wE (oG (wE l))):=aR (Qx (aR hlt))
 have hval:val 65536 (wE (oG (wE l)))=val 4294967296 l:=by rw[mT,Ma,mT]
 rw[Wr hlt2 (zU _) hval]at hu
 have:(if wE l=[]then false else false)=false:=by split<;>rfl
 rw[this];exact hQ t' u hle hu
theorem XA{a b:Nat}{u v:zA}(hu:aA t 1 (cD (iB a)) u)(hv:aA t 1 (cD (iB b)) v)(ha:(iB a).length<=1000)(hb:(iB b).length<=1000)(hb0:0<b)
  (hQ:∀t' q r,zB t t'->aA t' 1 (cD (iB (a / b))) q->aA t' 1 (cD (iB (a%b))) r->Q (.tup [.agg [.bool false,q],.agg [.bool false,r],.int .i64 0]) t'):Wc yA F 156 [.agg [.bool false,u],.agg [.bool false,v]] t Q:=by
 have hBB:=cM
 refine w156 ?_
 unfold t156 uB uI;refine pC fun bb hbb hbase=>?_
 obtain⟨t1,g1,g2,g3,g4⟩:=Jl (C:=yA) (T:=229) (el:=43) (sz:=2) (n:=2) (cl:=[[.bool false,u],[.bool false,v]]) (ps:=[(0,.agg [.bool false,u]),(1,.agg [.bool false,v])]) Ru rfl ty43 rfl rfl (by decide) rfl (fun i cs hi=>by
  match i,hi with
  | 0,hi=>cases hi;rfl
  | 1,hi=>cases hi;rfl) rfl hbb
 refine⟨_,_,g1,tB ?_⟩
 have hw:aA t1 2 ([(⟨false,iB a⟩:aI),⟨false,iB b⟩].map aI.d) (.slice bb 0 2 2):=⟨_,g2,iF.2 ⟨_,_,rfl,Oi (w:=⟨false,iB a⟩) (hu.mono g3),iF.2 ⟨_,_,rfl,Oi (w:=⟨false,iB b⟩) (hv.mono g3),rH.2 rfl⟩⟩⟩
 have hall:=LS hw (fun w hw=>by
  rcases ybs.1 hw with rfl | hw
  ·show(iB a).length<_;omega
  ·rcases ybs.1 hw with rfl | hw
   ·show(iB b).length<_;omega
   ·cases hw) (by simp)
 have hva:=Bn (n:=a) (by omega)
 have hvb:=Bn (n:=b) (by omega)
 rw[q162,hall,sA];refine vE (qB (by simp[hva,hvb]) ?_)
 have hvl:=aA.len (l:=cD (iB b)) hv
 rw[wW]at hvl;have hbne:iB b≠[]:=fun e=>by have:=Cl.1 e;omega
 have hbl:0<(iB b).length:=List.length_pos_iff.2 hbne
 refine mA hvl (oB (qB (by rw[sE];simp;omega) (tB ?_)))
 rw[q164];refine Nq (hv.mono g3) (by omega) (aU b) fun t2 v2 k1 k2=>tB ?_
 rw[q164];refine Nq ((hu.mono g3).mono k1) (by omega) (aU a) fun t3 v3 m1 m2=>tB ?_
 rw[q165];have an:=Kz (aU a)
 have ab:=Kz (aU b)
 have vn:∀n,val BB (rG (iB n))=n:=fun n=>by rw[hBB,Ro,qV]
 refine Yd m2 (k2.mono m1) (by rw[uR];omega) (by rw[hBB];exact an) (by rw[hBB];exact ab) (Je (Jf a)) (Je (Jf b)) (fun e=>?_) fun t4 q r qv rv p1 p2 p3 p4 p5 p6 p7 p8 p9=>?_
 ·have:=vn b
  rw[e]at this;have:(0:Nat)=b:=this
  omega
 rw[vn,vn]at p8;rw[vn]at p9;have hq:val BB q=a / b/\val BB r=a%b:=by
  have h1:a=b*val BB q+val BB r:=p8
  have h2:val BB r<b:=p9
  constructor
  ·rw[h1,Nat.mul_add_div hb0,Nat.div_eq_of_lt h2,yct]
  ·rw[h1,Nat.mul_add_mod,Nat.mod_eq_of_lt h2]
 have hB1:1<BB:=by omega
 have lenq:q.length<=1000:=by
  have h1:val BB q<=val BB (rG (iB a)):=by rw[vn,hq.1];exact Nat.div_le_self _ _
  have:=tQ hB1 (by rw[hBB];exact an) p6 h1
  rw[uR]at this;omega
 have lenr:r.length<=1000:=by
  have h1:val BB r<=val BB (rG (iB b)):=by rw[vn];omega
  have:=tQ hB1 (by rw[hBB];exact ab) p7 h1
  rw[uR]at this;omega
 refine mA rfl (mA rfl (qB (by decide) (iC ?_)))
 refine zc0 ?_
 unfold AV uG;refine tB ?_
 rw[q141];show Wc yA F 141 [.bool false,qv] t4 _
 refine Zk p2 (by omega) (by rw[<- hBB];exact p4) fun t5 u5 s1 s2=>?_
 rw[<- hBB,hq.1]at s2;refine eC (jM s2) (pA rfl (tB ?_))
 rw[q141];refine Zk (p3.mono s1) (by omega) (by rw[<- hBB];exact p5) fun t6 u6 s3 s4=>?_
 rw[<- hBB,hq.2]at s4;refine eC (jM s4) (pA (pK s2.one) (pA (pK s4.one) ?_))
 exact hQ t6 u5 u6 (g3.trans (k1.trans (m1.trans (p1.trans (s1.trans s3))))) (s2.mono s3) s4
theorem zbd{a b:Nat}{u v:zA}(hu:aA t 1 (cD (iB a)) u)(hv:aA t 1 (cD (iB b)) v)(ha:(iB a).length<=1000)(hb:(iB b).length<=1000)(hb0:0<b)
  (hQ:∀t' q r,zB t t'->aA t' 1 (cD (iB (a / b))) q->aA t' 1 (cD (iB (a%b))) r->Q (.tup [.agg [.bool false,q],.agg [.bool false,r]]) t'):Wc yA F 143 [.agg [.bool false,u],.agg [.bool false,v]] t Q:=by
 refine w143 ?_
 unfold t143 uG uI;refine tB ?_
 rw[q156];refine XA hu hv ha hb hb0 fun t' q r h1 h2 h3=>?_
 refine mA rfl (eC (jM h2) (mA rfl (eC (jM h3) (mA rfl (oB (pA (pK h2.one) (pA (pK h3.one) (pA (pK h2.one) (pA (sameA h3) (pA (pK h3.one) ?_))))))))))
 exact hQ t' q r h1 h2 h3
theorem agF{f:zI}{u v:zA}(hu:aA t 1 (cD f.n.limbs) u)(hv:aA t 1 (cD f.d.limbs) v):vK [.bool false,.nilslice,.bool false,.nilslice] (.agg [.bool f.n.neg,u,.bool f.d.neg,v])=some (cellsOf [.bool f.n.neg,u,.bool f.d.neg,v]):=Ga (Ol hu hv) (zI.zs _)
theorem Jt{a b:Nat}(h:a<=b):(iB a).length<=(iB b).length:=
 tQ (B:=65536) (by omega) (aU b) (Jf a) (by rw[qV,qV];exact h)
theorem zci{a b:Nat}{u v:zA}(hu:aA t 1 (cD (iB a)) u)(hv:aA t 1 (cD (iB b)) v)(ha:(iB a).length<=200)(hb:(iB b).length<=200)(hb0:0<b)
  (hQ:∀t' cs,zB t t'->RD t' (sL false a b).dd cs->Q (.tup [.agg cs,.int .i64 0]) t'):Wc yA F 100 [.agg [.bool false,u],.agg [.bool false,v]] t Q:=by
 have hva:=Bn (n:=a) (by omega)
 have hvb:=Bn (n:=b) (by omega)
 have hvl:=aA.len (l:=cD (iB b)) hv
 rw[wW]at hvl;have hbne:iB b≠[]:=fun e=>by have:=Cl.1 e;omega
 have hbl:0<(iB b).length:=List.length_pos_iff.2 hbne
 refine w100 ?_
 unfold t100 uB uI uG;refine tB ?_
 rw[Ip,Dp (by omega) hu,sA,hva]
 refine vE (qB (by simp) (tB ?_))
 rw[Ip,Dp (by omega) hv,sA,hvb]
 refine vE (qB (by simp) (mA hvl (oB (qB (by rw[sE];simp;omega) (tB ?_)))))
 rw[q124];refine w124 ?_
 unfold t124;refine qB (by simp) (iC (j124_7 ?_))
 unfold AX uG;refine tB ?_
 rw[q142];refine w142 ?_
 unfold t142 uG uI;refine tB ?_
 rw[q155];refine zba (n:=⟨false,iB a⟩) (d:=⟨false,iB b⟩) hu hv (by show(iB a).length<_;omega) (by show(iB b).length<_;omega) (aU a) (aU b) hva hvb fun t1 g gv h1 h2 h3 h4 h5=>?_
 have h5:val 65536 g=Nat.gcd a b:=by rw[h5,qV,qV]
 have hg:=Wr h3 h4 h5
 subst hg;have hgb:Nat.gcd a b<=b:=Nat.gcd_le_right _ hb0
 have hgl:=Jt hgb
 have hg0:0<Nat.gcd a b:=Nat.gcd_pos_of_pos_right _ hb0
 refine mA rfl (eC (jM h2) (mA rfl (oB (pA (pK h2.one) (pA (pK h2.one) ?_)))))
 refine eC (jM h2) (pA (pK h2.one) (tB ?_))
 rw[q143];refine zbd (hu.mono h1) h2 (by omega) (by omega) hg0 fun t2 q r k1 k2 k3=>?_
 refine mA rfl (eC (jM k2) (mA rfl (eC (jM k3) (pA (pK k2.one) (tB ?_)))))
 rw[q143];refine zbd ((hv.mono h1).mono k1) (h2.mono k1) (by omega) (by omega) hg0 fun t3 q2 r2 m1 m2 m3=>?_
 have kq:=k2.mono m1
 have hf:=Ol (f:=⟨⟨false,iB (a / Nat.gcd a b)⟩,⟨false,iB (b / Nat.gcd a b)⟩⟩) kq m2
 refine mA rfl (eC (jM m2) (mA rfl (eC (jM m3) (pA (pK m2.one) (pA rfl (pA rfl (pA hf.all ?_)))))))
 refine eC (agF (f:=⟨⟨false,iB (a / Nat.gcd a b)⟩,⟨false,iB (b / Nat.gcd a b)⟩⟩) kq m2) (tB ?_)
 have ql:=aA.len (l:=cD (iB (a / Nat.gcd a b))) kq
 rw[wW]at ql;have ql2:=aA.len (l:=cD (iB (b / Nat.gcd a b))) m2
 rw[wW]at ql2;have la:=Jt (Nat.div_le_self a (Nat.gcd a b))
 have lb:=Jt (Nat.div_le_self b (Nat.gcd a b))
 have long:fB yA F 144 [.agg [.bool false,q,.bool false,q2]] t3=some (.bool false):=by
  refine tE.2 (w144 ?_)
  unfold t144 uI oK;refine mA ql (oB (qB (by rw[qC];simp;omega) (mA ql2 (oB ⟨?_,rfl⟩))))
  rw[qC,decide_eq_false (by omega)]
 have res:fB yA F 125 [.agg [.bool false,q,.bool false,q2]] t3=some (.tup [.agg [.bool false,q,.bool false,q2],.int .i64 0]):=by
  refine tE.2 (w125 ?_)
  unfold t125 uB;refine tB ?_
  rw[q144,long,sA];exact vE (qB (by simp) (pA hf.all ⟨rfl,rfl⟩))
 rw[q125];show xD (fB yA F 125 [.agg [.bool false,q,.bool false,q2]] t3) _
 rw[res,sA];refine mA rfl (eC (agF (f:=⟨⟨false,iB (a / Nat.gcd a b)⟩,⟨false,iB (b / Nat.gcd a b)⟩⟩) kq m2) (mA rfl (oB (pA hf.all ?_))))
 refine hQ t3 _ (h1.trans (k1.trans m1)) ?_
 unfold sL;exact hf
theorem KQ{l:List Nat}{v:zA}(hv:aA t 1 (cD l) v)(hl:l.length<1000000)(hQ:∀t' v',zB t t'->aA t' 1 (cD l) v'->Q v' t'):Wc yA F 146 [v] t Q:=by
 refine w146 ?_
 have e:(rW .eql).f yA 41 (.tmp 3) (.const (.slice none 0 0)) v .nilslice=some (.bool (Nat.beq v.tag 5)):=by
  obtain⟨cl,h1,_⟩:=hv
  rcases h1 with⟨rfl,_⟩ | ⟨b,off,cap,rfl,_⟩
  ·kernel_rfl
  ·kernel_rfl
 simp only[uB,t146,oA,e,sA,Av];split
 ·grind [jT,sC,zB.refl]
 ·intro b hb hbase
  obtain⟨H1,g1,⟨c,g2⟩,g3⟩:=lit0 (t:=t) Hm rfl rZ rfl hb
  rw[g1];simp only[sA];intro n hn _;obtain⟨u,H',g4,g5,g6,_⟩:=LO el41 (hv.mono g3) (by grind [wW]) hn (.inr ⟨b,c,0,rfl,g2⟩)
  rw[g4];simp only[sA];exact hQ _ _ (g3.trans g6) g5
theorem Vl{l:List Nat}{neg:Bool}{v:zA}(hv:aA t 1 (cD l) v)(hl:l.length<1000000)(hQ:∀t' v',zB t t'->aA t' 1 (cD l) v'->Q (.agg [.bool (!neg&&decide (0<l.length)),v']) t'):Wc yA F 127 [.agg [.bool neg,v]] t Q:=by
 have hvl:=aA.len (l:=cD l) hv
 rw[wW]at hvl;refine w127 ?_
 unfold t127 uI
 cases neg with
 | false=>
  refine pA rfl (mA hvl (oB (tB ?_)))
  rw[q146];refine KQ hv hl fun t1 v1 h1 h2=>?_
  have e:yC 0 (l.length:Int)=decide (0<l.length):=by rw[qC];congr 1;simp
  rw[e];have hs:same 10 (.int .i64 (l.length:Int)) (uZ (l.length:Int))=true:=by
   show same 10 (.int .i64 (l.length:Int)) (.int .i64 (l.length:Int))=true
   exact Nf
  refine pA hv.same (mA hvl (pA hs (pA (pK h2.one) (pA (pK h2.one) ?_))))
  have:=hQ t1 v1 h1 h2
  rw[ycl,ycn]at this;exact this
 | true=>
  refine qB (by simp) (tB ?_)
  rw[q146];refine KQ hv hl fun t1 v1 h1 h2=>?_
  refine pA (pK h2.one) (pA (pK h2.one) ?_)
  exact hQ t1 v1 h1 h2
theorem neg_ok{a b:Nat}{cs:List zA}(hd:RD t (sL false a b).dd cs)(ha:(iB a).length<=200)(hb:(iB b).length<=200)(hb0:0<b)
  (hQ:∀t' cs,zB t t'->RD t' (sL true a b).dd cs->Q (.tup [.agg cs,.int .i64 0]) t'):Wc yA F 101 [.agg cs] t Q:=by
 have hg0:0<Nat.gcd a b:=Nat.gcd_pos_of_pos_right _ hb0
 have la:=Jt (Nat.div_le_self a (Nat.gcd a b))
 have lb:=Jt (Nat.div_le_self b (Nat.gcd a b))
 obtain⟨u,v,rfl,hu,hv⟩:=rd_frac hd
 have hu:aA t 1 (cD (iB (a / Nat.gcd a b))) u:=hu
 have hv:aA t 1 (cD (iB (b / Nat.gcd a b))) v:=hv
 have hd0:0<b / Nat.gcd a b:=Nat.div_pos (Nat.gcd_le_right _ hb0) hg0
 have hvalid:Hb (sL false a b)=true:=by
  unfold Hb;have e1:(sL false a b).n=⟨false,iB (a / Nat.gcd a b)⟩:=rfl
  have e2:(sL false a b).d=⟨false,iB (b / Nat.gcd a b)⟩:=rfl
  rw[e1,e2];simp only[Bn (n:=a / Nat.gcd a b) (by omega),Bn (n:=b / Nat.gcd a b) (by omega),qV]
  have hco:Nat.gcd (a / Nat.gcd a b) (b / Nat.gcd a b)=1:=by
   rw[Nat.gcd_div (Nat.gcd_dvd_left a b) (Nat.gcd_dvd_right a b),Nat.div_self hg0]
  have hne:iB (b / Nat.gcd a b)≠[]:=fun e=>by have:=Cl.1 e;omega
  simp[hne,hco]
  omega
 have hfit:zI.fit (sL false a b):=⟨⟨by show(iB _).length<_;unfold eK;omega,by show(iB _).length<_;unfold eK;omega⟩,aU _,aU _⟩
 refine w101 ?_
 unfold t101 uB uG;refine tB ?_
 rw[q126];have:=MJ (f:=sL false a b) hu hv hfit
 show xD (fB yA F 126 [.agg [.bool (sL false a b).n.neg,u,.bool (sL false a b).d.neg,v]] t) _
 rw[this,sA,hvalid];refine vE (qB (by simp) (tB ?_))
 rw[q127];refine Vl (neg:=false) hu (by omega) fun t1 u1 h1 h2=>?_
 have hv1:=hv.mono h1
 refine eC (jM h2) (pA (sameA hv1) (tB ?_))
 rw[q127];refine Vl (neg:=false) hv1 (by omega) fun t2 v2 k1 k2=>?_
 refine eC (jM k2) (tB ?_)
 rw[q127];refine Vl (neg:=(!false&&decide (0<(iB (b / Nat.gcd a b)).length))) k2 (by omega) fun t3 v3 m1 m2=>?_
 refine eC (jM m2) (pA rfl ?_)
 have hne:0<(iB (b / Nat.gcd a b)).length:=List.length_pos_iff.2 fun e=>by have:=Cl.1 e;omega
 have hn:(sL true a b).n=⟨!false&&decide (0<(iB (a / Nat.gcd a b)).length),iB (a / Nat.gcd a b)⟩:=by
  unfold sL;congr 1
  by_cases h0:a=0
  ·subst h0
   have:iB (0 / Nat.gcd 0 b)=[]:=Cl.2 (by simp)
   rw[this];rfl
  ·have h1:0<a / Nat.gcd a b:=Nat.div_pos (Nat.gcd_le_left _ (by omega)) hg0
   have:0<(iB (a / Nat.gcd a b)).length:=List.length_pos_iff.2 fun e=>by have:=Cl.1 e;omega
   simp[this];omega
 have hdd:(sL true a b).d=⟨!(!false&&decide (0<(iB (b / Nat.gcd a b)).length))&&decide (0<(iB (b / Nat.gcd a b)).length),iB (b / Nat.gcd a b)⟩:=by
  unfold sL;congr 1;simp[hne]
 have hf:=Ol (f:=⟨⟨!false&&decide (0<(iB (a / Nat.gcd a b)).length),iB (a / Nat.gcd a b)⟩,⟨!(!false&&decide (0<(iB (b / Nat.gcd a b)).length))&&decide (0<(iB (b / Nat.gcd a b)).length),iB (b / Nat.gcd a b)⟩⟩) ((h2.mono k1).mono m1) m2
 refine pA hf.all ?_
 refine hQ t3 _ (h1.trans (k1.trans m1)) ?_
 have:sL true a b=⟨(sL true a b).n,(sL true a b).d⟩:=rfl
 rw[this,hn,hdd];exact hf
end
end Go.Proofs
namespace Go.Proofs
open Go Go.Am
variable [jC]
section
variable {t tf:Tr vA}
theorem WY{l:List Nat}{y:zA}{box:Nat}{v:zA}{Q:fA}{I:Nat->Tr vA->Prop}(hl:l.length<1000000)
  (hr:∀k t,I k t->iA yA 41 ⟨0,t⟩ (.ptr box 0)=some v/\aA t 1 (xC .u16 l) v)
  (hy:∀k x t,l[k]?=some x->I (k+1) t->∀R:fA,(∀t',I k t'->R (.bool true) t')->xD (wK y [.int .u16 (x:Nat)]) fun p=>Wq yA F gC p.1 p.2 t R)
  (hQ:∀t,I 0 t->Q (.tup []) t):∀(k:Nat) (t:Tr vA),k<=l.length->I k t->jp 159 2 [y,.ptr box 0,.int .i64 ((k:Int)-1)] t Q:=by
 intro k;induction k with
 | zero=>
  intro t _ h;refine HV ?_
  simp only[uH,uB,uZ,uW,Tq,oA,nJ];simp_all
 | succ k ih=>
  intro t hk h;obtain⟨g0,hv⟩:=hr _ _ h
  obtain⟨x,hx⟩:=getElem?_of_lt (l:=l) (i:=k) (by omega)
  obtain⟨c,off,g1,g2⟩:=hv.idx Bw hx
  have e1:((k+1:Nat):Int)-1=(k:Int):=by omega
  rw[e1];refine HV ?_
  simp (disch:=omega) only[uH,uB,uZ,uW,Tq,oA,nJ,g0,g1,g2,sA,bB,oC]
  rw[yab (by omega)]
  refine hy k x t hx h _ fun t' ht'=>?_
  grind [zA.asBool,sA]
theorem WX{l:List Nat}{y:zA}{box:Nat}{v:zA}{Q:fA}{t:Tr vA}{I:Nat->Tr vA->Prop}(hl:l.length<1000000)
  (hr:∀k t,I k t->iA yA 41 ⟨0,t⟩ (.ptr box 0)=some v/\aA t 1 (xC .u16 l) v)
  (hy:∀k x t,l[k]?=some x->I (k+1) t->∀R:fA,(∀t',I k t'->R (.bool true) t')->xD (wK y [.int .u16 (x:Nat)]) fun p=>Wq yA F gC p.1 p.2 t R)
  (hQ:∀t,I 0 t->Q (.tup []) t) (h:I l.length t):Wc yA F 159 [y,.ptr box 0] t Q:=by
 obtain⟨g0,hv⟩:=hr _ _ h
 refine w159 ?_
 simp (disch:=omega) only[uI,uZ,uW,t159,oA,g0,hv.len,aH,sA,bB,oC]
 exact WY hl hr hy hQ l.length t (ybk _) h
theorem RI{f i:Nat}{v8 v4:zA}{K R:T}{ps:List Nat}{Q:fA}{S:Nat->Tr vA->Tr vA->Prop}(hS:∀k,Zb (S k))(hp:aA tf 1 (xC .u16 ps) v4)(hl:ps.length<30000)(h:S ps.length tf t)
  (body:∀(k x:Nat) (tf t:Tr vA) (Q1:fA),ps[k]?=some x->S (k+1) tf t->(∀t',S k tf t'->Q1 (.bool true) t')->Jq yA F f i [v8,.int .u16 (x:Int)] t Q1)
  (bH:∀tf' t',zB tf tf'->S 0 tf' t'->oA yA.base (Wq yA F gC) (Jq yA F f) K t' Q) :
  oA yA.base (Wq yA F gC) (Jq yA F f) (.call 147 [v4] fun a0=>.range (uQ yA) a0 i 1 [v8] K R) t Q:=by
 simp only[oA];rw[q147];refine w147 ?_
 simp only[t147,oA];intro bb hbb hbase;have hc4:v4.cells=[v4]:=by
  obtain⟨cl,h1,_⟩:=hp
  rcases h1 with⟨rfl,_⟩ | ⟨_,_,_,rfl,_⟩<;>rfl
 have hone:jL v4 ⟨bb,t⟩=some (.ptr bb 0,⟨bb+1,t.set bb (.cells (Tr.ofList [v4]) 1 none)⟩):=by
  unfold jL;rw[hc4];rfl
 rw[hone,sA];simp only[];have h1:=(hS _).both h hbb (.cells (Tr.ofList [v4]) 1 none)
 have hfb:=Og ((hS _).le h) hbb
 have htf1:zB tf (tf.set bb (.cells (Tr.ofList [v4]) 1 none)):=(iO hfb _).1
 generalize htf:tf.set bb (.cells (Tr.ofList [v4]) 1 none)=tf1 at h1 htf1
 have hg1:tf1.get bb=some (.cells (Tr.ofList [v4]) 1 none):=by rw[<- htf,Tr.get_set,yab rfl]
 generalize t.set bb (.cells (Tr.ofList [v4]) 1 none)=t1 at h1
 refine⟨Nat.le_add_right _ _,fun l r hl0 hlb hr1 hr2 hy=>?_⟩
 have hra:hZ (uQ yA) (.func (.func 159) [] [.ptr bb 0]) l=some (159,[.func (.yld l) [] [],.ptr bb 0]):=by
  unfold hZ;simp only[zA.asFunc,qA];have:uQ yA 159=true:=by kernel_rfl
  rw[this];rfl
 rw[hra,sA];have h2:=(hS _).both h1 hl0 (.loop r)
 have hfl:=Og ((hS _).le h1) hl0
 have hlr:rN true r=r:=by
  obtain⟨a,b,c,d,e,f,g,h,i⟩:=r
  have hr1:a=.ready:=hr1
  have hr2:b=none:=hr2
  subst hr1;subst hr2;rfl
 have hle2:zB tf1 (tf1.set l (.loop r)):=(iO hfl _).1
 rw[show Wq yA F gC 159=Wc yA F 159 by funext a m R;rw[q159]]
 refine WX (l:=ps) (v:=v4) (I:=fun k t'=>S k (tf1.set l (.loop r)) t') (by omega) ?_ ?_ ?_ h2
 ·intro k t' hI
  have hle:=(hS _).le hI
  have hg:t'.get bb=some (.cells (Tr.ofList [v4]) 1 none):=hle _ _ (hle2 _ _ hg1)
  refine⟨?_,hp.mono (htf1.trans (hle2.trans hle))⟩
  exact(vD.load1 (cs:=[v4]) (lo:=none) ⟨Tr.ofList [v4],hg,fun j a hj=>by grind [Tr.get_ofList]⟩ Hm rfl (j:=0) rfl)
 ·intro k x t' hx hI R hR
  show xD (some (yo+l,[zA.int .u16 (x:Int)])) _
  rw[sA];refine hy [.int .u16 (x:Int)] t' R rfl ((hS _).le hI _ _ (by rw[Tr.get_set,yab rfl])) ?_
  refine body k x tf1 _ _ hx ((hS _).out hfl hI) fun t2 h3 hn2=>⟨true,rfl,?_⟩
  rw[hlr];exact hR _ ((hS _).both h3 hn2 (.loop r))
 ·intro t' hI
  exact .inl ⟨(hS _).le hI _ _ (by rw[Tr.get_set,yab rfl]),bH tf1 _ htf1 ((hS _).out hfl hI)⟩
theorem or16{x y:Nat}(hx:x<281474976710656)(hy:y<65536):mH Nat.lor .u64 ((x*65536:Nat):Int) (y:Int)=some (.int .u64 ((x*65536+y:Nat):Int)):=by
 have h:=Bx (a:=x) (b:=y) (n:=16) hy
 have e:(2:Nat)^16=65536:=by decide
 rw[e]at h;rw[dS (k:=.u64) (show x*65536<cF .u64 by show _<18446744073709551616;omega) (show y<cF .u64 by show _<18446744073709551616;omega),h]
theorem UX{bx x y:Nat}{Q1:fA}(h:rT bx (.int .u64 (y:Int)) tf t)(hy:y<281474976710656)(hx:x<65536)(hQ:∀t',rT bx (.int .u64 ((y*65536+x:Nat):Int)) tf t'->Q1 (.bool true) t'):jp 128 2 [.ptr bx 0,.int .u16 (x:Int)] t Q1:=by
 obtain⟨i1,i2,i3,i4⟩:=h
 have e5:(y:Int)*65536=((y*65536:Nat):Int):=by omega
 have e6:mH Nat.lor .u64 (lA .u64 ((y:Int)*65536)) (lA .u64 (x:Int))=some (.int .u64 ((y*65536+x:Nat):Int)):=by
  rw[e5,xF (by omega) (by omega),xF (by omega) (by omega),or16 hy hx]
 refine j128_2 ?_
 unfold AW uE;refine wC (i4.load1 nO rfl (j:=0) rfl) (oB ?_)
 refine mA e6 (oB (pC fun b3 _ _=>?_))
 obtain⟨t3,k1,k2,k3⟩:=i4.store1 (v:=.int .u64 ((y*65536+x:Nat):Int)) i1 nO rfl rfl rfl (j:=0) (by simp)
 exact⟨_,_,k1 b3,hQ _ ⟨i1,i2,i3.off i2 k3,k2⟩⟩
theorem int128{n:Nat}{v:zA}(hv:aA t 1 (cD (iB n)) v)(hl:(iB n).length<=1000):fB yA F 128 [.agg [.bool false,v]] t=some (.tup [.int .i64 (if n<9223372036854775808 then(n:Int)else 0),.int .i64 (if n<9223372036854775808 then 0 else 3)]):=by
 have hvl:=aA.len (l:=cD (iB n)) hv
 rw[wW]at hvl;have hlt:=aU n
 have hval:=qV n
 refine vX (w128 ?_)
 unfold t128 uB uI;refine tB ?_
 rw[Ip,Dp (by omega) hv,sA,Bn (by omega)]
 refine vE (qB (by simp) (mA hvl (oB ?_)))
 by_cases h4:4<(iB n).length
 ·have hbig:¬ n<9223372036854775808:=fun h=>by
   have:=GP (n:=n) (k:=4) (by rw[show(65536:Nat)^4=18446744073709551616 by decide];omega)
   omega
  refine pA (by rw[qC];exact decide_eq_true (by omega)) ⟨?_,zB.refl _⟩
  rw[yaa hbig,yaa hbig]
 ·have hn64:n<18446744073709551616:=by
   have:=jN (B:=65536) (by omega) hlt
   rw[hval]at this;have h2:65536^(iB n).length<=65536^4:=yao (by omega) (by omega)
   rw[show(65536:Nat)^4=18446744073709551616 by decide]at h2
   omega
  refine qB (by rw[qC];simp;omega) (pC fun bx hbx hbase=>?_)
  obtain⟨t1,e1,e2,e3,e4⟩:=bR (C:=yA) nO hbx
  refine⟨_,_,e1,pC fun b2 _ _=>?_⟩
  obtain⟨t2,g1,g2,g3⟩:=e2.store1 (v:=.int .u64 0) hbase nO rfl rfl rfl (j:=0) (by simp)
  refine⟨_,_,g1 b2,?_⟩
  have hS0:rT bx (.int .u64 ((val 65536 ((iB n).drop (iB n).length):Nat):Int)) t t2:=by
   rw[List.drop_length];exact⟨hbase,hbx,(zB.refl t).off hbx e4 |>.off hbx g3,g2⟩
  refine RI (S:=fun k tf t=>rT bx (.int .u64 ((val 65536 ((iB n).drop k):Nat):Int)) tf t) (fun k=>rT.framed) hv (by omega) hS0 (fun k x tf t Q1 hx hI hR=>?_) (fun tf' t' hle hI=>?_)
  ·have hk:=(ybc.1 hx).1
   have hdrop:(iB n).drop k=x::(iB n).drop (k+1):=sP hx
   have hd1:val 65536 ((iB n).drop (k+1))<281474976710656:=by
    have h1:=jN (B:=65536) (by omega) (Yw hlt (k+1))
    have h2:65536^((iB n).drop (k+1)).length<=65536^3:=yao (by omega) (by rw[ydj];omega)
    rw[show(65536:Nat)^3=281474976710656 by decide]at h2
    omega
   have hx16:x<65536:=hlt x (ycv hx)
   refine UX hI hd1 hx16 fun t' h'=>hR t' ?_
   have:val 65536 ((iB n).drop k)=val 65536 ((iB n).drop (k+1))*65536+x:=by rw[hdrop,val];omega
   rw[this];exact h'
  ·obtain⟨i1,i2,i3,i4⟩:=hI
   rw[ycr,hval]at i4;unfold uE;refine qB (by simp) (wC (i4.load1 nO rfl (j:=0) rfl) (oB ?_))
   by_cases h63:n<9223372036854775808
   ·rw[yab h63,yab h63]
    refine qB (by rw[oQ];simp;omega) (wC (i4.load1 nO rfl (j:=0) rfl) (oB ⟨?_,hle.trans i3⟩))
    have:uW (n:Int)=(n:Int):=oC (by omega) (by omega)
    rw[this]
   ·rw[yaa h63,yaa h63]
    exact pA (by rw[oQ];exact decide_eq_true (by omega)) ⟨rfl,hle.trans i3⟩
theorem EP{s:List Nat}(h:vL s=false):zO s=s:=by
 unfold vL at h;unfold zO fE;induction s with
 | nil=>rfl
 | cons b s ih=>
  rw[List.contains_cons]at h;simp only[yal,beq_eq_false_iff_ne]at h;have hd:decide (b≠47)=true:=decide_eq_true fun e:b=47=>h.1 e.symm
  rw[List.takeWhile_cons,hd,yab rfl,ih h.2]
theorem XN:∀s:List Nat,kY [47] s=if vL s=true then some (zO s,rP s)else none:=by
 intro s;induction s with
 | nil=>rfl
 | cons b s ih=>
  have e:kS [47] (b::s)=Nat.beq 47 b:=by
   show(bif Nat.beq 47 b then kS [] s else false)=_
   have:kS [] s=true:=by cases s<;>rfl
   rw[this]
   cases Nat.beq 47 b<;>rfl
  unfold kY;rw[e,ih];unfold vL rP zO fE;rw[List.contains_cons]
  cases hb:Nat.beq 47 b with
  | true=>
   have:=sC.1 hb
   subst this;rw[cond_true,List.takeWhile_cons];simp[xP,sD]
  | false=>
   have hne:¬ 47=b:=fun e=>by rw[e,Nat.beq_refl]at hb;cases hb
   have hd:decide (b≠47)=true:=decide_eq_true fun e:b=47=>hne e.symm
   rw[cond_false,List.takeWhile_cons,hd,yab rfl];have:(47 == b)=false:=by simp[hne]
   rw[this,Bool.false_or];split
   ·simp
   ·rfl
theorem Yg{s:List Nat}(h:∀b∈s,fD b=true)(hl:s.length<=200):(iB (yD s)).length<=200:=by
 have h1:=Fo h
 have h2:10^s.length<=65536^s.length:=Nat.pow_le_pow_left (by omega) _
 have:=GP (n:=yD s) (k:=s.length) (by omega)
 omega
theorem intPv{s:List Nat}{neg:Bool}{lo hi:Int}(h:qX s)(hs:vL s=false)(hlo : -4294967296<=lo)(hhi:hi<=4294967296):∃i:Int,fB yA F 102 [.str s,.bool neg,.int .i64 lo,.int .i64 hi] t=some (.tup [.int .i64 i,.bool (lU s neg lo hi).isSome])/\∀j,lU s neg lo hi=some j->i=j:=by
 obtain⟨h1,h2,h3,h4,_⟩:=h
 rw[EP hs]at h2 h3 h4;have hlen:=Yg h2 h1
 generalize hn:yD s=n at hlen
 have core:∀R:fA,(∀t',zB t t'->n<9223372036854775808->jp 102 15 [.int .i64 lo,.int .i64 hi,.int .i64 (if neg then -(n:Int)else n)] t' R)->(∀t',zB t t'->¬ n<9223372036854775808->R (.tup [.int .i64 0,.bool false]) t')->Wc yA F 102 [.str s,.bool neg,.int .i64 lo,.int .i64 hi] t R:=by
  intro R k1 k2;refine w102 ?_
  unfold t102 uG uI;refine tB ?_
  rw[q99];refine Vj h2 h3 h4 h1 fun t' u hle hu=>?_
  rw[hn]at hu;refine mA rfl (eC (jM hu) (mA rfl (oB (pA (pK hu.one) (tB ?_)))))
  rw[q128];show xD (fB yA F 128 [.agg [.bool false,u]] t') _
  rw[int128 hu (by omega),sA]
  refine mA rfl (oB (mA rfl (oB ?_)))
  by_cases h63:n<9223372036854775808
  ·rw[yab h63,yab h63]
   refine qB (by decide) ?_
   have:=k1 t' hle h63
   cases neg with
   | true=>
    refine pA rfl (iC ?_)
    have e:uW (0-(n:Int)) = -(n:Int):=by
     show lA .i64 (0-(n:Int))=_
     rw[oC (by omega) (by omega)];omega
    rw[e];exact this
   | false=>exact qB (by simp) (iC this)
  ·rw[yaa h63,yaa h63]
   exact pA (by decide) (k2 t' hle h63)
 by_cases h63:n<9223372036854775808
 ·refine⟨if neg then -(n:Int)else n,vX (core _ (fun t' hle _=>?_) fun t' _ hh=>absurd h63 hh),fun j hj=>?_⟩
  ·refine zc3 ?_
   unfold BA;unfold lU;rw[hn];generalize (if neg then -(n:Int)else n)=m
   show wp 102 _ t' _
   by_cases hl:lo<=m
   ·refine pA (by rw[oQ];exact decide_eq_true hl) ⟨?_,hle⟩
    by_cases hh:m<=hi
    ·simp[hl,hh,oQ]
    ·simp[hl,hh,oQ]
   ·refine qB (by rw[oQ];simp;omega) ⟨?_,hle⟩
    simp[hl]
  ·unfold lU at hj
   rw[hn]at hj;generalize (if neg=true then -(n:Int)else(n:Int))=m at hj ⊢
   have hj:(if lo<=m/\m<=hi then some m else none)=some j:=hj
   split at hj
   ·exact yci hj
   ·cases hj
 ·have hno:lU s neg lo hi=none:=by
   unfold lU;rw[hn];simp only
   rw[yaa]
   cases neg with
   | true=>simp only[if_true];omega
   | false=>simp only[ybq,if_false];omega
  rw[hno];exact⟨0,vX (core _ (fun t' _ hh=>absurd hh h63) fun t' hle _=>⟨rfl,hle⟩),fun j hj=>by cases hj⟩
theorem fracPv{s:List Nat}{neg:Bool}{Q:fA}(h:qX s)(hQ:∀t' cs,zB t t'->RD t' (yW s neg).dd cs->Q (.agg cs) t'):Wc yA F 74 [.str s,.bool neg] t Q:=by
 obtain⟨h1,h2,h3,h4,h5⟩:=h
 have la:(zO s).length<=s.length:=by unfold zO fE;exact(List.takeWhile_sublist _).length_le
 have main:∀b:List Nat,(∀x∈b,fD x=true)->b≠[]->dO b=false->b.length<=200->0<yD b->yW s neg=sL neg (yD (zO s)) (yD b)->jp 74 9 [.bool neg,.str (zO s),.str b,.bool false,.nilslice,.bool false,.nilslice] t Q:=by
  intro b b1 b2 b3 b4 b5 hf;refine j74_9 ?_
  unfold t74_9 uG uI;refine tB ?_
  rw[q99];refine Vj h2 h3 h4 (by omega) fun t1 u k1 k2=>?_
  refine mA rfl (eC (jM k2) (mA rfl (oB (pA (pK k2.one) (tB ?_)))))
  rw[q99];refine Vj b1 b2 b3 b4 fun t2 v m1 m2=>?_
  refine mA rfl (eC (jM m2) (mA rfl (oB (pA (pK m2.one) (tB ?_)))))
  rw[q100];have l1:=Yg h2 (by omega)
  have l2:=Yg b1 b4
  refine zci (k2.mono m1) m2 l1 l2 b5 fun t3 cs p1 p2=>?_
  obtain⟨u3,v3,rfl,hu3,hv3⟩:=rd_frac p2
  refine mA rfl (eC (agF hu3 hv3) (mA rfl (oB (pA p2.all ?_))))
  cases neg with
  | true=>
   refine pA rfl (tB ?_)
   rw[q101];refine neg_ok p2 l1 l2 b5 fun t4 cs4 r1 r2=>?_
   obtain⟨u4,v4,rfl,hu4,hv4⟩:=rd_frac r2
   refine mA rfl (eC (agF hu4 hv4) (mA rfl (oB (pA r2.all (pA r2.all ?_)))))
   refine hQ t4 _ (k1.trans (m1.trans (p1.trans r1))) ?_
   rw[hf];exact r2
  | false=>
   refine qB (by simp) (pA p2.all ?_)
   refine hQ t3 _ (k1.trans (m1.trans p1)) ?_
   rw[hf];exact p2
 refine w74 ?_
 unfold t74 uS uB;refine tB ?_
 have hg:yA.prims.get 98=some (vN Iv):=by kernel_rfl
 have hcut:fB yA F 98 [.str s,.str [47]] t=some (.tup [.str (if vL s=true then zO s else s),.str (if vL s=true then rP s else []),.bool (vL s)]):=by
  refine Iq hg fun H=>?_
  show yB (Nat.blt (bA s) 4294967281) _=_
  rw[sD,vC.2 (by omega),mE,XN]
  cases vL s<;>rfl
 rw[q98,hcut,sA];refine mA rfl (oE (mA rfl (oE (mA rfl (vE ?_)))))
 cases hs:vL s with
 | true=>
  obtain⟨c1,c2,c3,c4⟩:=h5 hs
  refine qB (by simp) (iC ?_)
  simp only[if_true];have lb:(rP s).length<=s.length:=by unfold rP;rw[ydj];omega
  refine main (rP s) c2 c1 c3 (by omega) (zaq c2 c1 fun e=>?_) (by unfold yW;rw[hs];rfl)
  unfold dO at c3;rw[e]at c3;simp at c3;have:(rP s).length=1:=by have:=List.length_pos_iff.2 c1;omega
  match hb:rP s with
  | []=>exact c1 hb
  | [x]=>rw[hb]at e;cases e;exact c4 hb
  | x::y::r=>rw[hb]at this;simp at this
 | false=>
  refine pA rfl (iC ?_)
  simp only[ybq,if_false];have:=main [49] (by decide) (by simp) (by decide) (by simp) (by decide) (by unfold yW;rw[hs];rfl)
  rwa [EP hs]at this
end
end Go.Proofs
