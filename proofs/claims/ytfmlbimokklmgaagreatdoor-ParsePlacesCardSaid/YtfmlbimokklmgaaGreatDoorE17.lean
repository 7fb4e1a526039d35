/- Lent plans and expressions. -/
import Derived.Test.YtfmlbimokklmgaaGreatDoorE16
set_option linter.all false
noncomputable section
namespace Go.Am
open Go Go.RowKit
variable {u v:zA}
def limbMs:List D:=(List.range 12).map fun i=>D.int .u16 (((8000024+i)%65536:Nat):Int)
def wK.e(w:wK):E:=.st [.pl (.bool w.neg),.sl 1 ((xE w.limbs).map E.pl) limbMs]
section
variable {t:Tr vA}
theorem Br{w:wK} (hu:bA t 1 (xE w.limbs) u):RD t w.d [.bool w.neg,u]:=by
 unfold wK.d;rw[kJ];refine⟨[[.bool w.neg],[u]],rfl,?_⟩
 grind [yD,sF,tY,xP]
theorem Bs{f:gH} (hu:bA t 1 (xE f.n.limbs) u)(hv:bA t 1 (xE f.d.limbs) v):RD t f.dd [.bool f.n.neg,u,.bool f.d.neg,v]:=by
 unfold gH.dd;rw[kJ];refine⟨[[.bool f.n.neg,u],[.bool f.d.neg,v]],rfl,?_⟩
 grind [yD,Br,sF]
theorem Ld{x:pG} (hu:bA t 1 (xE x.f.n.limbs) u)(hv:bA t 1 (xE x.f.d.limbs) v):RD t x.d [.int .u8 x.kind,.bool x.f.n.neg,u,.bool x.f.d.neg,v,.int .i64 x.i]:=by
 unfold pG.d;rw[kJ];refine⟨[[.int .u8 x.kind],[.bool x.f.n.neg,u,.bool x.f.d.neg,v],[.int .i64 x.i]],rfl,?_⟩
 grind [yD,lK,Bs,sF]
theorem Hc{op:Nat}{name:List Nat}{v:pG}{args:List cA}{a b c:zA}(ha:bA t 1 (xE v.f.n.limbs) a)(hb:bA t 1 (xE v.f.d.limbs) b)(hc:bA t 9 (args.map cA.d) c):RD t (cA.mk op name v args).d (Fk (.mk op name v args) a b c):=by
 unfold cA.d Fk;rw[kJ,cA.ds_eq];refine⟨[[.int .u8 op],[.str name],[.int .u8 v.kind,.bool v.f.n.neg,a,.bool v.f.d.neg,b,.int .i64 v.i],[c]],rfl,?_⟩
 rw[yD];refine⟨_,_,rfl,rfl,?_⟩
 rw[yD];refine⟨_,_,rfl,rfl,?_⟩
 grind [yD,Ld,xP,sF]
def pP{sz:Nat}:bA t sz [] .nilslice:=⟨[],.inl ⟨rfl,rfl⟩,sF.2 rfl⟩
end
end Go.Am
set_option maxRecDepth 100000
namespace Go.Proofs
open Go Go.Am
variable {b el g op sz:Nat}{y z:lD}{v:zA}{ps:List (Nat × zA)}{cl:List (List zA)}{ds:List D}{x:cA}{c cs cx:List zA}{w:List Nat}{l:List (List Nat × Nat)}
variable [gC]
section
variable {tf t:Tr vA}{C:mA}
theorem Ez {z:List zA} (hz:z.length=sz)(hv:v.cells.length=sz):kL (fun i=>some (i*sz,sz)) [(0,v)] (nI z 1)=some v.cells:=by
 have e:nI z 1=z:=by
  show eD z []=_;rw[aG,ycd]
 rw[e];have o1:iU z (0*sz) sz v=some v.cells:=by
  unfold iU;simp only[oD,hv,Nat.zero_mul,ybw,eR,lQ,aG,List.take_zero,yah];rw[lC.2 rfl,qE.2 (by omega)]
  simp only[Bool.and_self,sE];rw[<- hz,List.drop_length,ycd]
 grind [kL,rA]
def litN{T n:Nat}{L:List iE}    (hT:C.tys.get T=some y)(hel:y.desc.asSlice=some el)(hz:C.tys.get el=some z)(hs:z.size=sz)(h0:zB z.zero=sz)(hn:n*sz<1000000)
  (hfill:kL (fun i=>some (i*sz,sz)) ps (nI z.zero n)=some cl.flatten) (hcl:∀(i:Nat) cs,cl[i]?=some cs->cs.length=sz) (hlen:cl.length=n) (hr:xD tf ds cl) (ho:fA C.base tf t L) (hb:t.get b=none) :
  ∃tf' t',eC C T n ps ⟨b,t⟩=some (.slice b 0 n n,⟨b+1,t'⟩)/\aA tf tf'/\fA C.base tf' t' L/\bA tf' sz ds (.slice b 0 n n):=by
 obtain⟨t',h1,h2,h3,h4⟩:=Em hT hel hz hs h0 hn hfill hcl hlen hb
 have ho':=ho.junk hb h4
 have hfb:=ho.tfn hb
 have hg:t'.get b=some (.cells (Tr.ofList cl.flatten) (zB cl.flatten) none):=by
  have:=h1
  unfold eC at this;rw[hT,rA,hel,rA,hz,rA]at this;rw[wB,hs,hfill,rA]at this;obtain⟨_,h5⟩:=this
  have h5:=(Prod.mk.inj (yci h5)).2
  have h6:t.set b (.cells (Tr.ofList cl.flatten) (zB cl.flatten) none)=t':=(xA.mk.inj h5).2
  rw[<- h6,Tr.get_set,yab rfl]
 obtain⟨k1,k2⟩:=ho'.froze (fun hm=>ho.fresh hb hm) hg hfb
 refine⟨_,t',h1,k2,k1,cl,KW hcl (by rw[Tr.get_set,yab rfl]) (.inl rfl) hlen,xD.mono k2 _ _ hr⟩
end
def qS (x:List Nat × Nat):D:=.st [.str x.1,.int .u8 (x.2:Int)]
theorem rd_op{t:Tr vA}{x:List Nat × Nat} (h:RD t (qS x) cs):cs=[.str x.1,.int .u8 (x.2:Int)]:=by
 grind [qS,kJ,yD,sF,mK,lK]
def zhq{t:Tr vA}(x:List Nat × Nat):RD t (qS x) [.str x.1,.int .u8 (x.2:Int)]:=by
 unfold qS;exact kJ.2 ⟨[[.str x.1],[.int .u8 (x.2:Int)]],rfl,yD.2 ⟨_,_,rfl,mK.2 rfl,yD.2 ⟨_,_,rfl,lK.2 rfl,sF.2 rfl⟩⟩⟩
def oM (tf:Tr vA)(x:cA)(v:zA):Prop:=∃cs,v=.agg cs/\RD tf x.d cs
def rdXV (tf:Tr vA)(x:pG)(v:zA):Prop:=∃cs,v=.agg cs/\RD tf x.d cs
abbrev zE:List zA:=[.int .u8 0,.str [],.int .u8 0,.bool false,.nilslice,.bool false,.nilslice,.int .i64 0,.nilslice]
abbrev zV:List zA:=[.int .u8 0,.bool false,.nilslice,.bool false,.nilslice,.int .i64 0]
abbrev cE(X:jG):List zA:=[.int .u8 (X.i 0),.str (X.s 1),.int .u8 (X.i 2),.bool (X.b 3),X.v 4,.bool (X.b 5),X.v 6,.int .i64 (X.i 7),X.v 8]
abbrev cV(X:jG):List zA:=[.int .u8 (X.i 0),.bool (X.b 1),X.v 2,.bool (X.b 3),X.v 4,.int .i64 (X.i 5)]
def cE_eq{tf:Tr vA}  (h:RD tf x.d cs):cE (cellsOf cs)=cs:=by
 obtain⟨a,b,c,rfl,_⟩:=rL h
 rfl
def agE{tf:Tr vA}  (h:RD tf x.d cs):xK zE (.agg cs)=some (cellsOf cs):=bU h (cA.zs _)
def agV{tf:Tr vA}{x:pG} (h:RD tf x.d cs):xK zV (.agg cs)=some (cellsOf cs):=bU h (pG.zs _)
def Hr{tf:Tr vA}  (h:RD tf x.d cs):cs.length=9:=by
 obtain⟨a,b,c,rfl,_⟩:=rL h
 rfl
section
variable {P:cI}{tf t:Tr vA}{n d:Nat}{Q E:pB}{J:eE}
def St.lit{T k:Nat}    (h:St P tf t n d)(hT:yA.tys.get T=some y)(hel:y.desc.asSlice=some el)(hz:yA.tys.get el=some z)(hs:z.size=sz)(h0:zB z.zero=sz)(hn:k*sz<1000000)
  (hfill:kL (fun i=>some (i*sz,sz)) ps (nI z.zero k)=some cl.flatten) (hcl:∀(i:Nat) cs,cl[i]?=some cs->cs.length=sz) (hlen:cl.length=k) (hr:xD tf ds cl) (hb:t.get b=none) :
  ∃tf' t',eC yA T k ps ⟨b,t⟩=some (.slice b 0 k k,⟨b+1,t'⟩)/\aA tf tf'/\St P tf' t' n d/\bA tf' sz ds (.slice b 0 k k):=by
 obtain⟨tf',t',h1,h2,h3,h4⟩:=litN hT hel hz hs h0 hn hfill hcl hlen hr h.ob hb
 exact⟨tf',t',h1,h2,⟨h.ts.mono h2,h3,h.len,h.le,h.good,h.glob.mono h2⟩,h4⟩
theorem Ed  (h:c.length=sz):∀(i:Nat) cs,[c][i]?=some cs->cs.length=sz:=by
 intro i cs hi;match i,hi with
 | 0,hi=>simp_all
theorem zdr {c':List zA}(h:c.length=sz)(h':c'.length=sz):∀(i:Nat) cs,[c,c'][i]?=some cs->cs.length=sz:=by
 intro i cs hi;match i,hi with
 | 0,hi=>simp_all
 | 1,hi=>simp_all
def yP {X Y:T}(h:St P tf t n d)(k1:acc P.tk w n=true->∀t',St P tf t' (n+1) d->pA yA.base (jE yA F qC vF E) J X t' Q)(k2:acc P.tk w n=false->∀t',St P tf t' n d->pA yA.base (jE yA F qC vF E) J Y t' Q) :
  pA yA.base (jE yA F qC vF E) J (.call 72 [.ptr P.bp 0,.str w] fun a=>.asB a fun b=>.ite b X Y) t Q:=by
 refine yB ?_
 rw[pW 72];refine Cq h fun t' h'=>pD ?_
 cases ha:acc P.tk w n with
 | true=>rw[ha]at h';exact sA rfl (k1 ha t' h')
 | false=>rw[ha]at h';exact tB (by simp) (k2 ha t' h')
def KO  (hv:bA tf 1 [D.str w] v)(h:St P tf t n d)(hk:Ok P rdU d tf (aD P.tk w n) Q E):lJ yA F E 57 [.ptr P.bp 0,v] t Q:=by
 refine w57 _ _ ?_
 unfold t57;refine oA hv.len (sB (kC (j57_2 _ _ _ _ ?_)))
 unfold zg6;obtain⟨b,o,cs,h1,h2,_,_,h3⟩:=sl93.at (fun _=>rfl) (hv.mono h.ob.tle) (i:=0) rfl
 have e:cs=[.str w]:=mK.1 h3
 subst e;refine sA (by simp[mC]) (oA h1 (vC h2 (lF (yB ?_))))
 rw[pW 72];refine Cq h fun t' h'=>pD ?_
 unfold aD at hk
 cases ha:acc P.tk w n with
 | true=>
  rw[ha]at h' hk
  refine tB (by simp) (kC (j57_2 _ _ _ _ ?_))
  unfold zg6;have:(iA .i64 (0+1))=1:=by decide
  rw[this];exact tB (by simp[mC]) (Ok.now hk h' rfl)
 | false=>
  rw[ha]at h' hk
  exact sA rfl (yB (Ok.fail h' hk))
def aZ{α:Type}{rd:Tr vA->α->zA->Prop} {f:Unit->Nat->PR α}{K:zA->T}{Q':pB}(h:St P tf t n d)(hk:Ok P rd d tf ((aD P.tk w n).bind f) Q' E)
  (k:∀n1 tf1 t1,aA tf tf1->St P tf1 t1 n1 d->Ok P rd d tf1 (f () n1) Q' E->pA yA.base (jE yA F qC vF E) J (K (.tup [])) t1 Q) :
  pA yA.base (jE yA F qC vF E) J (.heavy (eC yA 93 1 [(0,.str w)]) fun a=>.call 57 [.ptr P.bp 0,a] K) t Q:=by
 refine jC fun b hb _=>?_
 obtain⟨tf1,t1,h1,h2,h3,h4⟩:=h.lit (k:=1) (sz:=1) (ds:=[D.str w]) (cl:=[[.str w]]) ty93 rfl kN rfl rfl (by omega) (Ez (sz:=1) (z:=[.str []]) (v:=.str w) rfl rfl) (Ed rfl) rfl (yD.2 ⟨_,_,rfl,mK.2 rfl,sF.2 rfl⟩) hb
 refine⟨_,_,h1,yB ?_⟩
 rw[pE 57];exact KO h4 h3 ((hk.mono h2).bind fun a n1 tf2 t2 v hr hl hst hrd hk1=>by cases hrd;exact k n1 tf2 t2 (h2.trans hl) hst hk1)
def Wv  (hv:bA tf 2 (l.map qS) v)(hl:l.length<1000)(h:St P tf t n d)
  (hQ:∀t',match jJ P.tk l n with | none=>St P tf t' n d->Q (.tup [.int .u8 0,.bool false]) t' | some op=>St P tf t' (n+1) d->Q (.tup [.int .u8 (op:Int),.bool true]) t'):Wc yA F 95 [.ptr P.bp 0,v] t Q:=by
 have loop:∀(k i:Nat) (t:Tr vA),i+k=l.length->St P tf t n d->(∀t',match jJ P.tk (l.drop i) n with | none=>St P tf t' n d->Q (.tup [.int .u8 0,.bool false]) t' | some op=>St P tf t' (n+1) d->Q (.tup [.int .u8 (op:Int),.bool true]) t') →
   jp 95 2 [.ptr P.bp 0,v,.int .i64 (l.length:Int),.int .i64 (i:Int)] t Q:=by
  intro k;induction k with
  | zero=>
   intro i t hi h hQ;refine j95_2 ?_
   unfold zg3;have e:l.drop i=[]:=ybt (by omega)
   rw[e]at hQ;exact tB (by simp[mC];omega) (hQ t h)
  | succ k ih=>
   intro i t hi h hQ;refine j95_2 ?_
   unfold zg3 uG uB;have hx:l[i]?=some l[i]:=ybd (by omega)
   have hd:(l.map qS)[i]?=some (qS l[i]):=by rw[ybu,hx];rfl
   obtain⟨b,o,cs,h1,h2,_,_,h3⟩:=sl161.at (fun h=>by cases h) (hv.mono h.ob.tle) hd
   have e:=rd_op h3
   subst e;rw[ybl (by omega:i<l.length)]at hQ
   unfold jJ at hQ;rw[List.find?_cons]at hQ;refine sA (by simp[mC];omega) (oA h1 (vC h2 (fC (X:=cellsOf [.str l[i].1,.int .u8 (l[i].2:Int)]) (cQ rfl) (sA rfl ?_))))
   refine yB ?_
   rw[q72];refine Cq h fun t' h'=>pD ?_
   have e1:(cellsOf [.str l[i].1,.int .u8 (l[i].2:Int)]).s 0=l[i].1:=rfl
   have e2:(cellsOf [.str l[i].1,.int .u8 (l[i].2:Int)]).i 1=(l[i].2:Int):=rfl
   rw[e1]at h' ⊢
   cases ha:acc P.tk l[i].1 n with
   | true=>
    rw[ha]at h' hQ
    refine sA rfl ?_
    rw[e2];exact hQ t' h'
   | false=>
    rw[ha]at h' hQ
    refine tB (by simp) (kC ?_)
    have:wD (i:Int)=.int .i64 ((i+1:Nat):Int):=by
     show zA.int .i64 (iA .i64 ((i:Int)+1))=_
     rw[iC (by omega) (by omega)];rfl
    rw[this];exact ih (i+1) t' (by omega) h' hQ
 refine w95 ?_
 unfold t95;have hlen:=hv.len
 rw[ybf]at hlen;exact oA hlen (sB (kC (loop l.length 0 t (by omega) h (by simpa using hQ))))
def fI(P:cI)(d:Nat)(o:PM cA)(g:Nat):Prop:=∀(tf t:Tr vA) (n:Nat) (Q E:pB),St P tf t n d->Ok P oM d tf (o n) Q E->lJ yA F E g [.ptr P.bp 0] t Q
def Up {α:Type}(o:PM α):Prop:=∀n a n',o n=.ok a n'->n<=n'
def zhp  (h:jJ P.tk l n=some op):n<P.tk.length:=by
 unfold jJ at h
 cases hx:l.find? fun o=>acc P.tk o.1 n with
 | none=>rw[hx]at h;cases h
 | some x=>exact Na (List.find?_some (p:=fun o:List Nat × Nat=>acc P.tk o.1 n) hx)
def Sk{tf:Tr vA} {y:cA} (h:bA tf 9 [x.d,y.d] v):RD tf (jW op x y).d [.int .u8 (op:Int),.str [],.int .u8 0,.bool false,.nilslice,.bool false,.nilslice,.int .i64 0,v]:=by
 unfold jW;exact Hc (v:=qM) pP pP h
def un_rd{tf:Tr vA}    (h:bA tf 9 [x.d] v):RD tf (unX op w x).d [.int .u8 (op:Int),.str w,.int .u8 0,.bool false,.nilslice,.bool false,.nilslice,.int .i64 0,v]:=by
 unfold unX;exact Hc (v:=qM) pP pP h
def zhr (h:zA.one v=true){a:zA}(ha:zA.one a=true):aB zA.one [a,v]=true:=by
 rw[mI];simp[h,ha]
def St.pair {y:cA}{cy:List zA}(h:St P tf t n d)(hx:RD tf x.d cx)(hy:RD tf y.d cy)(hb:t.get b=none) :
  ∃tf' t',eC yA 48 2 [(0,.agg cx),(1,.agg cy)] ⟨b,t⟩=some (.slice b 0 2 2,⟨b+1,t'⟩)/\aA tf tf'/\St P tf' t' n d/\bA tf' 9 [x.d,y.d] (.slice b 0 2 2):=
 h.lit (ds:=[x.d,y.d]) (cl:=[cx,cy]) ty48 rfl ty50 rfl rfl (by omega) (KH rfl (Hr hx) (Hr hy)) (zdr (Hr hx) (Hr hy)) rfl (yD.2 ⟨_,_,rfl,hx,yD.2 ⟨_,_,rfl,hy,sF.2 rfl⟩⟩) hb
def St.sole   (h:St P tf t n d)(hx:RD tf x.d cx)(hb:t.get b=none) :
  ∃tf' t',eC yA 48 1 [(0,.agg cx)] ⟨b,t⟩=some (.slice b 0 1 1,⟨b+1,t'⟩)/\aA tf tf'/\St P tf' t' n d/\bA tf' 9 [x.d] (.slice b 0 1 1):=by
 have hf:kL (fun i=>some (i*9,9)) [(0,.agg cx)] (nI zE 1)=some [cx].flatten:=by
  rw[Ez (sz:=9) (z:=zE) (v:=.agg cx) rfl (Hr hx)];show some cx=_;simp
 exact h.lit (k:=1) (sz:=9) (ds:=[x.d]) (cl:=[cx]) (ps:=[(0,.agg cx)]) ty48 rfl ty50 rfl rfl (by omega) hf (Ed (Hr hx)) rfl (yD.2 ⟨_,_,rfl,hx,sF.2 rfl⟩) hb
def MF (hg:Nat.blt g pn=true)  : iL (.func (.func g) [v] []) []=some (g,[v]):=by
 unfold iL;simp only[zA.asFunc,rA,hg,sE];rfl
def YI{o:PM cA}   (ho:fI P d o g)(hup:Up o)(hg:Nat.blt g pn=true)(hp1:(qC g&&Nat.blt g yo)=false)(hp2:Nat.beq g pn=false)(hp3:(vF g&&Nat.blt g pn)=true)(hl:l.length<1000) :
  ∀(m n:Nat) (x:cA) (cs:List zA) (tf t:Tr vA) (Q E:pB),P.tk.length-n<=m->St P tf t n d->bA tf 2 (l.map qS) v->RD tf x.d cs->Ok P oM d tf (eP P.tk o l m x n) Q E->sH E 68 2 ([.ptr P.bp 0,.func (.func g) [.ptr P.bp 0] [],v]++zE++cs) t Q:=by
 intro m;induction m with
 | zero=>
  intro n x cs tf t Q E hm h hv hx hk;obtain⟨a,b,c,rfl,_⟩:=rL hx
  refine j68_2 _ _ _ _ _ _ _ _ _ _ _ _ _ _ _ _ _ _ _ _ _ ?_
  unfold zg5;refine yB ?_
  rw[pW 95];have hn:jJ P.tk l n=none:=by
   cases hx:jJ P.tk l n with
   | none=>rfl
   | some op=>have:=zhp hx;omega
  refine Wv hv hl h fun t'=>?_
  rw[hn];intro h';refine oA rfl (sB (oA rfl (pD (sA rfl (sA hx.all ?_)))))
  exact Ok.now hk h' ⟨_,rfl,hx⟩
 | succ m ih=>
  intro n x cs tf t Q E hm h hv hx hk;obtain⟨a,b,c,rfl,_⟩:=rL hx
  refine j68_2 _ _ _ _ _ _ _ _ _ _ _ _ _ _ _ _ _ _ _ _ _ ?_
  unfold zg5;refine yB ?_
  rw[pW 95];refine Wv hv hl h fun t'=>?_
  unfold eP at hk
  cases hop:jJ P.tk l n with
  | none=>
   rw[hop]at hk;intro h';refine oA rfl (sB (oA rfl (pD (sA rfl (sA hx.all ?_)))))
   exact Ok.now hk h' ⟨_,rfl,hx⟩
  | some op=>
   rw[hop]at hk;intro h';refine oA rfl (sB (oA rfl (pD (tB (by simp) (aT (MF hg) ?_)))))
   have e:∀a R,jE yA F qC vF E g a t' R=lJ yA F E g a t' R:=fun a R=>by unfold jE;rw[hp1,hp2,hp3];simp
   rw[e];refine ho _ _ _ _ _ h' (hk.bind fun y n1 tf1 t1 vy hr hle hst hrd hk1=>?_)
   obtain⟨cy,rfl,hy⟩:=hrd
   have hn1:=hup _ _ _ hr
   obtain⟨a',b',c',rfl,_⟩:=rL hy
   refine fC (agE hy) (sA hy.all (jC fun b hb _=>?_))
   have hx1:=RD.mono hle _ _ hx
   obtain⟨tf2,t2,k1,k2,k3,k4⟩:=hst.pair hx1 hy hb
   refine⟨_,_,k1,?_⟩
   refine sA (zhr rfl rfl) (sA (Sk k4).all (kC ?_))
   exact ih n1 (jW op x y) _ tf2 t2 Q E (by omega) k3 (hv.mono (hle.trans k2)) (Sk k4) (hk1.mono k2)
end
end Go.Proofs
namespace Go.Proofs
open Go Go.Am
section
variable {l:List (List Nat × Nat)}{v:zA}{b op op':Nat}{w w':List Nat}
variable [gC]
def PR.bind_ok{α β:Type}{r:PR α}{f:α->Nat->PR β}{b:β}{n:Nat}(h:r.bind f=.ok b n):∃a n1,r=.ok a n1/\f a n1=.ok b n:=by
 cases r with
 | ok a n1=>exact⟨a,n1,rfl,h⟩
 | er e i=>cases h
section
variable {tk:List lB}{o:PM cA}
def YJ(h:Up o)  : ∀(m:Nat) (x:cA) (n:Nat) (y:cA) (n':Nat),eP tk o l m x n=.ok y n'->n<=n':=by
 intro m;induction m with
 | zero=>intro x n y n' hh;cases hh;exact ybk _
 | succ m ih=>
  intro x n y n' hh;unfold eP at hh
  cases hop:jJ tk l n with
  | none=>rw[hop]at hh;cases hh;exact ybk _
  | some op=>
   rw[hop]at hh;obtain⟨a,n1,h1,h2⟩:=PR.bind_ok hh
   have:=h _ _ _ h1
   have:=ih _ _ _ _ h2
   omega
def Ms(h:Up o)  : Up (dU tk o l):=by
 intro n a n' hh;obtain⟨x,n1,h1,h2⟩:=PR.bind_ok hh
 have:=h _ _ _ h1
 have:=YJ h _ _ _ _ _ h2
 omega
def zc5(h:Up o):Up (Hy tk o):=by
 intro n a n' hh;obtain⟨x,n1,h1,h2⟩:=PR.bind_ok hh
 have hs:Up (Bc tk o):=Ms (Ms h)
 have:=hs _ _ _ h1
 cases hop:jJ tk [([60],13),([61],14)] n1 with
 | none=>rw[hop]at h2;cases h2;assumption
 | some op=>
  rw[hop]at h2;obtain⟨y,n2,h3,h4⟩:=PR.bind_ok h2
  have:=hs _ _ _ h3
  cases h4;omega
def GF(h:Up o):Up (Ef tk o):=by
 intro n a n' hh;obtain⟨x,n1,h1,h2⟩:=PR.bind_ok hh
 have:=zc5 h _ _ _ h1
 cases h2;omega
def LL(h:Up o):Up (Mr tk o):=Ms (GF h)
def KM(h:Up o):Up (wS tk o):=Ms (LL h)
end
section
variable {P:cI}{tf t:Tr vA}{n d:Nat}{Q E:pB}{J:eE}{o:PM cA}{g:Nat}
def Vw{W:eE}{x:cA} (hrd:oM tf x v)(k:Q v t):pA yA.base W J (.asG zE v fun X=>.ite (aB zA.one (cE X)) (.ret (.agg (cE X))) .fail) t Q:=by
 obtain⟨cs,rfl,hx⟩:=hrd
 obtain⟨a,b,c,rfl,_⟩:=rL hx
 exact fC (agE hx) (sA hx.all k)
def MB  (ho:fI P d o g)(hup:Up o)(hl:l.length<1000)(h:St P tf t n d)(hv:bA tf 2 (l.map qS) v)(hk:Ok P oM d tf (dU P.tk o l n) Q E)
  (hg:Nat.blt g pn=true:=by kernel_rfl) (hp1:(qC g&&Nat.blt g yo)=false:=by kernel_rfl) (hp2:Nat.beq g pn=false:=by kernel_rfl) (hp3:(vF g&&Nat.blt g pn)=true:=by kernel_rfl):lJ yA F E 68 [.ptr P.bp 0,.func (.func g) [.ptr P.bp 0] [],v] t Q:=by
 refine w68 _ _ _ ?_
 unfold t68;refine aT (MF hg) ?_
 have e:∀a R,jE yA F qC vF E g a t R=lJ yA F E g a t R:=fun a R=>by unfold jE;rw[hp1,hp2,hp3];simp
 rw[e];refine ho _ _ _ _ _ h (hk.bind fun x n1 tf1 t1 vy hr hle hst hrd hk1=>?_)
 obtain⟨cs,rfl,hx⟩:=hrd
 have hx':=hx
 obtain⟨a,b,c,rfl,_⟩:=rL hx
 refine fC (agE hx) (sA hx.all (kC ?_))
 exact YI ho hup hg hp1 hp2 hp3 hl P.tk.length n1 x _ tf1 t1 Q E (Nat.sub_le _ _) hst (hv.mono hle) hx' hk1
def St.ops1   (h:St P tf t n d)(hb:t.get b=none) :
  ∃tf' t',eC yA 161 1 [(0,.agg [.str w,.int .u8 (op:Int)])] ⟨b,t⟩=some (.slice b 0 1 1,⟨b+1,t'⟩)/\aA tf tf'/\St P tf' t' n d/\bA tf' 2 ([(w,op)].map qS) (.slice b 0 1 1):=by
 have hf:kL (fun i=>some (i*2,2)) [(0,.agg [.str w,.int .u8 (op:Int)])] (nI [.str [],.int .u8 0] 1)=some [[zA.str w,.int .u8 (op:Int)]].flatten:=by
  rw[Ez (sz:=2) (z:=[.str [],.int .u8 0]) (v:=.agg [.str w,.int .u8 (op:Int)]) rfl rfl];rfl
 exact h.lit (k:=1) (sz:=2) (ds:=[qS (w,op)]) (cl:=[[.str w,.int .u8 (op:Int)]]) zgj rfl zgl rfl rfl (by omega) hf (Ed rfl) rfl (yD.2 ⟨_,_,rfl,zhq (w,op),sF.2 rfl⟩) hb
def St.ops2   (h:St P tf t n d)(hb:t.get b=none) :
  ∃tf' t',eC yA 161 2 [(0,.agg [.str w,.int .u8 (op:Int)]),(1,.agg [.str w',.int .u8 (op':Int)])] ⟨b,t⟩=some (.slice b 0 2 2,⟨b+1,t'⟩)/\aA tf tf'/\St P tf' t' n d/\bA tf' 2 ([(w,op),(w',op')].map qS) (.slice b 0 2 2):=
 h.lit (k:=2) (sz:=2) (ds:=[qS (w,op),qS (w',op')]) (cl:=[[.str w,.int .u8 (op:Int)],[.str w',.int .u8 (op':Int)]]) zgj rfl zgl rfl rfl (by omega) (KH rfl rfl rfl) (zdr rfl rfl) rfl (yD.2 ⟨_,_,rfl,zhq (w,op),yD.2 ⟨_,_,rfl,zhq (w',op'),sF.2 rfl⟩⟩) hb
def zfu  (ho:fI P d o g)(hup:Up o)(h:St P tf t n d)(hk:Ok P oM d tf (dU P.tk o [(w,op),(w',op')] n) Q E)
  (hg:Nat.blt g pn=true:=by kernel_rfl) (hp1:(qC g&&Nat.blt g yo)=false:=by kernel_rfl) (hp2:Nat.beq g pn=false:=by kernel_rfl) (hp3:(vF g&&Nat.blt g pn)=true:=by kernel_rfl) :
  pA yA.base (jE yA F qC vF E) J (.heavy (eC yA 161 2 [(0,.agg [.str w,.int .u8 (op:Int)]),(1,.agg [.str w',.int .u8 (op':Int)])]) fun a=>.call 68 [.ptr P.bp 0,.func (.func g) [.ptr P.bp 0] [],a] fun v=>.asG zE v fun X=>.ite (aB zA.one (cE X)) (.ret (.agg (cE X))) .fail) t Q:=by
 refine jC fun b hb _=>?_
 obtain⟨tf1,t1,h1,h2,h3,h4⟩:=h.ops2 (w:=w) (w':=w') (op:=op) (op':=op') hb
 refine⟨_,_,h1,yB ?_⟩
 rw[pE 68];refine MB ho hup (by simp) h3 h4 ?_ hg hp1 hp2 hp3
 have hk:=hk.mono h2
 revert hk
 generalize dU P.tk o [(w,op),(w',op')] n=r
 intro hk
 cases r with
 | ok x n1=>exact fun tf2 t2 v k1 k2 k3=>Vw k3 (hk tf2 t2 v k1 k2 k3)
 | er e i=>exact hk
def zfv  (ho:fI P d o g)(hup:Up o)(h:St P tf t n d)(hk:Ok P oM d tf (dU P.tk o [(w,op)] n) Q E)
  (hg:Nat.blt g pn=true:=by kernel_rfl) (hp1:(qC g&&Nat.blt g yo)=false:=by kernel_rfl) (hp2:Nat.beq g pn=false:=by kernel_rfl) (hp3:(vF g&&Nat.blt g pn)=true:=by kernel_rfl) :
  pA yA.base (jE yA F qC vF E) J (.heavy (eC yA 161 1 [(0,.agg [.str w,.int .u8 (op:Int)])]) fun a=>.call 68 [.ptr P.bp 0,.func (.func g) [.ptr P.bp 0] [],a] fun v=>.asG zE v fun X=>.ite (aB zA.one (cE X)) (.ret (.agg (cE X))) .fail) t Q:=by
 refine jC fun b hb _=>?_
 obtain⟨tf1,t1,h1,h2,h3,h4⟩:=h.ops1 (w:=w) (op:=op) hb
 refine⟨_,_,h1,yB ?_⟩
 rw[pE 68];refine MB ho hup (by simp) h3 h4 ?_ hg hp1 hp2 hp3
 have hk:=hk.mono h2
 revert hk
 generalize dU P.tk o [(w,op)] n=r
 intro hk
 cases r with
 | ok x n1=>exact fun tf2 t2 v k1 k2 k3=>Vw k3 (hk tf2 t2 v k1 k2 k3)
 | er e i=>exact hk
def zhl(ho:fI P d o 161)(hup:Up o):fI P d (Pj P.tk o) 151:=fun tf t n Q E h hk=>by
 refine w151 _ ?_
 unfold t151;exact sA rfl (sA rfl (zfu ho hup h hk))
def zed(ho:fI P d o 161)(hup:Up o):fI P d (Bc P.tk o) 135:=fun tf t n Q E h hk=>by
 refine w135 _ ?_
 unfold t135;exact sA rfl (sA rfl (zfu (zhl ho hup) (Ms hup) h hk))
def zjl(ho:fI P d o 161)(hup:Up o):fI P d (Hy P.tk o) 117:=fun tf t n Q E h hk=>by
 refine w117 _ ?_
 unfold t117;refine yB ?_
 rw[pE 135];refine zed ho hup _ _ _ _ _ h (hk.bind fun x n1 tf1 t1 v hr hle hst hrd hk1=>?_)
 obtain⟨cs,rfl,hx⟩:=hrd
 obtain⟨a,b,c,rfl,_⟩:=rL hx
 refine fC (agE hx) (sA hx.all (sA rfl (sA rfl (jC fun b hb _=>?_))))
 obtain⟨tf2,t2,k1,k2,k3,k4⟩:=hst.ops2 (w:=[60]) (op:=13) (w':=[61]) (op':=14) hb
 refine⟨_,_,k1,yB ?_⟩
 rw[pW 95];refine Wv k4 (by simp) k3 fun t3=>?_
 cases hop:jJ P.tk [([60],13),([61],14)] n1 with
 | none=>
  rw[hop]at hk1;intro h';have hx2:=RD.mono k2 _ _ hx
  exact oA rfl (sB (oA rfl (pD (sA rfl (sA hx.all (Ok.now (hk1.mono k2) h' ⟨_,rfl,hx2⟩))))))
 | some op=>
  rw[hop]at hk1;intro h';refine oA rfl (sB (oA rfl (pD (tB (by simp) (yB ?_)))))
  rw[pE 135];refine zed ho hup _ _ _ _ _ h' ((hk1.mono k2).bind fun y n2 tf3 t4 v hr2 hle2 hst2 hrd2 hk2=>?_)
  obtain⟨cs2,rfl,hy⟩:=hrd2
  obtain⟨a',b',c',rfl,_⟩:=rL hy
  refine fC (agE hy) (sA hy.all (jC fun b hb _=>?_))
  obtain⟨tf4,t5,m1,m2,m3,m4⟩:=hst2.pair (RD.mono (k2.trans hle2) _ _ hx) hy hb
  exact⟨_,_,m1,sA (zhr rfl rfl) (sA (Sk m4).all (Ok.now (hk2.mono m2) m3 ⟨_,rfl,Sk m4⟩))⟩
def NL{k:Nat}{Q:pB}{P:cI}{n d:Nat}:∀(k:Nat) (x:cA) (cs:List zA) (tf t:Tr vA),k<1000000000->St P tf t n d->RD tf x.d cs->Ok P oM d tf (.ok (qY k x) n) Q E->sH E 96 6 ([.int .i64 (k:Int)]++zE++cs) t Q:=by
 intro k;induction k with
 | zero=>
  intro x cs tf t _ h hx hk;obtain⟨a,b,c,rfl,_⟩:=rL hx
  refine j96_6 _ _ _ _ _ _ _ _ _ _ _ _ _ _ _ _ _ _ _ ?_
  unfold zg1;exact tB (by simp[mC]) (sA hx.all (Ok.now hk h ⟨_,rfl,hx⟩))
 | succ k ih=>
  intro x cs tf t hkl h hx hk;obtain⟨a,b,c,rfl,_⟩:=rL hx
  refine j96_6 _ _ _ _ _ _ _ _ _ _ _ _ _ _ _ _ _ _ _ ?_
  unfold zg1;refine sA (by rw[mC];exact decide_eq_true (by omega)) (jC fun b hb _=>?_)
  obtain⟨tf1,t1,h1,h2,h3,h4⟩:=h.sole hx hb
  have hu:=un_rd (op:=17) (w:=[]) h4
  refine⟨_,_,h1,sA (zhr rfl rfl) (sA hu.all (kC ?_))⟩
  have e:iA .i64 (((k+1:Nat):Int)-1)=(k:Int):=by rw[iC (by omega) (by omega)];omega
  rw[e];exact ih (unX 17 [] x) _ tf1 t1 (by omega) h3 hu (hk.mono h2)
def Xb{tk:List lB}:∀(m m' n:Nat),tk.length<=n+m->tk.length<=n+m'->dN tk m n=dN tk m' n:=by
 have z:∀m n,tk.length<=n->dN tk m n=0:=by
  intro m n h
  cases m with
  | zero=>rfl
  | succ m=>
   unfold dN;rw[yaa];intro ha;have:=Na (P:=⟨tk,0,.nilptr,0,0,[]⟩) ha
   have:n<tk.length:=this
   omega
 intro m;induction m with
 | zero=>intro m' n h1 h2;rw[z 0 n (by omega),z m' n (by omega)]
 | succ m ih=>
  intro m' n h1 h2
  cases m' with
  | zero=>rw[z (m+1) n (by omega),z 0 n (by omega)]
  | succ m'=>
   unfold dN;split
   ·rw[ih m' (n+1) (by omega) (by omega)]
   ·rfl
def zhv(ho:fI P d o 161)(hup:Up o):fI P d (Ef P.tk o) 96:=fun tf t n Q E h hk=>by
 refine w96 _ ?_
 unfold t96;refine kC ?_
 have loop:∀(m i n:Nat) (t:Tr vA),dN P.tk P.tk.length n=m->i<=n->St P tf t n d->Ok P oM d tf ((Hy P.tk o (n+m)).bind fun x n'=>.ok (qY (i+m) x) n') Q E->sH E 96 2 ([.ptr P.bp 0,.int .i64 (i:Int)]++zE) t Q:=by
  intro m;induction m with
  | zero=>
   intro i n t hm hi h hk;refine j96_2 _ _ _ _ _ _ _ _ _ _ _ ?_
   unfold zg2;have hl:=h.len
   refine yP h (fun ha t' h'=>?_) fun ha t' h'=>?_
   ·have:n<P.tk.length:=Na ha
    rw[Xb _ (P.tk.length+1) _ (by omega) (by omega)]at hm
    unfold dN at hm;rw[yab ha]at hm
    cases hm
   ·refine yB ?_
    rw[pE 117];refine zjl ho hup _ _ _ _ _ h' (hk.bind fun x n1 tf1 t1 v hr hle hst hrd hk1=>?_)
    obtain⟨cs,rfl,hx⟩:=hrd
    have hx':=hx
    obtain⟨a,b,c,rfl,_⟩:=rL hx
    refine fC (agE hx) (sA hx.all (kC ?_))
    exact NL (k:=0) i x _ tf1 t1 (by have:=h.le;omega) hst hx' hk1
  | succ m ih=>
   intro i n t hm hi h hk;refine j96_2 _ _ _ _ _ _ _ _ _ _ _ ?_
   unfold zg2;have hl:=h.len
   refine yP h (fun ha t' h'=>?_) fun ha t' h'=>?_
   ·have hlt:n<P.tk.length:=Na ha
    rw[Xb _ (P.tk.length+1) _ (by omega) (by omega)]at hm
    unfold dN at hm;rw[yab ha]at hm;have e:iA .i64 ((i:Int)+1)=((i+1:Nat):Int):=by rw[iC (by omega) (by omega)];rfl
    refine kC ?_
    rw[e];exact ih (i+1) (n+1) t' (by omega) (by omega) h' (by rwa [show n+1+m=n+(m+1) by omega,show i+1+m=i+(m+1) by omega])
   ·rw[Xb _ (P.tk.length+1) _ (by omega) (by omega)]at hm
    unfold dN at hm;rw[yaa (by simp[ha])]at hm
    cases hm
 exact loop _ 0 n t rfl (by omega) h (by rw[ybw];exact hk)
def zjj(ho:fI P d o 161)(hup:Up o):fI P d (Mr P.tk o) 69:=fun tf t n Q E h hk=>by
 refine w69 _ ?_
 unfold t69;exact sA rfl (zfv (zhv ho hup) (GF hup) h hk)
def Zc(ho:fI P d o 161)(hup:Up o):fI P d (wS P.tk o) 42:=fun tf t n Q E h hk=>by
 refine w42 _ ?_
 unfold t42;exact sA rfl (zfv (zjj ho hup) (LL hup) h hk)
end
end
section
variable {i:Nat}{f:Nat->List Nat}
variable [gC]
structure Cv:Prop where
 frac:∀ {s:List Nat} {neg:Bool} {tf t:Tr vA} {L:List iE} {Q:pB},kR s->fA yA.base tf t L->(∀tf' t' cs,aA tf tf'->fA yA.base tf' t' L->RD tf' (tI s neg).dd cs->Q (.agg cs) t')->Wc yA F 74 [.str s,.bool neg] t Q
 int:∀ {s:List Nat} {neg:Bool} {lo hi:Int} {t:Tr vA},kR s->rH s=false -> -4294967296<=lo->hi<=4294967296->∃i:Int,sC yA F 102 [.str s,.bool neg,.int .i64 lo,.int .i64 hi] t=some (.tup [.int .i64 i,.bool (mL s neg lo hi).isSome])/\∀j,mL s neg lo hi=some j->i=j
 date:∀ {s:List Nat} {t:Tr vA},kK t->Ry s->sC yA F 97 [.str s] t=some (.tup [.int .i64 (((Ae s).getD 0:Nat):Int),.int .i64 0])
def LH:∀s:List Nat,Ag [47] s=rH s:=by
 intro s;unfold rH;induction s with
 | nil=>rfl
 | cons b s ih=>
  unfold Ag;rw[ih,List.contains_cons];have e:rU [47] (b::s)=(47 == b):=by
   show(bif Nat.beq 47 b then rU [] s else false)=_
   have:rU [] s=true:=by cases s<;>rfl
   rw[this]
   cases h:Nat.beq 47 b with
   | true=>rw[lC.1 h];simp
   | false=>
    have:¬ 47=b:=fun e=>by rw[e,Nat.beq_refl]at h;cases h
    simp[this]
  rw[e]
  cases (47 == b)<;>rfl
def Od{tk:List lB}{k n n1:Nat}{a:List Nat}(h:aC tk k n=.ok a n1):bC tk k n=true/\a=lE tk n/\n1=n+1:=by
 unfold aC at h;split at h
 ·cases h;exact⟨by assumption,rfl,rfl⟩
 ·cases h
section
variable {P:cI}{tf t:Tr vA}{n d:Nat}{Q E:pB}{J:eE}{o:PM cA}
theorem St.at(h:St P tf t n d){k i:Nat}(hk:bC P.tk k i=true):∃x∈P.tk,x.kind=k/\x.text=lE P.tk i:=by
 unfold bC at hk;unfold lE
 cases hx:P.tk[i]? with
 | none=>rw[hx]at hk;cases hk
 | some x=>rw[hx]at hk;exact⟨x,ycv hx,of_decide_eq_true hk,rfl⟩
def St.num(h:St P tf t n d) (hk:bC P.tk 2 i=true):kR (lE P.tk i):=by
 obtain⟨x,h1,h2,h3⟩:=h.at hk
 rw[<- h3];exact(h.good x h1).1 h2
def St.date(h:St P tf t n d) (hk:bC P.tk 3 i=true):Ry (lE P.tk i):=by
 obtain⟨x,h1,h2,h3⟩:=h.at hk
 rw[<- h3];exact(h.good x h1).2 h2
def Mo(hL:Cv)(h:St P tf t n d)(hk:Ok P rdInt d tf (aO P.tk n) Q E):lJ yA F E 73 [.ptr P.bp 0] t Q:=by
 refine w73 _ ?_
 unfold t73;refine yB ?_
 rw[pE 59];refine Dm (k:=3) (by omega) h (hk.bind fun a n1 tf1 t1 v hr hle hst hrd hk1=>?_)
 obtain⟨x,_,e,rfl⟩:=hrd
 obtain⟨h1,h2,_⟩:=Od hr
 have hd:=h.date h1
 rw[<- h2]at hd;refine fC (bQ _) (yB ?_)
 rw[pQ 97,cT1,e,hL.date (hst.glob.mono hst.ob.tle) hd,qA]
 exact oA rfl (sB (oA rfl (sB (Ok.now hk1 hst rfl))))
def AU{ty b:Nat} (hT:yA.tys.get ty=some ⟨.arr 7 9,7,112,[.str [],.str [],.str [],.str [],.str [],.str [],.str []],true⟩)(h:At t b 0 ((List.range 7).map fun i=>.str (f i))) (hi:i<7) :
  wC yA ty (.ptr b 0) (.int .u8 (i:Int))=some (.ptr b (0+i))/\lA yA 9 ⟨0,t⟩ (.ptr b (0+i))=some (.str (f i)):=by
 refine⟨?_,h.load1 kN rfl ?_⟩
 ·unfold wC
  rw[hT,rA];have e:(zA.int .u8 (i:Int)).asNat=some i:=rfl
  rw[e,rA];simp only[zA.asSlice];simp only[zA.asPtr,nE.asArr,rA];rw[kN,rA,pC.2 hi,sE,Nat.mul_one]
 ·rw[ybu,List.getElem?_range hi];rfl
def zhx(hg:kK t) (hi:i<256):sC yA F 188 [.int .u8 (i:Int)] t=some (.str (dS i)):=by
 refine dD.2 (w188 ?_)
 unfold t188 uS;have hw:iA .i64 (i:Int)=(i:Int):=iC (by omega) (by omega)
 by_cases h7:i<7
 ·obtain⟨h1,h2⟩:=AU ty201 hg.2.1 h7
  exact sA (by rw[mC];unfold uW;rw[hw];exact decide_eq_true (by omega)) (oA h1 (vC h2 (lF ⟨rfl,rfl⟩)))
 ·refine tB (by rw[mC];unfold uW;rw[hw];simp;omega) ⟨?_,rfl⟩
  have:dS i=[]:=by
   match i,h7 with
   | i+7,_=>rfl
  rw[this]
def zie(hg:kK t) (hi:i<256):sC yA F 111 [.int .u8 (i:Int)] t=some (.str (Eo i)):=by
 refine dD.2 (w111 ?_)
 unfold t111 uS;have hw:iA .i64 (i:Int)=(i:Int):=iC (by omega) (by omega)
 by_cases h7:i<7
 ·obtain⟨h1,h2⟩:=AU ty201 hg.1 h7
  exact sA (by rw[mC];unfold uW;rw[hw];exact decide_eq_true (by omega)) (oA h1 (vC h2 (lF ⟨rfl,rfl⟩)))
 ·refine tB (by rw[mC];unfold uW;rw[hw];simp;omega) ⟨?_,rfl⟩
  have:Eo i=[]:=by
   match i,h7 with
   | i+7,_=>rfl
  rw[this]
def LW {g most:Nat}(hf:∀(t:Tr vA),kK t->∀i:Nat,i<256->sC yA F g [.int .u8 (i:Int)] t=some (.str (f i)))(hg:Nat.blt g pn=true)(hp:(qC g&&Nat.blt g yo)=true)(hm:most<200)(h:St P tf t n d)(hk:Ok P rdU8 d tf (jL P.tk f most most 1 n) Q E):lJ yA F E 110 [.ptr P.bp 0,.int .u8 1,.int .u8 (most:Int),.func (.func g) [] []] t Q:=by
 refine w110 _ _ _ _ ?_
 unfold t110;refine kC ?_
 have loop:∀(k i:Nat) (t:Tr vA),i+k=most+1->St P tf t n d->Ok P rdU8 d tf (jL P.tk f most k i n) Q E->sH E 110 2 [.ptr P.bp 0,.int .u8 (most:Int),.func (.func g) [] [],.int .u8 (i:Int)] t Q:=by
  intro k;induction k with
  | zero=>
   intro i t hi h hk;refine zfj _ _ _ _ ?_
   unfold Uw;exact tB (by rw[zS];simp;omega) (yB (Ok.fail h hk))
  | succ k ih=>
   intro i t hi h hk;refine zfj _ _ _ _ ?_
   unfold Uw;unfold jL at hk;rw[yaa (by omega)]at hk
   have e:iL (.func (.func g) [] []) [.int .u8 (i:Int)]=some (g,[.int .u8 (i:Int)]):=by
    unfold iL;simp only[zA.asFunc,rA,hg,sE];rfl
   refine sA (by rw[zS];exact decide_eq_true (by omega)) (aT e ?_)
   unfold jE;rw[yab hp,hf t (h.glob.mono h.ob.tle) i (by omega),qA]
   refine lF (yP h (fun ha t' h'=>?_) fun ha t' h'=>?_)
   ·rw[ha]at hk
    exact Ok.now hk h' rfl
   ·rw[ha]at hk
    have e:iA .u8 ((i:Int)+1)=((i+1:Nat):Int):=by
     rw[Nq (by omega) (by omega)];rfl
    rw[e];exact kC (ih (i+1) t' (by omega) h' hk)
 exact loop most 1 t (by omega) h hk
end
end
section
variable {neg:Bool}
variable [gC]
def Jl{t:Tr vA}{k:Nat}{i:Int}:RD t (pG.d ⟨k,xH,i⟩) [.int .u8 (k:Int),.bool false,.nilslice,.bool false,.nilslice,.int .i64 i]:=Ld (x:=⟨k,xH,i⟩) pP pP
def Yr{t:Tr vA}{f:gH}{cs:List zA}(h:RD t f.dd cs):∃u v,cs=[.bool f.n.neg,u,.bool f.d.neg,v]/\xK [.bool false,.nilslice,.bool false,.nilslice] (.agg cs)=some (cellsOf cs)/\∀(k:Nat) (i:Int),RD t (pG.d ⟨k,f,i⟩) [.int .u8 (k:Int),.bool f.n.neg,u,.bool f.d.neg,v,.int .i64 i]:=by
 obtain⟨u,v,rfl,h1,h2⟩:=Go.Am.rd_frac h
 exact⟨u,v,rfl,bU h (gH.zs _),fun k i=>Ld (x:=⟨k,f,i⟩) h1 h2⟩
section
variable {P:cI}{tf t:Tr vA}{n d:Nat}{Q E:pB}{J:eE}{o:PM cA}
def Yq{K:zA->T}{s:List Nat} (hL:Cv)(h:St P tf t n d)(hs:kR s)(k:∀tf' t' cs,aA tf tf'->St P tf' t' n d->RD tf' (tI s neg).dd cs->pA yA.base (jE yA F qC vF E) J (K (.agg cs)) t' Q) :
  pA yA.base (jE yA F qC vF E) J (.call 74 [.str s,.bool neg] K) t Q:=by
 refine yB ?_
 rw[pW 74];exact hL.frac hs h.ob fun tf' t' cs k1 k2 k3=>k tf' t' cs k1 ⟨h.ts.mono k1,k2,h.len,h.le,h.good,h.glob.mono k1⟩ k3
def zbo(hL:Cv) (h:St P tf t n d)(hk:Ok P rdXV d tf (gK P.tk neg n) Q E):lJ yA F E 75 [.ptr P.bp 0,.bool neg] t Q:=by
 refine w75 _ _ ?_
 unfold t75;refine oA nl (oA f1 (vC h.l1 (sB (yB ?_))))
 rw[pE 59];unfold gK at hk;refine Dm (k:=2) (by omega) h (hk.bind fun a n1 tf1 t1 v hr hle hst hrd hk1=>?_)
 obtain⟨x,_,e,rfl⟩:=hrd
 obtain⟨g1,g2,g3⟩:=Od hr
 have hn:=h.num g1
 rw[<- g2]at hn;have hnl:=h.le
 subst e;refine fC (bQ _) (sA rfl (oA nl (oA f1 (vC hst.l1 (sB ?_)))))
 have tail:∀(k:Nat) (t2:Tr vA),St P tf1 t2 (n1+1) d->Ok P rdXV d tf1 (if rH x.text then .er 120 n1 else match mL x.text neg (-1048576) 1048576 with
   | none=>.er 121 n
   | some i=>.ok ⟨k,xH,i⟩ (n1+1)) Q E->sH E 75 21 [.ptr P.bp 0,.bool neg,.int .i64 (n:Int),.int .u8 (k:Int),.int .i64 (n1:Int),.int .u8 0,.bool false,.nilslice,.bool false,.nilslice,.int .i64 0,.int .u8 (x.kind:Int),.str x.text,.int .i64 (x.line:Int),.int .i64 (x.col:Int)] t2 Q:=by
  intro k t2 h2 hk2;refine j75_21 _ _ _ _ _ _ _ _ _ _ _ _ _ _ _ ?_
  unfold zd1;refine yB ?_
  rw[pQ 66,Zv (by have:=hn.1;omega),qA,LH]
  refine pD ?_
  cases hs:rH x.text with
  | true=>
   rw[hs,yab rfl]at hk2;refine sA rfl (oA nl (oA f1 (jC fun b _ _=>?_)))
   obtain⟨t3,k1,k2⟩:=h2.set1 (n':=n1) (by have:=h2.le;omega)
   exact⟨_,_,k1 b,yB (Ok.fail k2 hk2)⟩
  | false=>
   rw[hs,yaa (by simp)]at hk2
   refine tB (by simp) (kC (j75_27 _ _ _ _ _ _ _ _ _ _ _ _ _ _ ?_))
   unfold zd0;obtain⟨i,hi,hj⟩:=hL.int (s:=x.text) (neg:=neg) (lo := -1048576) (hi:=1048576) (t:=t2) hn hs (by omega) (by omega)
   refine yB ?_
   rw[pQ 102,hi,qA];refine oA rfl (sB (oA rfl (pD ?_)))
   cases hv:mL x.text neg (-1048576) 1048576 with
   | none=>
    rw[hv]at hk2;refine sA rfl (oA nl (oA f1 (jC fun b _ _=>?_)))
    obtain⟨t3,k1,k2⟩:=h2.set1 (n':=n) (by omega)
    exact⟨_,_,k1 b,yB (Ok.fail k2 hk2)⟩
   | some j=>
    rw[hv]at hk2;have:=hj j hv
    subst this;exact tB (by simp) (sA rfl (sA rfl (Ok.now hk2 h2 ⟨_,rfl,Jl⟩)))
 refine yP hst (fun ha t2 h2=>?_) fun ha t2 h2=>?_
 ·refine kC (tail 5 t2 h2 ?_)
  rw[ha]at hk1;simp only[Bool.true_or,if_true]at hk1;exact hk1
 ·refine yP h2 (fun hb t3 h3=>?_) fun hb t3 h3=>?_
  ·refine kC (tail 6 t3 h3 ?_)
   rw[ha,hb]at hk1;simp only[Bool.or_true,if_true,ybq,if_false]at hk1;exact hk1
  ·rw[ha,hb]at hk1
   refine Yq hL h3 hn fun tf4 t4 cs k1 k2 k3=>?_
   obtain⟨u,v,rfl,hz,hd⟩:=Yr k3
   refine fC hz (sA rfl (sA (hd 2 0).all ?_))
   exact Ok.now (Ok.mono hk1 k1) k2 ⟨_,rfl,hd 2 0⟩
def rdOV (tf:Tr vA)(x:Option pG)(v:zA):Prop:=match x with
 | some x=>∃cs,v=.tup [.agg cs,.bool true]/\RD tf x.d cs
 | none=>v=.tup [.agg zV,.bool false]
def zc4(hL:Cv)(h:St P tf t n d)(hk:Ok P rdOV d tf (Fg P.tk n) Q E):lJ yA F E 47 [.ptr P.bp 0] t Q:=by
 refine w47 _ ?_
 unfold t47;refine yB ?_
 rw[pQ 71,Gx h,qA];unfold Fg at hk;rw[Lr (by omega),Lr (by omega)]at hk
 refine fC (bQ _) (sA rfl (yP h (fun ha t1 h1=>?_) fun ha t1 h1=>?_))
 ·rw[ha,yab rfl]at hk
  exact sA rfl (sA rfl (Ok.now hk h1 ⟨_,rfl,Jl⟩))
 rw[ha,yaa (by simp)]at hk
 refine yP h1 (fun ha t2 h2=>?_) fun ha t2 h2=>?_
 ·rw[ha,yab rfl]at hk
  exact sA rfl (sA rfl (Ok.now hk h2 ⟨_,rfl,Jl⟩))
 rw[ha,yaa (by simp)]at hk
 by_cases hd:(yG P n).kind=3
 ·rw[decide_eq_true hd,yab rfl]at hk
  refine sA (by rw[cT0,hd];rfl) (yB ?_)
  rw[pE 73];refine Mo hL h2 (hk.bind fun a n1 tf3 t3 v hr hle hst hrd hk1=>?_)
  subst hrd;exact sB (sA rfl (sA rfl (Ok.now hk1 hst ⟨_,rfl,Jl⟩)))
 rw[decide_eq_false hd,yaa (by simp)]at hk
 refine tB (by rw[cT0];simp[aE];omega) (yP h2 (fun ha t3 h3=>?_) fun ha t3 h3=>?_)
 ·rw[ha,yab rfl]at hk
  refine yB ?_
  rw[pW 72];refine Cq h3 fun t4 h4=>pD (yB ?_)
  rw[pE 59];have e:(if acc P.tk bI (n+1)then n+2 else n+1)=(if acc P.tk bI (n+1)then n+1+1 else n+1):=by split<;>rfl
  simp only[e]at hk;refine Dm (k:=2) (by omega) h4 (hk.bind fun a n1 tf5 t5 v hr hle hst hrd hk1=>?_)
  obtain⟨x,_,e,rfl⟩:=hrd
  obtain⟨g1,g2,g3⟩:=Od hr
  have hn:=h.num g1
  rw[<- g2,<- e]at hn;subst e;refine fC (bQ _) (Yq hL hst hn fun tf6 t6 cs k1 k2 k3=>?_)
  obtain⟨u,v,rfl,hz,hd⟩:=Yr k3
  refine fC hz (sA rfl (sA (hd 3 0).all ?_))
  exact Ok.now (Ok.mono hk1 k1) k2 ⟨_,rfl,hd 3 0⟩
 rw[ha,yaa (by simp)]at hk
 have quant:∀(neg:Bool) (m:Nat) (t4:Tr vA),St P tf t4 m d->Ok P rdOV d tf ((gK P.tk neg m).bind fun v n1=>.ok (some v) n1) Q E →
   pA yA.base (jE yA F qC vF E) (JqE yA F E 47) (.call 75 [.ptr P.bp 0,.bool neg] fun a=>.asG zV a fun X=>.ite (aB zA.one (cV X)) (.ret (.tup [.agg (cV X),.bool true])) .fail) t4 Q:=by
  intro neg m t4 h4 hk4;refine yB ?_
  rw[pE 75];refine zbo hL h4 (hk4.bind fun a n1 tf5 t5 v hr hle hst hrd hk1=>?_)
  obtain⟨cs,rfl,hx⟩:=hrd
  have hx':=hx
  obtain⟨u,w,rfl,_⟩:=Kl hx
  exact fC (agV hx) (sA hx.all (Ok.now hk1 hst ⟨_,rfl,hx'⟩))
 refine yP h3 (fun ha t4 h4=>?_) fun ha t4 h4=>?_
 ·rw[ha,yab rfl]at hk
  exact quant true _ t4 h4 hk
 rw[ha,yaa (by simp)]at hk
 by_cases hd:(yG P n).kind=2
 ·rw[decide_eq_true hd,yab rfl]at hk
  exact sA (by rw[cT0,hd];rfl) (quant false _ t4 h4 hk)
 rw[decide_eq_false hd,yaa (by simp)]at hk
 exact tB (by rw[cT0];simp[aE];omega) (sA rfl (sA rfl (Ok.now hk h4 rfl)))
def zjt(ho:fI P d o 161){op:Nat}(h:St P tf t n d)(hk:Ok P oM d tf (atP P.tk o op n) Q E):lJ yA F E 180 [.ptr P.bp 0,.int .u8 (op:Int)] t Q:=by
 refine w180 _ _ ?_
 unfold t180;refine yB ?_
 rw[pE 58];refine Eg h (hk.bind fun w n1 tf1 t1 v hr hle hst hrd hk1=>?_)
 subst hrd;refine lF (aZ hst hk1 fun n2 tf2 t2 hle2 hst2 hk2=>?_)
 refine yB ?_
 rw[pE 161];refine ho _ _ _ _ _ hst2 (hk2.bind fun x n3 tf3 t3 v hr3 hle3 hst3 hrd3 hk3=>?_)
 obtain⟨cs,rfl,hx⟩:=hrd3
 have hx':=hx
 obtain⟨a,b,c,rfl,_⟩:=rL hx
 refine fC (agE hx) (jC fun b hb _=>?_)
 obtain⟨tf4,t4,k1,k2,k3,k4⟩:=hst3.sole hx' hb
 have hu:=un_rd (op:=op) (w:=w) k4
 exact⟨_,_,k1,sA (by rw[mI];rfl) (sA hu.all (Ok.now (hk3.mono k2) k3 ⟨_,rfl,hu⟩))⟩
def Ok.ret{W:eE}{r:PR cA}(hk:Ok P oM d tf r Q E):Ok P oM d tf r (fun v t'=>pA yA.base W J (.asG zE v fun X=>.ite (aB zA.one (cE X)) (.ret (.agg (cE X))) .fail) t' Q) E:=by
 cases r with
 | ok x n1=>exact fun tf2 t2 v k1 k2 k3=>Vw k3 (hk tf2 t2 v k1 k2 k3)
 | er e i=>exact hk
def zcg(hL:Cv)(ho:fI P d o 161)(hup:Up o)(hc:fI P d (nW P.tk (wS P.tk o)) 181):fI P d (wW P.tk o) 168:=fun tf t n Q E h hk=>by
 refine w168 _ ?_
 unfold t168;refine yB ?_
 rw[pE 47];unfold wW at hk;refine zc4 hL h (hk.bind fun v n1 tf1 t1 u hr hle h0 hrd hk1=>?_)
 cases v with
 | some v=>
  obtain⟨cs,rfl,hx⟩:=hrd
  have hx':=hx
  obtain⟨a,b,rfl,ha,hb⟩:=Kl hx
  have hc:RD tf1 (Rz v).d [.int .u8 1,.str [],.int .u8 v.kind,.bool v.f.n.neg,a,.bool v.f.d.neg,b,.int .i64 v.i,.nilslice]:=Hc (op:=1) (name:=[]) (v:=v) (args:=[]) ha hb pP
  exact oA rfl (fC (agV hx) (oA rfl (pD (sA hx.all (sA rfl (sA rfl (sA hc.all (Ok.now hk1 h0 ⟨_,rfl,hc⟩))))))))
 | none=>
  have hrd:u=.tup [.agg zV,.bool false]:=hrd
  subst hrd;refine oA rfl (fC (agV (x:=qM) (Jl (t:=tf1))) (oA rfl (pD (sA rfl (tB (by simp) ?_)))))
  have hk1:Ok P oM d tf1 (if acc P.tk [40] n1 then(wS P.tk o (n1+1)).bind fun x n1=>(aD P.tk [41] n1).bind fun _ n2=>.ok x n2
   else if acc P.tk Tb n1 then .ok (.mk 2 [] qM []) (n1+1)
   else if acc P.tk Jh n1 then atP P.tk o 3 (n1+1)
   else if acc P.tk wHas n1 then atP P.tk o 4 (n1+1)
   else if bK P.tk n1 then atP P.tk o 5 n1
   else nW P.tk (wS P.tk o) n1) Q E:=hk1
  refine yP h0 (fun ha t2 h2=>?_) fun ha t2 h2=>?_
  ·rw[ha,yab rfl]at hk1
   refine yB ?_
   rw[pE 42];refine Zc ho hup _ _ _ _ _ h2 (hk1.bind fun x n2 tf3 t3 v hr hle hst hrd hk2=>?_)
   obtain⟨cs,rfl,hx⟩:=hrd
   have hx':=hx
   obtain⟨a,b,c,rfl,_⟩:=rL hx
   refine fC (agE hx) (sA hx.all (aZ hst hk2 fun n3 tf4 t4 hle4 hst4 hk4=>?_))
   have hx4:=RD.mono hle4 _ _ hx'
   exact sA hx.all (Ok.now hk4 hst4 ⟨_,rfl,hx4⟩)
  rw[ha,yaa (by simp)]at hk1
  refine yP h2 (fun ha t2 h2=>?_) fun ha t2 h2=>?_
  ·rw[ha,yab rfl]at hk1
   exact sA rfl (sA rfl (Ok.now hk1 h2 ⟨_,rfl,Hc (op:=2) (name:=[]) (v:=qM) (args:=[]) pP pP pP⟩))
  rw[ha,yaa (by simp)]at hk1
  refine yP h2 (fun ha t2 h2=>?_) fun ha t2 h2=>?_
  ·rw[ha,yab rfl]at hk1
   refine yB ?_
   rw[pE 180];exact zjt ho (op:=3) h2 hk1.ret
  rw[ha,yaa (by simp)]at hk1
  refine yP h2 (fun ha t2 h2=>?_) fun ha t2 h2=>?_
  ·rw[ha,yab rfl]at hk1
   refine yB ?_
   rw[pE 180];exact zjt ho (op:=4) h2 hk1.ret
  rw[ha,yaa (by simp)]at hk1
  refine yB ?_
  rw[pQ 88,IZ h2,qA];refine pD ?_
  cases hb:bK P.tk n1 with
  | true=>
   rw[hb,yab rfl]at hk1;refine sA rfl (yB ?_)
   rw[pE 180];exact zjt ho (op:=5) h2 hk1.ret
  | false=>
   rw[hb,yaa (by simp)]at hk1
   refine tB (by simp) (yB ?_)
   rw[pE 181];exact hc _ _ _ _ _ h2 hk1.ret
end
end
section
variable {l:List cA}{v:zA}{b:Nat}{L:List iE}
variable [gC]
section
variable {base:Nat}{tf t:Tr vA}{C:mA}{A B:List iE}
theorem fA.append1{T el sz n:Nat}{l:List D}{dd:D}{x:zA}{cs:List zA}(hT:aP C T el sz)(h:fA C.base tf t (A++uD C.base sz l v::B))(hx:bA tf sz [dd] x)(hl:l.length+1<400000)(hn:t.get n=none)(hbase:C.base<=n) :
  ∃t' v',cG C T T v x ⟨n,t⟩=some (v',⟨n+1,t'⟩)/\fA C.base tf t' (A++uD C.base sz (l++[dd]) v'::B)/\zA.one v'=true:=by
 obtain⟨cl,h1,h2⟩:=hx
 have hv:zR C.base tf t sz l v:=h.ok (uD C.base sz l v) (by simp)
 obtain⟨c,r,rfl,h3,h4⟩:=yD.1 h2
 rw[sF]at h4;subst h4;obtain⟨t',k1,k2,k3,k4⟩:=MY hT (m:=[dd]) hv (h1.mono h.tle) h2 (by
  have:=h3.all
  rw[mI,ycb]at this;simpa using this) (by simp) (by simpa using hl) hn hbase h.tle
 refine⟨t',_,k1,?_,rfl⟩
 refine fA.upd (o:=uD C.base sz l v) h (fun k h1 h2=>k4 k ?_ (fun e=>h1 (Ej.2 e))) (fun k hk=>?_) k2 (by simp[uD,jI]) k3
 all_goals grind [uD,jI]
end
def el48:aP yA 48 50 9:=⟨⟨_,ty48,rfl,rfl⟩,⟨_,ty50,rfl,rfl,by decide,by decide⟩,fun y h=>by rw[ty50]at h;cases h;rfl⟩
def cI.wL(P:cI)(L:List iE):cI:=⟨P.tk,P.bp,P.ts,P.el,P.ec,L⟩
def CF.cs(f:CF):List zA:=[.str f.word,.int .u8 (f.op:Int),.bool f.named,.int .i64 (f.least:Int),.int .i64 (f.most:Int)]
abbrev Md:List zA:=[.str [108,111,111,107],.int .u8 6,.bool true,.int .i64 1,.int .i64 2,.str [109,105,110],.int .u8 11,.bool false,.int .i64 2,.int .i64 2,.str [109,97,120],.int .u8 12,.bool false,.int .i64 2,.int .i64 2,.str [98,101,116,119,101,101,110],.int .u8 20,.bool false,.int .i64 2,.int .i64 2,.str [105,102],.int .u8 18,.bool false,.int .i64 3,.int .i64 3,.str [114,111,117,110,100],.int .u8 19,.bool false,.int .i64 2,.int .i64 2,.str [115,101,114,118,105,99,101],.int .u8 21,.bool true,.int .i64 2,.int .i64 2,.str [103,114,111,119],.int .u8 23,.bool true,.int .i64 2,.int .i64 2,.str [98,101,115,116],.int .u8 22,.bool true,.int .i64 3,.int .i64 3,.str [109,111,110,116,104,115],.int .u8 24,.bool false,.int .i64 1,.int .i64 1,.str [110,117,109,98,101,114],.int .u8 25,.bool false,.int .i64 1,.int .i64 1,.str [115,116,97,114,116],.int .u8 26,.bool false,.int .i64 1,.int .i64 1]
section
variable {P:cI}{tf t:Tr vA}{n d:Nat}{Q E:pB}{J:eE}{o:PM cA}
def St.box  (h:St P tf t n d)(hb:t.get b=none):∃tf' t',aM v ⟨b,t⟩=some (.ptr b 0,⟨b+1,t'⟩)/\aA tf tf'/\St P tf' t' n d/\dC tf' b none v.cells:=by
 obtain⟨t',h1,⟨c,h2,h2'⟩,h3,h4⟩:=Sg (v:=v) hb
 have ho:=h.ob.junk hb h4
 have hfb:=h.ob.tfn hb
 obtain⟨k1,k2⟩:=ho.froze (fun hm=>h.ob.fresh hb hm) h2 hfb
 exact⟨_,t',h1,k2,⟨h.ts.mono k2,k1,h.len,h.le,h.good,h.glob.mono k2⟩,c,by rw[Tr.get_set,yab rfl],h2'⟩
def St.fixed{T:Nat}{y:lD} (h:St P tf t n d)(hT:yA.tys.get T=some y)(hz:v.cells.length=y.size)(hz2:y.zero.length=y.size)(hone:aB zA.one v.cells=true)(hb:t.get b=none)(hbase:yA.base<=b) :
  ∃t1,tK yA T ⟨b,t⟩=some (.ptr b 0,⟨b+1,t1⟩)/\∃tf' t2,(∀q,zC yA T (.ptr b 0) v ⟨q,t1⟩=some (fD,⟨q,t2⟩))/\aA tf tf'/\St P tf' t2 n d/\dC tf' b none v.cells:=by
 obtain⟨t1,h1,h2,h3,h4⟩:=rS (C:=yA) hT hb
 refine⟨t1,h1,?_⟩
 have o1:=fA.newCel (A:=[tG P n d]) (B:=P.L) h.ob hb hbase h2 h3 h4
 obtain⟨t2,k1,k2⟩:=fA.setCel (A:=[tG P n d]) (j:=0) (v:=v) o1 hT hz (by omega) hone
 have hov:rJ y.zero 0 v.cells=v.cells:=by
  unfold rJ;rw[List.take_zero,yah,ybt (by omega),ycd]
 rw[hov]at k2;obtain⟨c,g1,g2⟩:=k2.cel
 have hni:=k2.notin (o:=fB b none v.cells) (k:=b) (by simp[fB])
 obtain⟨m1,m2⟩:=(fA.drop k2).froze hni g1 (k2.low b (by simp[fB])).2
 exact⟨_,t2,k1,m2,⟨h.ts.mono m2,m1,h.len,h.le,h.good,h.glob.mono m2⟩,c,by rw[Tr.get_set,yab rfl],g2⟩
def kV{a:Nat}{w:Nat}(h:dC tf a none [.ptr w 0])(hst:St P tf t n d):lA yA 84 ⟨0,t⟩ (.ptr a 0)=some (.ptr w 0):=(dC.le h hst.ob.tle).load1 ty84 rfl rfl
def zi1:∀i:Nat,i<12->∃f,eQ[i]?=some f/\oI yA 250 (.agg Md) (.int .i64 (i:Int))=some (.agg f.cs):=by
 intro i hi;have:i=0\/i=1\/i=2\/i=3\/i=4\/i=5\/i=6\/i=7\/i=8\/i=9\/i=10\/i=11:=by omega
 rcases this with rfl | rfl | rfl | rfl | rfl | rfl | rfl | rfl | rfl | rfl | rfl | rfl<;>exact⟨_,rfl,by kernel_rfl⟩
def zi3(tk:List lB):PM CF:=fun n=>match eQ.find? fun f=>acc tk f.word n with
 | none=>.er 120 n
 | some f=>.ok f (n+1)
def rdCF (_:Tr vA)(f:CF)(v:zA):Prop:=f∈eQ/\v=.agg f.cs
def zi2{a1 a0:Nat}(h1:dC tf a1 none Md)(h0:dC tf a0 none [.ptr P.bp 0])(h:St P tf t n d)(hk:Ok P rdCF d tf (zi3 P.tk n) Q E):lJ yA F E 187 [.ptr a1 0,.ptr a0 0] t Q:=by
 refine w187 _ _ ?_
 unfold t187;have hl1:lA yA 250 ⟨0,t⟩ (.ptr a1 0)=some (.agg Md):=by
  have:=(dC.le h1 h.ob.tle).at.load (j:=0) (n:=60) ty250 rfl rfl (by decide)
  simpa using this
 refine vC hl1 (kC ?_)
 have loop:∀(k i:Nat) (t:Tr vA),i+k=12->St P tf t n d->Ok P rdCF d tf (match (eQ.drop i).find? fun f=>acc P.tk f.word n with | none=>.er 120 n | some f=>.ok f (n+1)) Q E →
   sH E 187 2 [.ptr a0 0,.agg Md,.int .i64 (i:Int),.str [],.int .u8 0,.bool false,.int .i64 0,.int .i64 0] t Q:=by
  intro k;induction k with
  | zero=>
   intro i t hi h hk;refine zez _ _ _ _ _ _ _ _ ?_
   unfold Ua;have e:eQ.drop i=[]:=ybt (by show 12<=i;omega)
   rw[e]at hk;exact tB (by rw[mC];simp;omega) (vC (kV h0 h) (yB (Ok.fail h hk)))
  | succ k ih=>
   intro i t hi h hk;refine zez _ _ _ _ _ _ _ _ ?_
   unfold Ua;obtain⟨f,hf,hv⟩:=zi1 i (by omega)
   obtain⟨hlt,hfe⟩:=ybc.1 hf
   rw[ybl hlt,hfe,List.find?_cons]at hk;refine sA (by rw[mC];exact decide_eq_true (by omega)) (oA hv (fC (X:=cellsOf f.cs) (cQ rfl) (sA rfl (vC (kV h0 h) (yP h (fun ha t' h'=>?_) fun ha t' h'=>?_)))))
   ·have ha:acc P.tk f.word n=true:=ha
    rw[ha]at hk;exact sA rfl (Ok.now hk h' ⟨ycv hf,rfl⟩)
   ·have ha:acc P.tk f.word n=false:=ha
    rw[ha]at hk;have e:iA .i64 ((i:Int)+1)=((i+1:Nat):Int):=by rw[iC (by omega) (by omega)];rfl
    rw[e];exact kC (ih (i+1) t' (by omega) h' hk)
 exact loop 12 0 t rfl h hk
abbrev eN(l:List cA)(v:zA):iE:=uD yA.base 9 (l.map cA.d) v
def St.args   (h:St (P.wL (eN l v::L)) tf t n d):zR yA.base tf t 9 (l.map cA.d) v:=h.ob.ok (eN l v) (by simp[cI.wL])
def St.more {x:cA} {cx:List zA} (h:St (P.wL (eN l v::L)) tf t n d)(hx:RD tf x.d cx)(hl:l.length<1000) (hb:t.get b=none) :
  ∃t1 w,eC yA 48 1 [(0,.agg cx)] ⟨b,t⟩=some (w,⟨b+1,t1⟩)/\∀c,t1.get c=none->yA.base<=c->∃tf2 t2 v2,cG yA 48 48 v w ⟨c,t1⟩=some (v2,⟨c+1,t2⟩)/\aA tf tf2/\St (P.wL (eN (l++[x]) v2::L)) tf2 t2 n d/\aB zA.one [v2]=true:=by
 obtain⟨tf1,t1,h1,h2,h3,h4⟩:=h.sole hx hb
 refine⟨t1,_,h1,fun c hc hcb=>?_⟩
 have ho:=h3.ob
 obtain⟨t2,v2,k1,k2,k3⟩:=fA.append1 (A:=[tG P n d]) (B:=L) (cs:=[]) el48 ho h4 (by simp;omega) hc hcb
 refine⟨tf1,t2,v2,k1,h2,⟨h3.ts,?_,h3.len,h3.le,h3.good,h3.glob⟩,by rw[mI];simp[k3]⟩
 show fA yA.base tf1 t2 ([tG P n d]++uD yA.base 9 ((l++[x]).map cA.d) v2::L)
 rw[List.map_append];exact k2
end
end
section
variable {α β:Type}{w:List Nat}{f:CF}{a0 m:Nat}{e:PM cA}{K:zA->T}{l:List cA}{v:zA}
variable [gC]
def PR.bind_assoc{γ:Type}(r:PR α)(f:α->Nat->PR β)(g:β->Nat->PR γ):(r.bind f).bind g=r.bind fun a n=>(f a n).bind g:=by cases r<;>rfl
section
variable {tk:List lB}{o:PM cA}
def bN  : Up (aD tk w):=by
 intro n a n' h;unfold aD at h;split at h<;>cases h;omega
def Eh:Up (kH tk):=by
 intro n a n' h;unfold kH at h;split at h<;>cases h;omega
def Oc{k:Nat}:Up (aC tk k):=by
 intro n a n' h;unfold aC at h;split at h<;>cases h;omega
def zF {r:PM α}{f:α->PM β}(h1:Up r)(h2:∀a,Up (f a)):Up fun n=>(r n).bind f:=by
 intro n b n' h;obtain⟨a,n1,e1,e2⟩:=PR.bind_ok h
 have:=h1 _ _ _ e1
 have:=h2 _ _ _ _ e2
 omega
def qL {a:α}:Up (fun n=>(.ok a n:PR α)):=by intro n b n' h;cases h;omega
def Hx:Up (aO tk):=zF Oc fun _=>qL
def LX{f:Nat->List Nat}  : ∀(k i:Nat),Up (jL tk f m k i):=by
 intro k;induction k with
 | zero=>intro i n a n' h;cases h
 | succ k ih=>
  intro i n a n' h;unfold jL at h;split at h
  ·cases h
  ·split at h
   ·cases h;omega
   ·exact ih _ _ _ _ h
def ES{neg:Bool}:Up (gK tk neg):=by
 intro n b n' h;unfold gK at h;obtain⟨a,n1,e1,e2⟩:=PR.bind_ok h
 have:=Oc _ _ _ e1
 split at e2
 ·split at e2
  ·cases e2
  ·split at e2<;>cases e2;omega
 ·cases e2;omega
def XW:Up (Fg tk):=by
 intro n b n' h;unfold Fg at h;split at h
 ·cases h;omega
 split at h
 ·cases h;omega
 split at h
 ·exact zF Hx (fun _=>qL) _ _ _ h
 split at h
 ·obtain⟨a,n1,e1,e2⟩:=PR.bind_ok h
  have:=Oc _ _ _ e1
  cases e2
  split at this<;>omega
 split at h
 ·have:=zF ES (fun _=>qL) _ _ _ h
  omega
 split at h
 ·exact zF ES (fun _=>qL) _ _ _ h
 cases h;omega
def zbw (he:Up e):∀(k:Nat) (l:List cA),Up (Bq tk e k l):=by
 intro k;induction k with
 | zero=>intro l;exact qL
 | succ k ih=>intro l;exact zF bN fun _=>zF he fun x=>ih (l++[x])
def zbc (he:Up e):∀(k:Nat) (l:List cA),Up (qV tk e k l):=by
 intro k;induction k with
 | zero=>intro l;exact qL
 | succ k ih=>
  intro l n b n' h;unfold qV at h;split at h
  ·have:=zF he (fun x=>ih (l++[x])) _ _ _ h
   omega
  ·cases h;omega
def AD(ho:Up o){op:Nat}:Up (atP tk o op):=zF Eh fun _=>zF bN fun _=>zF ho fun _=>qL
def zc9 (he:Up e):Up (nW tk e):=by
 intro n b n' h;unfold nW at h;split at h
 ·cases h
 ·rename_i f _
  have hw:Up (fun n1=>(if f.named then(kH tk n1).bind fun w n2=>(aD tk [44] n2).bind fun _ n3=>.ok w n3 else .ok [] n1:PR (List Nat))):=by
   cases f.named with
   | true=>exact zF Eh fun _=>zF bN fun _=>qL
   | false=>exact qL
  have hm:Up (fun n5=>(if f.op=19 then(aD tk [44] n5).bind fun _ n6=>jL tk dS 6 6 1 n6 else .ok 0 n5:PR Nat)):=by
   by_cases h19:f.op=19
   ·simp only[yab h19];exact zF bN fun _=>LX _ _
   ·simp only[yaa h19];exact qL
  have:=zF bN (fun _=>zF hw fun w=>zF he fun x=>zF (zbw he (f.least-1) [x]) fun l=>zF (zbc he (f.most-f.least) l) fun l=>zF hm fun m=>zF bN fun _=>qL (a:=cA.mk f.op w ⟨0,xH,m⟩ l)) _ _ _ h
  omega
def JH(ho:Up o):Up (wW tk o):=by
 have he:=KM (tk:=tk) ho
 refine zF XW fun v=>?_
 cases v with
 | some v=>exact qL
 | none=>
  intro n b n' h;simp only at h
  split at h
  ·have:=zF he (fun x=>zF bN fun _=>qL (a:=x)) _ _ _ h
   omega
  split at h
  ·cases h;omega
  split at h
  ·have:=AD ho _ _ _ h;omega
  split at h
  ·have:=AD ho _ _ _ h;omega
  split at h
  ·exact AD ho _ _ _ h
  ·exact zc9 he _ _ _ h
end
section
variable {P:cI}{tf t:Tr vA}{n d:Nat}{Q E:pB}{J:eE}{o:PM cA}{ob:iE}
def St.drop1(h:St (P.wL (ob::P.L)) tf t n d):St P tf t n d:=⟨h.ts,fA.drop (A:=[tG P n d]) (o:=ob) h.ob,h.len,h.le,h.good,h.glob⟩
def Ok.bindL {rd1:Tr vA->α->zA->Prop}{rd:Tr vA->β->zA->Prop}{r:PR α}{f:α->Nat->PR β}{Q1:pB}(h:Ok P rd d tf (r.bind f) Q E)
  (k:∀a n1 tf1 t1 v,r=.ok a n1->aA tf tf1->St (P.wL (ob::P.L)) tf1 t1 n1 d->rd1 tf1 a v->Ok P rd d tf1 (f a n1) Q E->Q1 v t1):Ok (P.wL (ob::P.L)) rd1 d tf r Q1 E:=by
 cases r with
 | ok a n=>exact fun tf' t' v h1 h2 h3=>k a n tf' t' v rfl h1 h2 h3 (Ok.mono h h1)
 | er e i=>exact fun tf' t' n' d' h1 h2=>h tf' t' n' d' h1 h2.drop1
def Fa  (h:St P tf t n d)(hk:Ok P rdU d tf (aD P.tk w n) (fun v t'=>pA yA.base (jE yA F qC vF E) J (K v) t' Q) E) :
  pA yA.base (jE yA F qC vF E) J (.heavy (eC yA 93 1 [(0,.str w)]) fun a=>.call 57 [.ptr P.bp 0,a] K) t Q:=by
 refine jC fun b hb _=>?_
 obtain⟨tf1,t1,h1,h2,h3,h4⟩:=h.lit (k:=1) (sz:=1) (ds:=[D.str w]) (cl:=[[.str w]]) ty93 rfl kN rfl rfl (by omega) (Ez (sz:=1) (z:=[.str []]) (v:=.str w) rfl rfl) (Ed rfl) rfl (yD.2 ⟨_,_,rfl,mK.2 rfl,sF.2 rfl⟩) hb
 refine⟨_,_,h1,yB ?_⟩
 rw[pE 57];exact KO h4 h3 (hk.mono h2)
def Tv(tk:List lB)(f:CF)(w:List Nat)(l:List cA)(m:Nat):PM cA:=fun n=>(aD tk [41] n).bind fun _ n7=>.ok (.mk f.op w ⟨0,xH,m⟩ l) n7
def zgt(tk:List lB)(f:CF)(w:List Nat)(l:List cA):PM cA:=fun n5=>(if f.op=19 then(aD tk [44] n5).bind fun _ n6=>jL tk dS 6 6 1 n6 else .ok 0 n5:PR Nat).bind fun m n6=>Tv tk f w l m n6
def zgu(tk:List lB)(e:PM cA)(f:CF)(w:List Nat)(k:Nat)(l:List cA):PM cA:=fun n=>(qV tk e k l n).bind fun l n5=>zgt tk f w l n5
def Of(tk:List lB)(e:PM cA)(f:CF)(w:List Nat)(k:Nat)(l:List cA):PM cA:=fun n=>(Bq tk e k l n).bind fun l n4=>zgu tk e f w (f.most-f.least) l n4
def zda{tk:List lB}  : nW tk e n=(zi3 tk n).bind fun f n1=>(aD tk [40] n1).bind fun _ n1=>
  (if f.named then(kH tk n1).bind fun w n2=>(aD tk [44] n2).bind fun _ n3=>.ok w n3 else .ok [] n1:PR (List Nat)).bind fun w n2=>(e n2).bind fun x n3=>Of tk e f w (f.least-1) [x] n3:=by
 unfold nW zi3
 cases eQ.find? fun f=>acc tk f.word n with
 | none=>rfl
 | some f=>rfl
abbrev c6(f:CF)(w:List Nat)(m:Nat)(v:zA):List zA:=[.int .u8 (f.op:Int),.str w,.int .u8 0,.bool false,.nilslice,.bool false,.nilslice,.int .i64 (m:Int),v]
def zd3     (h0:dC tf a0 none [.ptr P.bp 0])(h:St (P.wL (eN l v::P.L)) tf t n d)(hk:Ok P oM d tf (Tv P.tk f w l m n) Q E):sH E 181 37 ([.ptr a0 0]++zE++c6 f w m v) t Q:=by
 refine zih _ _ _ _ _ _ _ _ _ _ _ _ _ _ _ _ _ _ _ ?_
 unfold CB;unfold Tv at hk;refine vC (kV h0 h) (Fa (P:=P.wL (eN l v::P.L)) h (hk.bindL fun _ n1 tf1 t1 u hr hle hst hrd hk1=>?_))
 obtain⟨tf2,k1,k2,k3⟩:=fA.freezeL (A:=[tG P n1 d]) (B:=P.L) hst.ob
 have hd:RD tf2 (cA.mk f.op w ⟨0,xH,m⟩ l).d (c6 f w m v):=Hc (v:=⟨0,xH,m⟩) pP pP k3
 refine sA hd.all (Ok.now (Ok.mono hk1 k1) (t:=t1) ⟨hst.ts.mono k1,k2,hst.len,hst.le,hst.good,hst.glob.mono k1⟩ ⟨_,rfl,hd⟩)
def tM_ok     (hop:f.op<256)(h0:dC tf a0 none [.ptr P.bp 0])(h:St (P.wL (eN l v::P.L)) tf t n d)(hk:Ok P oM d tf (zgt P.tk f w l n) Q E) :
  pA yA.base (jE yA F qC vF E) (JqE yA F E 181) (.ite (oB (f.op:Int) 19)
 (.light (fun m=>lA yA 84 ⟨0,m⟩ (.ptr a0 0)) fun a10=>.heavy (eC yA 93 1 [(0,(.str [44]))]) fun a11=>
 .call 57 [a10,a11] fun a12=>
 .light (fun m=>lA yA 84 ⟨0,m⟩ (.ptr a0 0)) fun a13=>.call 110 [a13,(.int .u8 1),(.int .u8 6),(.func (.func 188) [] [])] fun a14=>
 .asI .u8 a14 fun n15=>.ite true (.jump 37 ([.ptr a0 0]++zE++[.int .u8 (f.op:Int),.str w,.int .u8 0,.bool false,.nilslice,.bool false,.nilslice,.int .i64 (iA .i64 n15),v])) .fail)
 (.jump 37 ([.ptr a0 0]++zE++c6 f w 0 v))) t Q:=by
 unfold zgt at hk;by_cases h19:f.op=19
 ·rw[yab h19,PR.bind_assoc]at hk
  refine sA (by rw[h19];rfl) (vC (kV h0 h) (Fa (P:=P.wL (eN l v::P.L)) h (hk.bindL fun _ n1 tf1 t1 u hr hle hst hrd hk1=>?_)))
  refine vC (kV (dC.le h0 hle) hst) (yB ?_)
  rw[pE 110];refine LW (P:=P.wL (eN l v::P.L)) (f:=dS) (most:=6) (fun t hg i hi=>zhx hg hi) (by kernel_rfl) (by kernel_rfl) (by omega) hst (hk1.bindL fun m n2 tf2 t2 u hr2 hle2 hst2 hrd2 hk2=>?_)
  subst hrd2;refine sB (sA rfl (kC ?_))
  have hm:m<256:=by
   have:∀(k i:Nat),i<=7->jL P.tk dS 6 k i n1=.ok m n2->m<256:=by
    intro k;induction k with
    | zero=>intro i _ h;cases h
    | succ k ih=>
     intro i hi h;unfold jL at h;split at h
     ·cases h
     ·split at h
      ·cases h;omega
      ·exact ih (i+1) (by omega) h
   exact this 6 1 (by omega) hr2
  have hw:iA .i64 (m:Int)=(m:Int):=iC (by omega) (by omega)
  rw[hw];exact zd3 (dC.le h0 (hle.trans hle2)) hst2 hk2
 ·rw[yaa h19]at hk
  refine tB (by rw[aE];simp;omega) (kC ?_)
  exact zd3 h0 h hk
def Xh    {f:cA->Nat->PR cA} (he:∀L,fI (P.wL L) d e 42)(h0:dC tf a0 none [.ptr P.bp 0])(hl:l.length<1000)(h:St (P.wL (eN l v::P.L)) tf t n d)(hk:Ok P oM d tf ((e n).bind f) Q E)
  (k:∀x n1 tf1 t1 v',aA tf tf1->St (P.wL (eN (l++[x]) v'::P.L)) tf1 t1 n1 d->Ok P oM d tf1 (f x n1) Q E->pA yA.base (jE yA F qC vF E) J (K v') t1 Q) :
  pA yA.base (jE yA F qC vF E) J (.light (fun m=>lA yA 84 ⟨0,m⟩ (.ptr a0 0)) fun a=>.call 42 [a] fun a6=>.asG zE a6 fun X=>.ite (same 10 v v) (.heavy (eC yA 48 1 [(0,.agg (cE X))]) fun a8=>.ite (same 10 v v) (.heavy (cG yA 48 48 v a8) fun a9=>.ite (aB zA.one [a9]) (K a9) .fail) .fail) .fail) t Q:=by
 refine vC (kV h0 h) (yB ?_)
 rw[pE 42];refine he (eN l v::P.L) _ _ _ _ _ h (hk.bindL fun x n1 tf1 t1 u hr hle hst hrd hk1=>?_)
 obtain⟨cs,rfl,hx⟩:=hrd
 have hx':=hx
 obtain⟨a,b,c,rfl,_⟩:=rL hx
 have hs:same 10 v v=true:=hst.args.same
 refine fC (agE hx) (sA hs (jC fun b hb _=>?_))
 obtain⟨t2,w,k1,k2⟩:=hst.more hx' hl hb
 refine⟨_,_,k1,sA hs (jC fun c hc hcb=>?_)⟩
 obtain⟨tf3,t3,v3,m1,m2,m3,m4⟩:=k2 c hc hcb
 exact⟨_,_,m1,sA m4 (k x n1 tf3 t3 v3 (hle.trans m2) m3 (Ok.mono hk1 m2))⟩
def t6_ok    (he:∀L,fI (P.wL L) d e 42)(hop:f.op<256)(hmost:f.most<900):∀(k:Nat) (l:List cA) (v:zA) (n:Nat) (tf t:Tr vA),l.length+k=f.most->dC tf a0 none [.ptr P.bp 0]->St (P.wL (eN l v::P.L)) tf t n d->Ok P oM d tf (zgu P.tk e f w k l n) Q E →
  sH E 181 6 ([.ptr a0 0]++zE++f.cs++c6 f w 0 v) t Q:=by
 intro k;induction k with
 | zero=>
  intro l v n tf t hlen h0 h hk;refine ze1 _ _ _ _ _ _ _ _ _ _ _ _ _ _ _ _ _ _ _ _ _ _ _ _ ?_
  unfold Uc;have hv:=h.args.len
  rw[ybf]at hv;exact oA hv (sB (tB (by rw[mC];simp;omega) (tM_ok hop h0 h hk)))
 | succ k ih=>
  intro l v n tf t hlen h0 h hk;refine ze1 _ _ _ _ _ _ _ _ _ _ _ _ _ _ _ _ _ _ _ _ _ _ _ _ ?_
  unfold Uc;have hv:=h.args.len
  rw[ybf]at hv;unfold zgu qV at hk;refine oA hv (sB (sA (by rw[mC];exact decide_eq_true (by omega)) (vC (kV h0 h) (yP (P:=P.wL (eN l v::P.L)) h (fun ha t2 h2=>?_) fun ha t2 h2=>?_))))
  ·have ha:acc P.tk [44] n=true:=ha
   rw[ha,yab rfl,PR.bind_assoc]at hk;exact Xh he h0 (by omega) h2 hk fun x n1 tf3 t3 v3 k1 k2 k3=>kC (ih (l++[x]) v3 n1 tf3 t3 (by simp;omega) (dC.le h0 k1) k2 k3)
  ·have ha:acc P.tk [44] n=false:=ha
   rw[ha,yaa (by simp)]at hk
   exact tM_ok hop h0 h2 hk
def t2_ok    (he:∀L,fI (P.wL L) d e 42)(hop:f.op<256)(hmost:f.most<900)(hle:f.least<=f.most):∀(k:Nat) (l:List cA) (v:zA) (n:Nat) (tf t:Tr vA),l.length+k=f.least->dC tf a0 none [.ptr P.bp 0]->St (P.wL (eN l v::P.L)) tf t n d->Ok P oM d tf (Of P.tk e f w k l n) Q E →
  sH E 181 2 ([.ptr a0 0]++zE++f.cs++c6 f w 0 v) t Q:=by
 intro k;induction k with
 | zero=>
  intro l v n tf t hlen h0 h hk;refine ze2 _ _ _ _ _ _ _ _ _ _ _ _ _ _ _ _ _ _ _ _ _ _ _ _ ?_
  unfold Ud;have hv:=h.args.len
  rw[ybf]at hv;exact oA hv (sB (tB (by rw[mC];simp;omega) (kC (t6_ok he hop hmost _ l v n tf t (by omega) h0 h hk))))
 | succ k ih=>
  intro l v n tf t hlen h0 h hk;refine ze2 _ _ _ _ _ _ _ _ _ _ _ _ _ _ _ _ _ _ _ _ _ _ _ _ ?_
  unfold Ud;have hv:=h.args.len
  rw[ybf]at hv;unfold Of Bq at hk;rw[PR.bind_assoc]at hk;refine oA hv (sB (sA (by rw[mC];exact decide_eq_true (by omega)) (vC (kV h0 h) (Fa (P:=P.wL (eN l v::P.L)) h (hk.bindL fun _ n1 tf1 t1 u hr hle1 hst hrd hk1=>?_)))))
  rw[PR.bind_assoc]at hk1;exact Xh he (dC.le h0 hle1) (by omega) hst hk1 fun x n2 tf3 t3 v3 k1 k2 k3=>kC (ih (l++[x]) v3 n2 tf3 t3 (by simp;omega) (dC.le h0 (hle1.trans k1)) k2 k3)
def zd4    (he:∀L,fI (P.wL L) d e 42)(hop:f.op<256)(hmost:f.most<900)(hle:f.least<=f.most)(h1:1<=f.least)(h0:dC tf a0 none [.ptr P.bp 0])(h:St P tf t n d)(hk:Ok P oM d tf ((e n).bind fun x n3=>Of P.tk e f w (f.least-1) [x] n3) Q E) :
  sH E 181 19 ([.ptr a0 0]++zE++f.cs++c6 f w 0 .nilslice) t Q:=by
 refine zii _ _ _ _ _ _ _ _ _ _ _ _ _ _ _ _ _ _ _ _ _ _ _ _ ?_
 unfold CC;have h':St (P.wL (eN [] .nilslice::P.L)) tf t n d:=⟨h.ts,fA.add (A:=[tG P n d]) (B:=P.L) (o':=eN [] .nilslice) h.ob (fun _ _=>rfl) (fun k hk=>by simp[uD,jI]at hk) (.inl ⟨rfl,rfl⟩) (by simp[uD,jI]) h.ob.tle,h.len,h.le,h.good,h.glob⟩
 exact Xh he h0 (by simp) h' hk fun x n1 tf1 t1 v1 k1 k2 k3=>kC (t2_ok he hop hmost hle (f.least-1) [x] v1 n1 tf1 t1 (by simp;omega) (dC.le h0 k1) k2 k3)
def zcn:∀f∈eQ,f.op<256/\f.most<900/\f.least<=f.most/\1<=f.least:=by decide
def Zz (he:∀L,fI (P.wL L) d e 42):fI P d (nW P.tk e) 181:=fun tf t n Q E h hk=>by
 rw[zda]at hk;refine w181 _ ?_
 unfold t181;refine jC fun a0 ha0 _=>?_
 obtain⟨tf1,t1,h1,h2,h3,h4⟩:=h.box (v:=.ptr P.bp 0) ha0
 refine⟨_,_,h1,?_⟩
 refine sA rfl (sA rfl (sA rfl (sA rfl (sA rfl (sA rfl (sA rfl (sA rfl (sA rfl (sA rfl (sA rfl (sA rfl (sA rfl (jC fun a1 ha1 hb1=>?_)))))))))))))
 obtain⟨t2,k1,tf3,t3,k2,k3,k4,k5⟩:=h3.fixed (v:=.agg Md) ty250 rfl rfl rfl ha1 hb1
 refine⟨_,_,k1,jC fun c _ _=>⟨_,_,k2 c,?_⟩⟩
 have g0:dC tf3 a0 none [.ptr P.bp 0]:=dC.le h4 k3
 refine aT (g:=187) (a:=[.ptr a1 0,.ptr a0 0]) rfl ?_
 rw[pE 187];refine zi2 k5 g0 k4 ((hk.mono (h2.trans k3)).bind fun f n1 tf4 t4 u hr hle hst hrd hk1=>?_)
 obtain⟨hf,rfl⟩:=hrd
 obtain⟨f1,f2,f3,f4⟩:=zcn f hf
 have g4:=dC.le g0 hle
 refine fC (X:=cellsOf f.cs) (cQ rfl) (sA rfl (sA rfl (sA rfl (vC (kV g4 hst) (Fa hst (hk1.bind fun _ n2 tf5 t5 u2 hr2 hle2 hst2 hrd2 hk2=>?_))))))
 have g5:=dC.le g4 hle2
 cases hn:f.named with
 | true=>
  rw[hn,yab rfl,PR.bind_assoc]at hk2;refine sA hn (vC (kV g5 hst2) (yB ?_))
  rw[pE 58];refine Eg hst2 (hk2.bind fun w n3 tf6 t6 u3 hr3 hle3 hst3 hrd3 hk3=>?_)
  subst hrd3;rw[PR.bind_assoc]at hk3;have g6:=dC.le g5 hle3
  refine lF (sA rfl (vC (kV g6 hst3) (Fa hst3 (hk3.bind fun _ n4 tf7 t7 u4 hr4 hle4 hst4 hrd4 hk4=>?_))))
  exact kC (zd4 he f1 f2 f3 f4 (dC.le g6 hle4) hst4 hk4)
 | false=>
  rw[hn,yaa (by simp)]at hk2
  refine tB (by rw[show(cellsOf f.cs).b 2=f.named from rfl,hn];simp) (kC ?_)
  exact zd4 he f1 f2 f3 f4 g5 hst2 hk2
def FK(hL:Cv){tk:List lB}:∀(k d:Nat),d+k=101->∀P:cI,P.tk=tk->Up (mR tk k)/\fI P d (mR tk k) 161:=by
 intro k;induction k with
 | zero=>
  intro d hd P hP;refine⟨fun n a n' h=>(by cases h),fun tf t n Q E h hk=>?_⟩
  refine w161 _ ?_
  unfold t161;exact oA nl (oA f2 (vC h.l2 (sB (sA (by rw[mC];exact decide_eq_true (by omega)) (yB (Ok.fail h hk))))))
 | succ k ih=>
  intro d hd P hP;have hup:Up (mR tk k):=(ih (d+1) (by omega) P hP).1
  have hi:∀L,fI (P.wL L) (d+1) (mR tk k) 161:=fun L=>(ih (d+1) (by omega) (P.wL L) hP).2
  subst hP;have hin:fI P (d+1) (wW P.tk (mR P.tk k)) 168:=zcg hL (hi P.L) hup (Zz fun L=>Zc (hi L) hup)
  refine⟨?_,fun tf t n Q E h hk=>?_⟩
  ·exact JH hup
  ·refine w161 _ ?_
   unfold t161;refine oA nl (oA f2 (vC h.l2 (sB (tB (by rw[mC];simp;omega) (kC (j161_7 _ _ _ _ _ _ _ _ _ _ ?_))))))
   unfold zea;refine oA nl (oA f2 (vC h.l2 (sB (oA nl (oA f2 (jC fun b _ _=>?_))))))
   obtain⟨t1,h1,h2⟩:=h.set2 (d':=d+1)
   have e:iA .i64 ((d:Int)+1)=((d+1:Nat):Int):=by rw[iC (by omega) (by omega)];rfl
   rw[e];refine⟨_,_,h1 b,yB ?_⟩
   rw[pE 168];refine hin _ _ _ _ _ h2 ?_
   have hk:Ok P oM d tf (wW P.tk (mR P.tk k) n) Q E:=hk
   revert hk
   generalize wW P.tk (mR P.tk k) n=r
   intro hk
   cases r with
   | er e i=>exact hk
   | ok x n1=>
    intro tf2 t2 v k1 k2 ⟨cs,hv,hx⟩
    subst hv;have hx':=hx
    obtain⟨a,b,c,rfl,_⟩:=rL hx
    refine fC (agE hx) (sA hx.all (oA nl (oA f2 (vC k2.l2 (sB (oA nl (oA f2 (jC fun b _ _=>?_))))))))
    obtain⟨t3,m1,m2⟩:=k2.set2 (d':=d)
    have e:iA .i64 (((d+1:Nat):Int)-1)=(d:Int):=by rw[iC (by omega) (by omega)];omega
    rw[e];exact⟨_,_,m1 b,sA hx.all (hk tf2 t3 _ k1 m2 ⟨_,rfl,hx'⟩)⟩
def KL(hL:Cv):fI P 0 (rW P.tk) 42:=Zc (FK hL 101 0 rfl P rfl).2 (FK hL 101 0 rfl P rfl).1
end
end
section
variable {n:Nat}
def zjh(n:Nat):∀s:List Nat,s.foldl (fun n b=>n*10+(b-48)) n=n*10^s.length+rD s:=by
 intro s;induction s generalizing n with
 | nil=>simp[rD]
 | cons b s ih=>
  show s.foldl _ (n*10+(b-48))=_+s.foldl _ (0*10+(b-48))
  rw[ih,ih,ybn,yag];grind
def Rx(a b:List Nat):rD (a++b)=rD a*10^b.length+rD b:=by
 unfold rD;rw[List.foldl_append,zjh];rfl
def Zr(a:List Nat)(x:Nat):rD (a++[x])=rD a*10+(x-48):=by
 rw[Rx];simp[rD]
def Fe:∀ {s:List Nat},(∀b∈s,nD b=true)->rD s<10^s.length:=by
 intro s;induction s with
 | nil=>intro _;simp[rD]
 | cons b s ih=>
  intro h;have h1:=h b (by simp)
  have h2:=ih fun c hc=>h c (by simp[hc])
  have:rD (b::s)=(b-48)*10^s.length+rD s:=by
   have:=Rx [b] s
   simpa[rD]using this
  rw[this,ybn,yag];unfold nD at h1;simp only[ybb,decide_eq_true_eq]at h1;have:(b-48)*10^s.length<=9*10^s.length:=ybi _ (by omega)
  omega
def zcz{s:List Nat}(hd:∀b∈s,nD b=true)(h0:s≠[])(hp:s.head?≠some 48):0<rD s:=by
 cases s with
 | nil=>exact absurd rfl h0
 | cons b s=>
  have h1:=hd b (by simp)
  unfold nD at h1;simp only[ybb,decide_eq_true_eq]at h1;have:rD (b::s)=(b-48)*10^s.length+rD s:=by
   have:=Rx [b] s
   simpa[rD]using this
  rw[this];have hb:b≠48:=fun e=>hp (by simp[e])
  have:1*10^s.length<=(b-48)*10^s.length:=ybi _ (by omega)
  have:0<10^s.length:=Nat.pow_pos (by omega)
  omega
def sX(n:Nat):val 65536 (yC n)=n:=by
 induction n using Nat.strongRecOn with
 | ind n ih=>
  unfold yC;split
  ·rename_i h;simp[val,h]
  ·show n%65536+65536*val 65536 (yC (n / 65536))=n
   rw[ih _ (by omega)]
   omega
def eW(n:Nat):kB 65536 (yC n):=by
 induction n using Nat.strongRecOn with
 | ind n ih=>
  unfold yC;split
  ·intro x hx;cases hx
  ·intro x hx
   rcases ybs.1 hx with rfl | hx
   ·omega
   ·exact ih _ (by omega) x hx
def Lb(n:Nat):norm (yC n):=by
 induction n using Nat.strongRecOn with
 | ind n ih=>
  unfold yC;split
  ·intro h;exact absurd rfl h
  ·intro h
   have h2:=ih (n / 65536) (by omega)
   by_cases h3:yC (n / 65536)=[]
   ·simp only[h3,List.getLast_singleton]
    have h4:=sX (n / 65536)
    rw[h3]at h4;have:n / 65536=0:=h4.symm
    omega
   ·rw[List.getLast_cons h3]
    exact h2 h3
def Xw{l:List Nat} (h1:kB 65536 l)(h2:norm l)(h3:val 65536 l=n):l=yC n:=
 FY (B:=65536) (by omega) h1 (eW n) h2 (Lb n) (by rw[sX,h3])
def En  : yC n=[] ↔ n=0:=by
 constructor
 ·intro h
  have:=sX n
  rw[h]at this;exact this.symm
 ·intro h;subst h;unfold yC;rfl
def Xx{k:Nat}(h:n<65536^k):(yC n).length<=k:=by
 induction k generalizing n with
 | zero=>
  have:n=0:=by simpa using h
  rw[En.2 this];simp
 | succ k ih=>
  unfold yC;split
  ·simp
  ·have:n / 65536<65536^k:=by
    rw[yag]at h;exact ycu (by rw[ybh];exact h)
   have:=ih this
   simp;omega
end
section
variable {b:Bool}{v:zA}{l:List Nat}
variable [gC]
section
variable {t:Tr vA}{Q:pB}
def eL  (h:zA.one v=true):aB zA.one [.bool b,v]=true:=by
 show(bif zA.one (.bool b)then(bif zA.one v then true else false)else false)=true
 rw[h];rfl
def xO   (h:bA t 1 (xE l) v):xK [.bool false,.nilslice] (.agg [.bool b,v])=some (cellsOf [.bool b,v]):=bU (Br (w:=⟨b,l⟩) h) (wK.zs _)
def QX  {neg:Bool}(hv:bA t 1 (xC .u32 l) v)(hl:l.length<=500)(hlt:kB 4294967296 l)
  (hQ:∀t' u,aA t t'->bA t' 1 (xE (yC (val 4294967296 l))) u->Q (.tup [.agg [.bool (if kE l=[]then false else neg),u],.int .i64 0]) t'):Wc yA F 122 [.bool neg,v] t Q:=by
 refine w122 ?_
 unfold t122 uG;refine yB ?_
 rw[q141];refine Ti hv (by omega) hlt fun t' u hle hu=>?_
 have hlt2:kB 65536 (kE (pH (kE l))):=oT (Sq (oT hlt))
 have hval:val 65536 (kE (pH (kE l)))=val 4294967296 l:=by rw[uV,Nu,uV]
 have e:kE (pH (kE l))=yC (val 4294967296 l):=Xw hlt2 (mV _) hval
 rw[e]at hu;have hlen:(yC (val 4294967296 l)).length<=1000:=by
  rw[<- e];have:=Jw (pH (kE l))
  rw[Jp]at this;have:=Jw l
  omega
 have hul:=bA.len (l:=xE (yC (val 4294967296 l))) hu
 rw[fU]at hul;refine fC (xO hu) (sA (eL hu.one) (oA hul (sB (tB (by rw[mC];simp;omega) (sA (eL hu.one) ?_)))))
 exact hQ t' u hle hu
theorem Wp{s:List Nat}(hs:∀b∈s,nD b=true)(h0:s≠[])(hp:nR s=false)(hl:s.length<=200)(hQ:∀t' u,aA t t'->bA t' 1 (xE (yC (rD s))) u->Q (.tup [.agg [.bool false,u],.int .i64 0]) t'):Wc yA F 99 [.str s] t Q:=by
 have dig:∀b∈s,48<=b/\b<=57:=fun b hb=>by have:=hs b hb;unfold nD at this;simpa using this
 have hlen:0<s.length:=List.length_pos_iff.2 h0
 obtain⟨x,hx⟩:∃x,s[0]?=some x:=⟨s[0],ybd hlen⟩
 have hxd:=dig x (ycv hx)
 have hx0:=kM hx
 rw[show((0:Nat):Int)=0 from rfl]at hx0
 have ll:∀s:List Nat,(Int.ofNat (zB s))=(s.length:Int):=fun s=>by rw[oD];rfl
 have words:∀(n:Nat) (r w:List Nat) (v:zA) (t1:Tr vA),r.length<=n->(∀b∈r,nD b=true)->r.length<=200->w.length+r.length<=300->aA t t1->bA t1 1 (xC .u32 w) v->kB 4294967296 w->val 4294967296 w*10^r.length+rD r=rD s →
   jp 99 6 [.str r,.bool false,v,.bool false,.nilslice] t1 Q:=by
  intro n;induction n with
  | zero=>
   intro r w v t1 hr hd hr2 hw hle hv hlt hval;have:r=[]:=ycc.1 (by omega)
   subst this;refine j99_6 ?_
   unfold zgz uG uI;rw[ll];refine tB (by simp[mC]) (yB ?_)
   rw[q122];refine QX hv (by omega) hlt fun t2 u k1 k2=>?_
   have:(if kE w=[]then false else false)=false:=by split<;>rfl
   rw[this];have hval:val 4294967296 w=rD s:=by simpa[rD]using hval
   rw[hval]at k2;exact oA rfl (fC (xO k2) (oA rfl (sB (sA (eL k2.one) (hQ t2 u (hle.trans k1) k2)))))
  | succ n ih=>
   intro r w v t1 hr hd hr2 hw hle hv hlt hval;by_cases hz:r.length=0
   ·exact ih r w v t1 (by omega) hd hr2 hw hle hv hlt hval
   refine j99_6 ?_
   unfold zgz uG uI;have hc:(bif cB (Int.ofNat (zB r)) 9 then(Int.ofNat (zB r))else 9)=((min 9 r.length:Nat):Int):=by
    rw[ll,mC];by_cases h9:r.length<9
    ·rw[decide_eq_true (by omega)];show(r.length:Int)=_;omega
    ·rw[decide_eq_false (by omega)];show(9:Int)=_;omega
   rw[hc,ll];refine sA (by rw[mC];exact decide_eq_true (by omega)) (kC ?_)
   have hcl:min 9 r.length<=r.length:=Nat.min_le_right _ _
   generalize hcd:min 9 r.length=c at *
   have hc9:c<=9:=by omega
   have hpc:∀i,i<=c->10^i<=1000000000:=fun i hi=>by
    have:10^i<=10^9:=yao (by omega) (by omega)
    simpa using this
   have hdt:∀i,rD (r.take i)<10^i\/r.length<i:=fun i=>by
    by_cases hi:i<=r.length
    ·have:=Fe (s:=r.take i) fun b hb=>hd b (List.mem_of_mem_take hb)
     rw[yda,Nat.min_eq_left hi]at this;exact .inl this
    ·exact .inr (by omega)
   have inner:∀(k i:Nat),i+k=c->jp 99 10 [.str r,.bool false,v,.int .i64 (c:Int),.int .u32 ((10^i:Nat):Int),.int .u32 ((rD (r.take i):Nat):Int),.int .i64 (c:Int),.int .i64 (i:Int),.bool false,.nilslice] t1 Q:=by
    intro k;induction k with
    | zero=>
     intro i hi;have hi:i=c:=by omega
     subst hi;refine zex ?_
     unfold Tw;refine tB (by simp[mC]) (yB ?_)
     rw[q121];have hp1:=hpc i (ybk _)
     have hp2:rD (r.take i)<10^i:=(hdt i).resolve_right (by omega)
     refine zax hv (by omega) hlt (by omega) (by omega) fun t2 w2 v2 k1 k2 k3 k4 k5 k6=>?_
     refine oA (Oq (by omega)) (lF (kC ?_))
     refine ih (r.drop i) w2 v2 t2 (by rw[ydj];omega) (fun b hb=>hd b (List.mem_of_mem_drop hb)) (by rw[ydj];omega) (by rw[ydj];omega) (hle.trans k1) k2 k3 ?_
     have hsp:rD r=rD (r.take i)*10^(r.drop i).length+rD (r.drop i):=by rw[<- Rx,List.take_append_drop]
     have hlr:r.length=i+(r.drop i).length:=by rw[ydj];omega
     rw[k5,<- hval,hsp,hlr,Nat.pow_add];grind
    | succ k ih2=>
     intro i hi;have hri:r[i]?=some r[i]:=ybd (by omega)
     have hrd:48<=r[i]/\r[i]<=57:=by have:=hd r[i] (ycj _);unfold nD at this;simpa using this
     refine zex ?_
     unfold Tw uU;have hp1:=hpc (i+1) (by omega)
     have hp2:rD (r.take (i+1))<10^(i+1):=(hdt (i+1)).resolve_right (by omega)
     rw[vQ hri,Zr]at hp2;refine sA (by rw[mC];exact decide_eq_true (by omega)) (oA (kM hri) (sB (kC ?_)))
     rw[yag]at hp1 hp2;have e1:iA .u32 (((10^i:Nat):Int)*10)=((10^(i+1):Nat):Int):=by rw[jT (by omega) (by omega),yag];omega
     have e2:iA .u32 (iA .u32 (((rD (r.take i):Nat):Int)*10)+iA .u32 (iA .u8 ((r[i]:Int)-48)))=((rD (r.take (i+1)):Nat):Int):=by
      rw[Nq (by omega) (by omega),jT (n:=((rD (r.take i):Nat):Int)*10) (by omega) (by omega),jT (n:=(r[i]:Int)-48) (by omega) (by omega),jT (by omega) (by omega),vQ hri,Zr]
      omega
     have e3:wD (i:Int)=.int .i64 ((i+1:Nat):Int):=by
      show zA.int .i64 (iA .i64 ((i:Int)+1))=_
      rw[iC (by omega) (by omega)];rfl
     rw[e1,e2,e3];exact ih2 (i+1) (by omega)
   exact inner c 0 (by omega)
 have check:∀(k i:Nat),i+k=s.length->jp 99 2 [.str s,.bool false,.int .i64 (s.length:Int),.int .i64 (i:Int),.bool false,.nilslice] t Q:=by
  intro k;induction k with
  | zero=>
   intro i hi;refine j99_2 ?_
   unfold zg0;rw[ll];refine tB (by rw[mC];simp;omega) (tB (by rw[mC];simp;omega) (kC ?_))
   exact words s.length s [] .nilslice t (ybk _) hs hl (by simp;omega) (aA.refl _) pP (fun x hx=>by cases hx) (by simp[val])
  | succ k ih=>
   intro i hi;have hsi:s[i]?=some s[i]:=ybd (by omega)
   have hsd:=dig s[i] (ycj _)
   refine j99_2 ?_
   unfold zg0 uU;have e3:wD (i:Int)=.int .i64 ((i+1:Nat):Int):=by
    show zA.int .i64 (iA .i64 ((i:Int)+1))=_
    rw[iC (by omega) (by omega)];rfl
   refine sA (by rw[mC];exact decide_eq_true (by omega)) (oA (kM hsi) (sB (tB (by rw[mC];simp;omega) (oA (kM hsi) (sB (tB (by rw[mC];simp;omega) (kC ?_)))))))
   rw[e3];exact ih (i+1) (by omega)
 refine w99 ?_
 unfold t99 uU;rw[ll];refine sA (by rw[mC];exact decide_eq_true (by omega)) (oA hx0 (sB (tB (by rw[aE];simp;omega) (kC ?_))))
 have e45:oB (x:Int) 45=false:=by rw[aE];simp;omega
 rw[e45];refine j99_11 ?_
 unfold zdw uU;rw[ll];refine tB (by rw[aE];simp;omega) (oA hx0 (sB ?_))
 by_cases h48:x=48
 ·have hl1:s.length=1:=by
   unfold nR at hp;have:s.head?=some 48:=by
    cases s with
    | nil=>cases hx
    | cons a r=>cases hx;simp[h48]
   rw[this]at hp;simp at hp;omega
  refine sA (by rw[aE];simp;omega) (tB (by simp) (tB (by rw[mC];simp;omega) (kC ?_)))
  exact check s.length 0 (by omega)
 ·refine tB (by rw[aE];simp;omega) (kC ?_)
  exact check s.length 0 (by omega)
end
end
section
variable {a b:Nat}{u v:zA}{l:List Nat}
variable [gC]
def De{n:Nat}(h:(yC n).length<=1024):xQ false (yC n)=true:=by
 unfold xQ;split
 ·rfl
 ·rename_i hne
  have hn:=Lb n hne
  have:(yC n).getLast?≠some 0:=by
   rw[List.getLast?_eq_some_getLast hne];intro e;exact hn (yci e)
  simp[h,this]
def el41:aP yA 41 79 1:=⟨⟨_,ty41,rfl,rfl⟩,⟨_,Ax,rfl,rfl,by decide,by decide⟩,fun y h=>by rw[Ax]at h;cases h;rfl⟩
section
variable {t:Tr vA}{Q:pB}
def sameA{b:Bool}  (h:bA t 1 (xE l) v):same 10 (.agg [.bool b,v]) (.agg [.bool b,v])=true:=by
 have h1:=bA.same (d:=9) h
 have h2:same 9 (.bool b) (.bool b)=true:=QO
 show(same 9 (.bool b) (.bool b)&&(same 9 v v&&true))=true
 rw[h1,h2];rfl
def BD  (hv:bA t 1 (xC .u32 l) v)(hl:l.length<400000)(hlt:kB 4294967296 l)(hQ:∀t' u,aA t t'->bA t' 1 (xE (yC (val 4294967296 l))) u->Q (.agg [.bool false,u]) t'):Wc yA F 141 [.bool false,v] t Q:=by
 refine Ti hv hl hlt fun t' u hle hu=>?_
 have hlt2:kB 65536 (kE (pH (kE l))):=oT (Sq (oT hlt))
 have hval:val 65536 (kE (pH (kE l)))=val 4294967296 l:=by rw[uV,Nu,uV]
 rw[Xw hlt2 (mV _) hval]at hu
 have:(if kE l=[]then false else false)=false:=by split<;>rfl
 rw[this];exact hQ t' u hle hu
def XF  (hu:bA t 1 (xE (yC a)) u)(hv:bA t 1 (xE (yC b)) v)(ha:(yC a).length<=1000)(hb:(yC b).length<=1000)(hb0:0<b)
  (hQ:∀t' q r,aA t t'->bA t' 1 (xE (yC (a / b))) q->bA t' 1 (xE (yC (a%b))) r->Q (.tup [.agg [.bool false,q],.agg [.bool false,r],.int .i64 0]) t'):Wc yA F 156 [.agg [.bool false,u],.agg [.bool false,v]] t Q:=by
 have hBB:=rO
 refine w156 ?_
 unfold t156 uB uI;refine jC fun bb hbb hbase=>?_
 obtain⟨t1,g1,g2,g3,g4⟩:=Em (C:=yA) (T:=229) (el:=43) (sz:=2) (n:=2) (cl:=[[.bool false,u],[.bool false,v]]) (ps:=[(0,.agg [.bool false,u]),(1,.agg [.bool false,v])]) zgi rfl ty43 rfl rfl (by decide) rfl (fun i cs hi=>by
  match i,hi with
  | 0,hi=>cases hi;rfl
  | 1,hi=>cases hi;rfl) rfl hbb
 refine⟨_,_,g1,yB ?_⟩
 have hw:bA t1 2 ([(⟨false,yC a⟩:wK),⟨false,yC b⟩].map wK.d) (.slice bb 0 2 2):=⟨_,g2,yD.2 ⟨_,_,rfl,Br (w:=⟨false,yC a⟩) (hu.mono g3),yD.2 ⟨_,_,rfl,Br (w:=⟨false,yC b⟩) (hv.mono g3),sF.2 rfl⟩⟩⟩
 have hall:=ND hw (fun w hw=>by
  rcases ybs.1 hw with rfl | hw
  ·show(yC a).length<_;omega
  ·rcases ybs.1 hw with rfl | hw
   ·show(yC b).length<_;omega
   ·cases hw) (by simp)
 have hva:=De (n:=a) (by omega)
 have hvb:=De (n:=b) (by omega)
 rw[q162,hall,qA];refine pD (tB (by simp[hva,hvb]) ?_)
 have hvl:=bA.len (l:=xE (yC b)) hv
 rw[fU]at hvl;have hbne:yC b≠[]:=fun e=>by have:=En.1 e;omega
 have hbl:0<(yC b).length:=List.length_pos_iff.2 hbne
 refine oA hvl (sB (tB (by rw[aE];simp;omega) (yB ?_)))
 rw[q164];refine Pm (hv.mono g3) (by omega) (eW b) fun t2 v2 k1 k2=>yB ?_
 rw[q164];refine Pm ((hu.mono g3).mono k1) (by omega) (eW a) fun t3 v3 m1 m2=>yB ?_
 rw[q165];have an:=Mx (eW a)
 have ab:=Mx (eW b)
 have vn:∀n,val BB (wH (yC n))=n:=fun n=>by rw[hBB,Te,sX]
 refine Zm m2 (k2.mono m1) (by rw[fS];omega) (by rw[hBB];exact an) (by rw[hBB];exact ab) (La (Lb a)) (La (Lb b)) (fun e=>?_) fun t4 q r qv rv p1 p2 p3 p4 p5 p6 p7 p8 p9=>?_
 ·have:=vn b
  rw[e]at this;have:(0:Nat)=b:=this
  omega
 rw[vn,vn]at p8;rw[vn]at p9;have hq:val BB q=a / b/\val BB r=a%b:=by
  have h1:a=b*val BB q+val BB r:=p8
  have h2:val BB r<b:=p9
  constructor
  ·rw[h1,Nat.mul_add_div hb0,Nat.div_eq_of_lt h2,yct]
  ·rw[h1,Nat.mul_add_mod,Nat.mod_eq_of_lt h2]
 have hB1:1<BB:=by omega
 have lenq:q.length<=1000:=by
  have h1:val BB q<=val BB (wH (yC a)):=by rw[vn,hq.1];exact Nat.div_le_self _ _
  have:=fR hB1 (by rw[hBB];exact an) p6 h1
  rw[fS]at this;omega
 have lenr:r.length<=1000:=by
  have h1:val BB r<=val BB (wH (yC b)):=by rw[vn];omega
  have:=fR hB1 (by rw[hBB];exact ab) p7 h1
  rw[fS]at this;omega
 refine oA rfl (oA rfl (tB (by decide) (kC ?_)))
 refine zin ?_
 unfold CJ uG;refine yB ?_
 rw[q141];show Wc yA F 141 [.bool false,qv] t4 _
 refine BD p2 (by omega) (by rw[<- hBB];exact p4) fun t5 u5 s1 s2=>?_
 rw[<- hBB,hq.1]at s2;refine fC (xO s2) (sA rfl (yB ?_))
 rw[q141];refine BD (p3.mono s1) (by omega) (by rw[<- hBB];exact p5) fun t6 u6 s3 s4=>?_
 rw[<- hBB,hq.2]at s4;refine fC (xO s4) (sA (eL s2.one) (sA (eL s4.one) ?_))
 exact hQ t6 u5 u6 (g3.trans (k1.trans (m1.trans (p1.trans (s1.trans s3))))) (s2.mono s3) s4
def zfq  (hu:bA t 1 (xE (yC a)) u)(hv:bA t 1 (xE (yC b)) v)(ha:(yC a).length<=1000)(hb:(yC b).length<=1000)(hb0:0<b)
  (hQ:∀t' q r,aA t t'->bA t' 1 (xE (yC (a / b))) q->bA t' 1 (xE (yC (a%b))) r->Q (.tup [.agg [.bool false,q],.agg [.bool false,r]]) t'):Wc yA F 143 [.agg [.bool false,u],.agg [.bool false,v]] t Q:=by
 refine w143 ?_
 unfold t143 uG uI;refine yB ?_
 rw[q156];refine XF hu hv ha hb hb0 fun t' q r h1 h2 h3=>?_
 refine oA rfl (fC (xO h2) (oA rfl (fC (xO h3) (oA rfl (sB (sA (eL h2.one) (sA (eL h3.one) (sA (eL h2.one) (sA (sameA h3) (sA (eL h3.one) ?_))))))))))
 exact hQ t' q r h1 h2 h3
def agF{f:gH} (hu:bA t 1 (xE f.n.limbs) u)(hv:bA t 1 (xE f.d.limbs) v):xK [.bool false,.nilslice,.bool false,.nilslice] (.agg [.bool f.n.neg,u,.bool f.d.neg,v])=some (cellsOf [.bool f.n.neg,u,.bool f.d.neg,v]):=bU (Bs hu hv) (gH.zs _)
def Lp (h:a<=b):(yC a).length<=(yC b).length:=
 fR (B:=65536) (by omega) (eW b) (Lb a) (by rw[sX,sX];exact h)
def zhy  (hu:bA t 1 (xE (yC a)) u)(hv:bA t 1 (xE (yC b)) v)(ha:(yC a).length<=200)(hb:(yC b).length<=200)(hb0:0<b)
  (hQ:∀t' cs,aA t t'->RD t' (jM false a b).dd cs->Q (.tup [.agg cs,.int .i64 0]) t'):Wc yA F 100 [.agg [.bool false,u],.agg [.bool false,v]] t Q:=by
 have hva:=De (n:=a) (by omega)
 have hvb:=De (n:=b) (by omega)
 have hvl:=bA.len (l:=xE (yC b)) hv
 rw[fU]at hvl;have hbne:yC b≠[]:=fun e=>by have:=En.1 e;omega
 have hbl:0<(yC b).length:=List.length_pos_iff.2 hbne
 refine w100 ?_
 unfold t100 uB uI uG;refine yB ?_
 rw[q123,Gb (by omega) hu,qA,hva]
 refine pD (tB (by simp) (yB ?_))
 rw[q123,Gb (by omega) hv,qA,hvb]
 refine pD (tB (by simp) (oA hvl (sB (tB (by rw[aE];simp;omega) (yB ?_)))))
 rw[q124];refine w124 ?_
 unfold t124;refine tB (by simp) (kC (j124_7 ?_))
 unfold zec uG;refine yB ?_
 rw[q142];refine w142 ?_
 unfold t142 uG uI;refine yB ?_
 rw[q155];refine zfo (n:=⟨false,yC a⟩) (d:=⟨false,yC b⟩) hu hv (by show(yC a).length<_;omega) (by show(yC b).length<_;omega) (eW a) (eW b) hva hvb fun t1 g gv h1 h2 h3 h4 h5=>?_
 have h5:val 65536 g=Nat.gcd a b:=by rw[h5,sX,sX]
 have hg:=Xw h3 h4 h5
 subst hg;have hgb:Nat.gcd a b<=b:=Nat.gcd_le_right _ hb0
 have hgl:=Lp hgb
 have hg0:0<Nat.gcd a b:=Nat.gcd_pos_of_pos_right _ hb0
 refine oA rfl (fC (xO h2) (oA rfl (sB (sA (eL h2.one) (sA (eL h2.one) ?_)))))
 refine fC (xO h2) (sA (eL h2.one) (yB ?_))
 rw[q143];refine zfq (hu.mono h1) h2 (by omega) (by omega) hg0 fun t2 q r k1 k2 k3=>?_
 refine oA rfl (fC (xO k2) (oA rfl (fC (xO k3) (sA (eL k2.one) (yB ?_)))))
 rw[q143];refine zfq ((hv.mono h1).mono k1) (h2.mono k1) (by omega) (by omega) hg0 fun t3 q2 r2 m1 m2 m3=>?_
 have kq:=k2.mono m1
 have hf:=Bs (f:=⟨⟨false,yC (a / Nat.gcd a b)⟩,⟨false,yC (b / Nat.gcd a b)⟩⟩) kq m2
 refine oA rfl (fC (xO m2) (oA rfl (fC (xO m3) (sA (eL m2.one) (sA rfl (sA rfl (sA hf.all ?_)))))))
 refine fC (agF (f:=⟨⟨false,yC (a / Nat.gcd a b)⟩,⟨false,yC (b / Nat.gcd a b)⟩⟩) kq m2) (yB ?_)
 have ql:=bA.len (l:=xE (yC (a / Nat.gcd a b))) kq
 rw[fU]at ql;have ql2:=bA.len (l:=xE (yC (b / Nat.gcd a b))) m2
 rw[fU]at ql2;have la:=Lp (Nat.div_le_self a (Nat.gcd a b))
 have lb:=Lp (Nat.div_le_self b (Nat.gcd a b))
 have long:sC yA F 144 [.agg [.bool false,q,.bool false,q2]] t3=some (.bool false):=by
  refine dD.2 (w144 ?_)
  unfold t144 uI sI;refine oA ql (sB (tB (by rw[mC];simp;omega) (oA ql2 (sB ⟨?_,rfl⟩))))
  rw[mC,decide_eq_false (by omega)]
 have res:sC yA F 125 [.agg [.bool false,q,.bool false,q2]] t3=some (.tup [.agg [.bool false,q,.bool false,q2],.int .i64 0]):=by
  refine dD.2 (w125 ?_)
  unfold t125 uB;refine yB ?_
  rw[q144,long,qA];exact pD (tB (by simp) (sA hf.all ⟨rfl,rfl⟩))
 rw[q125];show vE (sC yA F 125 [.agg [.bool false,q,.bool false,q2]] t3) _
 rw[res,qA];refine oA rfl (fC (agF (f:=⟨⟨false,yC (a / Nat.gcd a b)⟩,⟨false,yC (b / Nat.gcd a b)⟩⟩) kq m2) (oA rfl (sB (sA hf.all ?_))))
 refine hQ t3 _ (h1.trans (k1.trans m1)) ?_
 unfold jM;exact hf
theorem LS  (hv:bA t 1 (xE l) v)(hl:l.length<1000000)(hQ:∀t' v',aA t t'->bA t' 1 (xE l) v'->Q v' t'):Wc yA F 146 [v] t Q:=by
 refine w146 ?_
 have e:(nJ .eql).f yA 41 (.tmp 3) (.const (.slice none 0 0)) v .nilslice=some (.bool (Nat.beq v.tag 5)):=by
  obtain⟨cl,h1,_⟩:=hv
  rcases h1 with⟨rfl,_⟩ | ⟨b,off,cap,rfl,_⟩
  ·kernel_rfl
  ·kernel_rfl
 simp only[uB,t146,pA,e,qA,Cn];split
 ·grind [tV,lC,aA.refl]
 ·intro b hb hbase
  obtain⟨H1,g1,⟨c,g2⟩,g3⟩:=lit0 (t:=t) ty41 rfl Ax rfl hb
  rw[g1];simp only[qA];intro n hn _;obtain⟨u,H',g4,g5,g6,_⟩:=MZ el41 (hv.mono g3) (by grind [fU]) hn (.inr ⟨b,c,0,rfl,g2⟩)
  rw[g4];simp only[qA];exact hQ _ _ (g3.trans g6) g5
def Wt {neg:Bool} (hv:bA t 1 (xE l) v)(hl:l.length<1000000)(hQ:∀t' v',aA t t'->bA t' 1 (xE l) v'->Q (.agg [.bool (!neg&&decide (0<l.length)),v']) t'):Wc yA F 127 [.agg [.bool neg,v]] t Q:=by
 have hvl:=bA.len (l:=xE l) hv
 rw[fU]at hvl;refine w127 ?_
 unfold t127 uI
 cases neg with
 | false=>
  refine sA rfl (oA hvl (sB (yB ?_)))
  rw[q146];refine LS hv hl fun t1 v1 h1 h2=>?_
  have e:cB 0 (l.length:Int)=decide (0<l.length):=by rw[mC];congr 1;simp
  rw[e];have hs:same 10 (.int .i64 (l.length:Int)) (uZ (l.length:Int))=true:=by
   show same 10 (.int .i64 (l.length:Int)) (.int .i64 (l.length:Int))=true
   exact Ox
  refine sA hv.same (oA hvl (sA hs (sA (eL h2.one) (sA (eL h2.one) ?_))))
  have:=hQ t1 v1 h1 h2
  rw[ycl,ycn]at this;exact this
 | true=>
  refine tB (by simp) (yB ?_)
  rw[q146];refine LS hv hl fun t1 v1 h1 h2=>?_
  refine sA (eL h2.one) (sA (eL h2.one) ?_)
  exact hQ t1 v1 h1 h2
def neg_ok {cs:List zA}(hd:RD t (jM false a b).dd cs)(ha:(yC a).length<=200)(hb:(yC b).length<=200)(hb0:0<b)
  (hQ:∀t' cs,aA t t'->RD t' (jM true a b).dd cs->Q (.tup [.agg cs,.int .i64 0]) t'):Wc yA F 101 [.agg cs] t Q:=by
 have hg0:0<Nat.gcd a b:=Nat.gcd_pos_of_pos_right _ hb0
 have la:=Lp (Nat.div_le_self a (Nat.gcd a b))
 have lb:=Lp (Nat.div_le_self b (Nat.gcd a b))
 obtain⟨u,v,rfl,hu,hv⟩:=rd_frac hd
 have hu:bA t 1 (xE (yC (a / Nat.gcd a b))) u:=hu
 have hv:bA t 1 (xE (yC (b / Nat.gcd a b))) v:=hv
 have hd0:0<b / Nat.gcd a b:=Nat.div_pos (Nat.gcd_le_right _ hb0) hg0
 have hvalid:Jj (jM false a b)=true:=by
  unfold Jj;have e1:(jM false a b).n=⟨false,yC (a / Nat.gcd a b)⟩:=rfl
  have e2:(jM false a b).d=⟨false,yC (b / Nat.gcd a b)⟩:=rfl
  rw[e1,e2];simp only[De (n:=a / Nat.gcd a b) (by omega),De (n:=b / Nat.gcd a b) (by omega),sX]
  have hco:Nat.gcd (a / Nat.gcd a b) (b / Nat.gcd a b)=1:=by
   rw[Nat.gcd_div (Nat.gcd_dvd_left a b) (Nat.gcd_dvd_right a b),Nat.div_self hg0]
  have hne:yC (b / Nat.gcd a b)≠[]:=fun e=>by have:=En.1 e;omega
  simp[hne,hco]
  omega
 have hfit:gH.fit (jM false a b):=⟨⟨by show(yC _).length<_;unfold tM;omega,by show(yC _).length<_;unfold tM;omega⟩,eW _,eW _⟩
 refine w101 ?_
 unfold t101 uB uG;refine yB ?_
 rw[q126];have:=NP (f:=jM false a b) hu hv hfit
 show vE (sC yA F 126 [.agg [.bool (jM false a b).n.neg,u,.bool (jM false a b).d.neg,v]] t) _
 rw[this,qA,hvalid];refine pD (tB (by simp) (yB ?_))
 rw[q127];refine Wt (neg:=false) hu (by omega) fun t1 u1 h1 h2=>?_
 have hv1:=hv.mono h1
 refine fC (xO h2) (sA (sameA hv1) (yB ?_))
 rw[q127];refine Wt (neg:=false) hv1 (by omega) fun t2 v2 k1 k2=>?_
 refine fC (xO k2) (yB ?_)
 rw[q127];refine Wt (neg:=(!false&&decide (0<(yC (b / Nat.gcd a b)).length))) k2 (by omega) fun t3 v3 m1 m2=>?_
 refine fC (xO m2) (sA rfl ?_)
 have hne:0<(yC (b / Nat.gcd a b)).length:=List.length_pos_iff.2 fun e=>by have:=En.1 e;omega
 have hn:(jM true a b).n=⟨!false&&decide (0<(yC (a / Nat.gcd a b)).length),yC (a / Nat.gcd a b)⟩:=by
  unfold jM;congr 1
  by_cases h0:a=0
  ·subst h0
   have:yC (0 / Nat.gcd 0 b)=[]:=En.2 (by simp)
   rw[this];rfl
  ·have h1:0<a / Nat.gcd a b:=Nat.div_pos (Nat.gcd_le_left _ (by omega)) hg0
   have:0<(yC (a / Nat.gcd a b)).length:=List.length_pos_iff.2 fun e=>by have:=En.1 e;omega
   simp[this];omega
 have hdd:(jM true a b).d=⟨!(!false&&decide (0<(yC (b / Nat.gcd a b)).length))&&decide (0<(yC (b / Nat.gcd a b)).length),yC (b / Nat.gcd a b)⟩:=by
  unfold jM;congr 1;simp[hne]
 have hf:=Bs (f:=⟨⟨!false&&decide (0<(yC (a / Nat.gcd a b)).length),yC (a / Nat.gcd a b)⟩,⟨!(!false&&decide (0<(yC (b / Nat.gcd a b)).length))&&decide (0<(yC (b / Nat.gcd a b)).length),yC (b / Nat.gcd a b)⟩⟩) ((h2.mono k1).mono m1) m2
 refine sA hf.all ?_
 refine hQ t3 _ (h1.trans (k1.trans m1)) ?_
 have:jM true a b=⟨(jM true a b).n,(jM true a b).d⟩:=rfl
 rw[this,hn,hdd];exact hf
end
end
section
variable {l s:List Nat}{v y:zA}{box x:Nat}{Q:pB}{I:Nat->Tr vA->Prop}{neg:Bool}
variable [gC]
section
variable {t tf:Tr vA}
theorem XD      (hl:l.length<1000000)
  (hr:∀k t,I k t->lA yA 41 ⟨0,t⟩ (.ptr box 0)=some v/\bA t 1 (xC .u16 l) v)
  (hy:∀k x t,l[k]?=some x->I (k+1) t->∀R:pB,(∀t',I k t'->R (.bool true) t')->vE (iL y [.int .u16 (x:Nat)]) fun p=>Wq yA F qC p.1 p.2 t R)
  (hQ:∀t,I 0 t->Q (.tup []) t):∀(k:Nat) (t:Tr vA),k<=l.length->I k t->jp 159 2 [y,.ptr box 0,.int .i64 ((k:Int)-1)] t Q:=by
 intro k;induction k with
 | zero=>
  intro t _ h;refine zfd ?_
  simp only[uH,uB,uZ,uW,Uq,pA,aK];simp_all
 | succ k ih=>
  intro t hk h;obtain⟨g0,hv⟩:=hr _ _ h
  obtain⟨x,hx⟩:=getElem?_of_lt (l:=l) (i:=k) (by omega)
  obtain⟨c,off,g1,g2⟩:=hv.idx iY hx
  have e1:((k+1:Nat):Int)-1=(k:Int):=by omega
  rw[e1];refine zfd ?_
  simp (disch:=omega) only[uH,uB,uZ,uW,Uq,pA,aK,g0,g1,g2,qA,rC,iC]
  rw[yab (by omega)]
  refine hy k x t hx h _ fun t' ht'=>?_
  grind [zA.asBool,qA]
def XC     {t:Tr vA} (hl:l.length<1000000)
  (hr:∀k t,I k t->lA yA 41 ⟨0,t⟩ (.ptr box 0)=some v/\bA t 1 (xC .u16 l) v)
  (hy:∀k x t,l[k]?=some x->I (k+1) t->∀R:pB,(∀t',I k t'->R (.bool true) t')->vE (iL y [.int .u16 (x:Nat)]) fun p=>Wq yA F qC p.1 p.2 t R)
  (hQ:∀t,I 0 t->Q (.tup []) t) (h:I l.length t):Wc yA F 159 [y,.ptr box 0] t Q:=by
 obtain⟨g0,hv⟩:=hr _ _ h
 refine w159 ?_
 simp (disch:=omega) only[uI,uZ,uW,t159,pA,g0,hv.len,iH,qA,rC,iC]
 exact XD hl hr hy hQ l.length t (ybk _) h
theorem RN{f i:Nat}{v8 v4:zA}{K R:T}{ps:List Nat} {S:Nat->Tr vA->Tr vA->Prop}(hS:∀k,AQ (S k))(hp:bA tf 1 (xC .u16 ps) v4)(hl:ps.length<30000)(h:S ps.length tf t)
  (body:∀(k x:Nat) (tf t:Tr vA) (Q1:pB),ps[k]?=some x->S (k+1) tf t->(∀t',S k tf t'->Q1 (.bool true) t')->Jq yA F f i [v8,.int .u16 (x:Int)] t Q1)
  (fin:∀tf' t',aA tf tf'->S 0 tf' t'->pA yA.base (Wq yA F qC) (Jq yA F f) K t' Q) :
  pA yA.base (Wq yA F qC) (Jq yA F f) (.call 147 [v4] fun a0=>.range (jR yA) a0 i 1 [v8] K R) t Q:=by
 simp only[pA];rw[q147];refine w147 ?_
 simp only[t147,pA];intro bb hbb hbase;have hc4:v4.cells=[v4]:=by
  obtain⟨cl,h1,_⟩:=hp
  rcases h1 with⟨rfl,_⟩ | ⟨_,_,_,rfl,_⟩<;>rfl
 have hone:aM v4 ⟨bb,t⟩=some (.ptr bb 0,⟨bb+1,t.set bb (.cells (Tr.ofList [v4]) 1 none)⟩):=by
  unfold aM;rw[hc4];rfl
 rw[hone,qA];simp only[];have h1:=(hS _).both h hbb (.cells (Tr.ofList [v4]) 1 none)
 have hfb:=Hb ((hS _).le h) hbb
 have htf1:aA tf (tf.set bb (.cells (Tr.ofList [v4]) 1 none)):=(gN hfb _).1
 generalize htf:tf.set bb (.cells (Tr.ofList [v4]) 1 none)=tf1 at h1 htf1
 have hg1:tf1.get bb=some (.cells (Tr.ofList [v4]) 1 none):=by rw[<- htf,Tr.get_set,yab rfl]
 generalize t.set bb (.cells (Tr.ofList [v4]) 1 none)=t1 at h1
 refine⟨Nat.le_add_right _ _,fun l r hl0 hlb hr1 hr2 hy=>?_⟩
 have hra:Bh (jR yA) (.func (.func 159) [] [.ptr bb 0]) l=some (159,[.func (.yld l) [] [],.ptr bb 0]):=by
  unfold Bh;simp only[zA.asFunc,rA];have:jR yA 159=true:=by kernel_rfl
  rw[this];rfl
 rw[hra,qA];have h2:=(hS _).both h1 hl0 (.loop r)
 have hfl:=Hb ((hS _).le h1) hl0
 have hlr:dO true r=r:=by
  obtain⟨a,b,c,d,e,f,g,h,i⟩:=r
  have hr1:a=.ready:=hr1
  have hr2:b=none:=hr2
  subst hr1;subst hr2;rfl
 have hle2:aA tf1 (tf1.set l (.loop r)):=(gN hfl _).1
 rw[show Wq yA F qC 159=Wc yA F 159 by funext a m R;rw[q159]]
 refine XC (l:=ps) (v:=v4) (I:=fun k t'=>S k (tf1.set l (.loop r)) t') (by omega) ?_ ?_ ?_ h2
 ·intro k t' hI
  have hle:=(hS _).le hI
  have hg:t'.get bb=some (.cells (Tr.ofList [v4]) 1 none):=hle _ _ (hle2 _ _ hg1)
  refine⟨?_,hp.mono (htf1.trans (hle2.trans hle))⟩
  exact(dC.load1 (cs:=[v4]) (lo:=none) ⟨Tr.ofList [v4],hg,fun j a hj=>by grind [Tr.get_ofList]⟩ ty41 rfl (j:=0) rfl)
 ·intro k x t' hx hI R hR
  show vE (some (yo+l,[zA.int .u16 (x:Int)])) _
  rw[qA];refine hy [.int .u16 (x:Int)] t' R rfl ((hS _).le hI _ _ (by rw[Tr.get_set,yab rfl])) ?_
  refine body k x tf1 _ _ hx ((hS _).out hfl hI) fun t2 h3 hn2=>⟨true,rfl,?_⟩
  rw[hlr];exact hR _ ((hS _).both h3 hn2 (.loop r))
 ·intro t' hI
  exact .inl ⟨(hS _).le hI _ _ (by rw[Tr.get_set,yab rfl]),fin tf1 _ htf1 ((hS _).out hfl hI)⟩
def or16{y:Nat}(hx:x<281474976710656)(hy:y<65536):kI Nat.lor .u64 ((x*65536:Nat):Int) (y:Int)=some (.int .u64 ((x*65536+y:Nat):Int)):=by
 have h:=Dr (a:=x) (b:=y) (n:=16) hy
 have e:(2:Nat)^16=65536:=by decide
 rw[e]at h;rw[mU (k:=.u64) (show x*65536<gG .u64 by show _<18446744073709551616;omega) (show y<gG .u64 by show _<18446744073709551616;omega),h]
def zcf{bx y:Nat}{Q1:pB}(h:yV bx (.int .u64 (y:Int)) tf t)(hy:y<281474976710656)(hx:x<65536)(hQ:∀t',yV bx (.int .u64 ((y*65536+x:Nat):Int)) tf t'->Q1 (.bool true) t'):jp 128 2 [.ptr bx 0,.int .u16 (x:Int)] t Q1:=by
 obtain⟨i1,i2,i3,i4⟩:=h
 have e5:(y:Int)*65536=((y*65536:Nat):Int):=by omega
 have e6:kI Nat.lor .u64 (iA .u64 ((y:Int)*65536)) (iA .u64 (x:Int))=some (.int .u64 ((y*65536+x:Nat):Int)):=by
  rw[e5,jF (by omega) (by omega),jF (by omega) (by omega),or16 hy hx]
 refine j128_2 ?_
 unfold zeb uE;refine vC (i4.load1 wQ rfl (j:=0) rfl) (sB ?_)
 refine oA e6 (sB (jC fun b3 _ _=>?_))
 obtain⟨t3,k1,k2,k3⟩:=i4.store1 (v:=.int .u64 ((y*65536+x:Nat):Int)) i1 wQ rfl rfl rfl (j:=0) (by simp)
 exact⟨_,_,k1 b3,hQ _ ⟨i1,i2,i3.off i2 k3,k2⟩⟩
def int128{n:Nat} (hv:bA t 1 (xE (yC n)) v)(hl:(yC n).length<=1000):sC yA F 128 [.agg [.bool false,v]] t=some (.tup [.int .i64 (if n<9223372036854775808 then(n:Int)else 0),.int .i64 (if n<9223372036854775808 then 0 else 3)]):=by
 have hvl:=bA.len (l:=xE (yC n)) hv
 rw[fU]at hvl;have hlt:=eW n
 have hval:=sX n
 refine Bi (w128 ?_)
 unfold t128 uB uI;refine yB ?_
 rw[q123,Gb (by omega) hv,qA,De (by omega)]
 refine pD (tB (by simp) (oA hvl (sB ?_)))
 by_cases h4:4<(yC n).length
 ·have hbig:¬ n<9223372036854775808:=fun h=>by
   have:=Xx (n:=n) (k:=4) (by rw[show(65536:Nat)^4=18446744073709551616 by decide];omega)
   omega
  refine sA (by rw[mC];exact decide_eq_true (by omega)) ⟨?_,aA.refl _⟩
  rw[yaa hbig,yaa hbig]
 ·have hn64:n<18446744073709551616:=by
   have:=uP (B:=65536) (by omega) hlt
   rw[hval]at this;have h2:65536^(yC n).length<=65536^4:=yao (by omega) (by omega)
   rw[show(65536:Nat)^4=18446744073709551616 by decide]at h2
   omega
  refine tB (by rw[mC];simp;omega) (jC fun bx hbx hbase=>?_)
  obtain⟨t1,e1,e2,e3,e4⟩:=rS (C:=yA) wQ hbx
  refine⟨_,_,e1,jC fun b2 _ _=>?_⟩
  obtain⟨t2,g1,g2,g3⟩:=e2.store1 (v:=.int .u64 0) hbase wQ rfl rfl rfl (j:=0) (by simp)
  refine⟨_,_,g1 b2,?_⟩
  have hS0:yV bx (.int .u64 ((val 65536 ((yC n).drop (yC n).length):Nat):Int)) t t2:=by
   rw[List.drop_length];exact⟨hbase,hbx,(aA.refl t).off hbx e4 |>.off hbx g3,g2⟩
  refine RN (S:=fun k tf t=>yV bx (.int .u64 ((val 65536 ((yC n).drop k):Nat):Int)) tf t) (fun k=>yV.framed) hv (by omega) hS0 (fun k x tf t Q1 hx hI hR=>?_) (fun tf' t' hle hI=>?_)
  ·have hk:=(ybc.1 hx).1
   have hdrop:(yC n).drop k=x::(yC n).drop (k+1):=fQ hx
   have hd1:val 65536 ((yC n).drop (k+1))<281474976710656:=by
    have h1:=uP (B:=65536) (by omega) (AI hlt (k+1))
    have h2:65536^((yC n).drop (k+1)).length<=65536^3:=yao (by omega) (by rw[ydj];omega)
    rw[show(65536:Nat)^3=281474976710656 by decide]at h2
    omega
   have hx16:x<65536:=hlt x (ycv hx)
   refine zcf hI hd1 hx16 fun t' h'=>hR t' ?_
   have:val 65536 ((yC n).drop k)=val 65536 ((yC n).drop (k+1))*65536+x:=by rw[hdrop,val];omega
   rw[this];exact h'
  ·obtain⟨i1,i2,i3,i4⟩:=hI
   rw[ycr,hval]at i4;unfold uE;refine tB (by simp) (vC (i4.load1 wQ rfl (j:=0) rfl) (sB ?_))
   by_cases h63:n<9223372036854775808
   ·rw[yab h63,yab h63]
    refine tB (by rw[zS];simp;omega) (vC (i4.load1 wQ rfl (j:=0) rfl) (sB ⟨?_,hle.trans i3⟩))
    have:uW (n:Int)=(n:Int):=iC (by omega) (by omega)
    rw[this]
   ·rw[yaa h63,yaa h63]
    exact sA (by rw[zS];exact decide_eq_true (by omega)) ⟨rfl,hle.trans i3⟩
def GD (h:rH s=false):tN s=s:=by
 unfold rH at h;unfold tN sD;induction s with
 | nil=>rfl
 | cons b s ih=>
  rw[List.contains_cons]at h;simp only[yal,beq_eq_false_iff_ne]at h;have hd:decide (b≠47)=true:=decide_eq_true fun e:b=47=>h.1 e.symm
  rw[List.takeWhile_cons,hd,yab rfl,ih h.2]
def XT:∀s:List Nat,Af [47] s=if rH s=true then some (tN s,yO s)else none:=by
 intro s;induction s with
 | nil=>rfl
 | cons b s ih=>
  have e:rU [47] (b::s)=Nat.beq 47 b:=by
   show(bif Nat.beq 47 b then rU [] s else false)=_
   have:rU [] s=true:=by cases s<;>rfl
   rw[this]
   cases Nat.beq 47 b<;>rfl
  unfold Af;rw[e,ih];unfold rH yO tN sD;rw[List.contains_cons]
  cases hb:Nat.beq 47 b with
  | true=>
   have:=lC.1 hb
   subst this;rw[cond_true,List.takeWhile_cons];simp[lQ,oD]
  | false=>
   have hne:¬ 47=b:=fun e=>by rw[e,Nat.beq_refl]at hb;cases hb
   have hd:decide (b≠47)=true:=decide_eq_true fun e:b=47=>hne e.symm
   rw[cond_false,List.takeWhile_cons,hd,yab rfl];have:(47 == b)=false:=by simp[hne]
   rw[this,Bool.false_or];split
   ·simp
   ·rfl
def Zq (h:∀b∈s,nD b=true)(hl:s.length<=200):(yC (rD s)).length<=200:=by
 have h1:=Fe h
 have h2:10^s.length<=65536^s.length:=Nat.pow_le_pow_left (by omega) _
 have:=Xx (n:=rD s) (k:=s.length) (by omega)
 omega
def intPv  {lo hi:Int}(h:kR s)(hs:rH s=false)(hlo : -4294967296<=lo)(hhi:hi<=4294967296):∃i:Int,sC yA F 102 [.str s,.bool neg,.int .i64 lo,.int .i64 hi] t=some (.tup [.int .i64 i,.bool (mL s neg lo hi).isSome])/\∀j,mL s neg lo hi=some j->i=j:=by
 obtain⟨h1,h2,h3,h4,_⟩:=h
 rw[GD hs]at h2 h3 h4;have hlen:=Zq h2 h1
 generalize hn:rD s=n at hlen
 have core:∀R:pB,(∀t',aA t t'->n<9223372036854775808->jp 102 15 [.int .i64 lo,.int .i64 hi,.int .i64 (if neg then -(n:Int)else n)] t' R)->(∀t',aA t t'->¬ n<9223372036854775808->R (.tup [.int .i64 0,.bool false]) t')->Wc yA F 102 [.str s,.bool neg,.int .i64 lo,.int .i64 hi] t R:=by
  intro R k1 k2;refine w102 ?_
  unfold t102 uG uI;refine yB ?_
  rw[q99];refine Wp h2 h3 h4 h1 fun t' u hle hu=>?_
  rw[hn]at hu;refine oA rfl (fC (xO hu) (oA rfl (sB (sA (eL hu.one) (yB ?_)))))
  rw[q128];show vE (sC yA F 128 [.agg [.bool false,u]] t') _
  rw[int128 hu (by omega),qA]
  refine oA rfl (sB (oA rfl (sB ?_)))
  by_cases h63:n<9223372036854775808
  ·rw[yab h63,yab h63]
   refine tB (by decide) ?_
   have:=k1 t' hle h63
   cases neg with
   | true=>
    refine sA rfl (kC ?_)
    have e:uW (0-(n:Int)) = -(n:Int):=by
     show iA .i64 (0-(n:Int))=_
     rw[iC (by omega) (by omega)];omega
    rw[e];exact this
   | false=>exact tB (by simp) (kC this)
  ·rw[yaa h63,yaa h63]
   exact sA (by decide) (k2 t' hle h63)
 by_cases h63:n<9223372036854775808
 ·refine⟨if neg then -(n:Int)else n,Bi (core _ (fun t' hle _=>?_) fun t' _ hh=>absurd h63 hh),fun j hj=>?_⟩
  ·refine zit ?_
   unfold CO;unfold mL;rw[hn];generalize (if neg then -(n:Int)else n)=m
   show wp 102 _ t' _
   by_cases hl:lo<=m
   ·refine sA (by rw[zS];exact decide_eq_true hl) ⟨?_,hle⟩
    by_cases hh:m<=hi
    ·simp[hl,hh,zS]
    ·simp[hl,hh,zS]
   ·refine tB (by rw[zS];simp;omega) ⟨?_,hle⟩
    simp[hl]
  ·unfold mL at hj
   rw[hn]at hj;generalize (if neg=true then -(n:Int)else(n:Int))=m at hj ⊢
   have hj:(if lo<=m/\m<=hi then some m else none)=some j:=hj
   split at hj
   ·exact yci hj
   ·cases hj
 ·have hno:mL s neg lo hi=none:=by
   unfold mL;rw[hn];simp only
   rw[yaa]
   cases neg with
   | true=>simp only[if_true];omega
   | false=>simp only[ybq,if_false];omega
  rw[hno];exact⟨0,Bi (core _ (fun t' _ hh=>absurd hh h63) fun t' hle _=>⟨rfl,hle⟩),fun j hj=>by cases hj⟩
def fracPv   (h:kR s)(hQ:∀t' cs,aA t t'->RD t' (tI s neg).dd cs->Q (.agg cs) t'):Wc yA F 74 [.str s,.bool neg] t Q:=by
 obtain⟨h1,h2,h3,h4,h5⟩:=h
 have la:(tN s).length<=s.length:=by unfold tN sD;exact(List.takeWhile_sublist _).length_le
 have main:∀b:List Nat,(∀x∈b,nD x=true)->b≠[]->nR b=false->b.length<=200->0<rD b->tI s neg=jM neg (rD (tN s)) (rD b)->jp 74 9 [.bool neg,.str (tN s),.str b,.bool false,.nilslice,.bool false,.nilslice] t Q:=by
  intro b b1 b2 b3 b4 b5 hf;refine j74_9 ?_
  unfold t74_9 uG uI;refine yB ?_
  rw[q99];refine Wp h2 h3 h4 (by omega) fun t1 u k1 k2=>?_
  refine oA rfl (fC (xO k2) (oA rfl (sB (sA (eL k2.one) (yB ?_)))))
  rw[q99];refine Wp b1 b2 b3 b4 fun t2 v m1 m2=>?_
  refine oA rfl (fC (xO m2) (oA rfl (sB (sA (eL m2.one) (yB ?_)))))
  rw[q100];have l1:=Zq h2 (by omega)
  have l2:=Zq b1 b4
  refine zhy (k2.mono m1) m2 l1 l2 b5 fun t3 cs p1 p2=>?_
  obtain⟨u3,v3,rfl,hu3,hv3⟩:=rd_frac p2
  refine oA rfl (fC (agF hu3 hv3) (oA rfl (sB (sA p2.all ?_))))
  cases neg with
  | true=>
   refine sA rfl (yB ?_)
   rw[q101];refine neg_ok p2 l1 l2 b5 fun t4 cs4 r1 r2=>?_
   obtain⟨u4,v4,rfl,hu4,hv4⟩:=rd_frac r2
   refine oA rfl (fC (agF hu4 hv4) (oA rfl (sB (sA r2.all (sA r2.all ?_)))))
   refine hQ t4 _ (k1.trans (m1.trans (p1.trans r1))) ?_
   rw[hf];exact r2
  | false=>
   refine tB (by simp) (sA p2.all ?_)
   refine hQ t3 _ (k1.trans (m1.trans p1)) ?_
   rw[hf];exact p2
 refine w74 ?_
 unfold t74 uS uB;refine yB ?_
 have hg:yA.prims.get 98=some (jO pCut):=by kernel_rfl
 have hcut:sC yA F 98 [.str s,.str [47]] t=some (.tup [.str (if rH s=true then tN s else s),.str (if rH s=true then yO s else []),.bool (rH s)]):=by
  refine Kq hg fun H=>?_
  show xB (Nat.blt (zB s) 4294967281) _=_
  rw[oD,pC.2 (by omega),sE,XT]
  cases rH s<;>rfl
 rw[q98,hcut,qA];refine oA rfl (lF (oA rfl (lF (oA rfl (pD ?_)))))
 cases hs:rH s with
 | true=>
  obtain⟨c1,c2,c3,c4⟩:=h5 hs
  refine tB (by simp) (kC ?_)
  simp only[if_true];have lb:(yO s).length<=s.length:=by unfold yO;rw[ydj];omega
  refine main (yO s) c2 c1 c3 (by omega) (zcz c2 c1 fun e=>?_) (by unfold tI;rw[hs];rfl)
  unfold nR at c3;rw[e]at c3;simp at c3;have:(yO s).length=1:=by have:=List.length_pos_iff.2 c1;omega
  match hb:yO s with
  | []=>exact c1 hb
  | [x]=>rw[hb]at e;cases e;exact c4 hb
  | x::y::r=>rw[hb]at this;simp at this
 | false=>
  refine sA rfl (kC ?_)
  simp only[ybq,if_false];have:=main [49] (by decide) (by simp) (by decide) (by simp) (by decide) (by unfold tI;rw[hs];rfl)
  rwa [GD hs]at this
end
end
end Go.Proofs
