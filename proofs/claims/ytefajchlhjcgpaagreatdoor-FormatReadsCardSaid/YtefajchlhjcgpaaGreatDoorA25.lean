/- Expressions and values: their texts are read as what they are. -/
import Derived.Test.YtefajchlhjcgpaaGreatDoorA24
set_option linter.all false
noncomputable section
set_option maxRecDepth 100000
namespace Go.Proofs
open Go Go.Am
def Kl(lev:Nat):List (List Nat × Nat):=match lev with
 | 6=>[([42],9),([47],10)]
 | 5=>[([43],7),([45],8)]
 | 2=>[(wAnd,15)]
 | 1=>[(wOr,16)]
 | _=>[]
structure dW (tk:List bC) (K:List nF) (k:Nat) (x:lA):Prop where
 rd:∀lev,1<=lev->lev<=(bA x.op).level->tK K (aV tk (xI tk k) lev) lev (iE x) x
 ch:∀lev,lev∈[1,2,5,6]->(bA x.op).level=lev->Ch tk K (aV tk (xI tk k) (lev+1)) (Kl lev) (lev+1) (iE x) x
 hd:4<=(bA x.op).level->Bg (iE x)
def zh7:∀op,op<27->(bA op).level<=7:=by decide +kernel
def Ol(op:Nat){w u:List Nat}(h:mO w=true)(hu:u∈Oi):w≠u:=zhy h u hu
section
variable {tk:List bC}{K:List nF}(hK:tk.map kt=K){n k:Nat}
include hK
theorem Uf{x:lA}(h7:(bA x.op).level=7)(hn:Bg (iE x))(h:tK K (xI tk k) 7 (iE x) x):dW tk K k x where
 rd:=fun lev h1 h2=>Km hK (.inl hn) (7-lev) lev (by omega) h1 (ybk _) h
 ch:=fun lev h1 h2=>by
  grind
 hd:=fun _=>hn
def Kr{y:lA}{lev:Nat}(h1:1<=lev)(h7:lev<=7)(hg:dW tk K (k+1) y)(hg':dW tk K k y)(hl:(bA y.op).level<=7)(hl1:1<=(bA y.op).level):tK K (aV tk (xI tk (k+1)) lev) lev (rL lev ((bA y.op).level,iE y)) y:=by
 unfold rL;by_cases h:lev<=(bA y.op).level
 ·rw[yab h];exact hg.rd lev h1 h
 ·rw[yaa h]
  exact Km hK (.inl ⟨_,_,_,rfl,.inr (.inr (by decide))⟩) (7-lev) lev (by omega) h1 (ybk _) (zhm hK (hg'.rd 1 (by omega) hl1))
theorem in_ch{y:lA}{lev:Nat}(h1:lev∈[1,2,5,6])(hg:dW tk K (k+1) y)(hg':dW tk K k y)(hl:(bA y.op).level<=7)(hl1:1<=(bA y.op).level):Ch tk K (aV tk (xI tk (k+1)) (lev+1)) (Kl lev) (lev+1) (rL lev ((bA y.op).level,iE y)) y:=by
 have hb:1<=lev/\lev<=6:=by
  grind
 by_cases h:(bA y.op).level=lev
 ·unfold rL
  rw[yab (by omega)]
  exact hg.ch lev h1 h
 ·refine zqo ?_
  have:=Kr hK (lev:=lev+1) (by omega) (by omega) hg hg' hl hl1
  grind [rL]
omit hK in
theorem MI{y:lA}{lev:Nat}(h4:4<=lev)(hg:dW tk K k y){R:List nF}:Bg (rL lev ((bA y.op).level,iE y)++R):=by
 unfold rL;by_cases h:lev<=(bA y.op).level
 ·rw[yab h]
  obtain⟨q,u,r,e,h⟩:=hg.hd (by omega)
  exact⟨q,u,r++R,by simp_all,h⟩
 ·rw[yaa h]
  exact⟨4,[40],_,rfl,.inr (.inr (by decide))⟩
omit hK in
def zfc:∀ {op:Nat},op∈[7,8,9,10,15,16]->(bA op).level∈[1,2,5,6]/\(bA op).left=(bA op).level/\(bA op).right=(bA op).level+1/\qtB ((bA op).level+1) (bA op).word=true/\((Hb op).1=1\/(Hb op).1=4)/\(((Kl (bA op).level).all fun p=>opW.any fun q=>decide (q.1=p.1)&&decide ((bA op).level<=q.2))=true):=by decide +kernel
omit hK in
def YQ:∀ {op:Nat},op∈[7,8,9,10,15,16]->((Kl (bA op).level).find? fun p=>qF (bA op).word p.1).map Prod.snd=some op:=by
 intro op h;simp only[ybs,List.not_mem_nil,or_false]at h;rcases h with rfl | rfl | rfl | rfl | rfl | rfl<;>kernel_rfl
omit hK in
def zju:∀ {op:Nat},op∈[13,14]->(bA op).level=4/\(bA op).left=5/\(bA op).right=5/\qtB 5 (bA op).word=true/\(Hb op).1=4:=by decide +kernel
omit hK in
def ze4:∀ {op:Nat},op∈[13,14]->(([([60],13),([61],14)]:List (List Nat × Nat)).find? fun p=>qF (bA op).word p.1).map Prod.snd=some op:=by
 intro op h;simp only[ybs,List.not_mem_nil,or_false]at h;rcases h with rfl | rfl<;>kernel_rfl
omit hK in
def YR{o:PM lA}:∀ {lev:Nat},lev∈[1,2,5,6]->zS tk (aV tk o (lev+1)) (Kl lev)=aV tk o lev:=by
 intro lev h;simp only[ybs,List.not_mem_nil,or_false]at h;rcases h with rfl | rfl | rfl | rfl<;>rfl
omit hK in
theorem op_two{op:Nat}{name:List Nat}{args:List lA}(hh:Ma op name args.length)(h:op∈Ln):∃a b,args=[a,b]/\name=[]:=by
 obtain⟨f1,f4,f5,f6⟩:=CH op h
 have h1:=hh.lo
 have h2:=hh.hi
 match args with
 | [a,b]=>exact⟨a,b,rfl,hh.no f4⟩
 | []=>simp_all
 | [_]=>simp_all
 | _::_::_::_=>simp_all
theorem MT{op:Nat}{name:List Nat}{v:eD}{args:List lA}(hv:v.f.fit)(hh:Ma op name args.length)(h1:op=1->xH v=true)(h2:op≠1->bR op v=true)
  (hl:∀y∈args,(bA y.op).level<=7/\1<=(bA y.op).level) (ha:∀y∈args,dW tk K (k+2) y/\dW tk K (k+1) y/\dW tk K k y):dW tk K (k+2) (.mk op name v args):=by
 have tx:iE (.mk op name v args)=lT op name v (mE args):=by rw[iE]
 rcases JE op hh.lt hh.ne with rfl | rfl | h | h | rfl | h
 ·-- a constant
  have hm:=hh.hi
  have e:args=[]:=List.eq_nil_of_length_eq_zero (by grind [Ez])
  subst e;have hn:=hh.no Ez.2.2.1
  subst hn;have tx:iE (.mk 1 [] v [])=bP v:=by rw[tx];unfold lT;rw[yab Ez.1]
  have hne:Bg (bP v):=by
   unfold bP;rcases Sn (h1 rfl)with⟨k1,_,_⟩ | ⟨k1 | k1,_,_⟩ | ⟨k1,_,_⟩ | ⟨k1,_,_,_⟩
   ·simp only[k1];exact⟨1,_,_,rfl,.inr (.inr (by split<;>decide))⟩
   ·simp only[k1]
    unfold vQ
    cases v.f.n.neg
    ·exact⟨2,_,_,rfl,.inl rfl⟩
    ·exact⟨1,_,_,rfl,.inr (.inr (by decide))⟩
   ·simp only[k1];exact⟨1,Ge,_,rfl,.inr (.inr (by decide))⟩
   ·simp only[k1];exact⟨3,_,_,rfl,.inr (.inl rfl)⟩
   ·have:¬ v.kind=1/\¬ v.kind=2/\¬ v.kind=3/\¬ v.kind=4:=by omega
    rw[yaa this.1,yaa this.2.1,yaa this.2.2.1,yaa this.2.2.2];unfold vQ
    cases decide (v.i<0)
    ·exact⟨2,_,_,rfl,.inl rfl⟩
    ·exact⟨1,_,_,rfl,.inr (.inr (by decide))⟩
  refine Uf hK Ez.2.1 (by simp_all) ?_
  rw[tx];intro n R hd hR;show fN tk (xI tk (k+1)) n=_
  unfold fN;rw[OZ hK hv (h1 rfl) hd hR.unit]
  rfl
 ·-- today
  have hm:=hh.hi
  have e:args=[]:=List.eq_nil_of_length_eq_zero (by grind [Cc])
  subst e;have hn:=hh.no Cc.2.2.1
  subst hn;obtain⟨v1,_⟩:=Lf (h2 (by decide))
  have tx:iE (.mk 2 [] v [])=[(1,Iz)]:=by rw[tx];unfold lT;rw[yaa (by grind [Cc]),yab Cc.1];rfl
  refine Uf hK Cc.2.1 (by rw[tx];exact⟨_,_,_,rfl,.inr (.inr (by decide))⟩) ?_
  rw[tx];intro n R hd hR;have h0:=oH (show K.drop n=(1,Iz)::R from hd)
  show fN tk (xI tk (k+1)) n=_
  unfold fN;rw[Le hK h0 (by decide) (by decide)]
  show(if acc tk [40] n=true then _ else _)=_
  rw[jJ hK h0 (by decide),yU hK h0 (.inl rfl),v1]
  rfl
 ·-- fact,has,a reference
  obtain⟨f1,f2,f3,f4,f5,f6⟩:=NF op h
  have hlo:=hh.lo
  have hhi:=hh.hi
  obtain⟨y,rfl⟩:∃y,args=[y]:=by
   match args with
   | [y]=>simp_all
   | []=>simp_all
   | _::_::_=>simp_all
  obtain⟨g1,g2,g3⟩:=ha y yby
  obtain⟨l1,l2⟩:=hl y yby
  have hnm:=hh.nm f4
  have hne:op≠1:=by grind
  have h19:op≠19:=by grind
  obtain⟨v1,_⟩:=Lf (h2 hne)
  rw[yaa h19]at v1;have tx:iE (.mk op name v [y])=Ed op++(1,name)::(1,wAt)::rL 7 ((bA y.op).level,iE y):=by
   grind [lT,mE]
  have hat:∀n R,K.drop n=(1,name)::(1,wAt)::(rL 7 ((bA y.op).level,iE y)++R)->Qt 7 R->∀q,atP tk (xI tk (k+1)) q n=.ok (unX q name y) (n+2+(rL 7 ((bA y.op).level,iE y)).length):=fun n R hd hR q=>by
   unfold atP;rw[JV hK (oH hd) hnm]
   show(pH tk wAt (n+1)).bind _=_
   rw[Fc hK (oH (xK hd)) (.inl rfl)]
   show(xI tk (k+1) (n+1+1)).bind _=_
   rw[show xI tk (k+1) (n+1+1)=_ from Kr hK (lev:=7) (by omega) (by omega) g2 g3 l1 l2 (n+1+1) R (xK (xK hd)) hR]
   rfl
  refine Uf hK f3 ?_ ?_
  ·rw[tx]
   simp only[ybs,List.not_mem_nil,or_false]at h;rcases h with rfl | rfl | rfl
   ·exact⟨1,Dj,_,rfl,.inr (.inr (by decide))⟩
   ·exact⟨1,Di,_,rfl,.inr (.inr (by decide))⟩
   ·exact⟨1,name,_,rfl,.inr (.inr (Ol 0 hnm (by decide)))⟩
  ·rw[tx]
   intro n R hd hR;show fN tk (xI tk (k+1)) n=_
   unfold fN;simp only[ybs,List.not_mem_nil,or_false]at h;rcases h with rfl | rfl | rfl
   ·have hd:K.drop n=(1,Dj)::(1,name)::(1,wAt)::(rL 7 ((bA y.op).level,iE y)++R):=hd
    have h0:=oH hd
    rw[Le hK h0 (by decide) (by decide)]
    show(if acc tk [40] n=true then _ else _)=_
    rw[jJ hK h0 (by decide),jJ hK h0 (by decide),yU hK h0 (.inl rfl)]
    show atP tk _ 3 (n+1)=_
    rw[hat _ R (xK hd) hR,v1]
    show PR.ok _ _=PR.ok _ _
    congr 1
    grind [Ed]
   ·have hd:K.drop n=(1,Di)::(1,name)::(1,wAt)::(rL 7 ((bA y.op).level,iE y)++R):=hd
    have h0:=oH hd
    rw[Le hK h0 (by decide) (by decide)]
    show(if acc tk [40] n=true then _ else _)=_
    rw[jJ hK h0 (by decide),jJ hK h0 (by decide),jJ hK h0 (by decide),yU hK h0 (.inl rfl)]
    show atP tk _ 4 (n+1)=_
    rw[hat _ R (xK hd) hR,v1]
    show PR.ok _ _=PR.ok _ _
    congr 1
    grind [Ed]
   ·have hd:K.drop n=(1,name)::(1,wAt)::(rL 7 ((bA y.op).level,iE y)++R):=hd
    have h0:=oH hd
    rw[Le hK h0 (by decide) (by
     intro hm;simp only[ybs,List.not_mem_nil,or_false]at hm;rcases hm with e | e | e | e<;>exact Ol 0 hnm (by decide) e)]
    show(if acc tk [40] n=true then _ else _)=_
    have h40:name≠[40]:=by rintro rfl;revert hnm;exact(by kernel_rfl:mO [40]=false) ▸ by decide
    have hi:nT tk n=true:=by grind [nT,Br,Rt]
    rw[jJ hK h0 h40,jJ hK h0 (Ol 0 hnm (by decide)),jJ hK h0 (Ol 0 hnm (by decide)),jJ hK h0 (Ol 0 hnm (by decide)),hi]
    show atP tk _ 5 n=_
    rw[hat _ R hd hR,v1];show PR.ok _ _=PR.ok _ _
    congr 1
    grind [Ed]
 ·-- an operation of two arguments
  obtain⟨a,b,rfl,rfl⟩:=op_two hh h
  obtain⟨f1,_⟩:=CH op h
  obtain⟨a1,a2,a3⟩:=ha a yby
  obtain⟨b1,b2,b3⟩:=ha b (ybr _ yby)
  obtain⟨la1,la2⟩:=hl a yby
  obtain⟨lb1,lb2⟩:=hl b (ybr _ yby)
  have hne:op≠1:=by rintro rfl;revert h;decide
  have h19:op≠19:=by rintro rfl;revert h;decide
  obtain⟨v1,_⟩:=Lf (h2 hne)
  rw[yaa h19]at v1;have tx:iE (.mk op [] v [a,b])=rL (bA op).left ((bA a.op).level,iE a)++Hb op::rL (bA op).right ((bA b.op).level,iE b):=by
   grind [lT,mE]
  have ex:lA.mk op [] v [a,b]=cZ op a b:=by rw[v1];rfl
  by_cases hc:op∈[13,14]
  ·obtain⟨c1,c2,c3,c4,c5⟩:=zju hc
   have hR:tK K (lW tk (xI tk (k+2))) 4 (iE (.mk op [] v [a,b])) (.mk op [] v [a,b]):=by
    rw[tx,ex,c2,c3];exact zqj hK (Kr hK (lev:=5) (by omega) (by omega) a1 a2 la1 la2) (Kr hK (lev:=5) (by omega) (by omega) b1 b2 lb1 lb2) (.inr c5) c4 (ze4 hc)
   have hN:Bg (iE (.mk op [] v [a,b])):=by grind [MI]
   refine⟨fun lev k1 k2=>?_,fun lev k1 k2=>?_,fun _=>hN⟩
   ·have k2:lev<=4:=by rw[<- c1];exact k2
    exact Km hK (.inl hN) (4-lev) lev (by omega) k1 (by omega) hR
   ·have k2:4=lev:=by rw[<- c1];exact k2
    grind
  ·have hc:op∈[7,8,9,10,15,16]:=by
    grind [Ln]
   obtain⟨c1,c2,c3,c4,c5,c6⟩:=zfc hc
   have cf:=YQ hc
   have hlv:1<=(bA op).level/\(bA op).level<=6:=by
    grind
   have hC:Ch tk K (aV tk (xI tk (k+2)) ((bA op).level+1)) (Kl (bA op).level) ((bA op).level+1) (iE (.mk op [] v [a,b])) (.mk op [] v [a,b]):=by
    rw[tx,ex,c2,c3];exact zqn hK (in_ch hK c1 a1 a2 la1 la2) (Kr hK (lev:=(bA op).level+1) (by omega) (by omega) b1 b2 lb1 lb2) c5 c4 cf
   have hR:tK K (aV tk (xI tk (k+2)) (bA op).level) (bA op).level (iE (.mk op [] v [a,b])) (.mk op [] v [a,b]):=by
    have:=ch_end hK hC c6
    rwa [YR c1]at this
   have hN:4<=(bA op).level->Bg (iE (.mk op [] v [a,b])):=fun h4=>by grind [MI]
   refine⟨fun lev k1 k2=>?_,fun lev k1 k2=>?_,hN⟩
   ·have k2:lev<=(bA op).level:=k2
    refine Km hK ?_ ((bA op).level-lev) lev (by omega) k1 (by omega) hR
    grind
   ·have k2:(bA op).level=lev:=k2
    simp_all
 ·-- not
  obtain⟨f1,f2,f3,f4,f5,f6⟩:=Ug
  have hlo:=hh.lo
  have hhi:=hh.hi
  obtain⟨y,rfl⟩:∃y,args=[y]:=by
   match args with
   | [y]=>simp_all
   | []=>simp_all
   | _::_::_=>simp_all
  obtain⟨g1,g2,g3⟩:=ha y yby
  obtain⟨l1,l2⟩:=hl y yby
  have hn:=hh.no f4
  subst hn;obtain⟨v1,_⟩:=Lf (h2 (by decide))
  have tx:iE (.mk 17 [] v [y])=(1,yZ)::rL 3 ((bA y.op).level,iE y):=by
   grind [lT,mE]
  have ex:lA.mk 17 [] v [y]=unX 17 [] y:=by rw[v1];rfl
  have hR:tK K (lU tk (xI tk (k+2))) 3 (iE (.mk 17 [] v [y])) (.mk 17 [] v [y]):=by
   rw[tx,ex];exact not_rd hK (Kr hK (lev:=3) (by omega) (by omega) g1 g2 l1 l2)
  refine⟨fun lev k1 k2=>?_,fun lev k1 k2=>?_,fun h4=>?_⟩
  ·have k2:lev<=3:=by rw[<- f3];exact k2
   exact Km hK (.inr (ybk _)) (3-lev) lev (by omega) k1 (by omega) hR
  ·have k2:3=lev:=by rw[<- f3];exact k2
   grind
  ·have:4<=(bA 17).level:=h4
   omega
 ·-- a call
  have hne:op≠1:=by rintro rfl;revert h;decide
  obtain⟨f1,f2⟩:=CG op h
  have e0:∃r,lT op name v (mE args)=(1,(bA op).word)::r:=by
   grind [lT]
  obtain⟨_,_,c3,_⟩:=DO h
  refine Uf hK f2 ?_ ?_
  ·obtain⟨r,e⟩:=e0
   rw[tx,e];exact⟨_,_,_,rfl,.inr (.inr fun e=>c3 (by rw[e];decide))⟩
  ·rw[tx]
   exact zqp hK h hh (h2 hne) fun y hy=>(ha y hy).2.1.rd 1 (ybk _) (hl y hy).2
omit hK in
def OA{x:lA}{d:Nat}(h:vI x d=true):(bA x.op).level<=7/\1<=(bA x.op).level:=by
 obtain⟨op,name,v,args⟩:=x
 obtain⟨_,h2,_⟩:=Pr h
 have e:∀op,op<27->op≠0->1<=(bA op).level:=by decide +kernel
 exact⟨zh7 op h2.lt,e op h2.lt h2.ne⟩
mutual
theorem NY:∀(x:lA) (d k:Nat),x.fit->vI x d=true->2*(25-d)<=k->dW tk K k x
 | .mk op name v args,d,k,hf,h,hk=>by
  obtain⟨h1,h2,h3,h4⟩:=Pr h
  rw[lA.fit]at hf;obtain⟨k',rfl⟩:∃k',k=k'+2:=⟨k-2,by omega⟩
  by_cases h0:op=1
  ·have hm:=h2.hi
   have:args=[]:=List.eq_nil_of_length_eq_zero (by simp_all [Ez])
   subst this;exact MT hK hf.2.2.2.1.2.1 h2 h3 (fun e=>absurd h0 e) (by simp) (by simp)
  ·obtain⟨c1,c2⟩:=h4 h0
   have hl:=NV args (d+1) hf.2.2.2.2.2 c2
   exact MT hK hf.2.2.2.1.2.1 h2 h3 (fun e=>c1) (fun y hy=>OA (c2 y hy)) fun y hy=>⟨hl y hy _ (by omega),hl y hy _ (by omega),hl y hy _ (by omega)⟩
theorem NV:∀(l:List lA) (d:Nat),lA.fits l->(∀y∈l,vI y d=true)->∀y∈l,∀k,2*(25-d)<=k->dW tk K k y
 | [],_,_,_,_,hy=>by cases hy
 | x::l,d,hf,h,y,hy=>by
  rw[lA.fits]at hf;rcases ybs.1 hy with e | hy
  ·intro k hk
   rw[e];exact NY x d k hf.1 (h x yby) hk
  ·exact NV l d hf.2 (fun z hz=>h z (ybr _ hz)) y hy
end
def zp4{x:lA}(hf:x.fit)(h:vI x 1=true):tK K (zi9 tk) 1 (iE x) x:=
 (NY hK x 1 101 hf h (by omega)).rd 1 (ybk _) (OA h).2
end
theorem zee{x:lA}(hf:x.fit)(h:vI x 1=true):∃m n,nZ (eL x)=.ok m/\yL m=.ok x n:=by
 obtain⟨m,h1,h2⟩:=zc4 (NX x 1 hf h).lex
 refine⟨m,(iE x).length+1,h1,?_⟩
 have hd:(iE x++[(5,[])]:List nF).drop 0=iE x++[(5,[])]:=rfl
 have:=zp4 h2 hf h 0 [(5,[])] hd (Ec (by decide))
 unfold yL;rw[this,ybw];show(Eh m (iE x).length).bind _=_
 rw[JG h2 (v:=[]) (by simp_all) (by simp)]
 rfl
theorem RN{v:eD}(hf:v.f.fit)(h:xH v=true):∃m n,nZ (sU v)=.ok m/\zL m=.ok v n:=by
 obtain⟨m,h1,h2⟩:=zc4 (ET hf h).lex
 refine⟨m,(bP v).length+1,h1,?_⟩
 have hd:(bP v++[(5,[])]:List nF).drop 0=bP v++[(5,[])]:=rfl
 have:=OZ h2 hf h hd (fun q u R' e=>by simp_all)
 unfold zL;rw[this,ybw];show(Eh m (bP v).length).bind _=_
 rw[JG h2 (v:=[]) (by simp_all) (by simp)]
 rfl
end Go.Proofs
namespace Go.Proofs
open Go Go.Am
def II{v:eD}(h:xH v=true):v.f.n.limbs.length<300000/\v.f.d.limbs.length<300000:=by
 rcases Sn h with⟨_,e,_⟩ | ⟨_,_,e⟩ | ⟨_,e,_⟩ | ⟨_,e,_⟩
 ·rw[e];decide
 ·unfold tZ at e
  simp only[ybb,decide_eq_true_eq]at e;omega
 ·rw[e];decide
 ·rw[e];decide
mutual
/-- what can be written can be compared -/
theorem OB:∀(x:lA) (d:Nat),x.fit->vI x d=true->lA.cpy x
 | .mk op name v args,d,hf,h=>by
  obtain⟨h1,h2,h3,h4⟩:=Pr h
  rw[lA.fit]at hf;rw[lA.cpy];have hm:=h2.hi
  have hk:∀op,op<27->(bA op).most<=3:=by decide +kernel
  have hk:=hk op h2.lt
  have hv:v.f.n.limbs.length<300000/\v.f.d.limbs.length<300000:=by
   by_cases h0:op=1
   ·exact II (h3 h0)
   ·rw[(Lf (h4 h0).1).1]
    show(0:Nat)<300000/\(0:Nat)<300000
    decide
  refine⟨hv,by omega,?_⟩
  by_cases h0:op=1
  ·simp_all [Ez,lA.cpys]
  ·exact NW args (d+1) hf.2.2.2.2.2 (h4 h0).2
theorem NW:∀(l:List lA) (d:Nat),lA.fits l->(∀y∈l,vI y d=true)->lA.cpys l
 | [],_,_,_=>by grind [lA.cpys]
 | x::l,d,hf,h=>by
  rw[lA.fits]at hf;rw[lA.cpys];exact⟨OB x d hf.1 (h x yby),NW l d hf.2 fun y hy=>h y (ybr _ hy)⟩
end
variable [nC]
def zbs{α:Type}{top:List bC->PR α}{s:List Nat}{m:List bC}{x:α}{n:Nat}(hs:s.length<=65536)(h:nZ s=.ok m)(ht:top m=.ok x n):cG top s=.ok x:=by
 rw[Zh (by rw[zo3 hs];exact h),ht]
variable {t:Tr tA}
theorem zd6(hM:nN t){v:eD}{a b:zA}(ha:aA t 1 (cC v.f.n.limbs) a)(hb:aA t 1 (cC v.f.d.limbs) b)(hv:v.fit) :
  kB yA F 13 [.agg [.int .u8 v.kind,.bool v.f.n.neg,a,.bool v.f.d.neg,b,.int .i64 v.i]] t=some (.tup [.str (if xH v=true then sU v else []),.int .i64 (if xH v=true then 0 else 2)]):=by
 refine iC.2 (w13 ?_)
 unfold t13 uB uS uZ uY;refine wB ?_
 rw[q34,IH ha hb hv.2.1,uA];refine iD ?_
 cases hp:xH v with
 | false=>exact mA rfl ⟨rfl,rfl⟩
 | true=>
  refine vB (by simp) (wB ?_)
  have hd:v.kind=4->kB yA F 74 [.int .i64 v.i] t=some (.str (fM v.i.toNat)):=fun hk=>by
   grind [xH,PX,zmx]
  rw[q35,ER (date:=fM v.i.toNat) ha hb hv hp hd,uA]
  exact dD ⟨rfl,rfl⟩
def UO{x:lA}{a b c:zA}(hx:x.fit)(hg:dJ t)(ha:aA t 1 (cC x.v.f.n.limbs) a)(hb:aA t 1 (cC x.v.f.d.limbs) b)
  {n:Nat} (hn:xH x.v=false->x.op=1->n=2) :
  jp 4 27 [.int .i64 (n:Int),.str (if xH x.v=true then sU x.v else []),.int .i64 (if xH x.v=true then 0 else 2),.int .u8 x.op,.str x.name,.int .u8 x.v.kind,.bool x.v.f.n.neg,a,.bool x.v.f.d.neg,b,.int .i64 x.v.i,c] t (fun v _=>v=.bool true):=by
 have hv:x.v.fit:=by obtain⟨op,name,v,args⟩:=x;rw[lA.fit]at hx;exact hx.2.2.2.1
 refine j4_27 ?_
 unfold t4_27 uB yI wC
 cases hp:xH x.v with
 | false=>
  refine mA rfl (mA rfl (mA rfl ?_))
  by_cases h1:x.op=1
  ·refine vB (by rw[h1];decide) ?_
   rw[hn hp h1];rfl
  ·exact mA (Ej.2 (by omega)) rfl
 | true=>
  obtain⟨m,k,h1,h2⟩:=RN hv.2.1 hp
  obtain⟨_,hl,hby⟩:=EQ hv hp
  have hr:=zbs (top:=zL) (by omega) h1 h2
  rw[yab (rfl:true=true),yab (rfl:true=true)]
  refine vB (by decide) (zni (K:=fun X2 X n=>.ite (lB n 0) _ _) hg hby fun t2 cs h3 h4=>?_)
  rw[hr]at h4 ⊢
  have hV:uA9 (cellsOf cs)=.agg cs:=congrArg zA.agg (Qk h4)
  rw[hV];exact mA rfl (zn9 (II hp) h4 (He (ha.mono h3) (hb.mono h3)) (iD rfl))
theorem zhf{x:lA}{cs:List zA}(hx:x.fit)(hg:dJ t)(hM:nN t)(hW:uV t)(hr:RD t x.d cs):Wc yA F 4 [.agg cs] t (fun v _=>v=.bool true):=by
 have hr0:=hr
 obtain⟨a,b,c,rfl,ha,hb,hc⟩:=nI hr
 have hv:x.v.fit:=by obtain⟨op,name,v,args⟩:=x;rw[lA.fit]at hx;exact hx.2.2.2.1
 refine w4 ?_
 unfold t4 uI uB yI uS wC uZ uY;refine zj7 (wB ?_)
 rw[q8,pv37 x 400 _ (lA.fit_ok hx) (by omega) (by omega) hr0,uA]
 refine qB ?_
 by_cases h2:400<Av x 400
 ·exact mA (xP h2) rfl
 refine vB (mP h2) (wB ?_)
 rw[q9];refine zi7 hx hM hW hr0 fun t1 h1 hlt=>?_
 have hg1:=hg.mono h1
 have ha1:=ha.mono h1
 have hb1:=hb.mono h1
 have hr1:=hr0.mono h1
 have last:∀t2,zB t1 t2->∀n:Nat,(xH x.v=false->x.op=1->n=2)->jp 4 27 [.int .i64 (n:Int),.str (if xH x.v=true then sU x.v else []),.int .i64 (if xH x.v=true then 0 else 2),.int .u8 x.op,.str x.name,.int .u8 x.v.kind,.bool x.v.f.n.neg,a,.bool x.v.f.d.neg,b,.int .i64 x.v.i,c] t2 (fun v _=>v=.bool true):=
  fun t2 h2 n hn=>UO hx (hg1.mono h2) (ha1.mono h2) (hb1.mono h2) hn
 have hval:∀ {K:zA->T} {Q:mB} {J:eF},oA yA.base (Wq yA F jC) J (K (.tup [.str (if xH x.v=true then sU x.v else []),.int .i64 (if xH x.v=true then 0 else 2)])) t1 Q->oA yA.base (Wq yA F jC) J (.call 13 [.agg [.int .u8 x.v.kind,.bool x.v.f.n.neg,a,.bool x.v.f.d.neg,b,.int .i64 x.v.i]] K) t1 Q:=fun h=>by
  refine wB ?_
  rw[q13,zd6 (hM.mono h1) ha1 hb1 hv,uA]
  exact h
 unfold Uo;have opN:∀ {op:Nat} {name:List Nat} {v:eD} {args:List lA},vI (.mk op name v args) 1=true->op=1->xH v=true:=fun h=>(Pr h).2.2.1
 cases hP:vI x 1 with
 | true=>
  have hnp:xH x.v=false->x.op=1->False:=fun e1 e2=>by
   obtain⟨op,name,v,args⟩:=x
   have:=opN hP e2
   rw[show xH v=false from e1]at this
   cases this
  rw[yab rfl];by_cases hl:65536<(eL x).length
  ·rw[yab hl]
   refine rA rfl (dD (rA rfl (qB (hval (rA rfl (dD (rA rfl (qB (vB (by decide) (vB (by decide) (mA (by decide) (vB (by decide) (fC ?_)))))))))))))
   exact last t1 (zB.refl _) 3 fun e1 e2=>(hnp e1 e2).elim
  ·rw[yaa hl]
   obtain⟨m,k,k1,k2⟩:=zee hx hP
   have hrun:=zbs (top:=yL) (by omega) k1 k2
   refine rA rfl (dD (rA rfl (qB (hval (rA rfl (dD (rA rfl (qB (mA (by decide) ?_)))))))))
   refine zja (K:=fun X16 X n=>.ite (!lB n 0) _ _) hg1 ?_ fun t2 cs h3 h4=>?_
   ·exact hlt hP hl
   rw[hrun]at h4 ⊢
   have hE:nE (cellsOf cs)=.agg cs:=congrArg zA.agg (Ql h4)
   rw[hE];refine vB (show(!lB ((0:Nat):Int) 0)≠true by decide) (zoa (OB x 1 hx hP) (hr1.mono h3) h4 (iD (vB (by decide) (fC ?_))))
   grind
 | false=>
  rw[yaa (by simp)]
  refine rA rfl (dD (rA rfl (qB (hval (rA rfl (dD (rA rfl (qB (vB (by decide) (vB (by decide) (vB (by decide) (fC ?_))))))))))))
  exact last t1 (zB.refl _) 2 fun _ _=>rfl
end Go.Proofs
namespace Go.Am
open Go Go.RowKit Go.Proofs
def freads4{w:World}(hL:tI w){ds:Array Value}{x:lA}(hx:x.fit)
  (hk:Has w.heap.size ds.toList) (hr:RD (bI w) x.d (ds.toList.map (av w.heap.size))) :
  Calls Tryz.prog 4 #[.agg ds] w fun e w'=>e=.returned (.bool true)/\Below w.heap.size w w':=
 SN hL 4 [.agg (ds.toList.map (av w.heap.size))] _ (by intro _;kernel_rfl) (.single (zhl hk)) ⟨_,zhf hx (zd3 hL) (zd2 hL) (MU hL) hr,fun v t h=>h⟩
end Go.Am
