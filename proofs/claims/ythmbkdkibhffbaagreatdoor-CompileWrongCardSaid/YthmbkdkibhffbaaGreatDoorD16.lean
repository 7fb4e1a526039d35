/- Clones of slices, which are written and then left as they are. -/
import Derived.Carry
import Derived.ChangeArms
import Derived.HandedShaped
import Derived.JoinedOf
import Derived.LaidMore
import Derived.OpenShut
import Derived.ProofKit
import Derived.Stop.Joined
import Derived.Test.YthmbkdkibhffbaaGreatDoorRows
import GoSem.ClaimJoined
import Derived.Test.YthmbkdkibhffbaaGreatDoorD15
set_option linter.all false
noncomputable section
namespace Go.Am
open Go Go.RowKit
section
variable {t tf:Tr lA}{C:iA}{base:Nat}
def oS (base sz:Nat)(l:List D)(v:zA):vD where
 blks:=if l=[]then []else mD v
 ok:=fun tf t=>if l=[]then oA tf sz [] v else ∃n,v=.slice n 0 l.length l.length/\OwnD base tf t sz l n (some sz)
 keep:=fun {tf t tf' t'} h hf k=>by
  by_cases hl:l=[]
  ·rw[if_pos hl]at h ⊢;exact h.mono hf
  ·rw[if_neg hl]at h k ⊢
   obtain⟨n,rfl,h⟩:=h
   have:=k n (by simp[mD])
   exact⟨n,rfl,h.grow hf this.2 this.1⟩
 live:=fun {tf t} h k hk=>by
  by_cases hl:l=[]
  ·rw[if_pos hl]at hk;cases hk
  ·rw[if_neg hl]at h hk
   obtain⟨n,rfl,_,_,_,⟨c,hc,_⟩,_⟩:=h
   have:k=n:=by simpa[mD]using hk
   subst this;exact⟨_,hc⟩
theorem z1i{sz:Nat}{v:zA}(h:oA tf sz [] v):(oS base sz [] v).ok tf t:=h
theorem zfy{sz n:Nat}{l:List D}(hl:l≠[])(h:OwnD base tf t sz l n (some sz)):(oS base sz l (.slice n 0 l.length l.length)).ok tf t:=by
 have e:(oS base sz l (.slice n 0 l.length l.length)).ok tf t=∃m,zA.slice n 0 l.length l.length=.slice m 0 l.length l.length/\OwnD base tf t sz l m (some sz):=if_neg hl
 rw[e];exact⟨n,rfl,h⟩
theorem nT{sz:Nat}{l:List D}{v:zA}(hl:l≠[])(h:(oS base sz l v).ok tf t):∃n,v=.slice n 0 l.length l.length/\OwnD base tf t sz l n (some sz):=by
 have e:(oS base sz l v).ok tf t=∃m,v=.slice m 0 l.length l.length/\OwnD base tf t sz l m (some sz):=if_neg hl
 rw[e]at h;exact h
theorem z1j{sz:Nat}{v:zA}(h:(oS base sz [] v).ok tf t):oA tf sz [] v:=h
theorem z33{sz:Nat}{l:List D}{v:zA}(h:(oS base sz l v).ok tf t)(ht:dA tf t):oA t sz l v:=by
 by_cases hl:l=[]
 ·subst hl;exact(z1j h).mono ht
 ·obtain⟨n,hv,ho⟩:=nT hl h
  subst hv;exact ho.read (.inr rfl) ht rfl (yal _)
theorem Objs.freezeS{A B:List vD}{sz:Nat}{l:List D}{v:zA}(h:Objs base tf t (A++oS base sz l v::B)):∃tf',dA tf tf'/\Objs base tf' t (A++B)/\oA tf' sz l v:=by
 have ho:(oS base sz l v).ok tf t:=h.ok (oS base sz l v) (by simp)
 by_cases hl:l=[]
 ·subst hl
  exact⟨tf,dA.refl _,h.drop,z1j ho⟩
 ·obtain⟨n,rfl,h1,h2,cl,⟨c,h3,h4⟩,h5,h6⟩:=nT hl ho
  have hn:n∉(A++B).flatMap vD.blks:=h.notin (o:=oS base sz l _) (by simp[oS,hl,mD])
  obtain⟨k1,k2⟩:=h.drop.froze hn h3 h2
  refine⟨_,k2,k1,?_⟩
  have hlen:=h6.length
  have:=(⟨h1,h2,cl,⟨c,h3,h4⟩,h5,h6⟩:OwnD base tf t sz l n (some sz))
  refine⟨cl,.inr ⟨n,0,l.length,by rw[hlen],by omega,⟨c,_,_,by rw[Tr.get_set,if_pos rfl],.inr rfl⟩,fun i cs hi=>⟨h5 i cs hi,c,_,_,(by rw[Tr.get_set,if_pos rfl]),fun j a hj=>?_⟩⟩,fC.mono k2 _ _ h6⟩
  rw[yax];exact h4 _ _ (eO h5 i j cs a hi hj)
theorem Objs.storeS{A B:List vD}{sz:Nat}{l:List D}{v w:zA}(h:Objs C.base tf t (A++oS C.base sz l v::B)){i o S T el:Nat}{agg:Bool}{d d':D}{y:wD}(hi:l[i]?=some d)(hT:nF C T el sz agg)(hS:C.tys.get S=some y)(hl:w.cells.length=y.size)(ho:o+w.cells.length<=sz)(hone:iB zA.one w.cells=true)
  (hd:∀cs,cs.length=sz->RD tf d cs->RD tf d' (iI cs o w.cells)) :
  ∃p,yB C T v (.int .i64 (i:Int))=some (.ptr p (0+i*sz))/\∃t',(∀n,cD C S (.ptr p (0+i*sz+o)) w ⟨n,t⟩=some (zE,⟨n,t'⟩))/\Objs C.base tf t' (A++oS C.base sz (l.set i d') v::B):=by
 have hlt:i<l.length:=(yad.1 hi).1
 have hne:l≠[]:=by intro e;subst e;simp at hlt
 have hne':l.set i d'≠[]:=by intro e;have:=congrArg List.length e;rw[yci]at this;simp at this;exact hne (ybd.1 (by simpa using this))
 obtain⟨n,rfl,ho'⟩:=nT hne (h.ok (oS C.base sz l v) (by simp))
 refine⟨n,xL hT hlt,?_⟩
 obtain⟨t',g1,g2,g3⟩:=ho'.store hi hS hl ho hone hd
 rw[yax];refine⟨t',g1,?_⟩
 refine Objs.upd (o:=oS C.base sz l (.slice n 0 l.length l.length)) h (fun k k1 _=>g3 k (fun e=>k1 (by simp[oS,hne,mD,e]))) (fun k hk=>.inl ?_) ?_ ?_ (h.tle.off ho'.2.1 g3)
 ·have:k=n:=by simpa[oS,hne',mD]using hk
  subst this;simp[oS,hne,mD]
 ·have:=zfy hne' g2
  rw[yci]at this;exact this
 ·simp[oS,hne',mD]
theorem uY{T el sz:Nat}(hT:aI C T el sz){L:List vD}{l:List D}{x:zA}{W J:zJ}{Q:bB}(heq:(dK .eql).f C T (.tmp 3) (.const (.slice none 0 0)) x .nilslice=some (.bool (Nat.beq x.tag 5)))(hx:oA tf sz l x)(h:Objs C.base tf t L)(hl:l.length<1000000)
  (hQ:∀tf' t' v,dA tf tf'->Objs C.base tf' t' (oS C.base sz l v::L)->Q v t') :
  pA C.base W J (.opt ((dK .eql).f C T (.tmp 3) (.const (.slice none 0 0)) x .nilslice) fun a0=>.asB a0 fun b1=>.ite b1 (.ret .nilslice) (.heavy (eD C T 0 []) fun a2=>.heavy (kD C T T a2 x) fun a3=>.ret a3)) t Q:=by
 obtain⟨⟨y,hy1,hy2,hy3⟩,⟨z,hz1,hz2,hz3,hz4,hz5⟩⟩:=hT
 obtain⟨cl,he,hd⟩:=hx
 have hcl:=hd.length
 simp only[pA,heq,xA,qD];rcases he with⟨rfl,rfl⟩ | ⟨bx,off,cap,rfl,hcap,hblk,he'⟩
 ·have:l=[]:=ybd.1 hcl.symm
  subst this;have e:(Nat.beq zA.nilslice.tag 5)=true:=rfl
  rw[if_pos e];refine hQ tf t .nilslice (dA.refl _) ?_
  exact Objs.add (A:=[]) (o':=oS C.base sz [] .nilslice) h (fun _ _=>rfl) (fun k hk=>by simp[oS]at hk) (z1i ⟨[],.inl ⟨rfl,rfl⟩,lE.2 rfl⟩) (by simp[oS]) h.tle
 ·have e:(Nat.beq (zA.slice bx off cl.length cap).tag 5)=false:=rfl
  rw[e,if_neg (by simp)]
  intro b hb hbb;have g1:eD C T 0 [] ⟨b,t⟩=some (.slice b 0 0 0,vF ⟨b,t⟩ [] none):=by
   unfold eD;rw[hy1,uA,hy2,uA,hz1,uA];have:(Nat.blt (0*z.size) 1000000&&Nat.beq (uB z.zero) z.size)=true:=by rw[Nat.zero_mul,hz3,hz2,aB.2 rfl];rfl
   rw[this];rfl
  obtain⟨t1,k1,k2,k3,k4⟩:=mT hb ([]:List zA) none
  rw[k1]at g1;have h1:=h.junk hb k4
  rw[g1,xA];intro n hn hnb;have he1:oG t1 sz (.slice bx off cl.length cap) cl:=(oG.mono (h.tle.trans k3) (.inr ⟨bx,off,cap,rfl,hcap,hblk,he'⟩))
  obtain⟨hf,hlen⟩:=he1.first (n:=n)
  have hall:=he1.len
  have hfl:uB cl.flatten=cl.length*sz:=by rw[xE];exact yN hall
  have base1:kD C T T (.slice b 0 0 0) (.slice bx off cl.length cap) ⟨n,t1⟩=(bif Nat.ble (0+cl.length) 0 then fN C ⟨n,t1⟩ z cl.length cl.flatten (b,0,0,0)else zN C ⟨n,t1⟩ z cl.length cl.flatten (b,0,0,0)):=by
   unfold kD eL;rw[hy1,uA,uA,hy3];simp only[ybm,fE];rw[hy2,uA,hz1,uA,hlen,uA,hz2,hf,uA];rfl
  have ok:iL z 0 0 cl.length cl.flatten=true:=by
   unfold iL;have h1:Nat.blt (0+cl.length+0) 1000000000=true:=pC.2 (by omega)
   have h2:Nat.blt ((0+cl.length+0)*z.bytes) 1000000000=true:=pC.2 (by
    have:=ycc (show 0+cl.length+0<=1000000 by omega) hz4
    omega)
   have h3:Nat.blt z.bytes 1000000000=true:=pC.2 (by omega)
   have h4:(!Nat.beq z.size 0)=true:=by
    cases hq:Nat.beq z.size 0 with
    | true=>have:=aB.1 hq;omega
    | false=>rfl
   have h5:Nat.beq (uB cl.flatten) (cl.length*z.size)=true:=by rw[hfl,hz2];exact aB.2 rfl
   have h6:Nat.beq (uB z.zero) z.size=true:=by rw[hz3,hz2];exact aB.2 rfl
   rw[h1,h2,h3,h4,h5,h6];rfl
  obtain⟨cb,hcb,_⟩:=k2
  by_cases h0:cl.length=0
  ·have:cl=[]:=ybd.1 h0
   subst this;have:l=[]:=ybd.1 hcl.symm
   subst this;have e2:kD C T T (.slice b 0 0 0) (.slice bx off 0 cap) ⟨n,t1⟩=some (.slice b 0 0 0,⟨n,t1⟩):=by
    have:=base1
    simp only[yay]at this;rw[this];rfl
   have e3:kD C T T (.slice b 0 0 0) (.slice bx off ([]:List (List zA)).length cap) ⟨n,t1⟩=some (.slice b 0 0 0,⟨n,t1⟩):=e2
   rw[e3,xA];obtain⟨m1,m2⟩:=h1.froze (h.fresh hb) hcb (h.tfn hb)
   refine hQ _ t1 (.slice b 0 0 0) m2 ?_
   refine Objs.add (A:=[]) (o':=oS C.base sz [] (.slice b 0 0 0)) m1 (fun _ _=>rfl) (fun k hk=>by simp[oS]at hk) ?_ (by simp[oS]) m1.tle
   exact z1i ⟨[],.inr ⟨b,0,0,rfl,yal _,⟨cb,0,none,by rw[Tr.get_set,if_pos rfl];rfl,.inl rfl⟩,fun i cs hi=>by simp at hi⟩,lE.2 rfl⟩
  ·have hl0:l≠[]:=by intro e;subst e;simp at hcl;exact h0 (by rw[hcl];rfl)
   have ebl:Nat.ble (0+cl.length) 0=false:=by
    cases hq:Nat.ble (0+cl.length) 0 with
    | true=>have:=eE.1 hq;omega
    | false=>rfl
   have e2:kD C T T (.slice b 0 0 0) (.slice bx off cl.length cap) ⟨n,t1⟩=some (.slice n 0 l.length l.length,vF ⟨n,t1⟩ cl.flatten (some sz)):=by
    rw[base1,ebl,cond_false];unfold zN;simp only[];rw[show ∀x,(!(Nat.beq 0 1&&x))=true from fun _=>rfl,fE,ok,fE]
    unfold oD;rw[hcb,uA];simp only[lA.asCells,uA];unfold dR;simp only[Nat.zero_mul];show ob (cb.many 0 0) _=_
    rw[show cb.many 0 0=some [] from rfl,uA,fH,List.nil_append,yax,hz2,hcl]
   obtain⟨t2,m1,m2,m3,m4⟩:=mT hn cl.flatten (some sz)
   rw[m1]at e2;rw[e2,xA];refine hQ tf t2 _ (dA.refl _) ?_
   refine Objs.add (A:=[]) (o':=oS C.base sz l (.slice n 0 l.length l.length)) h1 (fun k hk=>m4 k (fun e=>hk (by simp[oS,hl0,mD,e]))) (fun k hk=>?_) ?_ (by simp[oS,hl0,mD]) (h1.tle.off (h1.tfn hn) m4)
   ·have:k=n:=by simpa[oS,hl0,mD]using hk
    subst this;exact⟨hn,hnb⟩
   ·exact zfy hl0 ⟨hnb,h1.tfn hn,cl,m2,hall,hd⟩
end
end Go.Am
set_option maxRecDepth 100000
namespace Go.Proofs
open Go Go.Am
variable [aC]
variable {t tf:Tr lA}
def qI:qA:=.mk 0 [] ⟨0,⟨⟨false,[]⟩,⟨false,[]⟩⟩,0⟩ []
def gG(c:kC):kC:=⟨c.name,c.label,c.from_,c.to,c.known,c.off,qI,qI⟩
theorem el22:aI yA 22 79 3:=⟨⟨_,ty22,rfl,rfl⟩,⟨_,ty79,rfl,rfl,by decide,by decide⟩⟩
theorem el23:aI yA 23 82 3:=⟨⟨_,ty23,rfl,rfl⟩,⟨_,ty82,rfl,rfl,by decide,by decide⟩⟩
theorem el24:aI yA 24 52 24:=⟨⟨_,ty24,rfl,rfl⟩,⟨_,ty52,rfl,rfl,by decide,by decide⟩⟩
theorem el80:aI yA 80 85 7:=⟨⟨_,ty80,rfl,rfl⟩,⟨_,ty85,rfl,rfl,by decide,by decide⟩⟩
theorem zm9{T sz:Nat}{l:List D}{v:zA}(hv:oA t sz l v)(h1:(dK .eql).f yA T (.tmp 3) (.const (.slice none 0 0)) .nilslice .nilslice=some (.bool true))(h2:∀b o n c,(dK .eql).f yA T (.tmp 3) (.const (.slice none 0 0)) (.slice b o n c) .nilslice=some (.bool false)):(dK .eql).f yA T (.tmp 3) (.const (.slice none 0 0)) v .nilslice=some (.bool (Nat.beq v.tag 5)):=by
 obtain⟨cl,h,_⟩:=hv
 rcases h with⟨rfl,_⟩ | ⟨b,off,cap,rfl,_⟩
 ·exact h1
 ·exact h2 _ _ _ _
theorem z5q{L:List vD}{l:List D}{x:zA}{Q:bB}(hx:oA tf 3 l x)(h:Objs yA.base tf t L)(hl:l.length<1000000)(hQ:∀tf' t' v,dA tf tf'->Objs yA.base tf' t' (oS yA.base 3 l v::L)->Q v t'):Wc yA F 99 [x] t Q:=
 w99 _ (uY el22 (zm9 hx (by kernel_rfl) fun b o n c=>by kernel_rfl) hx h hl hQ)
theorem z0d{L:List vD}{l:List D}{x:zA}{Q:bB}(hx:oA tf 3 l x)(h:Objs yA.base tf t L)(hl:l.length<1000000)(hQ:∀tf' t' v,dA tf tf'->Objs yA.base tf' t' (oS yA.base 3 l v::L)->Q v t'):Wc yA F 100 [x] t Q:=
 w100 _ (uY el23 (zm9 hx (by kernel_rfl) fun b o n c=>by kernel_rfl) hx h hl hQ)
theorem z0c{L:List vD}{l:List D}{x:zA}{Q:bB}(hx:oA tf 7 l x)(h:Objs yA.base tf t L)(hl:l.length<1000000)(hQ:∀tf' t' v,dA tf tf'->Objs yA.base tf' t' (oS yA.base 7 l v::L)->Q v t'):Wc yA F 101 [x] t Q:=
 w101 _ (uY el80 (zm9 hx (by kernel_rfl) fun b o n c=>by kernel_rfl) hx h hl hQ)
theorem z0b{L:List vD}{l:List D}{x:zA}{Q:bB}(hx:oA tf 24 l x)(h:Objs yA.base tf t L)(hl:l.length<1000000)(hQ:∀tf' t' v,dA tf tf'->Objs yA.base tf' t' (oS yA.base 24 l v::L)->Q v t'):Wc yA F 103 [x] t Q:=
 w103 _ (uY el24 (zm9 hx (by kernel_rfl) fun b o n c=>by kernel_rfl) hx h hl hQ)
theorem iQ{A B:List vD}{sz:Nat}{l:List D}{v:zA}(h:Objs yA.base tf t (A++oS yA.base sz l v::B)):oA t sz l v:=z33 (h.ok (oS yA.base sz l v) (by simp)) h.tle
theorem zmn{α:Type}{l:List α}{i:Nat}{d:α}(h:l[i]?=some d):l.set i d=l:=by
 apply List.ext_getElem?
 intro k;rw[ybx];split
 ·rename_i e;subst e
  rw[if_pos (yad.1 h).1];exact h.symm
 ·rfl
theorem mk_row{x:uF}{u v:zA}(hu:oA t 1 (gC x.f.n.limbs) u)(hv:oA t 1 (gC x.f.d.limbs) v):RD t x.d [.int .i64 x.a,.int .i64 x.b,.int .i64 x.known,.bool x.f.n.neg,u,.bool x.f.d.neg,v]:=by
 unfold uF.d;rw[nI];refine⟨[[.int .i64 x.a],[.int .i64 x.b],[.int .i64 x.known],[.bool x.f.n.neg,u,.bool x.f.d.neg,v]],rfl,?_⟩
 simp only[fD,lE,bK];exact⟨_,_,rfl,rfl,_,_,rfl,rfl,_,_,rfl,rfl,_,_,rfl,ztx hu hv,rfl⟩
theorem zy0{x:yF}{v:zA}(hv:oA t 7 (x.rows.map uF.d) v):RD t x.d [.str x.name,.bool x.two,v]:=by
 unfold yF.d;rw[nI];refine⟨[[.str x.name],[.bool x.two],[v]],rfl,?_⟩
 simp only[fD,lE,rN,cP,cI];exact⟨_,_,rfl,rfl,_,_,rfl,rfl,_,_,rfl,⟨v,rfl,hv⟩,rfl⟩
def iG:List zA:=[.int .u8 0,.str [],.int .u8 0,.bool false,.nilslice,.bool false,.nilslice,.int .i64 0,.nilslice]
theorem fQ:RD t qI.d iG:=by
 unfold qI qA.d iG;rw[nI];refine⟨[[.int .u8 0],[.str []],[.int .u8 0,.bool false,.nilslice,.bool false,.nilslice,.int .i64 0],[.nilslice]],rfl,?_⟩
 rw[fD];refine⟨_,_,rfl,bK.2 rfl,?_⟩
 rw[fD];refine⟨_,_,rfl,rN.2 rfl,?_⟩
 rw[fD];refine⟨_,_,rfl,zef (x:=⟨0,⟨⟨false,[]⟩,⟨false,[]⟩⟩,0⟩) yK yK,?_⟩
 rw[fD];refine⟨_,_,rfl,?_,lE.2 rfl⟩
 rw[cI];exact⟨.nilslice,rfl,yK⟩
theorem zce{x:kC}{cs ds:List zA}(h1:RD t x.when_.d cs)(h2:RD t x.then_.d ds):RD t x.d ([.str x.name,.str x.label,.int .i64 x.from_,.int .i64 x.to,.int .i64 x.known,.bool x.off]++(cs++ds)):=by
 unfold kC.d;rw[nI];refine⟨[[.str x.name],[.str x.label],[.int .i64 x.from_],[.int .i64 x.to],[.int .i64 x.known],[.bool x.off],cs,ds],by simp,?_⟩
 simp only[fD,lE,rN,bK,cP];exact⟨_,_,rfl,rfl,_,_,rfl,rfl,_,_,rfl,rfl,_,_,rfl,rfl,_,_,rfl,rfl,_,_,rfl,rfl,_,_,rfl,h1,_,_,rfl,h2,rfl⟩
theorem zs2{r:uF}{two:Bool}(h:mN two r=true):r.f.n.limbs.length<400/\r.f.d.limbs.length<400:=by
 unfold mN at h;simp only[yac]at h;have h:=h.2
 unfold xQ at h;simp only[yac,decide_eq_true_eq]at h;have h1:=h.1.1.1.1.1.1
 have h2:=h.1.1.1.1.1.2
 exact⟨by omega,by omega⟩
theorem zmb{x:yF}(h:vP x=true):x.rows.length<=400/\∀r∈x.rows,r.f.n.limbs.length<400/\r.f.d.limbs.length<400:=by
 unfold vP at h;simp only[yac,decide_eq_true_eq,ybq,List.any_eq_false]at h;exact⟨h.1.1.2,fun r hr=>zs2 (two:=x.two) (by have:=h.2 r hr;simpa using this)⟩
section
variable {L:List vD}{p:yH}{a c:zA}
theorem zwo{i:Nat}{x:yF}{vt vr:zA}{Q:bB}(hx:p.tables[i]?=some x)(hv:vP x=true) :
  ∀(m j:Nat) (t tf:Tr lA),j+m=x.rows.length->Objs yA.base tf t (oS yA.base 7 (x.rows.map uF.d) vr::oS yA.base 3 (p.tables.map yF.d) vt::L) →
  (∀tf' t',dA tf tf'->Objs yA.base tf' t' (oS yA.base 3 (p.tables.map yF.d) vt::L)->jp 51 2 [vt,.int .i64 (p.tables.length:Int),.int .i64 ((i+1:Nat):Int),.str p.name,a,vt,c,.str [],.nilslice,.nilslice,.nilslice] t' Q)->i<1000000 →
  jp 51 6 [.int .i64 (i:Int),vr,vt,.int .i64 (p.tables.length:Int),.int .i64 (i:Int),vr,.int .i64 (x.rows.length:Int),.int .i64 (j:Int),.str p.name,a,vt,c,.str [],.nilslice,.nilslice,.nilslice] t Q:=by
 obtain⟨hr1,hr2⟩:=zmb hv
 intro m;induction m with
 | zero=>
  intro j t tf hj h hQ hi;refine j51_6 _ _ _ _ _ _ _ _ _ _ _ _ _ _ _ _ ?_
  simp only[z3a,pA,jB];rw[if_neg (by omega)]
  obtain⟨tf1,k1,k2,k3⟩:=Objs.freezeS (A:=[]) h
  have hix:(p.tables.map yF.d)[i]?=some x.d:=by rw[yav,hx];rfl
  obtain⟨q,g1,t1,g2,g3⟩:=Objs.storeS (A:=[]) (w:=vr) (o:=2) (S:=80) k2 hix sl23 (d':=x.d) ty80 (by
   obtain⟨cl,hh,_⟩:=k3
   rcases hh with⟨rfl,_⟩ | ⟨_,_,_,rfl,_⟩<;>rfl) (by
   obtain⟨cl,hh,_⟩:=k3
   rcases hh with⟨rfl,_⟩ | ⟨_,_,_,rfl,_⟩ <;> (show 2+1<=3;decide)) (by
   have:=k3.one
   obtain⟨cl,hh,_⟩:=k3
   rcases hh with⟨rfl,_⟩ | ⟨_,_,_,rfl,_⟩<;>rfl) (fun cs hc hrd=>by
   obtain⟨w,rfl,_⟩:=za2 hrd
   have e:iI [.str x.name,.bool x.two,w] 2 vr.cells=[.str x.name,.bool x.two,vr]:=by
    obtain⟨cl,hh,_⟩:=k3
    rcases hh with⟨rfl,_⟩ | ⟨_,_,_,rfl,_⟩<;>rfl
   rw[e];exact zy0 k3)
  rw[zmn hix]at g3;have fa:cB yA 82 2 (.ptr q (0+i*3))=some (.ptr q (0+i*3+2)):=by
   unfold cB vO;rw[ty82,uA];rfl
  rw[g1,xA,fa,xA];intro n _ _;rw[g2,xA,zC (by omega) (by omega),show(i:Int)+1=((i+1:Nat):Int) by omega]
  exact hQ tf1 t1 k1 g3
 | succ m ih=>
  intro j t tf hj h hQ hi;have hlt:j<x.rows.length:=by omega
  have hjr:x.rows[j]?=some x.rows[j]:=yae hlt
  have hsl:oA t 7 (x.rows.map uF.d) vr:=iQ (A:=[]) h
  obtain⟨b,off,u,w,g1,g2,gx,gy,g5⟩:=zmt hsl hlt
  have hown:(oS yA.base 7 (x.rows.map uF.d) vr).ok tf t:=h.ok (oS yA.base 7 (x.rows.map uF.d) vr) (by simp)
  have hne:x.rows.map uF.d≠[]:=by intro e;have:=congrArg List.length e;simp at this;simp[this]at hlt
  obtain⟨nb,hvr,ho⟩:=nT hne hown
  obtain⟨cs,_,hrd,hat⟩:=ho.cells (i:=j) (d:=x.rows[j].d) (by simp[hjr])
  obtain⟨u',w',rfl,hu',hw'⟩:=zmy hrd
  have g1':yB yA 80 vr (.int .i64 (j:Int))=some (.ptr nb (0+j*7)):=by rw[hvr];exact xL sl80 (by simpa using hlt)
  rw[g1']at g1;have hEq:b=nb/\off=0+j*7:=by cases g1;exact⟨rfl,rfl⟩
  rw[hEq.1,hEq.2]at g2;have ld2:jA yA 85 ⟨0,t⟩ (.ptr nb (0+j*7))=some (.agg [.int .i64 x.rows[j].a,.int .i64 x.rows[j].b,.int .i64 x.rows[j].known,.bool x.rows[j].f.n.neg,u',.bool x.rows[j].f.d.neg,w']):=by
   have:=hat.load (C:=yA) (j:=0) ty85 rfl rfl (by simp)
   rw[yax];exact this
  rw[ld2]at g2;have e3:u'=u/\w'=w:=by cases g2;exact⟨rfl,rfl⟩
  rw[e3.1]at hu'
  rw[e3.2]at hw'
  rw[e3.1,e3.2]at ld2;have hs:=hr2 _ (ybk hlt)
  refine j51_6 _ _ _ _ _ _ _ _ _ _ _ _ _ _ _ _ ?_
  simp only[z3a,pA,jB];rw[if_pos (by omega),g1',xA,ld2,xA,g5,xA]
  simp only[cellsOf,qF,aE,kE,yaa,yab];have hone:iB zA.one [.int .i64 x.rows[j].a,.int .i64 x.rows[j].b,.int .i64 x.rows[j].known,.bool x.rows[j].f.n.neg,u,.bool x.rows[j].f.d.neg,w]=true:=by
   rw[iF];simp only[ybh,ybl,gx.one,gy.one];rfl
  refine aA hone ?_
  rw[if_pos trivial,q102];refine zle (v:=⟨0,x.rows[j].f,0⟩) h ⟨hs.1,hs.2⟩ hu' hw' fun tf1 t1 a' b' k1 k2 k3 k4=>?_
  have hz:mG [(.int .u8 0),(.bool false),.nilslice,(.bool false),.nilslice,(.int .i64 0)] (.agg [.int .u8 ((0:Nat):Int),.bool x.rows[j].f.n.neg,a',.bool x.rows[j].f.d.neg,b',.int .i64 0])=some (cellsOf [.int .u8 ((0:Nat):Int),.bool x.rows[j].f.n.neg,a',.bool x.rows[j].f.d.neg,b',.int .i64 0]):=cK (by
   show(true&&(true&&(pG .nilslice a'&&(true&&(pG .nilslice b'&&true)))))=true
   rw[eH k3,eH k4];rfl)
  rw[hz,xA];simp only[cellsOf,aE,kE,yaa,yab];have hix:(x.rows.map uF.d)[j]?=some x.rows[j].d:=by simp[hjr]
  obtain⟨q,f1,t2,f2,f3⟩:=Objs.storeS (A:=[]) (w:=.agg [.bool x.rows[j].f.n.neg,a',.bool x.rows[j].f.d.neg,b']) (o:=3) (S:=45) k2 hix sl80 (d':=x.rows[j].d) ty45 rfl (by show 3+4<=7;decide) (by
   show iB zA.one [.bool x.rows[j].f.n.neg,a',.bool x.rows[j].f.d.neg,b']=true
   rw[iF];simp only[ybh,ybl,k3.one,k4.one];rfl) (fun cs hc hrd=>by
   obtain⟨u1,w1,rfl,_,_⟩:=zmy hrd
   exact mk_row k3 k4)
  rw[zmn hix]at f3;have fa:cB yA 85 3 (.ptr nb (0+j*7))=some (.ptr nb (0+j*7+3)):=by
   unfold cB vO;rw[ty85,uA];rfl
  have eq:q=nb:=by rw[g1']at f1;cases f1;rfl
  rw[eq]at f2;rw[xA,fa,xA];intro n _ _;rw[f2,xA,zC (by omega) (by omega),show(j:Int)+1=((j+1:Nat):Int) by omega]
  exact ih (j+1) t2 tf1 (by omega) f3 (fun tf' t' m1 m2=>hQ tf' t' (k1.trans m1) m2) hi
theorem zi7{vc vt:zA}{Q:bB}(hn:p.clauses.length<1000000) :
  ∀(m i:Nat) (t tf:Tr lA),i+m=p.clauses.length->Objs yA.base tf t (oS yA.base 24 ((((p.clauses.take i).map gG)++p.clauses.drop i).map kC.d) vc::L) →
  (∀t',Objs yA.base tf t' (oS yA.base 24 ((p.clauses.map gG).map kC.d) vc::L)->Q (.agg [.str p.name,a,vt,vc]) t')->zA.one a=true->zA.one vt=true →
  jp 51 10 [.int .i64 (p.clauses.length:Int),.int .i64 (i:Int),.str p.name,a,vt,vc,.str [],.nilslice,.nilslice,.nilslice] t Q:=by
 intro m;induction m with
 | zero=>
  intro i t tf hi h hQ ha ht;refine z1q _ _ _ _ _ _ _ _ _ _ ?_
  simp only[zrr,pA,jB];rw[if_neg (by omega)]
  have hsl:oA t 24 _ vc:=iQ (A:=[]) h
  have hone:iB zA.one [.str p.name,a,vt,vc]=true:=by rw[iF];simp only[ybh,ybl,ha,ht,hsl.one];rfl
  rw[if_pos hone];rw[ybb (by omega),yau (by omega),ybe]at h
  exact hQ t h
 | succ m ih=>
  intro i t tf hi h hQ ha ht;have hlt:i<p.clauses.length:=by omega
  have hx:p.clauses[i]?=some p.clauses[i]:=yae hlt
  have hlen:((p.clauses.take i).map gG).length=i:=by simp;omega
  have hget:((((p.clauses.take i).map gG)++p.clauses.drop i).map kC.d)[i]?=some p.clauses[i].d:=by
   rw[yav,yaq (by omega),hlen,Nat.sub_self,ycf,ybu,hx];rfl
  have hsl:oA t 24 _ vc:=iQ (A:=[]) h
  refine z1q _ _ _ _ _ _ _ _ _ _ ?_
  simp only[zrr,pA,jB];rw[if_pos (by omega),if_pos trivial,if_pos trivial]
  obtain⟨q,g1,t1,g2,g3⟩:=Objs.storeS (A:=[]) (w:=.agg iG) (o:=6) (S:=50) h hget sl24 (d':=(⟨p.clauses[i].name,p.clauses[i].label,p.clauses[i].from_,p.clauses[i].to,p.clauses[i].known,p.clauses[i].off,qI,p.clauses[i].then_⟩:kC).d) zxj rfl (by show 6+9<=24;decide) rfl (fun cs hc hrd=>by
   obtain⟨u1,u2,u3,w1,w2,w3,rfl,h1,h2⟩:=jX hrd
   exact zce (x:=⟨p.clauses[i].name,p.clauses[i].label,p.clauses[i].from_,p.clauses[i].to,p.clauses[i].known,p.clauses[i].off,qI,p.clauses[i].then_⟩) fQ h2)
  have fa:cB yA 52 6 (.ptr q (0+i*24))=some (.ptr q (0+i*24+6)):=by
   unfold cB vO;rw[ty52,uA];rfl
  rw[g1,xA,fa,xA];intro n _ _;rw[show(zA.agg [.int .u8 0,.str [],.int .u8 0,.bool false,.nilslice,.bool false,.nilslice,.int .i64 0,.nilslice])=.agg iG from rfl,g2,xA,if_pos hsl.same]
  have hget2:(((((p.clauses.take i).map gG)++p.clauses.drop i).map kC.d).set i (⟨p.clauses[i].name,p.clauses[i].label,p.clauses[i].from_,p.clauses[i].to,p.clauses[i].known,p.clauses[i].off,qI,p.clauses[i].then_⟩:kC).d)[i]?=some (⟨p.clauses[i].name,p.clauses[i].label,p.clauses[i].from_,p.clauses[i].to,p.clauses[i].known,p.clauses[i].off,qI,p.clauses[i].then_⟩:kC).d:=by
   rw[ybx,if_pos rfl,if_pos (by simp;omega)]
  obtain⟨q2,f1,t2,f2,f3⟩:=Objs.storeS (A:=[]) (w:=.agg iG) (o:=15) (S:=50) g3 hget2 sl24 (d':=(gG p.clauses[i]).d) zxj rfl (by show 15+9<=24;decide) rfl (fun cs hc hrd=>by
   obtain⟨u1,u2,u3,w1,w2,w3,rfl,h1,h2⟩:=jX hrd
   exact zce (x:=gG p.clauses[i]) h1 fQ)
  rw[List.set_set]at f3;have fb:cB yA 52 7 (.ptr q2 (0+i*24))=some (.ptr q2 (0+i*24+15)):=by
   unfold cB vO;rw[ty52,uA];rfl
  rw[f1]at g1
  cases g1
  simp only[xA,fb];intro n2 _ _;rw[f2,xA,zC (by omega) (by omega),show(i:Int)+1=((i+1:Nat):Int) by omega]
  have hset:((((p.clauses.take i).map gG)++p.clauses.drop i).map kC.d).set i (gG p.clauses[i]).d=(((p.clauses.take (i+1)).map gG)++p.clauses.drop (i+1)).map kC.d:=by
   have e1:p.clauses.drop i=p.clauses[i]::p.clauses.drop (i+1):=yam hlt
   have e2:p.clauses.take (i+1)=p.clauses.take i++[p.clauses[i]]:=by rw[ych,hx];rfl
   rw[e1,e2,List.map_append (f:=kC.d),ybn (f:=kC.d),zb3 (by simp;omega),List.map_append (f:=gG)]
   simp only[List.map_append,ybn,List.map_nil,yba,List.singleton_append]
  rw[hset]at f3;exact ih (i+1) t2 tf (by omega) f3 hQ ha ht
end
end Go.Proofs
namespace Go.Proofs
open Go Go.Am
variable [aC]
variable {t tf:Tr lA}
section
variable {L:List vD}{p:yH}{a c:zA}
theorem zln{vt:zA}{Q:bB}(hp:p.fit)(hb:tK p=true)(ha:zA.one a=true) :
  ∀(m i:Nat) (t tf:Tr lA),i+m=p.tables.length->Objs yA.base tf t (oS yA.base 3 (p.tables.map yF.d) vt::L)->oA tf 24 (p.clauses.map kC.d) c →
  (∀tf' t' vc,dA tf tf'->Objs yA.base tf' t' (oS yA.base 24 ((p.clauses.map gG).map kC.d) vc::oS yA.base 3 (p.tables.map yF.d) vt::L)->Q (.agg [.str p.name,a,vt,vc]) t') →
  jp 51 2 [vt,.int .i64 (p.tables.length:Int),.int .i64 (i:Int),.str p.name,a,vt,c,.str [],.nilslice,.nilslice,.nilslice] t Q:=by
 unfold tK at hb;simp only[yac,decide_eq_true_eq]at hb;obtain⟨⟨⟨⟨hb1,hb2⟩,hb3⟩,hb4⟩,hb5⟩:=hb
 intro m;induction m with
 | zero=>
  intro i t tf hi h hc hQ;refine j51_2 _ _ _ _ _ _ _ _ _ _ _ ?_
  simp only[z3b,pA,jB];rw[if_neg (by omega),q103]
  refine z0b hc h (by rw[yag];omega) fun tf1 t1 vc k1 k2=>?_
  have hsl:oA t1 24 _ vc:=iQ (A:=[]) k2
  have hone:iB zA.one [vc]=true:=by rw[iF];simp only[ybh,ybl,hsl.one];rfl
  rw[if_pos hone,hsl.len,xA,yag,zB,xA];have hvt:oA t1 3 _ vt:=iQ (A:=[oS yA.base 24 (p.clauses.map kC.d) vc]) k2
  exact zi7 (p:=p) (vt:=vt) (by omega) p.clauses.length 0 t1 tf1 (by omega) (by simpa using k2) (fun t' h'=>hQ tf1 t' vc k1 h') ha hvt.one
 | succ m ih=>
  intro i t tf hi h hc hQ;have hlt:i<p.tables.length:=by omega
  have hx:p.tables[i]?=some p.tables[i]:=yae hlt
  have hv:vP p.tables[i]=true:=ybc.1 hb5 _ (ybk hlt)
  have hr:=(zmb hv).1
  have hown:(oS yA.base 3 (p.tables.map yF.d) vt).ok tf t:=h.ok (oS yA.base 3 (p.tables.map yF.d) vt) (by simp)
  have hne:p.tables.map yF.d≠[]:=by intro e;have:=congrArg List.length e;simp at this;simp[this]at hlt
  obtain⟨nb,hvt,ho⟩:=nT hne hown
  obtain⟨cs,_,hrd,hat⟩:=ho.cells (i:=i) (d:=p.tables[i].d) (by simp[hx])
  have hz:=bO hrd (yF.zs _)
  obtain⟨w,rfl,hw⟩:=za2 hrd
  have g1:yB yA 23 vt (.int .i64 (i:Int))=some (.ptr nb (0+i*3)):=by rw[hvt];exact xL sl23 (by simpa using hlt)
  have ld:jA yA 82 ⟨0,t⟩ (.ptr nb (0+i*3))=some (.agg [.str p.tables[i].name,.bool p.tables[i].two,w]):=by
   have:=hat.load (C:=yA) (j:=0) ty82 rfl rfl (by simp)
   rw[yax];exact this
  have hone:iB zA.one [.str p.tables[i].name,.bool p.tables[i].two,w]=true:=by rw[iF];simp only[ybh,ybl,hw.one];rfl
  refine j51_2 _ _ _ _ _ _ _ _ _ _ _ ?_
  simp only[z3b,pA,jB];rw[if_pos (by omega),g1,xA,ld,xA,hz,xA]
  simp only[cellsOf,bF,aE,kE,yaa,yab];refine aA hone ?_
  rw[q101];refine z0c hw h (by rw[yag];omega) fun tf1 t1 vr k1 k2=>?_
  have hsl:oA t1 7 _ vr:=iQ (A:=[]) k2
  rw[hsl.len,xA,yag,zB,xA];refine zwo (a:=a) (c:=c) hx hv p.tables[i].rows.length 0 t1 tf1 (by omega) k2 (fun tf2 t2 m1 m2=>?_) (by omega)
  exact ih (i+1) t2 tf2 (by omega) m2 (hc.mono (k1.trans m1)) fun tf3 t3 vc n1 n2=>hQ tf3 t3 vc (k1.trans (m1.trans n1)) n2
end
def tsW (r:TR)(s:mE):List vD:=
 [bD r.b none r.cells,jE r.m1 (iE 0 s.names),jE r.m2 (iE 0 (s.consts.map cA)),wB yA.base 1 (s.names.map D.str) r.vn,wB yA.base 6 (s.consts.map xB.d) r.vc,wB yA.base 1 s.ws r.vw,wB yA.base 1 s.ts r.vt]
structure TW (tf t:Tr lA) (r:TR) (s:mE):Prop where
 pl:r.pl.length=4
 os:Objs yA.base tf t (tsW r s)
variable {r:TR}{s:mE}
theorem TW.cel(h:TW tf t r s):pD t r.b none r.cells:=h.os.ok (bD r.b none r.cells) (by simp[tsW])
theorem TW.baseB(h:TW tf t r s):yA.base<=r.b/\tf.get r.b=none:=h.os.low r.b (by simp[tsW,bD])
theorem oZ{x:qA}{cs:List zA}{Q:bB}(h:TW tf t r s)(hx:x.fit)(hg:bI tf)(hrd:RD tf x.d cs)(hp:vE x<=200)(b2:s.names.length+vE x<300000)(b3:s.consts.length+vE x<300000)
  (hQ:∀tf' t' r' v,dA tf tf'->r'.b=r.b->r'.kp=r.kp->TW tf' t' r' (s.put (lB cA vB x s.nt 0).1 [])->oA tf' 3 ((lB cA vB x s.nt 0).2.map XIns.d) v->Q v t'):Wc yA F 52 [.ptr r.b 0,.agg cs] t Q:=by
 obtain⟨a,b,d,rfl,ha,hb,hd⟩:=jL hrd
 refine w52 _ _ _ _ _ _ _ _ _ _ ?_
 simp only[t52,pA];rw[kI,xA,uV,xA];intro n _ _;have hlen:r.cells.length=11:=by simp[TR.cells,h.pl]
 obtain⟨t1,g1,g2,g3⟩:=h.cel.store1 (C:=yA) h.baseB.1 (j:=10) (v:=.nilslice) zl4 rfl rfl rfl (by omega)
 have es:r.cells.set 10 .nilslice=TR.cells ⟨r.b,r.pl,r.vn,r.vc,r.vw,r.vt,.nilslice,r.m1,r.m2⟩:=mR (k:=6) h.pl
 rw[es]at g2;have o1:Objs yA.base tf t1 (tsW ⟨r.b,r.pl,r.vn,r.vc,r.vw,r.vt,.nilslice,r.m1,r.m2⟩ s):=
  Objs.upd (A:=[]) (o:=bD r.b none r.cells) h.os (fun k k1 _=>g3 k (fun e=>k1 (by simp[bD,e]))) (fun k hk=>.inl hk) g2 (by simp[bD]) (h.os.tle.off h.baseB.2 g3)
 have o2:Objs yA.base tf t1 (tsL cA ⟨r.b,r.pl,r.vn,r.vc,r.vw,r.vt,.nilslice,r.m1,r.m2⟩ ⟨s.names,s.consts,s.ws,s.ts,[]⟩):=by
  have e:tsW ⟨r.b,r.pl,r.vn,r.vc,r.vw,r.vt,.nilslice,r.m1,r.m2⟩ s=tsW ⟨r.b,r.pl,r.vn,r.vc,r.vw,r.vt,.nilslice,r.m1,r.m2⟩ s++[]:=by simp
  rw[e]at o1;exact Objs.add (o':=wB yA.base 3 ([]:List D) .nilslice) o1 (fun _ _=>rfl) (fun k hk=>by simp[wB,mD]at hk) (.inl ⟨rfl,rfl⟩) (by simp[wB,mD]) o1.tle
 rw[g1,xA,z3q];refine zn1 x (iC x a b d) t1 tf ⟨r.b,r.pl,r.vn,r.vc,r.vw,r.vt,.nilslice,r.m1,r.m2⟩ ⟨s.names,s.consts,s.ws,s.ts,[]⟩ _ hx hg hrd ⟨h.pl,o2⟩ (by show 0+4*vE x<_;omega) b2 b3 fun tf2 t2 r2 k1 k2 k3 k4=>?_
 have hb2:r2.b=r.b:=k2
 rw[xA,uV,xA,<- hb2,k4.ldK,xA];have e3:tsL cA r2 (mE.put ⟨s.names,s.consts,s.ws,s.ts,[]⟩ (lB cA vB x s.nt 0).1 (lB cA vB x s.nt 0).2)=tsW r2 (s.put (lB cA vB x s.nt 0).1 [])++wB yA.base 3 (((lB cA vB x s.nt 0).2).map XIns.d) r2.vk::[]:=by
  simp[tsL,tsW,mE.put]
 have o4:Objs yA.base tf2 t2 (tsL cA r2 (mE.put ⟨s.names,s.consts,s.ws,s.ts,[]⟩ (lB cA vB x s.nt 0).1 (lB cA vB x s.nt 0).2)):=k4.os
 rw[e3]at o4;obtain⟨tf3,m1,m2,m3⟩:=Objs.freezeL o4
 rw[ybe]at m2;exact hQ tf3 t2 r2 r2.vk (k1.trans m1) hb2 (k3.trans rfl) ⟨k4.pl,m2⟩ m3
end Go.Proofs
namespace Go.Proofs
open Go Go.Am
variable [aC]
variable {t tf:Tr lA}{r:TR}{s:mE}
def sC(l:List XIns):D:=.sl 3 (l.map XIns.d)
theorem zf1{n:Nat}{v:zA}{l:List D}(hv:oA tf 3 l v)(hn:t.get n=none):∃t',eD yA 32 1 [(0,v)] ⟨n,t⟩=some (.slice n 0 1 1,⟨n+1,t'⟩)/\oG t' 1 (.slice n 0 1 1) [[v]]/\dA t t'/\cC n t t':=
 nO (C:=yA) (T:=32) (el:=37) (sz:=1) (n:=1) (cl:=[[v]]) z2z rfl zl4 rfl rfl (by decide) (by
  obtain⟨cl,hh,_⟩:=hv
  rcases hh with⟨rfl,_⟩ | ⟨_,_,_,rfl,_⟩<;>rfl) (fun k cs hk=>by
  cases k with
  | zero=>simp at hk;subst hk;rfl
  | succ k=>simp at hk) rfl hn
theorem TW.junk(h:TW tf t r s){n:Nat}{t':Tr lA}(hn:t.get n=none)(ho:cC n t t'):TW tf t' r s:=⟨h.pl,h.os.junk hn ho⟩
theorem TW.ldW(h:TW tf t r s):jA yA 32 ⟨0,t⟩ (.ptr r.b 6)=some r.vw:=h.cel.load1 z2z rfl (qT (k:=2) h.pl)
theorem TW.ldT(h:TW tf t r s):jA yA 32 ⟨0,t⟩ (.ptr r.b 7)=some r.vt:=h.cel.load1 z2z rfl (qT (k:=3) h.pl)
theorem pushW{l:List XIns}{v x:zA}{n:Nat}(h:TW tf t r s)(hv:oA tf 3 (l.map XIns.d) v)(hx:oG t 1 x [[v]])(hl:s.ws.length<300000)(hn:t.get n=none)(hnb:yA.base<=n) :
  ∃v2 k t2,kD yA 32 32 r.vw x ⟨n,t⟩=some (v2,⟨k,t2⟩)/\∃t3,(∀m,cD yA 32 (.ptr r.b 6) v2 ⟨m,t2⟩=some (zE,⟨m,t3⟩))/\TW tf t3 ⟨r.b,r.pl,r.vn,r.vc,v2,r.vt,r.vk,r.m1,r.m2⟩ ⟨s.names,s.consts,s.ws++[sC l],s.ts,s.code⟩:=by
 have ln:Loose yA.base tf t 1 s.ws r.vw:=h.os.ok (wB yA.base 1 s.ws r.vw) (by simp[tsW])
 obtain⟨t2,c1,c2,c3,c4⟩:=rS (C:=yA) el32 (m:=[sC l]) ln hx (by
  rw[fD];refine⟨_,_,rfl,?_,lE.2 rfl⟩
  unfold sC;rw[cI];exact⟨v,rfl,hv⟩) (by intro a ha;simp at ha;subst ha;exact hv.one) (by simp) (by simp;omega) hn hnb h.os.tle
 have o3:Objs yA.base tf t2 ([bD r.b none r.cells,jE r.m1 (iE 0 s.names),jE r.m2 (iE 0 (s.consts.map cA)),wB yA.base 1 (s.names.map D.str) r.vn,wB yA.base 6 (s.consts.map xB.d) r.vc]++wB yA.base 1 (s.ws++[sC l]) (.slice n 0 (s.ws.length+[sC l].length) (s.ws.length+[sC l].length))::[wB yA.base 1 s.ts r.vt]):=by
  refine Objs.upd (o:=wB yA.base 1 s.ws r.vw) h.os (fun k k1 k2=>c4 k ?_ (fun e=>k1 (iK.2 e))) (fun k hk=>?_) c2 (by simp[wB,mD]) c3
  ·intro e;subst e;exact k2 (by simp[wB,mD])
  ·have:k=n:=by simpa[wB,mD]using hk
   subst this;exact .inr ⟨hn,hnb⟩
 have hlen:r.cells.length=11:=by simp[TR.cells,h.pl]
 have cel3:pD t2 r.b none r.cells:=o3.ok (bD r.b none r.cells) (by simp)
 obtain⟨t4,g1,g2,g3⟩:=cel3.store1 (C:=yA) h.baseB.1 (j:=6) (v:=.slice n 0 (s.ws.length+[sC l].length) (s.ws.length+[sC l].length)) z2z rfl rfl rfl (by omega)
 have es:r.cells.set 6 (.slice n 0 (s.ws.length+[sC l].length) (s.ws.length+[sC l].length))=TR.cells ⟨r.b,r.pl,r.vn,r.vc,.slice n 0 (s.ws.length+[sC l].length) (s.ws.length+[sC l].length),r.vt,r.vk,r.m1,r.m2⟩:=mR (k:=2) h.pl
 rw[es]at g2;refine⟨_,_,t2,c1,t4,g1,h.pl,?_⟩
 exact Objs.upd (A:=[]) (o:=bD r.b none r.cells) o3 (fun k k1 _=>g3 k (fun e=>k1 (by simp[bD,e]))) (fun k hk=>.inl hk) g2 (by simp[bD]) (c3.off h.baseB.2 g3)
theorem pushT{l:List XIns}{v x:zA}{n:Nat}(h:TW tf t r s)(hv:oA tf 3 (l.map XIns.d) v)(hx:oG t 1 x [[v]])(hl:s.ts.length<300000)(hn:t.get n=none)(hnb:yA.base<=n) :
  ∃v2 k t2,kD yA 32 32 r.vt x ⟨n,t⟩=some (v2,⟨k,t2⟩)/\∃t3,(∀m,cD yA 32 (.ptr r.b 7) v2 ⟨m,t2⟩=some (zE,⟨m,t3⟩))/\TW tf t3 ⟨r.b,r.pl,r.vn,r.vc,r.vw,v2,r.vk,r.m1,r.m2⟩ ⟨s.names,s.consts,s.ws,s.ts++[sC l],s.code⟩:=by
 have ln:Loose yA.base tf t 1 s.ts r.vt:=h.os.ok (wB yA.base 1 s.ts r.vt) (by simp[tsW])
 obtain⟨t2,c1,c2,c3,c4⟩:=rS (C:=yA) el32 (m:=[sC l]) ln hx (by
  rw[fD];refine⟨_,_,rfl,?_,lE.2 rfl⟩
  unfold sC;rw[cI];exact⟨v,rfl,hv⟩) (by intro a ha;simp at ha;subst ha;exact hv.one) (by simp) (by simp;omega) hn hnb h.os.tle
 have o3:Objs yA.base tf t2 ([bD r.b none r.cells,jE r.m1 (iE 0 s.names),jE r.m2 (iE 0 (s.consts.map cA)),wB yA.base 1 (s.names.map D.str) r.vn,wB yA.base 6 (s.consts.map xB.d) r.vc,wB yA.base 1 s.ws r.vw]++wB yA.base 1 (s.ts++[sC l]) (.slice n 0 (s.ts.length+[sC l].length) (s.ts.length+[sC l].length))::[]):=by
  refine Objs.upd (o:=wB yA.base 1 s.ts r.vt) h.os (fun k k1 k2=>c4 k ?_ (fun e=>k1 (iK.2 e))) (fun k hk=>?_) c2 (by simp[wB,mD]) c3
  ·intro e;subst e;exact k2 (by simp[wB,mD])
  ·have:k=n:=by simpa[wB,mD]using hk
   subst this;exact .inr ⟨hn,hnb⟩
 have hlen:r.cells.length=11:=by simp[TR.cells,h.pl]
 have cel3:pD t2 r.b none r.cells:=o3.ok (bD r.b none r.cells) (by simp)
 obtain⟨t4,g1,g2,g3⟩:=cel3.store1 (C:=yA) h.baseB.1 (j:=7) (v:=.slice n 0 (s.ts.length+[sC l].length) (s.ts.length+[sC l].length)) z2z rfl rfl rfl (by omega)
 have es:r.cells.set 7 (.slice n 0 (s.ts.length+[sC l].length) (s.ts.length+[sC l].length))=TR.cells ⟨r.b,r.pl,r.vn,r.vc,r.vw,.slice n 0 (s.ts.length+[sC l].length) (s.ts.length+[sC l].length),r.vk,r.m1,r.m2⟩:=mR (k:=3) h.pl
 rw[es]at g2;refine⟨_,_,t2,c1,t4,g1,h.pl,?_⟩
 exact Objs.upd (A:=[]) (o:=bD r.b none r.cells) o3 (fun k k1 _=>g3 k (fun e=>k1 (by simp[bD,e]))) (fun k hk=>.inl hk) g2 (by simp[bD]) (c3.off h.baseB.2 g3)
def dM:List kC->Nat
 | []=>0
 | c::l=>vE c.when_+vE c.then_+dM l
def z2q:List zA:=[.str [],.nilslice,.nilslice,.nilslice,.nilslice,.nilslice,.nilslice,.nilslice]
theorem zwa{cl:List kC}{c:zA}{Q:bB}(hn:cl.length<=400)(hfit:∀x∈cl,x.fit)(hb:∀x∈cl,uN x=true):∀(l:List kC) (i:Nat) (t tf:Tr lA) (r:TR) (s:mE),cl.drop i=l->TW tf t r s->bI tf->oA tf 24 (cl.map kC.d) c->s.names.length+dM l<200000->s.consts.length+dM l<200000->s.ws.length+l.length<200000->s.ts.length+l.length<200000 →
  (∀tf' t' r',dA tf tf'->r'.b=r.b->r'.pl=r.pl->TW tf' t' r' ⟨(yG cA vB l s.nt).1.names,(yG cA vB l s.nt).1.consts,s.ws++(yG cA vB l s.nt).2.map (fun p=>sC p.1),s.ts++(yG cA vB l s.nt).2.map (fun p=>sC p.2),s.code⟩->Q (.tup [.agg (r'.pl++[r'.vn,r'.vc,r'.vw,r'.vt]),.int .i64 0]) t') →
  (∃nm a b d,r.pl=[.str nm,a,b,d]/\zA.one a=true/\zA.one b=true/\zA.one d=true/\pG .nilslice a=true/\pG .nilslice b=true/\pG .nilslice d=true) →
  jp 22 2 [.ptr r.b 0,c,.int .i64 (cl.length:Int),.int .i64 (i:Int),.str [],.nilslice,.nilslice,.nilslice,.nilslice,.nilslice,.nilslice,.nilslice] t Q:=by
 intro l;induction l with
 | nil=>
  intro i t tf r s hl h hg hc b1 b2 b3 b4 hQ hpl;have:=zY hl
  refine j22_2 _ _ _ _ _ _ _ _ _ _ _ _ ?_
  simp only[z3i,pA,jB];obtain⟨nm,a,b,d,epl,o1,o2,o3,f1,f2,f3⟩:=hpl
  have ld:jA yA 34 ⟨0,t⟩ (.ptr r.b 0)=some (.agg (r.pl++[r.vn,r.vc,r.vw,r.vt])):=by
   have:=h.cel.at.load (C:=yA) (j:=0) ty34 rfl rfl (by simp[TR.cells,h.pl])
   rw[yax]at this;rw[this,epl];unfold TR.cells;rw[epl];rfl
  have ln:Loose yA.base tf t 1 (s.names.map D.str) r.vn:=h.os.ok (wB yA.base 1 (s.names.map D.str) r.vn) (by simp[tsW])
  have lc:Loose yA.base tf t 6 (s.consts.map xB.d) r.vc:=h.os.ok (wB yA.base 6 (s.consts.map xB.d) r.vc) (by simp[tsW])
  have lw:Loose yA.base tf t 1 s.ws r.vw:=h.os.ok (wB yA.base 1 s.ws r.vw) (by simp[tsW])
  have lt:Loose yA.base tf t 1 s.ts r.vt:=h.os.ok (wB yA.base 1 s.ts r.vt) (by simp[tsW])
  have r1:=ln.read h.os.tle
  have r2:=lc.read h.os.tle
  have r3:=lw.read h.os.tle
  have r4:=lt.read h.os.tle
  rw[if_neg (by omega),kI,xA,bN,xA,ld,xA]
  have hq:=hQ tf t r (dA.refl _) rfl rfl (by
   simp only[yG,List.map_nil,ybe];exact h)
  rw[epl]at hq ⊢
  have hz:mG [(.str []),.nilslice,.nilslice,.nilslice,.nilslice,.nilslice,.nilslice,.nilslice] (.agg ([.str nm,a,b,d]++[r.vn,r.vc,r.vw,r.vt]))=some (cellsOf [.str nm,a,b,d,r.vn,r.vc,r.vw,r.vt]):=cK (by
   show(true&&(pG .nilslice a&&(pG .nilslice b&&(pG .nilslice d&&(pG .nilslice r.vn&&(pG .nilslice r.vc&&(pG .nilslice r.vw&&(pG .nilslice r.vt&&true))))))))=true
   rw[f1,f2,f3,eH r1,eH r2,eH r3,eH r4];rfl)
  rw[hz,xA];simp only[cellsOf,bF,kE,yaa,yab];have hone:iB zA.one [.str nm,a,b,d,r.vn,r.vc,r.vw,r.vt]=true:=by
   rw[iF];simp only[ybh,ybl,o1,o2,o3,r1.one,r2.one,r3.one,r4.one];rfl
  exact aA hone hq
 | cons x l ih=>
  intro i t tf r s hl h hg hc b1 b2 b3 b4 hQ hpl;obtain⟨h1,h2,h3⟩:=yY hl
  have hx:=ybw h1
  have hxf:=hfit x hx
  have hxb:=hb x hx
  unfold uN at hxb;rw[yac]at hxb;have p1:=bV hxb.1
  have p2:=bV hxb.2
  unfold dM at b1 b2;rw[yao]at b3 b4;obtain⟨q,off,u1,u2,u3,w1,w2,w3,g1,g2,g3,g4,g5,g6⟩:=tY hc h1
  have g2:jA yA 52 ⟨0,t⟩ (.ptr q off)=some (.agg (gL x u1 u2 u3 w1 w2 w3)):=sP (H:=⟨0,tf⟩) (fun _ _ k=>h.os.tle _ _ k) g2
  refine j22_2 _ _ _ _ _ _ _ _ _ _ _ _ ?_
  simp only[z3i,pA,jB];unfold zbg at g3;rw[if_pos (by omega),g1,xA,g2,xA,g3,xA]
  unfold gL at g6;simp only[gL,cellsOf,qF,bF,aE,kE,yaa,yab];refine aA g6 ?_
  rw[kI,xA,bN,xA,z2i,xA,h.ldW,xA,q52];have s1:=kM (key:=cA) (valid:=vB) x.when_ s.nt 0
  refine oZ (x:=x.when_) h hxf.2.2.2.2.2.1 hg g4 p1 (by omega) (by omega) fun tf1 t1 r1 v1 k1 k2 k3 k4 k5=>?_
  have kw:r1.vw=r.vw:=congrArg (fun z=>z.2.1) k3
  have kt:r1.vt=r.vt:=congrArg (fun z=>z.2.2) k3
  have kp:r1.pl=r.pl:=congrArg (fun z=>z.1) k3
  have n1:(lB cA vB x.when_ s.nt 0).1.names.length<=s.names.length+vE x.when_:=s1.2.1
  have n2:(lB cA vB x.when_ s.nt 0).1.consts.length<=s.consts.length+vE x.when_:=s1.2.2
  rw[<- k2,k4.ldW,xA,kw,if_pos (by rw[<- kw];exact(k4.os.ok (wB yA.base 1 s.ws r1.vw) (by simp[tsW,mE.put]):Loose yA.base tf1 t1 1 s.ws r1.vw).same)]
  intro m1 hm1 hm1b;obtain⟨t2,a1,a2,a3,a4⟩:=zf1 (t:=t1) k5 hm1
  have j2:=k4.junk hm1 a4
  rw[a1,xA,j2.ldW,xA,kw,if_pos (by rw[<- kw];exact(k4.os.ok (wB yA.base 1 s.ws r1.vw) (by simp[tsW,mE.put]):Loose yA.base tf1 t1 1 s.ws r1.vw).same)]
  intro m2 hm2 hm2b;obtain⟨vw2,kk,t3,c1,t4,c2,c3⟩:=pushW j2 k5 a2 (by show s.ws.length<_;omega) hm2 hm2b
  rw[kw]at c1;rw[c1,xA];simp only[kI,xA,bN,z2i,zvr];intro m3 _ _;rw[c2,xA];simp only[kI,xA,bN,zvr];have ld7:=c3.ldT
  rw[ld7,xA,q52];have s2:=kM (key:=cA) (valid:=vB) x.then_ (lB cA vB x.when_ s.nt 0).1 0
  refine oZ (r:=⟨r1.b,r1.pl,r1.vn,r1.vc,vw2,r1.vt,r1.vk,r1.m1,r1.m2⟩) (x:=x.then_) c3 hxf.2.2.2.2.2.2 (hg.mono k1) (RD.mono k1 _ _ g5) p2 (by show(lB cA vB x.when_ s.nt 0).1.names.length+_<_;omega) (by show(lB cA vB x.when_ s.nt 0).1.consts.length+_<_;omega) fun tf5 t5 r5 v5 d1 d2 d3 d4 d5=>?_
  have dw:r5.vw=vw2:=congrArg (fun z=>z.2.1) d3
  have dt:r5.vt=r1.vt:=congrArg (fun z=>z.2.2) d3
  have dp:r5.pl=r1.pl:=congrArg (fun z=>z.1) d3
  have d2:r5.b=r1.b:=d2
  have n3:(lB cA vB x.then_ (lB cA vB x.when_ s.nt 0).1 0).1.names.length<=(lB cA vB x.when_ s.nt 0).1.names.length+vE x.then_:=s2.2.1
  have n4:(lB cA vB x.then_ (lB cA vB x.when_ s.nt 0).1 0).1.consts.length<=(lB cA vB x.when_ s.nt 0).1.consts.length+vE x.then_:=s2.2.2
  have sameT:same 10 r5.vt r5.vt=true:=(d4.os.ok (wB yA.base 1 s.ts r5.vt) (by simp[tsW,mE.put]):Loose yA.base tf5 t5 1 s.ts r5.vt).same
  rw[<- d2,d4.ldT,xA,<- dt,if_pos sameT];intro m5 hm5 hm5b;obtain⟨t6,e1,e2,e3,e4⟩:=zf1 (t:=t5) d5 hm5
  have j6:=d4.junk hm5 e4
  rw[e1,xA,j6.ldT,xA,if_pos sameT];intro m6 hm6 hm6b;obtain⟨vt2,kk2,t7,f1,t8,f2,f3⟩:=pushT j6 d5 e2 (by show s.ts.length<_;omega) hm6 hm6b
  rw[f1,xA];simp only[kI,xA,bN,zvr];intro m7 _ _;rw[f2,xA,zC (by omega) (by omega),show(i:Int)+1=((i+1:Nat):Int) by omega]
  refine ih (i+1) t8 tf5 ⟨r5.b,r5.pl,r5.vn,r5.vc,r5.vw,vt2,r5.vk,r5.m1,r5.m2⟩ _ h2 f3 ((hg.mono k1).mono d1) (hc.mono (k1.trans d1)) (by show(lB cA vB x.then_ (lB cA vB x.when_ s.nt 0).1 0).1.names.length+_<_;omega) (by show(lB cA vB x.then_ (lB cA vB x.when_ s.nt 0).1 0).1.consts.length+_<_;omega) (by show(s.ws++[_]).length+_<_;simp;omega) (by show(s.ts++[_]).length+_<_;simp;omega) (fun tf9 t9 r9 z1 z2 z3 z4=>?_) (by
    obtain⟨nm,a,b,d,epl,rest⟩:=hpl
    exact⟨nm,a,b,d,(dp.trans kp).trans epl,rest⟩)
  refine hQ tf9 t9 r9 (k1.trans (d1.trans z1)) (z2.trans (d2.trans k2)) (z3.trans (dp.trans kp)) ?_
  have e:(⟨(yG cA vB (x::l) s.nt).1.names,(yG cA vB (x::l) s.nt).1.consts,s.ws++(yG cA vB (x::l) s.nt).2.map (fun p=>sC p.1),s.ts++(yG cA vB (x::l) s.nt).2.map (fun p=>sC p.2),s.code⟩:mE) =
    ⟨(yG cA vB l (lB cA vB x.then_ (lB cA vB x.when_ s.nt 0).1 0).1).1.names,(yG cA vB l (lB cA vB x.then_ (lB cA vB x.when_ s.nt 0).1 0).1).1.consts,s.ws++[sC (lB cA vB x.when_ s.nt 0).2]++(yG cA vB l (lB cA vB x.then_ (lB cA vB x.when_ s.nt 0).1 0).1).2.map (fun p=>sC p.1),s.ts++[sC (lB cA vB x.then_ (lB cA vB x.when_ s.nt 0).1 0).2]++(yG cA vB l (lB cA vB x.then_ (lB cA vB x.when_ s.nt 0).1 0).1).2.map (fun p=>sC p.2),s.code⟩:=by
   simp[yG]
  rw[e];have z4:=z4
  simp only[mE.put,mE.nt,ybe]at z4;exact z4
end Go.Proofs
namespace Go.Proofs
open Go Go.Am
variable [aC]
variable {t tf:Tr lA}
theorem zb8:∀(l:List kC),(∀x∈l,uN x=true)->dM l<=400*l.length
 | [],_=>by simp[dM]
 | x::l,h=>by
  have hx:=h x (by simp)
  unfold uN at hx;rw[yac]at hx;have p1:=bV hx.1
  have p2:=bV hx.2
  have:=zb8 l fun y hy=>h y (by simp[hy])
  unfold dM;rw[yao];omega
theorem zyw(h:dA tf t):Objs yA.base tf t []:=⟨h,by simp,fun o ho=>(by cases ho),fun k hk=>(by simp at hk)⟩
def nG(p:yH):Nt × List (List XIns × List XIns):=yG cA vB p.clauses ⟨[],[]⟩
end Go.Proofs
namespace Go.Am
def z57(i:XIns):Prop:=i.op<255/\0<=vH i/\vH i<=3
section
variable {key:xB->List Nat}{valid:xB->Bool}
def qN(f:fG):Prop:=∀s p,∀i∈(f s p).2,z57 i
theorem z48{op n:Nat}{name:List Nat}{v:xB}{s:Nt}(h:mH valid op v n=true)(h15:op≠15)(h16:op≠16)(h18:op≠18)(hop:op<256):z57 (pE key op name v n s).2:=by
 obtain⟨h1,h2⟩:=ztj (key:=key) (name:=name) (s:=s) h h15 h16 h18 hop
 refine⟨by omega,by omega,?_⟩
 rw[h1];unfold mH at h;simp only[yac,decide_eq_true_eq]at h;have h3:=h.2
 have h4:=h.1.2
 unfold gF at h3 h4;repeat' split at h3
 all_goals simp_all
 all_goals omega
theorem ziq{f g:fG}{skip:Nat}{truth:Int}(hf:qN f)(hg:qN g)(hs:skip=10\/skip=11):qN (iJ key f g skip truth):=by
 intro s p i hi;simp only[iJ,List.mem_append,yat,List.not_mem_nil,or_false]at hi;rcases hi with h | rfl | h | rfl | rfl | rfl
 ·exact hf _ _ i h
 ·rcases hs with e | e<;>subst e<;>exact⟨by simp,by simp[vH],by simp[vH]⟩
 ·exact hg _ _ i h
 ·exact⟨by simp,by simp[vH],by simp[vH]⟩
 ·exact⟨by simp,by simp[vH],by simp[vH]⟩
 ·exact⟨by simp,by simp[vH],by simp[vH]⟩
theorem z49{f g h:fG}(hf:qN f)(hg:qN g)(hh:qN h):qN (ifT f g h):=by
 intro s p i hi;simp only[ifT,List.mem_append,yat]at hi;rcases hi with h' | rfl | h' | rfl | h'
 ·exact hf _ _ i h'
 ·exact⟨by simp,by simp[vH],by simp[vH]⟩
 ·exact hg _ _ i h'
 ·exact⟨by simp,by simp[vH],by simp[vH]⟩
 ·exact hh _ _ i h'
theorem zn0:∀ {fs:List fG},(∀f∈fs,qN f)->qN (rD fs)
 | [],_=>by intro s p i hi;simp[rD]at hi
 | f::l,h=>by
  intro s p i hi;simp only[rD,List.mem_append]at hi;rcases hi with h' | h'
  ·exact h f (by simp) _ _ i h'
  ·exact zn0 (fun g hg=>h g (by simp[hg])) _ _ i h'
theorem zp1{op:Nat}{name:List Nat}{v:xB}{fs:List fG}(hop:op<256)(hf:∀f∈fs,qN f):qN (mJ key valid op name v fs):=by
 intro s p i hi;unfold mJ at hi;by_cases h0:mH valid op v fs.length=false
 ·simp only[if_pos h0,yce]at hi
  subst hi;exact⟨by simp,by simp[vH],by simp[vH]⟩
 ·simp only[if_neg h0]at hi
  have h0:mH valid op v fs.length=true:=by simpa using h0
  by_cases h15:op=15
  ·simp only[if_pos h15]at hi
   match fs,hf,hi with
   | f::g::r,hf,hi=>exact ziq (hf f (by simp)) (hf g (by simp)) (.inl rfl) s p i hi
   | [],_,hi=>cases hi
   | [_],_,hi=>cases hi
  ·simp only[if_neg h15]at hi
   by_cases h16:op=16
   ·simp only[if_pos h16]at hi
    match fs,hf,hi with
    | f::g::r,hf,hi=>exact ziq (hf f (by simp)) (hf g (by simp)) (.inr rfl) s p i hi
    | [],_,hi=>cases hi
    | [_],_,hi=>cases hi
   ·simp only[if_neg h16]at hi
    by_cases h18:op=18
    ·simp only[if_pos h18]at hi
     match fs,hf,hi with
     | f::g::k::r,hf,hi=>exact z49 (hf f (by simp)) (hf g (by simp)) (hf k (by simp)) s p i hi
     | [],_,hi=>cases hi
     | [_],_,hi=>cases hi
     | [_,_],_,hi=>cases hi
    ·simp only[if_neg h18,List.mem_append,yce]at hi
     rcases hi with h | h
     ·exact zn0 hf _ _ i h
     ·subst h;exact z48 h0 h15 h16 h18 hop
mutual
theorem zl6:∀(x:qA),x.fit->qN (lB key valid x)
 | .mk op name v args,h=>by
  unfold qA.fit at h;unfold lB;exact zp1 h.1 (zl8 args h.2.2.2.2.2)
theorem zl8:∀(l:List qA),qA.fits l->∀f∈uD key valid l,qN f
 | [],_,f,hf=>by unfold uD at hf;cases hf
 | x::l,h,f,hf=>by
  unfold qA.fits at h;unfold uD at hf;rcases yat.1 hf with rfl | hf
  ·exact zl6 x h.1
  ·exact zl8 l h.2 f hf
end
end
end Go.Am
namespace Go.Proofs
open Go Go.Am
variable [aC]
variable {t tf:Tr lA}
theorem zcn{l:List XIns}{v:zA}(hv:oA t 3 (l.map XIns.d) v){i:Nat}{x:XIns}(hx:l[i]?=some x) :
  ∃b off,yB yA 37 v (.int .i64 (i:Int))=some (.ptr b off)/\jA yA 54 ⟨0,t⟩ (.ptr b off)=some (.agg x.cells)/\cB yA 54 0 (.ptr b off)=some (.ptr b (off+0))/\cB yA 54 1 (.ptr b off)=some (.ptr b (off+1))/\cB yA 54 2 (.ptr b off)=some (.ptr b (off+2)) ∧
   jA yA 5 ⟨0,t⟩ (.ptr b (off+0))=some (.int .u8 x.op)/\jA yA 3 ⟨0,t⟩ (.ptr b (off+1))=some (.int .i64 x.a)/\jA yA 3 ⟨0,t⟩ (.ptr b (off+2))=some (.int .i64 x.b):=by
 obtain⟨b,off,cs,g1,g2,g3,_,g5⟩:=nF.at sl37 (by simp) hv (i:=i) (d:=x.d) (by simp[hx])
 rw[zmz]at g5;subst g5;exact⟨b,off,g1,g2,by kernel_rfl,by kernel_rfl,by kernel_rfl,g3.load1 ty5 rfl rfl,g3.load1 ty3 rfl rfl,g3.load1 ty3 rfl rfl⟩
theorem zxe(n:Int):vA .u8 n=n%256:=by
 rw[bJ];simp only[IntKind.wrap,IntKind.bits,IntKind.signed];simp
end Go.Proofs
namespace Go.Proofs
open Go Go.Am
variable [aC]
variable {t tf:Tr lA}
def z56(c:List XIns):Prop:=c.length<=800/\(∀i∈c,z57 i)/\∀bit,Am.Way c bit 0 0 c.length 1
theorem zey:∀(l:List kC) (s:Nt),(∀x∈l,x.fit)->(∀x∈l,uN x=true)->∀q∈(yG cA vB l s).2,z56 q.1/\z56 q.2
 | [],s,_,_,q,h=>by simp[yG]at h
 | x::l,s,hf,hb,q,h=>by
  have hxb:=hb x (by simp)
  unfold uN at hxb;rw[yac]at hxb;have hxf:=hf x (by simp)
  have one:∀(y:qA) (n:Nt),y.fit->rQ y=true->z56 (lB cA vB y n 0).2:=fun y n h1 h2=>by
   have:=(kM (key:=cA) (valid:=vB) y n 0).1
   have:=bV h2
   exact⟨by omega,zl6 y h1 n 0,ends h1 n⟩
  simp only[yG,yat]at h;rcases h with rfl | h
  ·exact⟨one _ _ hxf.2.2.2.2.2.1 hxb.1,one _ _ hxf.2.2.2.2.2.2 hxb.2⟩
  ·exact zey l _ (fun y hy=>hf y (by simp[hy])) (fun y hy=>hb y (by simp[hy])) q h
section
variable {bits:Nat}{k:Int}{v8:zA}{nm:List Nat}{a b c vn vc vw vt:zA}{Q:bB}
end
end Go.Proofs
namespace Go.Proofs
open Go Go.Am
variable [aC]
variable {t tf:Tr lA}
theorem zwb{l:List (List XIns)}{v:zA}(hv:oA tf 1 (l.map sC) v)(ht:dA tf t){i:Nat}{x:List XIns}(hx:l[i]?=some x) :
  ∃b off u,yB yA 32 v (.int .i64 (i:Int))=some (.ptr b off)/\jA yA 37 ⟨0,t⟩ (.ptr b off)=some u/\oA tf 3 (x.map XIns.d) u:=by
 obtain⟨b,off,cs,g1,g2,g3,_,g5⟩:=nF.at sl32 (fun _=>rfl) hv (i:=i) (d:=sC x) (by simp[hx])
 unfold sC at g5;rw[cI]at g5;obtain⟨u,rfl,hu⟩:=g5
 exact⟨b,off,u,g1,sP (H:=⟨0,tf⟩) (fun _ _ k=>ht _ _ k) g2,hu⟩
theorem z0l:zD yA F 14 [] t=some (.bool true):=zfq (g:=z3u) (by kernel_rfl) fun _=>rfl
end Go.Proofs
namespace Go.Am
open Go Go.RowKit
def zfx{α:Type}(f:Nat->Option α):Nat->Tr α
 | 0=>.leaf
 | n+1=>match f n with
  | some v=>(zfx f n).set n v
  | none=>zfx f n
theorem eP{α:Type}(f:Nat->Option α):∀(n a:Nat),(zfx f n).get a=if a<n then f a else none:=by
 intro n;induction n with
 | zero=>intro a;rw[if_neg (by omega)];exact Tr.get_leaf _
 | succ n ih=>
  intro a;unfold zfx
  cases hf:f n with
  | some v=>
   simp only[];rw[Tr.get_set,ih];by_cases h:a=n
   ·subst h;rw[if_pos rfl,if_pos (by omega),hf]
   ·rw[if_neg h]
    by_cases h2:a<n
    ·rw[if_pos h2,if_pos (by omega)]
    ·rw[if_neg h2,if_neg (by omega)]
  | none=>
   simp only[];rw[ih];by_cases h:a=n
   ·subst h;rw[if_neg (by omega),if_pos (by omega),hf]
   ·by_cases h2:a<n
    ·rw[if_pos h2,if_pos (by omega)]
    ·rw[if_neg h2,if_neg (by omega)]
def zqo (N:Nat):Value->Option zA
 | .bool b=>some (.bool b)
 | .int k n=>some (.int k n)
 | .string s=>some (.str (uE s))
 | .slice none 0 0=>some .nilslice
 | .slice (some _) 0 0=>some (.slice 0 0 0 0)
 | .slice (some ⟨b,off,none⟩) len cap=>if b<N then some (.slice (256+b) off len cap)else none
 | _=>none
def absB (N:Nat):Obj->Option lA
 | .cells cs _ _=>some (.cells (zfx (fun j=>(cs[j]?).bind (zqo N)) cs.size) cs.size none)
 | _=>none
def zI (w:World):Tr lA:=zfx (fun a=>if a<256 then(w.heap[a]?).bind (absB w.heap.size)else(w.heap[a-256]?).bind (absB w.heap.size)) (256+w.heap.size)
def muW (w:World):Mu:=⟨fun a=>if a<256 then some ⟨a,true,0,0,true⟩else if a<256+w.heap.size then some ⟨a-256,true,0,0,true⟩else none,fun _=>none⟩
section
variable {w:World}
theorem zoe{v:Value}{a:zA}(h:zqo w.heap.size v=some a):sA (muW w) a v:=by
 unfold zqo at h;split at h
 ·cases h;rw[sA]
 ·cases h;rw[sA]
 ·cases h;rw[sA];exact⟨_,rfl,rfl⟩
 ·cases h;rw[sA]
 ·cases h;rw[sA];exact .inr ⟨rfl,rfl,rfl,_,_,rfl,.inl ⟨rfl,rfl⟩⟩
 ·split at h
  ·rename_i hb
   cases h;rename_i b off len cap _;rw[sA];refine .inl ⟨⟨b,true,0,0,true⟩,cap,?_,rfl,yal _,fun _=>rfl,fun h=>by cases h⟩
   show(if 256+b<256 then some (⟨256+b,true,0,0,true⟩:BI)else if 256+b<256+w.heap.size then some ⟨256+b-256,true,0,0,true⟩else none)=_
   rw[if_neg (by omega),if_pos (by omega),show 256+b-256=b by omega]
  ·cases h
 ·cases h
theorem zog{o:Obj}{x:lA}(h:absB w.heap.size o=some x)(b:Nat):kH (muW w) ⟨b,true,0,0,true⟩ x o/\x.asLoop=none/\x.asDeferred=none:=by
 cases o<;>first | (cases h;done) | skip
 rename_i cs elem fr
 cases h;refine⟨⟨cs,elem,fr,rfl,yal _,.inl rfl,fun j v hv=>?_,rfl⟩,rfl,rfl⟩
 rw[eP]at hv;split at hv
 case isFalse=>cases hv
 rename_i hj
 cases hc:cs[j]? with
 | none=>rw[hc]at hv;cases hv
 | some u=>
  rw[hc]at hv;exact⟨hj,u,rfl,zoe hv⟩
theorem hrelW:pB (256+w.heap.size) w.heap.size (muW w) ⟨256+w.heap.size,zI w⟩ w:=by
 have hget:∀a x,(zI w).get a=some x->∃b o,b<w.heap.size/\w.heap[b]?=some o/\absB w.heap.size o=some x/\a<256+w.heap.size/\b=(if a<256 then a else a-256):=by
  intro a x hx;unfold zI at hx;rw[eP]at hx;split at hx
  case isFalse=>cases hx
  rename_i hlt;split at hx
  ·rename_i h
   cases ho:w.heap[a]? with
   | none=>rw[ho]at hx;cases hx
   | some o=>rw[ho]at hx;exact⟨a,o,(yaf.1 ho).1,ho,hx,hlt,by rw[if_pos h]⟩
  ·rename_i h
   cases ho:w.heap[a-256]? with
   | none=>rw[ho]at hx;cases hx
   | some o=>rw[ho]at hx;exact⟨a-256,o,(yaf.1 ho).1,ho,hx,hlt,by rw[if_neg h]⟩
 have hmu:∀a,(muW w) a=if a<256 then some ⟨a,true,0,0,true⟩else if a<256+w.heap.size then some ⟨a-256,true,0,0,true⟩else none:=fun _=>rfl
 have big:∀a,256+w.heap.size<=a->(muW w) a=none:=fun a h=>by rw[hmu,if_neg (by omega),if_neg (by omega)]
 have same:∀a x i,(zI w).get a=some x->(muW w) a=some i->∃o,w.heap[i.b]?=some o/\i.b<w.heap.size/\absB w.heap.size o=some x/\i=⟨i.b,true,0,0,true⟩:=by
  intro a x i hx hi;obtain⟨b,o,h1,h2,h3,h4,h5⟩:=hget a x hx
  rw[hmu]at hi;split at hi
  ·rename_i h
   cases hi;rw[if_pos h]at h5;subst h5;exact⟨o,h2,h1,h3,rfl⟩
  ·rename_i h
   rw[if_neg h]at h5;have hi:=ybj hi
   have hb:i.b=b:=by rw[<- hi,h5]
   refine⟨o,by rw[hb];exact h2,by rw[hb];exact h1,h3,by rw[<- hi]⟩
 refine⟨by omega,fun g hg=>by rw[hmu,if_pos hg],fun a x i _ hx hi=>?_,yal _,yal _,fun a ha=>⟨big a ha,?_⟩,fun a x i hx hi=>?_,fun a i ha hi=>?_,fun a b x y i j hx _ hi _ ha _ _=>?_,fun a x t h=>by cases h⟩
 ·obtain⟨o,_,h2,h3,_⟩:=same a x i hx hi
  exact⟨h2,(zog h3 0).2⟩
 ·show(zI w).get a=none
  unfold zI;have ha:256+w.heap.size<=a:=ha
  rw[eP,if_neg (by omega)]
 ·obtain⟨o,h1,_,h3,h4⟩:=same a x i hx hi
  exact⟨o,h1,by rw[h4];exact(zog h3 _).1⟩
 ·rw[big a ha]at hi;cases hi
 ·rw[big a ha]at hi;cases hi
end
end Go.Am
namespace Go.Am
open Go Go.RowKit
def wG(P:Program):Nat->TypeId->D->Prop
 | 0,_,_=>False
 | f+1,t,x=>match P.underlying t with
  | some .bool=>∃b,x=.bool b
  | some (.int k)=>∃n,x=.int k n/\(Lit.int k n).wf=true
  | some .string=>∃l:List Nat,x=.str l/\l.length<=reachBytes/\∀c∈l,c<256
  | some (.slice e)=>∃l:List D,x=.sl (P.cellsOf e) l/\l.length*P.bytesOf e<=reachBytes/\∀y∈l,wG P f e y
  | some (.struct fs)=>∃l:List D,x=.st l/\bC (fun fd y=>wG P f fd.type y) fs.toList l
  | _=>False
def zow(P:Program):Nat->List Field->Nat->Bool
 | off,[],n=>off == n
 | off,f::fs,n=>f.offset == off&&zow P (off+P.cellsOf f.type) fs n
structure Plain (P:Program) (S:TypeId->Prop):Prop where
 part:∀t,S t->match P.underlying t with
  | some .bool=>True
  | some (.int _)=>True
  | some .string=>True
  | some (.slice e)=>S e/\0<P.cellsOf e
  | some (.struct fs)=>(∀f∈fs.toList,S f.type)/\zow P 0 fs.toList (P.cellsOf t)=true
  | _=>False
def av (N:Nat)(v:Value):zA:=(zqo N v).getD .nilptr
def Has (N:Nat)(cs:List Value):Prop:=∀v∈cs,zqo N v=some (av N v)
theorem zc2{α:Type}{Q:Nat->α->Prop}:∀(n:Nat),(∀i,i<n->∃p,Q i p)->∃l:List α,l.length=n/\∀i p,l[i]?=some p->Q i p:=by
 intro n;induction n with
 | zero=>intro _;exact⟨[],rfl,fun i p h=>by simp at h⟩
 | succ n ih=>
  intro h;obtain⟨l,hl,hq⟩:=ih fun i hi=>h i (by omega)
  obtain⟨p,hp⟩:=h n (by omega)
  refine⟨l++[p],by simp[hl],fun i q hq'=>?_⟩
  by_cases hi:i<n
  ·rw[ybp (by omega)]at hq';exact hq i q hq'
  ·rw[yaq (by omega)]at hq'
   have:i-l.length=0:=by
    cases hz:i-l.length with
    | zero=>rfl
    | succ m=>rw[hz]at hq';simp at hq'
   rw[this]at hq'
   simp at hq'
   subst hq'
   have:i=n:=by omega
   subst this;exact hp
section
variable {H:Type}{enc:TypeId × Value->H}{P:Program}{w:World}
theorem rZ{p:Nat->Bool}:∀ {ts:List TypeId} {ds:List (DataW H)},(DataW.weightsEach P ts ds).all p=true->∀ {i:Nat} {t:TypeId} {d:DataW H},ts[i]?=some t->ds[i]?=some d->(DataW.weights P t d).all p=true
 | [],_,_,i,_,_,h1,_=>by simp at h1
 | _::_,[],_,i,_,_,_,h2=>by simp at h2
 | t::ts,d::ds,h,i,u,e,h1,h2=>by
  rw[DataW.weightsEach,ycj,yac]at h
  cases i with
  | zero=>simp at h1 h2;subst h1 h2;exact h.1
  | succ i=>exact rZ h.2 (by simpa using h1) (by simpa using h2)
theorem qZ{p:Nat->Bool}{e:TypeId}:∀ {ds:List (DataW H)},(DataW.weightsAll P e ds).all p=true->∀ {i:Nat} {d:DataW H},ds[i]?=some d->(DataW.weights P e d).all p=true
 | [],_,i,_,h2=>by simp at h2
 | d::ds,h,i,x,h2=>by
  rw[DataW.weightsAll,ycj,yac]at h
  cases i with
  | zero=>simp at h2;subst h2;exact h.1
  | succ i=>exact qZ h.2 (by simpa using h2)
theorem zoa{a:Addr}{n:Nat}{cs:List Value}(h:w.cells? 0 a n=some cs):cs.length=n/\(0<n->a.spot=none/\∃c t fr,w.heap[a.block]?=some (.cells c t fr)/\∀j,j<n->c[a.off+j]?=cs[j]?):=by
 unfold World.cells? at h
 rw[if_pos (Nat.zero_le _)]at h
 have hl:=mapM_some_length h
 have hg:=mapM_some_get h
 simp only[List.length_range]at hl;refine⟨hl,fun hn=>?_⟩
 have key:∀j,j<n->w.cell? (a.add j)=cs[j]?:=fun j hj=>hg j j (by simp[hj])
 have h0:=key 0 hn
 have hs0:∃v,cs[0]?=some v:=⟨cs[0]'(by omega),yae (by omega)⟩
 obtain⟨v0,hv0⟩:=hs0
 rw[hv0]at h0;have e0:a.add 0=a:=by simp[Addr.add]
 rw[e0]at h0;unfold World.cell? at h0
 cases hb:w.heap[a.block]? with
 | none=>rw[hb]at h0;cases h0
 | some o=>
  rw[hb]at h0
  cases o with
  | cells c t fr=>
   simp only[]at h0;split at h0
   ·cases h0
   ·rename_i hsp
    refine⟨by simpa using hsp,c,t,fr,rfl,fun j hj=>?_⟩
    have:=key j hj
    unfold World.cell? at this
    by_cases hj0:j=0
    ·subst hj0;rw[hv0,ybu];exact h0
    ·have eb:(a.add j).block=a.block:=by unfold Addr.add;rw[if_neg hj0]
     have eo:(a.add j).off=a.off+j:=by unfold Addr.add;rw[if_neg hj0]
     have es:(a.add j).spot=none:=by unfold Addr.add;rw[if_neg hj0]
     rw[eb,hb]at this;simp only[es,eo,Option.isSome_none,yar,if_false]at this;exact this
  | _=>cases h0
theorem zof{b:Nat}{c:Array Value}{t:TypeId}{fr:Nat × Nat}(h:w.heap[b]?=some (.cells c t fr)) :
  (zI w).get (256+b)=some (.cells (zfx (fun j=>(c[j]?).bind (zqo w.heap.size)) c.size) c.size none):=by
 have hb:=(yaf.1 h).1
 unfold zI;rw[eP,if_pos (by omega),if_neg (by omega),show 256+b-256=b by omega,h]
 rfl
theorem at_old{b off n:Nat}{c:Array Value}{t:TypeId}{fr:Nat × Nat}{cs:List Value}(h:w.heap[b]?=some (.cells c t fr))(hl:cs.length=n)(hc:∀j,j<n->c[off+j]?=cs[j]?)(hs:Has w.heap.size cs) :
  At (zI w) (256+b) off (cs.map (av w.heap.size)):=by
 refine⟨_,_,_,zof h,fun j a ha=>?_⟩
 rw[yav]at ha
 cases hj:cs[j]? with
 | none=>rw[hj]at ha;cases ha
 | some v=>
  rw[hj]at ha;have hlt:j<n:=by rw[<- hl];exact(yad.1 hj).1
  have h1:=hc j hlt
  rw[hj]at h1;have hsz:off+j<c.size:=(yaf.1 h1).1
  rw[eP,if_pos hsz,h1];have ha:av w.heap.size v=a:=by simpa using ha
  rw[<- ha];exact hs v (ybw hj)
theorem zbs{cs:List Value}:∀ {fs:List Field} {off:Nat},zow P off fs cs.length=true->(fs.map fun f=>(cs.drop f.offset).take (P.cellsOf f.type)).flatten=cs.drop off
 | [],off,h=>by simp[zow]at h;subst h;simp
 | f::fs,off,h=>by
  rw[zow,yac]at h;obtain⟨h1,h2⟩:=h
  have h1:f.offset=off:=by simpa using h1
  rw[ybn,List.flatten_cons,zbs h2,h1,<- List.drop_drop,List.take_append_drop]
theorem zw7{α β:Type}{R:α->β->Prop}:∀ {l:List α} {m:List β},m.length=l.length->(∀(i:Nat) a b,l[i]?=some a->m[i]?=some b->R a b)->bC R l m
 | [],[],_,_=>.nil
 | [],_::_,h,_=>by simp at h
 | _::_,[],h,_=>by simp at h
 | a::l,b::m,h,k=>.cons (k 0 a b (by simp) (by simp)) (zw7 (by simpa using h) fun i a b h1 h2=>k (i+1) a b (by simpa using h1) (by simpa using h2))
theorem z3o{S:TypeId->Prop}(hP:Plain P S)(h0:∃c n lo,(zI w).get 0=some (.cells c n lo)) :
  ∀(fuel:Nat) (t:TypeId) (cs:List Value) (x:DataW H × List MemPlace),S t->DataW.trod enc P w 0 (fun _=>true) true fuel t cs=some x->(DataW.weights P t x.1).all (· <= reachBytes)=true →
   Has w.heap.size cs/\∃d,RD (zI w) d (cs.map (av w.heap.size))/\wG P fuel t d:=by
 intro fuel;induction fuel with
 | zero=>intro t cs x _ h;simp[DataW.trod]at h
 | succ n ih=>
  intro t cs x hS h hw;have hp:=hP.part t hS
  have one:∀ {v:Value} {a:zA},zqo w.heap.size v=some a->Has w.heap.size [v]/\av w.heap.size v=a:=by
   intro v a hv;have:av w.heap.size v=a:=by unfold av;rw[hv];rfl
   refine⟨fun u hu=>?_,this⟩
   simp at hu;subst hu;rw[hv,this]
  cases hu:P.underlying t with
  | none=>rw[hu]at hp;exact hp.elim
  | some dt=>
  cases dt with
  | bool=>
   obtain⟨b,rfl,rfl⟩:=DataW.trod_bool hu h
   obtain⟨h1,h2⟩:=one (v:=.bool b) (a:=.bool b) rfl
   exact⟨h1,.bool b,by rw[cP];simp[h2],by unfold wG;rw[hu];exact⟨b,rfl⟩⟩
  | int k=>
   obtain⟨m,rfl,rfl,hwf⟩:=DataW.trod_int hu h
   obtain⟨h1,h2⟩:=one (v:=.int k m) (a:=.int k m) rfl
   exact⟨h1,.int k m,by rw[bK];simp[h2],by unfold wG;rw[hu];exact⟨m,rfl,hwf⟩⟩
  | string=>
   obtain⟨s,rfl,rfl,_⟩:=DataW.trod_string hu h
   obtain⟨h1,h2⟩:=one (v:=.string s) (a:=.str (uE s)) rfl
   refine⟨h1,.str (uE s),by rw[rN];simp[h2],?_⟩
   unfold wG;rw[hu];simp only[DataW.weights,ybh,ybl,Bool.and_true,decide_eq_true_eq]at hw;refine⟨_,rfl,by unfold uE;simpa using hw,fun c hc=>?_⟩
   unfold uE at hc;simp only[List.mem_map]at hc;obtain⟨u,_,rfl⟩:=hc
   exact UInt8.toNat_lt u
  | slice e=>
   rw[hu]at hp;obtain⟨hSe,hpos⟩:=hp
   rcases DataW.trod_slice hu h with⟨rfl,rfl⟩ | ⟨a,len,cap,oG,rest,m,hm,rfl,rfl,_,hlc,_,hel,hE,hR,_⟩
   ·obtain⟨h1,h2⟩:=one (v:=.slice none 0 0) (a:=.nilslice) rfl
    refine⟨h1,.sl (P.cellsOf e) [],by rw[cI];exact⟨_,by simp[h2],[],.inl ⟨rfl,rfl⟩,by rw[fC]⟩,?_⟩
    unfold wG;rw[hu];exact⟨[],rfl,by simp,fun y hy=>by simp at hy⟩
   ·obtain rfl:n=m:=by omega
    simp only[DataW.weights,hu,ybh,yac,ycj,decide_eq_true_eq,yag]at hw;obtain⟨hsz,hwe,hwr⟩:=hw
    by_cases hcap:cap=0
    ·subst hcap
     obtain rfl:len=0:=by omega
     obtain⟨h1,h2⟩:=one (v:=.slice (some a) 0 0) (a:=.slice 0 0 0 0) (by cases a;rfl)
     refine⟨h1,.sl (P.cellsOf e) [],?_,?_⟩
     ·rw[cI,ybn,List.map_nil,h2]
      refine⟨_,rfl,[],.inr ⟨0,0,0,rfl,yal _,?_,fun i cs hi=>by simp at hi⟩,by rw[fC]⟩
      obtain⟨c,k,lo,hc⟩:=h0
      have:=hc
      unfold zI at this;rw[eP]at this;split at this
      case isFalse=>cases this
      rw[if_pos (by omega)]at this
      cases ho:w.heap[0]? with
      | none=>rw[ho]at this;cases this
      | some o=>
       rw[ho]at this
       cases o with
       | cells c' t' fr'=>
        simp only[Option.bind_some,absB]at this
        cases this
        exact⟨_,_,_,hc,.inl rfl⟩
       | _=>cases this
     ·unfold wG
      rw[hu];exact⟨[],rfl,by simp,fun y hy=>by simp at hy⟩
    ·have hr:=(hR rfl).1
     have hRr:=(hR rfl).2
     have hel1:∀i,i<len->∃p:List Value × D,w.cells? 0 (a.add (i*P.cellsOf e)) (P.cellsOf e)=some p.1/\Has w.heap.size p.1/\RD (zI w) p.2 (p.1.map (av w.heap.size))/\wG P n e p.2:=by
      intro i hi;have:=hE i hi
      obtain⟨y,hy⟩:∃y,oG[i]?=some y:=⟨oG[i]'(by omega),yae (by omega)⟩
      rw[hy]at this;simp only[Option.bind_eq_some_iff]at this;obtain⟨c1,hc1,hy1⟩:=this
      obtain⟨g1,d,g2,g3⟩:=ih e c1 y hSe hy1 (qZ hwe (i:=i) (by simp[hy]))
      exact⟨(c1,d),hc1,g1,g2,g3⟩
     obtain⟨l,hl,hq⟩:=zc2 len hel1
     have hfirst:∃c1,w.cells? 0 a (P.cellsOf e)=some c1:=by
      by_cases hlen:len=0
      ·have:=hRr 0 (by omega)
       obtain⟨y,hy⟩:∃y,rest[0]?=some y:=⟨rest[0]'(by omega),yae (by omega)⟩
       rw[hy]at this;simp only[Option.bind_eq_some_iff]at this;obtain⟨c1,hc1,_⟩:=this
       exact⟨c1,by simpa[hlen,Addr.add]using hc1⟩
      ·obtain⟨p,hp,_⟩:=hel1 0 (by omega)
       exact⟨p.1,by simpa[Addr.add]using hp⟩
     obtain⟨c1,hc1⟩:=hfirst
     obtain⟨hspot,c,ct,fr,hblk,_⟩:=(zoa hc1).2 hpos
     have hb:a.block<w.heap.size:=(yaf.1 hblk).1
     have hav:zqo w.heap.size (.slice (some a) len cap)=some (.slice (256+a.block) a.off len cap):=by
      obtain⟨bb,oo,ss⟩:=a
      simp only at hspot hb
      subst hspot
      cases cap with
      | zero=>exact absurd rfl hcap
      | succ cap=>unfold zqo;simp only[];rw[if_pos hb]
     obtain⟨h1,h2⟩:=one hav
     refine⟨h1,.sl (P.cellsOf e) (l.map (·.2)),?_,?_⟩
     ·rw[cI]
      refine⟨_,by rw[ybn,List.map_nil,h2],l.map (fun p=>p.1.map (av w.heap.size)),.inr ⟨256+a.block,a.off,cap,by rw[yag,hl],by rw[yag,hl];exact hlc,⟨_,_,_,zof hblk,.inl rfl⟩,fun i cs hi=>?_⟩,?_⟩
      ·rw[yav]at hi
       cases hli:l[i]? with
       | none=>rw[hli]at hi;cases hi
       | some p=>
        rw[hli]at hi;obtain rfl:p.1.map (av w.heap.size)=cs:=by simpa using hi
        obtain⟨k1,k2,k3,k4⟩:=hq i p hli
        obtain⟨m1,m2⟩:=zoa k1
        obtain⟨_,c',ct',fr',hb',hcc⟩:=m2 hpos
        have eb:(a.add (i*P.cellsOf e)).block=a.block:=by unfold Addr.add;split<;>rfl
        have eo:(a.add (i*P.cellsOf e)).off=a.off+i*P.cellsOf e:=by unfold Addr.add;split<;>simp_all
        rw[eb]at hb'
        rw[hblk]at hb'
        cases hb'
        rw[eo]at hcc;exact⟨by rw[yag];exact m1,at_old hblk m1 hcc k2⟩
      ·refine fC.mk (by simp) fun i d cs' h1 h2=>?_
       rw[yav]at h1 h2
       cases hli:l[i]? with
       | none=>rw[hli]at h1;cases h1
       | some p=>
        rw[hli]at h1 h2;obtain rfl:p.2=d:=by simpa using h1
        obtain rfl:p.1.map (av w.heap.size)=cs':=by simpa using h2
        exact(hq i p hli).2.2.1
     ·unfold wG
      rw[hu];refine⟨_,rfl,?_,fun y hy=>?_⟩
      ·rw[yag,hl,<- hel]
       exact Nat.le_trans (yaj _ (Nat.le_add_right _ _)) hsz
      ·obtain⟨p,hp,rfl⟩:=List.mem_map.1 hy
       obtain⟨i,hi⟩:=List.mem_iff_getElem?.1 hp
       exact(hq i p hi).2.2.2
  | struct fs=>
   rw[hu]at hp;obtain⟨hf,ht⟩:=hp
   obtain⟨xs,m,hm,rfl,hlen,hxs,hel⟩:=DataW.trod_struct hu h
   obtain rfl:n=m:=by omega
   simp only[DataW.weights,hu]at hw;have hel1:∀i,i<fs.toList.length->∃p:D,∀f,fs.toList[i]?=some f->Has w.heap.size ((cs.drop f.offset).take (P.cellsOf f.type))/\RD (zI w) p (((cs.drop f.offset).take (P.cellsOf f.type)).map (av w.heap.size))/\wG P n f.type p:=by
    intro i hi;have hi':i<fs.size:=by simpa using hi
    obtain⟨f,hfi⟩:∃f,fs.toList[i]?=some f:=⟨fs.toList[i],yae hi⟩
    have:=hel i f (by simpa using hfi)
    obtain⟨y,hy⟩:∃y,xs[i]?=some y:=⟨xs[i]'(by omega),yae (by omega)⟩
    rw[hy]at this;obtain⟨g1,d,g2,g3⟩:=ih f.type _ y (hf f (ybw hfi)) this (rZ hw (i:=i) (by rw[yav,hfi];rfl) (by rw[yav,hy];rfl))
    refine⟨d,fun f' hf'=>?_⟩
    rw[hfi]at hf'
    cases hf'
    exact⟨g1,g2,g3⟩
   obtain⟨l,hl,hq⟩:=zc2 fs.toList.length hel1
   have hfl:=zbs (cs:=cs) (P:=P) (fs:=fs.toList) (off:=0) (by rw[hlen];exact ht)
   rw[ybs]at hfl;refine⟨fun v hv=>?_,.st l,?_,?_⟩
   ·rw[<- hfl]at hv
    obtain⟨part,hpart,hv⟩:=List.mem_flatten.1 hv
    obtain⟨f,hfm,rfl⟩:=List.mem_map.1 hpart
    obtain⟨i,hi⟩:=List.mem_iff_getElem?.1 hfm
    have hi':i<fs.toList.length:=(yad.1 hi).1
    exact(hq i (l[i]'(by omega)) (yae (by omega)) f hi).1 v hv
   ·rw[nI]
    refine⟨fs.toList.map (fun f=>((cs.drop f.offset).take (P.cellsOf f.type)).map (av w.heap.size)),?_,fC.mk (by simp[hl]) fun i d cs' h1 h2=>?_⟩
    ·conv=>lhs;rw[<- hfl]
     rw[List.map_flatten,List.map_map];rfl
    ·rw[yav]at h2
     cases hfi:fs.toList[i]? with
     | none=>rw[hfi]at h2;cases h2
     | some f=>
      rw[hfi]at h2;obtain rfl:=ybj h2
      exact(hq i d h1 f hfi).2.1
   ·unfold wG
    rw[hu];exact⟨l,rfl,zw7 hl fun i f d h1 h2=>(hq i d h2 f h1).2.2⟩
  | _=>rw[hu]at hp;exact hp.elim
end
end Go.Am
namespace Go.Am
open Go Go.RowKit
structure zoj (P:Program) where
 (b i u8 u16 s limbs whole frac val expr exprs row rows table tables dfn dfns clause clauses plan:TypeId)
 hb:P.underlying b=some .bool
 hi:P.underlying i=some (.int .i64)
 hu8:P.underlying u8=some (.int .u8)
 hu16:P.underlying u16=some (.int .u16)
 hs:P.underlying s=some .string
 hlimbs:P.underlying limbs=some (.slice u16)
 hexprs:P.underlying exprs=some (.slice expr)
 hrows:P.underlying rows=some (.slice row)
 htables:P.underlying tables=some (.slice table)
 hdfns:P.underlying dfns=some (.slice dfn)
 hclauses:P.underlying clauses=some (.slice clause)
 hwhole:∃fs,P.underlying whole=some (.struct fs)/\fs.toList.map (·.type)=[b,limbs]
 hfrac:∃fs,P.underlying frac=some (.struct fs)/\fs.toList.map (·.type)=[whole,whole]
 hval:∃fs,P.underlying val=some (.struct fs)/\fs.toList.map (·.type)=[u8,frac,i]
 hexpr:∃fs,P.underlying expr=some (.struct fs)/\fs.toList.map (·.type)=[u8,s,val,exprs]
 hrow:∃fs,P.underlying row=some (.struct fs)/\fs.toList.map (·.type)=[i,i,i,frac]
 htable:∃fs,P.underlying table=some (.struct fs)/\fs.toList.map (·.type)=[s,b,rows]
 hdfn:∃fs,P.underlying dfn=some (.struct fs)/\fs.toList.map (·.type)=[s,u8,b]
 hclause:∃fs,P.underlying clause=some (.struct fs)/\fs.toList.map (·.type)=[s,s,i,i,i,b,expr,expr]
 hplan:∃fs,P.underlying plan=some (.struct fs)/\fs.toList.map (·.type)=[s,dfns,tables,clauses]
 cu16:P.cellsOf u16=1
 cexpr:P.cellsOf expr=9
 crow:P.cellsOf row=7
 ctable:P.cellsOf table=3
 cdfn:P.cellsOf dfn=3
 cclause:P.cellsOf clause=24
 bytes:1<=P.bytesOf u16/\1<=P.bytesOf expr/\1<=P.bytesOf row/\1<=P.bytesOf table/\1<=P.bytesOf dfn/\1<=P.bytesOf clause
section
variable {P:Program}{f:Nat}{t:TypeId}{x:D}
theorem fV(h:wG P f t x):∃g,f=g+1:=by
 cases f with
 | zero=>exact h.elim
 | succ g=>exact⟨g,rfl⟩
theorem xX(ht:P.underlying t=some .bool)(h:wG P f t x):∃b,x=.bool b:=by
 obtain⟨g,rfl⟩:=fV h
 unfold wG at h;rw[ht]at h;exact h
theorem zbq{k:IntKind}(ht:P.underlying t=some (.int k))(h:wG P f t x):∃n,x=.int k n/\(Lit.int k n).wf=true:=by
 obtain⟨g,rfl⟩:=fV h
 unfold wG at h;rw[ht]at h;exact h
theorem dS(ht:P.underlying t=some (.int .i64))(h:wG P f t x):∃n,x=.int .i64 n/\i64 n:=by
 obtain⟨n,rfl,hn⟩:=zbq ht h
 simp only[Lit.wf,yac,decide_eq_true_eq]at hn;have h1:IntKind.i64.min = -9223372036854775808:=rfl
 have h2:IntKind.i64.max=9223372036854775807:=rfl
 rw[h1,h2]at hn;exact⟨n,rfl,hn.1,by omega⟩
theorem ze9(ht:P.underlying t=some (.int .u8))(h:wG P f t x):∃n:Nat,x=.int .u8 (n:Int)/\n<256:=by
 obtain⟨n,rfl,hn⟩:=zbq ht h
 simp only[Lit.wf,yac,decide_eq_true_eq]at hn;have h1:IntKind.u8.min=0:=rfl
 have h2:IntKind.u8.max=255:=rfl
 rw[h1,h2]at hn;exact⟨n.toNat,by rw[show((n.toNat:Nat):Int)=n by omega],by omega⟩
theorem zrg(ht:P.underlying t=some (.int .u16))(h:wG P f t x):∃n:Nat,x=.int .u16 (n:Int)/\n<65536:=by
 obtain⟨n,rfl,hn⟩:=zbq ht h
 simp only[Lit.wf,yac,decide_eq_true_eq]at hn;have h1:IntKind.u16.min=0:=rfl
 have h2:IntKind.u16.max=65535:=rfl
 rw[h1,h2]at hn;exact⟨n.toNat,by rw[show((n.toNat:Nat):Int)=n by omega],by omega⟩
theorem tU(ht:P.underlying t=some .string)(h:wG P f t x):∃l:List Nat,x=.str l/\l.length<lD/\∀c∈l,c<256:=by
 obtain⟨g,rfl⟩:=fV h
 unfold wG at h;rw[ht]at h;obtain⟨l,h1,h2,h3⟩:=h
 unfold reachBytes at h2;exact⟨l,h1,by unfold lD;omega,h3⟩
theorem sU{e:TypeId}{sz:Nat}(ht:P.underlying t=some (.slice e))(hc:P.cellsOf e=sz)(hb:1<=P.bytesOf e)(h:wG P f t x):∃(l:List D) (g:Nat),f=g+1/\x=.sl sz l/\l.length<lD/\∀y∈l,wG P g e y:=by
 obtain⟨g,rfl⟩:=fV h
 unfold wG at h;rw[ht]at h;obtain⟨l,h1,h2,h3⟩:=h
 have:l.length<=l.length*P.bytesOf e:=Nat.le_mul_of_pos_right _ hb
 unfold reachBytes at h2;exact⟨l,g,rfl,by rw[<- hc];exact h1,by unfold lD;omega,h3⟩
theorem bC.ofMap{α β γ:Type}{k:α->γ}{R:γ->β->Prop}:∀ {l:List α} {m:List β},bC (fun a b=>R (k a) b) l m->bC R (l.map k) m
 | [],_,.nil=>.nil
 | _::_,_::_,.cons h r=>.cons h (bC.ofMap r)
theorem wQ{ts:List TypeId}(ht:∃fs,P.underlying t=some (.struct fs)/\fs.toList.map (·.type)=ts)(h:wG P f t x):∃(l:List D) (g:Nat),f=g+1/\x=.st l/\bC (fun t y=>wG P g t y) ts l:=by
 obtain⟨fs,ht,rfl⟩:=ht
 obtain⟨g,rfl⟩:=fV h
 unfold wG at h;rw[ht]at h;obtain⟨l,h1,h2⟩:=h
 exact⟨l,g,rfl,h1,bC.ofMap h2⟩
theorem bC.cons_inv{α β:Type}{R:α->β->Prop}{a:α}{l:List α}{m:List β}(h:bC R (a::l) m):∃b r,m=b::r/\R a b/\bC R l r:=by
 cases h with
 | cons h1 h2=>exact⟨_,_,rfl,h1,h2⟩
theorem bC.nil_inv{α β:Type}{R:α->β->Prop}{m:List β}(h:bC R ([]:List α) m):m=[]:=by
 cases h;rfl
theorem lT{α β:Type}{g:α->β}{Q:α->Prop}:∀ {l:List β},(∀y∈l,∃a,y=g a/\Q a)->∃m:List α,l=m.map g/\∀a∈m,Q a
 | [],_=>⟨[],rfl,fun _ h=>by cases h⟩
 | y::l,h=>by
  obtain⟨a,h1,h2⟩:=h y (by simp)
  obtain⟨m,h3,h4⟩:=lT (l:=l) fun z hz=>h z (yas _ hz)
  exact⟨a::m,by simp[h1,h3],fun b hb=>by
   rcases yat.1 hb with rfl | hb
   ·exact h2
   ·exact h4 b hb⟩
end
namespace zoj
section
variable {P:Program}(A:zoj P){f:Nat}{x:D}
theorem dWhole(h:wG P f A.whole x):∃w:yI,x=w.d/\w.limbs.length<lD/\dB 65536 w.limbs:=by
 obtain⟨l,g,rfl,rfl,k⟩:=wQ A.hwhole h
 obtain⟨d1,r,rfl,h1,k⟩:=k.cons_inv
 obtain⟨d2,r,rfl,h2,k⟩:=k.cons_inv
 obtain rfl:=k.nil_inv
 obtain⟨b,rfl⟩:=xX A.hb h1
 obtain⟨l,g,rfl,rfl,hl,hm⟩:=sU A.hlimbs A.cu16 A.bytes.1 h2
 obtain⟨m,rfl,hq⟩:=lT (g:=fun n:Nat=>D.int .u16 (n:Int)) (Q:=fun n=>n<65536) fun y hy=>zrg A.hu16 (hm y hy)
 exact⟨⟨b,m⟩,rfl,by simpa using hl,hq⟩
theorem dFrac(h:wG P f A.frac x):∃w:lF,x=w.dd/\w.fit:=by
 obtain⟨l,g,rfl,rfl,k⟩:=wQ A.hfrac h
 obtain⟨d1,r,rfl,h1,k⟩:=k.cons_inv
 obtain⟨d2,r,rfl,h2,k⟩:=k.cons_inv
 obtain rfl:=k.nil_inv
 obtain⟨a,rfl,a1,a2⟩:=A.dWhole h1
 obtain⟨b,rfl,b1,b2⟩:=A.dWhole h2
 exact⟨⟨a,b⟩,rfl,⟨a1,b1⟩,a2,b2⟩
theorem dVal(h:wG P f A.val x):∃w:xB,x=w.d/\w.fit:=by
 obtain⟨l,g,rfl,rfl,k⟩:=wQ A.hval h
 obtain⟨d1,r,rfl,h1,k⟩:=k.cons_inv
 obtain⟨d2,r,rfl,h2,k⟩:=k.cons_inv
 obtain⟨d3,r,rfl,h3,k⟩:=k.cons_inv
 obtain rfl:=k.nil_inv
 obtain⟨kk,rfl,hk⟩:=ze9 A.hu8 h1
 obtain⟨q,rfl,hq⟩:=A.dFrac h2
 obtain⟨n,rfl,hn⟩:=dS A.hi h3
 exact⟨⟨kk,q,n⟩,rfl,hk,hq,hn.1,hn.2⟩
theorem zvp:∀ {l:List qA},(∀x∈l,x.fit)->qA.fits l
 | [],_=>by unfold qA.fits;trivial
 | x::l,h=>by unfold qA.fits;exact⟨h x (by simp),zvp fun y hy=>h y (yas _ hy)⟩
theorem dExpr:∀(f:Nat) (x:D),wG P f A.expr x->∃w:qA,x=w.d/\w.fit:=by
 intro f;induction f using Nat.strongRecOn with
 | _ f ih=>
 intro x h;obtain⟨l,g,rfl,rfl,k⟩:=wQ A.hexpr h
 obtain⟨d1,r,rfl,h1,k⟩:=k.cons_inv
 obtain⟨d2,r,rfl,h2,k⟩:=k.cons_inv
 obtain⟨d3,r,rfl,h3,k⟩:=k.cons_inv
 obtain⟨d4,r,rfl,h4,k⟩:=k.cons_inv
 obtain rfl:=k.nil_inv
 obtain⟨kk,rfl,hk⟩:=ze9 A.hu8 h1
 obtain⟨n,rfl,hn,hn'⟩:=tU A.hs h2
 obtain⟨v,rfl,hv⟩:=A.dVal h3
 obtain⟨l,g',rfl,rfl,hl,hm⟩:=sU A.hexprs A.cexpr A.bytes.2.1 h4
 obtain⟨m,rfl,hq⟩:=lT (g:=qA.d) (Q:=qA.fit) fun y hy=>ih g' (by omega) y (hm y hy)
 refine⟨.mk kk n v m,?_,?_⟩
 ·rw[qA.d,qA.ds_eq]
 ·unfold qA.fit
  exact⟨hk,hn,hn',hv,by simpa using hl,zvp hq⟩
theorem dRow(h:wG P f A.row x):∃w:uF,x=w.d/\w.fit:=by
 obtain⟨l,g,rfl,rfl,k⟩:=wQ A.hrow h
 obtain⟨d1,r,rfl,h1,k⟩:=k.cons_inv
 obtain⟨d2,r,rfl,h2,k⟩:=k.cons_inv
 obtain⟨d3,r,rfl,h3,k⟩:=k.cons_inv
 obtain⟨d4,r,rfl,h4,k⟩:=k.cons_inv
 obtain rfl:=k.nil_inv
 obtain⟨a,rfl,ha⟩:=dS A.hi h1
 obtain⟨b,rfl,hb⟩:=dS A.hi h2
 obtain⟨c,rfl,hc⟩:=dS A.hi h3
 obtain⟨q,rfl,hq⟩:=A.dFrac h4
 exact⟨⟨a,b,c,q⟩,rfl,ha,hb,hc,hq⟩
theorem dTable(h:wG P f A.table x):∃w:yF,x=w.d/\w.fit:=by
 obtain⟨l,g,rfl,rfl,k⟩:=wQ A.htable h
 obtain⟨d1,r,rfl,h1,k⟩:=k.cons_inv
 obtain⟨d2,r,rfl,h2,k⟩:=k.cons_inv
 obtain⟨d3,r,rfl,h3,k⟩:=k.cons_inv
 obtain rfl:=k.nil_inv
 obtain⟨n,rfl,hn,_⟩:=tU A.hs h1
 obtain⟨b,rfl⟩:=xX A.hb h2
 obtain⟨l,g',rfl,rfl,hl,hm⟩:=sU A.hrows A.crow A.bytes.2.2.1 h3
 obtain⟨m,rfl,hq⟩:=lT (g:=uF.d) (Q:=uF.fit) fun y hy=>A.dRow (hm y hy)
 exact⟨⟨n,b,m⟩,rfl,hn,by simpa using hl,hq⟩
theorem dDef(h:wG P f A.dfn x):∃w:lJ,x=w.d/\w.fit:=by
 obtain⟨l,g,rfl,rfl,k⟩:=wQ A.hdfn h
 obtain⟨d1,r,rfl,h1,k⟩:=k.cons_inv
 obtain⟨d2,r,rfl,h2,k⟩:=k.cons_inv
 obtain⟨d3,r,rfl,h3,k⟩:=k.cons_inv
 obtain rfl:=k.nil_inv
 obtain⟨n,rfl,hn,_⟩:=tU A.hs h1
 obtain⟨kk,rfl,hk⟩:=ze9 A.hu8 h2
 obtain⟨b,rfl⟩:=xX A.hb h3
 exact⟨⟨n,kk,b⟩,rfl,hn,hk⟩
theorem dClause(h:wG P f A.clause x):∃w:kC,x=w.d/\w.fit:=by
 obtain⟨l,g,rfl,rfl,k⟩:=wQ A.hclause h
 obtain⟨d1,r,rfl,h1,k⟩:=k.cons_inv
 obtain⟨d2,r,rfl,h2,k⟩:=k.cons_inv
 obtain⟨d3,r,rfl,h3,k⟩:=k.cons_inv
 obtain⟨d4,r,rfl,h4,k⟩:=k.cons_inv
 obtain⟨d5,r,rfl,h5,k⟩:=k.cons_inv
 obtain⟨d6,r,rfl,h6,k⟩:=k.cons_inv
 obtain⟨d7,r,rfl,h7,k⟩:=k.cons_inv
 obtain⟨d8,r,rfl,h8,k⟩:=k.cons_inv
 obtain rfl:=k.nil_inv
 obtain⟨n,rfl,hn,_⟩:=tU A.hs h1
 obtain⟨l,rfl,hl,_⟩:=tU A.hs h2
 obtain⟨a,rfl,ha⟩:=dS A.hi h3
 obtain⟨b,rfl,hb⟩:=dS A.hi h4
 obtain⟨c,rfl,hc⟩:=dS A.hi h5
 obtain⟨o,rfl⟩:=xX A.hb h6
 obtain⟨w,rfl,hw⟩:=A.dExpr _ _ h7
 obtain⟨v,rfl,hv⟩:=A.dExpr _ _ h8
 exact⟨⟨n,l,a,b,c,o,w,v⟩,rfl,hn,hl,ha,hb,hc,hw,hv⟩
theorem dPlan(h:wG P f A.plan x):∃w:yH,x=w.d/\w.fit:=by
 obtain⟨l,g,rfl,rfl,k⟩:=wQ A.hplan h
 obtain⟨d1,r,rfl,h1,k⟩:=k.cons_inv
 obtain⟨d2,r,rfl,h2,k⟩:=k.cons_inv
 obtain⟨d3,r,rfl,h3,k⟩:=k.cons_inv
 obtain⟨d4,r,rfl,h4,k⟩:=k.cons_inv
 obtain rfl:=k.nil_inv
 obtain⟨n,rfl,hn,_⟩:=tU A.hs h1
 obtain⟨l2,g2,rfl,rfl,hl2,hm2⟩:=sU A.hdfns A.cdfn A.bytes.2.2.2.2.1 h2
 obtain⟨l3,g3,_,rfl,hl3,hm3⟩:=sU A.htables A.ctable A.bytes.2.2.2.1 h3
 obtain⟨l4,g4,_,rfl,hl4,hm4⟩:=sU A.hclauses A.cclause A.bytes.2.2.2.2.2 h4
 obtain⟨m2,rfl,hq2⟩:=lT (g:=lJ.d) (Q:=lJ.fit) fun y hy=>A.dDef (hm2 y hy)
 obtain⟨m3,rfl,hq3⟩:=lT (g:=yF.d) (Q:=yF.fit) fun y hy=>A.dTable (hm3 y hy)
 obtain⟨m4,rfl,hq4⟩:=lT (g:=kC.d) (Q:=kC.fit) fun y hy=>A.dClause (hm4 y hy)
 exact⟨⟨n,m2,m3,m4⟩,rfl,⟨hn,by simpa using hl2,by simpa using hl3,by simpa using hl4,hq2,hq3,hq4⟩⟩
end
end zoj
end Go.Am
namespace Go.Am
open Go Go.RowKit Go.Proofs
section
variable {w:World}
theorem zvh(h:mI w):bI (zI w):=by
 obtain⟨t,h⟩:=h.kinds
 have hb:=(yaf.1 h).1
 have e:(zI w).get 0=some (.cells (zfx (fun j=>((zql eK).toArray[j]?).bind (zqo w.heap.size)) (zql eK).toArray.size) (zql eK).toArray.size none):=by
  unfold zI;rw[eP,if_pos (by omega),if_pos (by omega),h]
  rfl
 refine⟨_,_,_,e,fun j a ha=>?_⟩
 rw[eP,yax];have hj:j<sS.length:=by
  have:=(yad.1 ha).1
  simpa using this
 have hb2:sS.map zA.str=eK.map fun b=>zA.str (b.map UInt8.toNat):=zhc.symm
 rw[hb2,yav]at ha
 cases hbt:eK[j]? with
 | none=>rw[hbt]at ha;cases ha
 | some b=>
  rw[hbt]at ha;obtain rfl:=ybj ha
  have hlt:j<eK.length:=(yad.1 hbt).1
  rw[if_pos (by simp[zql];exact hlt)]
  simp only[zql,List.getElem?_toArray,yav,hbt,Option.map_some,Option.bind_some,zqo];simp[uE]
theorem z4c{b:Nat}{y:lA}(h:(zI w).get b=some y):b<256+w.heap.size:=by
 unfold zI at h;rw[eP]at h;split at h
 ·assumption
 ·cases h
theorem z4z{cs:List Value}(h:Has w.heap.size cs):qB (muW w) (cs.map (av w.heap.size)) cs:=by
 induction cs with
 | nil=>exact .nil
 | cons v l ih=>exact .cons (zoe (h v (by simp))) (ih fun u hu=>h u (yas _ hu))
theorem zot(hL:mI w)(f:Nat)(args:List zA)(args':Array Value)(hp:∀ [aC],yA.prims.get f=none)(hl:qB (muW w) args args'.toList)
  (h:∀ [aC],∃Q:bB,Wc yA F f args (zI w) Q/\∀v t,Q v t->v=.bool true) :
  Calls Tryz.prog f args' w fun e w'=>e=.returned (.bool true)/\Below w.heap.size w w':=by
 letI:aC:=⟨w.heap.size⟩
 obtain⟨Q,h1,h2⟩:=h
 refine(zli (H:=⟨256+w.heap.size,zI w⟩) (sim19 hL.size) hL z5n hp (yal _) (fun b y hb=>z4c hb) hrelW hl h1).mono fun e w' ⟨v,v',t',μ',g1,g2,g3,g4,g5⟩=>?_
 have:=h2 v t' g4
 subst this;rw[sA]at g3;exact⟨by rw[g1,g3],g5⟩
theorem zyl{cs:Array Value}(h:Has w.heap.size cs.toList):sA (muW w) (.agg (cs.toList.map (av w.heap.size))) (.agg cs):=by
 rw[sA];exact⟨cs,rfl,z4z h⟩
end
end Go.Am
namespace Go.Am
open Go Go.RowKit Go.ChangeShapes Go.WideShapes Go.ChangeAt
section
variable {H:Type}{enc:TypeId × Value->H}{P:Program}
theorem pZ(hl:laidOutB P=true){W W':World}(hb:Below W.heap.size W W'):∀ {ts:List TypeId} {vs:List Value} {ds:List (DataW H)} {ps:List MemPlace},(∀t∈ts,P.readableRec t=true/\t<P.types.size) →
  DataW.TrodAll enc P W 0 (fun _=>true) true ts vs ds ps->(∀x∈ps,x.block<W.heap.size)->DataW.TrodAll enc P W' 0 (fun b=>decide (b<W.heap.size)) true ts vs ds ps
 | [],[],[],_,_,h,_=>h
 | t::ts,_::_,_::_,_,ht,⟨p,q,h1,h2,e⟩,hs=>by
  subst e;exact⟨p,q,Below.trod hl (ht t (by simp)).1 (ht t (by simp)).2 h1 hb fun x hx=>hs x (ycd _ hx),
   pZ hl hb (fun t ht'=>ht t (yas _ ht')) h2 fun x hx=>hs x (ybg _ hx),rfl⟩
 | [],_::_,_,_,_,h,_=>by simp[DataW.TrodAll]at h
 | [],[],_::_,_,_,h,_=>by simp[DataW.TrodAll]at h
 | _::_,[],_,_,_,h,_=>by simp[DataW.TrodAll]at h
 | _::_,_::_,[],_,_,h,_=>by simp[DataW.TrodAll]at h
theorem law_post(hl:laidOutB P=true){f:Func}{s:ChangeSpec}{tb:TypeId}(hp:∀t∈f.params.toList,P.readableRec t=true/\t<P.types.size)(hv:s.vars=[])(hres:f.resultTypes = #[tb])(htb:P.underlying tb=some .bool)
  {W W':World} {args:Array Value} {ds gs:List (DataW H)} {before:List MemPlace} (hfn:s.fn H ds={ results:=[.lit (.bool true)],args:=ds })
  (hW:DataW.Whole enc P f.params.toList s.vars false W args.toList ds gs before) (hb:Below W.heap.size W W') :
  s.post enc P f false true false false W args (.bool true) W':=by
 have hW0:=hW
 obtain⟨p,q,hA,hV,rfl,hfz,hnd⟩:=hW
 rw[hv]at hV;obtain⟨rfl,rfl⟩:=trodVars_none hV
 refine⟨ds,[],p++[],[],p,[],hW0,?_,?_,?_,hb.frame _,fun h=>by cases h⟩
 ·rw[ybe,hfn,hres]
  exact trodAll_mk1 (shut_bool htb _)
 ·rw[ybe,hfn]
  exact pZ hl hb hp hA fun x hx=>hW0.lt x (by simpa using hx)
 ·rw[ybe,hfn,hv]
  exact rfl
theorem zmu{a:Assume}{C:Checked}{os:Os}{f:FuncId}{fn:Func}{s:ChangeSpec}{conds:List PathCond}{apart fresh handsOn again:Bool}{X:World->Array Value->Prop}
  (hX:∀(w w':World) (args:Array Value),w.heap=w'.heap->X w args->X w' args)
  (own:ownKnob C.prog.godebug=none) (started:os.Started) (noInit:C.prog.inits.idxOf? f=none) (hfn:C.prog.funcs[f]?=some fn)
  (witness:∃(w:World) (tape:Tape) (i:Input),w.os=os/\(w.forCall tape i).Shaped C.prog/\i.vars=[]/\Input.okWide C.prog (w.forCall tape i) .any w.heap.size f i ∧
   ((s.pre enc C.prog fn conds apart (w.forCall tape i).memory i.args/\X (w.forCall tape i).memory i.args)/\sizedMet enc C.prog fn (OpenSpec.ofChange s) apart (w.forCall tape i).memory i.args)/\a.holds C.prog (lone (Frame.enter C.prog f i.args .normal) [] (w.forCall tape i)))
  (contract:∀(W:World) (base:Nat) (args:Array Value) (ds gs:List (DataW H)) (before:List MemPlace),
   (∀(j:Nat) t v,fn.params[j]?=some t->args[j]?=some v->Value.okWide C.prog W .any base t v) →
   DataW.Whole enc C.prog fn.params.toList s.vars apart W args.toList ds gs before →
   (DataW.weightsEach C.prog (fn.params.toList++s.plain.varTypes C.prog) (ds++gs)).all (· <= reachBytes)=true->X W args->W.ShapedOpen C.prog →
   Calls C.prog f args W fun e W'=>∃v,e=.returned v/\s.post enc C.prog fn apart fresh handsOn again W args v W') :
  ReturnsInHanded a C os f .any (fun w args=>(s.pre enc C.prog fn conds apart w args/\X w args)/\sizedMet enc C.prog fn (OpenSpec.ofChange s) apart w args) (s.post enc C.prog fn apart fresh handsOn again):=by
 refine returnsInHanded_of_calls own started noInit witness ?_
 intro w tape i _ hsh _ hok hpre _;obtain⟨_,_,_,fn',hfn',_,_,_,_,hval⟩:=hok
 have e:fn'=fn:=ybj (hfn'.symm.trans hfn)
 subst e;obtain⟨⟨⟨ds,gs,before,hw,hc⟩,hx⟩,hz⟩:=hpre
 have hw':=DataW.Whole.of_heap (w':=w.forCall tape i) (by rfl) hw
 refine(contract (w.forCall tape i) w.heap.size i.args ds gs before hval hw' (hz.weights hw) (hX _ _ _ (by rfl) hx) hsh).mono fun e W' ⟨v,he,hp⟩=>?_
 subst he;exact ChangeSpec.post_blind hp
variable {w:World}{base:Nat}{spare:Nat->Bool}{held:Bool}{fuel:Nat}{t e:TypeId}{cs:List Value}{ps:List MemPlace}
theorem zi9{α:Type}{g:α->DataW H}{u:α->Value}{l:List α}{n:Nat}(ht:P.underlying t=some (.array n e))(hc:P.cellsOf e=1)(hn:P.cellsOf t=n)
  (h1:∀(m:Nat) (c:List Value) (x:DataW H × List MemPlace) (a:α),DataW.trod enc P w base spare held m e c=some x->x.1=g a->c=[u a])
  (h:DataW.trod enc P w base spare held fuel t cs=some (.agg (l.map g),ps)):cs=l.map u:=by
 obtain⟨xs,m,_,hx,hlen,hxs,hel⟩:=DataW.trod_array ht h
 simp only[Prod.mk.injEq,DataW.agg.injEq]at hx;have hl:l.length=n:=by have:=congrArg List.length hx.1;simp[hxs]at this;exact this
 rw[hn]at hlen;refine List.ext_getElem (by rw[hlen,yag,hl]) fun i hi1 hi2=>?_
 have hi:i<n:=by omega
 have:=hel i hi
 rw[hc]at this;have hc1:((cs.drop (i*1)).take 1)=[cs[i]]:=by
  rw[Nat.mul_one,yam hi1];rfl
 rw[hc1,yae (by omega)]at this
 have hxi:xs[i].1=g (l[i]'(by omega)):=by
  have:=congrArg (fun z=>z[i]?) hx.1
  simp only[yav]at this;rw[yae (by omega),yae (by omega)]at this
  simpa using this.symm
 have:=h1 m _ _ _ this hxi
 rw[List.getElem_map];simpa using this
theorem zxu(he:P.underlying e=some .string)(m:Nat)(c:List Value)(x:DataW H × List MemPlace)(b:List UInt8)(h:DataW.trod enc P w base spare held m e c=some x)(hx:x.1=.lit (.string b)):c=[.string ⟨b.toArray⟩]:=by
 obtain⟨s,rfl,rfl,_⟩:=DataW.trod_string he h
 simp at hx;rw[<- hx]
end
theorem joined_of{P:Program}{f:FuncId}{fn:Func}{s:ChangeSpec}{c:OpenClaim}
  (A:(c.wf (OpenSpec.ofChange s)&&laidOutB P&&mapsRowed P&&fn.params.all (P.readableRec ·)&&namedTie P c.named s.vars&&(c.stops == [])&&(P.stops == [])&&(c.knobs == [])&&(P.stopKnobs == []))=true)
  (h1:(c.inPlace == P.inPlace f)=true) (h2:(c.unfollowed == P.unfollowed f)=true) (h3:(c.recurses == P.recurses f)=true) (h4:(c.named == P.varsNamed f)=true)
  (E:((c.maps == (fn.params.toList++s.plain.varTypes P).any (P.mapsRec ·))&&(c.ifaces == (fn.params.toList++s.plain.varTypes P).any (P.ifacesRec ·))&&(c.mapsOut == P.mapsAmong fn.resultTypes.toList) &&
   (c.loops == (fn.params.toList++s.plain.varTypes P).any (P.loopsFrom ·))&&(c.wideKeys == (fn.params.toList++s.plain.varTypes P++fn.resultTypes.toList).any (P.wideKeysFrom ·)) &&
   s.vars.all (P.varReadable ·)&&fn.resultTypes.all (fun t=>P.readableRec t&&decide (t<P.types.size))&&(c.ifacesOut == fn.resultTypes.toList.any (P.ifacesRec ·))&&(c.loopsOut == fn.resultTypes.toList.any (P.loopsFrom ·))&&c.shortTexts.isNone)=true)
  (h5:(c.plainKeys == P.plainKeys)=true) (h6:P.stopsHeard=true) (h7:P.mayEnter=true) (h8:(c.lifted == P.liftsFinal)=true)
  (R:((P.make == some c.make)&&(c.kinds == (if c.domain.isEmpty then []else fn.params.toList.map fun t=>match P.underlying t with | some (.int k)=>some k | _=>none))&&(c.pinned == c.pinnedBy) &&
   (c.veiled == (fn.params.toList++s.plain.varTypes P++fn.resultTypes.toList).any (P.veiledRec ·))&&c.veiledFits P fn.params.toList (fn.params.toList++s.plain.varTypes P++fn.resultTypes.toList))=true) :
  joinedFacts P f fn s c=true:=by
 unfold joinedFacts;simp only[yac]at A E R ⊢
 obtain⟨⟨⟨⟨⟨⟨⟨⟨a1,a2⟩,a3⟩,a4⟩,a5⟩,a6⟩,a7⟩,a8⟩,a9⟩:=A
 obtain⟨⟨⟨⟨⟨⟨⟨⟨⟨e1,e2⟩,e3⟩,e4⟩,e5⟩,e6⟩,e7⟩,e8⟩,e9⟩,e10⟩:=E
 obtain⟨⟨⟨⟨r1,r2⟩,r3⟩,r4⟩,r5⟩:=R
 exact⟨⟨⟨⟨⟨⟨⟨⟨⟨⟨⟨⟨⟨⟨⟨⟨⟨⟨⟨⟨⟨⟨⟨⟨⟨⟨⟨⟨⟨⟨⟨a1,a2⟩,a3⟩,a4⟩,a5⟩,a6⟩,a7⟩,a8⟩,a9⟩,h1⟩,h2⟩,h3⟩,h4⟩,e1⟩,e2⟩,e3⟩,e4⟩,e5⟩,e6⟩,e7⟩,e8⟩,e9⟩,h5⟩,e10⟩,h6⟩,h7⟩,h8⟩,r1⟩,r2⟩,r3⟩,r4⟩,r5⟩
end Go.Am
namespace Go.Proofs.YthmbkdkibhffbaaGreatDoor
open Go Go.Am Go.RowKit Go.ChangeShapes Go.WideShapes Go.ChangeAt
theorem own:ownKnob Tryz.prog.godebug=none:=by kernel_rfl
theorem laidOut:laidOutB Tryz.prog=true:=by kernel_rfl
theorem gPow : Tryz.prog.globalNamed "internal/strconv.uint64pow10" = some 5 := by kernel_rfl
theorem gKinds : Tryz.prog.globalNamed "annuitant/operation.argumentKinds" = some 0 := by kernel_rfl
theorem tPow:(Tryz.prog.globals[5]?).map (·.type)=some 365:=by kernel_rfl
theorem tKinds:(Tryz.prog.globals[0]?).map (·.type)=some 273:=by kernel_rfl
def laid4 : List (String × DataW Unit) := [("math/bits.deBruijn32tab", Rows.laid_math_bits_deBruijn32tab), ("math/bits.deBruijn64tab", Rows.laid_math_bits_deBruijn64tab), ("internal/strconv.uint64pow10", Rows.laid_internal_strconv_uint64pow10), ("annuitant/operation.argumentKinds", Rows.laid_annuitant_operation_argumentKinds)]
theorem door_met(os:Os)(args:Array Value):laidMetH Tryz.prog laid4 ((World.doorLaid Tryz.prog 60 os).forCall (fun _ _=>0) ⟨#[],args,[]⟩).memory:=
 laidMetH_of_parts3 (fuel:=8) (laidMet_of_run' 8 (by kernel_rfl) (by kernel_rfl)) (by kernel_rfl) (by kernel_rfl)
theorem zgz{W:World}{n:String}{g:Nat}{cs:Array Value}(hg:Tryz.prog.globalNamed n=some g)(hv:W.var? Tryz.prog n=some cs)(hc:∃c t,W.heap[g]?=some (.cells c t (0,0))):∃t,W.heap[g]?=some (.cells cs t (0,0)):=by
 obtain⟨c,t,hc⟩:=hc
 unfold World.var? at hv
 rw[hg]at hv;simp only[Option.bind_some,hc,Option.some.injEq]at hv;subst hv;exact⟨t,hc⟩
theorem zs3{g n:Nat}{p q:List MemPlace}(h:0<n):MemPlace.cell g 0∈MemPlace.row ⟨g,0,none⟩ n++p++q:=
 ycd _ (ycd _ (List.mem_map.2 ⟨0,List.mem_range.2 h,rfl⟩))
theorem zuk:Rows.laid_annuitant_operation_argumentKinds (H:=Unit)=.agg (eK.map fun b=>.lit (.string b)):=by kernel_rfl
theorem z4i:Rows.laid_internal_strconv_uint64pow10 (H:=Unit)=.agg (oP.map fun n=>.lit (.int .u64 n)):=by kernel_rfl
theorem zxi{H:Type}{enc:TypeId × Value->H}{P:Program}{w:World}{base:Nat}{spare:Nat->Bool}{held:Bool}{e:TypeId}(he:P.underlying e=some (.int .u64))(m:Nat)(c:List Value)(x:DataW H × List MemPlace)(n:Int)(h:DataW.trod enc P w base spare held m e c=some x)(hx:x.1=.lit (.int .u64 n)):c=[.int .u64 n]:=by
 obtain⟨k,rfl,rfl,_⟩:=DataW.trod_int he h
 simp at hx;rw[hx]
theorem laid_of{W:World}(h:laidMetH Tryz.prog laid4 W)(hsh:W.ShapedOpen Tryz.prog):mI W:=by
 rw[MakeChecks.laidMetH_plain _ _ _ (by kernel_rfl)]at h
 obtain⟨ps,⟨_,_,_,_,_,_,_,_,_,_,⟨_,_,_,_,_,_,_,_,_,_,⟨g0,t0,cs0,f0,p0,q0,hg0,ht0,hv0,hd0,⟨g1,t1,cs1,f1,p1,q1,hg1,ht1,hv1,hd1,_,hp1⟩,hp0⟩,hpb⟩,hpa⟩,_,hcell⟩:=h
 obtain rfl:=ybj (gPow.symm.trans hg0)
 obtain rfl:=ybj (gKinds.symm.trans hg1)
 obtain rfl:=ybj (tPow.symm.trans ht0)
 obtain rfl:=ybj (tKinds.symm.trans ht1)
 have c56:Tryz.prog.cellsOf 56=1:=by kernel_rfl
 have c9:Tryz.prog.cellsOf 9=1:=by kernel_rfl
 have c365:Tryz.prog.cellsOf 365=20:=by kernel_rfl
 have c273:Tryz.prog.cellsOf 273=27:=by kernel_rfl
 rw[z4i]at hd0;rw[zuk]at hd1;have e0:cs0.toList=u64s oP:=zi9 (l:=oP) (g:=fun n=>.lit (.int .u64 n)) (u:=fun n=>.int .u64 n) Tryz.underlying365 c56 c365 (fun m c x a=>zxi Tryz.underlying56 m c x a) hd0
 have e1:cs1.toList=zql eK:=zi9 (l:=eK) (g:=fun b=>.lit (.string b)) (u:=fun b=>.string ⟨b.toArray⟩) Tryz.underlying273 c9 c273 (fun m c x a=>zxu Tryz.underlying9 m c x a) hd1
 have s0:cs0=(u64s oP).toArray:=by rw[<- e0]
 have s1:cs1=(zql eK).toArray:=by rw[<- e1]
 subst s0 s1
 have m0:MemPlace.cell 5 0∈ps:=by
  rw[hpa,hpb,hp0];exact ybg _ (ybg _ (zs3 (by decide)))
 have m1:MemPlace.cell 0 0∈ps:=by
  rw[hpa,hpb,hp0,hp1];exact ybg _ (ybg _ (ybg _ (zs3 (by decide))))
 exact⟨zgz hg1 hv1 (hcell 0 0 m1).1,Tryz.laysM144.s1_3 W hsh,zgz hg0 hv0 (hcell 5 0 m0).1⟩
theorem stopsHeard:Tryz.prog.stopsHeard=true:=by kernel_rfl
theorem mayEnter:Tryz.prog.mayEnter=true:=by kernel_rfl
theorem bool4:Tryz.prog.underlying 4=some .bool:=Tryz.underlying4
def api19:zoj Tryz.prog:={
 b:=4,i:=3,u8:=5,u16:=227,s:=9,limbs:=41,whole:=43,frac:=45,val:=47,expr:=50,exprs:=48,row:=85,rows:=80,table:=82,tables:=23,dfn:=79,dfns:=22,clause:=52,clauses:=24,plan:=26,
 hb:=Tryz.underlying4,hi:=Tryz.underlying3,hu8:=Tryz.underlying5,hu16:=Tryz.underlying227,hs:=Tryz.underlying9,hlimbs:=Tryz.underlying41,hexprs:=Tryz.underlying48,hrows:=Tryz.underlying80,htables:=Tryz.underlying23,hdfns:=Tryz.underlying22,hclauses:=Tryz.underlying24,
 hwhole:=⟨_,Tryz.underlying43,rfl⟩,hfrac:=⟨_,Tryz.underlying45,rfl⟩,hval:=⟨_,Tryz.underlying47,rfl⟩,hexpr:=⟨_,Tryz.underlying50,rfl⟩,hrow:=⟨_,Tryz.underlying85,rfl⟩,htable:=⟨_,Tryz.underlying82,rfl⟩,hdfn:=⟨_,Tryz.underlying79,rfl⟩,hclause:=⟨_,Tryz.underlying52,rfl⟩,hplan:=⟨_,Tryz.underlying26,rfl⟩,
 cu16:=by kernel_rfl,cexpr:=by kernel_rfl,crow:=by kernel_rfl,ctable:=by kernel_rfl,cdfn:=by kernel_rfl,cclause:=by kernel_rfl,
 bytes:=⟨of_decide_eq_true (by kernel_rfl),of_decide_eq_true (by kernel_rfl),of_decide_eq_true (by kernel_rfl),of_decide_eq_true (by kernel_rfl),of_decide_eq_true (by kernel_rfl),of_decide_eq_true (by kernel_rfl)⟩ }
def zm4:List Nat:=[4,3,5,227,9,41,43,45,47,50,48,85,80,82,23,79,22,52,24,26]
def partB(t:TypeId):Bool:=match Tryz.prog.underlying t with
 | some .bool=>true
 | some (.int _)=>true
 | some .string=>true
 | some (.slice e)=>zm4.contains e&&Nat.blt 0 (Tryz.prog.cellsOf e)
 | some (.struct fs)=>fs.toList.all (fun f=>zm4.contains f.type)&&zow Tryz.prog 0 fs.toList (Tryz.prog.cellsOf t)
 | _=>false
theorem zke:zm4.all partB=true:=by kernel_rfl
theorem z3s:Plain Tryz.prog (fun t=>t∈zm4):=⟨fun t ht=>by
 have h:=ybc.1 zke t ht
 unfold partB at h
 cases hu:Tryz.prog.underlying t with
 | none=>rw[hu]at h;cases h
 | some d=>
  rw[hu]at h
  cases d with
  | bool=>trivial
  | int k=>trivial
  | string=>trivial
  | slice e=>
   simp only[yac]at h;exact⟨by simpa using h.1,by simpa using h.2⟩
  | struct fs=>
   simp only[yac]at h;exact⟨fun f hf=>by simpa using ybc.1 h.1 f hf,h.2⟩
  | _=>cases h⟩
theorem open_plan{H:Type}{enc:TypeId × Value->H}{W:World}{base:Nat}{v:Value}{d:DataW H}{ps:List MemPlace}(hL:mI W)(hok:Value.okWide Tryz.prog W .any base 26 v)(h:DataW.Trod enc Tryz.prog W 0 (fun _=>true) true 26 v d ps)(hw:(DataW.weights Tryz.prog 26 d).all (· <= reachBytes)=true) :
  ∃(cs:Array Value) (p:yH),v=.agg cs/\p.fit/\Has W.heap.size cs.toList/\RD (zI W) p.d (cs.toList.map (av W.heap.size)):=by
 obtain⟨cs,rfl,_,_⟩:∃cs,v=.agg cs/\cs.size=Tryz.prog.cellsOf 26/\Row.okWide Tryz.prog W .any base 26 cs:=by
  unfold Value.okWide at hok;rw[Tryz.underlying26]at hok;exact hok
 obtain⟨fuel,h⟩:=h
 obtain⟨c,n,lo,hc,_⟩:=zvh hL
 obtain⟨h1,x,h2,h3⟩:=z3o z3s ⟨c,n,lo,hc⟩ fuel 26 cs.toList (d,ps) (by decide) h hw
 obtain⟨p,rfl,hp⟩:=api19.dPlan h3
 exact⟨cs,p,rfl,hp,h1,h2⟩
end Go.Proofs.YthmbkdkibhffbaaGreatDoor
namespace Go.Am
section
variable {key:xB->List Nat}{valid:xB->Bool}
def plainI(i:XIns):Bool := !(i.op == 9) && !(i.op == 13)
def plainL(l:List XIns):Bool:=l.all plainI
end
end Go.Am
namespace Go.Proofs
open Go Go.Am
variable [aC]
variable {t tf:Tr lA}
def zX:List zA:=[(.int .u8 0),(.str []),(.int .u8 0),(.bool false),.nilslice,(.bool false),.nilslice,(.int .i64 0),.nilslice]
theorem zp4{x:qA}{cs:List zA}(h:RD t x.d cs):∃a b c,cs=iC x a b c/\mG zX (.agg cs)=some (cellsOf cs)/\iB zA.one cs=true:=by
 have hz:=bO h x.zs
 obtain⟨a,b,c,rfl,h1,h2,h3⟩:=jL h
 exact⟨a,b,c,rfl,hz,zfv h1.one h2.one h3.one⟩
end Go.Proofs
namespace Go.Proofs
open Go Go.Am
variable [aC]
variable {t tf:Tr lA}
structure ShortC (code:List XIns) (n:Nat):Prop where
 pos:1<=code.length
 four:code.length<=4*n
 most:code.length<=1000
 parts:n<1000000
 str:plainL code=true->code.length=n
 ops:∀i∈code,i.op<256
theorem zc1:∀(l:List kC) (s:Nt),(yG cA vB l s).2.length=l.length
 | [],s=>rfl
 | x::l,s=>by simp[yG,zc1 l]
end Go.Proofs
namespace Go.Am
def dH (op:Nat):Prop:=op=3\/op=4\/op=5\/op=6\/op=8
inductive eI:List XIns->Nat->Nat->Nat->Nat->Prop
 | nil {n c:Nat}:eI [] n c n c
 | const {i:XIns} {l:List XIns} {n c n' c' k:Nat}:i.op=1->i.a=(k:Int)->k<=c->eI l n (max c (k+1)) n' c'->eI (i::l) n c n' c'
 | name {i:XIns} {l:List XIns} {n c n' c' k:Nat}:dH i.op->i.a=(k:Int)->k<=n->eI l (max n (k+1)) c n' c'->eI (i::l) n c n' c'
 | other {i:XIns} {l:List XIns} {n c n' c':Nat}:i.op≠1->¬ dH i.op->eI l n c n' c'->eI (i::l) n c n' c'
theorem eI.append{l m:List XIns}{n c n1 c1 n2 c2:Nat}(h:eI l n c n1 c1)(k:eI m n1 c1 n2 c2):eI (l++m) n c n2 c2:=by
 induction h with
 | nil=>exact k
 | const h1 h2 h3 _ ih=>exact .const h1 h2 h3 (ih k)
 | name h1 h2 h3 _ ih=>exact .name h1 h2 h3 (ih k)
 | other h1 h2 _ ih=>exact .other h1 h2 (ih k)
theorem eI.mono{l:List XIns}{n c n1 c1:Nat}(h:eI l n c n1 c1):n<=n1/\c<=c1:=by
 induction h with
 | nil=>exact⟨yal _,yal _⟩
 | const _ _ _ _ ih=>exact⟨ih.1,by have:=ih.2;omega⟩
 | name _ _ _ _ ih=>exact⟨by have:=ih.1;omega,ih.2⟩
 | other _ _ _ ih=>exact ih
theorem zuz{k:List Nat}{l:List (List Nat)}(h:k∈l):lI k l<l.length:=(yad.1 (znl h)).1
section
variable (key:xB->List Nat)(P:xB->Prop)
structure pK (s:Nt):Prop where
 names:s.names.Nodup
 consts:(s.consts.map key).Nodup
 all:∀v∈s.consts,P v
end
section
variable {key:xB->List Nat}{valid:xB->Bool}{P:xB->Prop}
theorem zee{α:Type}{l:List α}{a:α}(h:l.Nodup)(ha:a∉l):(l++[a]).Nodup:=by
 rw[List.nodup_append];exact⟨h,by simp,fun x hx y hy e=>by simp at hy;subst hy;subst e;exact ha hx⟩
theorem zfz{s:Nt}{n:List Nat}(h:pK key P s):pK key P (s.name n)/\s.nameI n<=s.names.length/\(s.name n).names.length=max s.names.length (s.nameI n+1)/\(s.name n).consts=s.consts:=by
 unfold Nt.name Nt.nameI;by_cases hm:n∈s.names
 ·rw[if_pos hm]
  have:=zuz hm
  exact⟨h,by omega,by omega,rfl⟩
 ·rw[if_neg hm,oW hm]
  exact⟨⟨zee h.names hm,h.consts,h.all⟩,yal _,by simp,rfl⟩
theorem zbd{s:Nt}{v:xB}(h:pK key P s)(hv:P v):pK key P (s.const key v)/\s.constI key v<=s.consts.length/\(s.const key v).consts.length=max s.consts.length (s.constI key v+1)/\(s.const key v).names=s.names:=by
 unfold Nt.const Nt.constI;by_cases hm:key v∈s.consts.map key
 ·rw[if_pos hm]
  have:=zuz hm
  rw[yag]at this;exact⟨h,by omega,by omega,rfl⟩
 ·rw[if_neg hm,oW hm,yag]
  refine⟨⟨h.names,by rw[List.map_append];exact zee h.consts hm,fun u hu=>?_⟩,yal _,by simp,rfl⟩
  rcases List.mem_append.1 hu with hu | hu
  ·exact h.all u hu
  ·simp at hu;subst hu;exact hv
def zoh (key:xB->List Nat)(P:xB->Prop)(f:fG):Prop:=∀s p,pK key P s->pK key P (f s p).1/\eI (f s p).2 s.names.length s.consts.length (f s p).1.names.length (f s p).1.consts.length
theorem zko{f g:fG}{skip:Nat}{truth:Int}(hf:zoh key P f)(hg:zoh key P g)(hs:skip=10\/skip=11)(hv:P (cF truth)):zoh key P (iJ key f g skip truth):=by
 intro s p h;obtain⟨f1,f2⟩:=hf s p h
 obtain⟨g1,g2⟩:=hg (f s p).1 (p+(f s p).2.length+1) f1
 obtain⟨c1,c2,c3,c4⟩:=zbd (v:=cF truth) g1 hv
 unfold iJ;refine⟨c1,f2.append (.other (by show skip≠1;omega) (by show ¬ dH skip;unfold dH;omega) (g2.append (.other (by decide) (by unfold dH;decide) (.other (by show(9:Nat)≠1;decide) (by show ¬ dH 9;unfold dH;decide) (.const rfl rfl c2 ?_)))))⟩
 show eI [] _ _ ((g (f s p).1 (p+(f s p).2.length+1)).1.const key (cF truth)).names.length ((g (f s p).1 (p+(f s p).2.length+1)).1.const key (cF truth)).consts.length
 rw[c3,c4];exact .nil
theorem lt_if{f g h:fG}(hf:zoh key P f)(hg:zoh key P g)(hh:zoh key P h):zoh key P (ifT f g h):=by
 intro s p hs;obtain⟨f1,f2⟩:=hf s p hs
 obtain⟨g1,g2⟩:=hg (f s p).1 (p+(f s p).2.length+1) f1
 obtain⟨h1,h2⟩:=hh (g (f s p).1 (p+(f s p).2.length+1)).1 (p+(f s p).2.length+1+(g (f s p).1 (p+(f s p).2.length+1)).2.length+1) g1
 unfold ifT;exact⟨h1,f2.append (.other (by show(10:Nat)≠1;decide) (by show ¬ dH 10;unfold dH;decide) (g2.append (.other (by show(9:Nat)≠1;decide) (by show ¬ dH 9;unfold dH;decide) h2)))⟩
theorem znb:∀ {fs:List fG},(∀f∈fs,zoh key P f)->zoh key P (rD fs)
 | [],_=>fun s p h=>⟨h,.nil⟩
 | f::l,hf=>fun s p h=>by
  obtain⟨f1,f2⟩:=hf f (by simp) s p h
  obtain⟨g1,g2⟩:=znb (fs:=l) (fun g hg=>hf g (by simp[hg])) (f s p).1 (p+(f s p).2.length) f1
  exact⟨g1,f2.append g2⟩
theorem z4b{op n:Nat}{name:List Nat}{v:xB}{s:Nt}(h:pK key P s)(hv:op=1->P v):pK key P (pE key op name v n s).1/\eI [(pE key op name v n s).2] s.names.length s.consts.length (pE key op name v n s).1.names.length (pE key op name v n s).1.consts.length:=by
 obtain⟨n1,n2,n3,n4⟩:=zfz (n:=name) h
 unfold pE;split
 ·rename_i e
  obtain⟨c1,c2,c3,c4⟩:=zbd h (hv e)
  refine⟨c1,.const rfl rfl c2 ?_⟩
  show eI [] _ _ (s.const key v).names.length (s.const key v).consts.length
  rw[c3,c4];exact .nil
 ·split
  ·exact⟨h,.other (by show(2:Nat)≠1;decide) (by show ¬ dH 2;unfold dH;decide) .nil⟩
  ·split
   ·rename_i e
    refine⟨n1,.name (by show dH op;unfold dH;omega) rfl n2 ?_⟩
    show eI [] _ _ (s.name name).names.length (s.name name).consts.length
    rw[n3,n4];exact .nil
   ·split
    ·refine⟨n1,.name (by show dH 6;unfold dH;decide) rfl n2 ?_⟩
     show eI [] _ _ (s.name name).names.length (s.name name).consts.length
     rw[n3,n4];exact .nil
    ·split
     ·refine⟨n1,.name (by show dH 8;unfold dH;decide) rfl n2 ?_⟩
      show eI [] _ _ (s.name name).names.length (s.name name).consts.length
      rw[n3,n4];exact .nil
     ·split
      ·exact⟨h,.other (by show(7:Nat)≠1;decide) (by show ¬ dH 7;unfold dH;decide) .nil⟩
      ·exact⟨h,.other (by show(7:Nat)≠1;decide) (by show ¬ dH 7;unfold dH;decide) .nil⟩
section
variable (h0:P (cF 0))(h1:P (cF 1))(hP:∀v:xB,v.fit->valid v=true->P v)
include h0 h1 hP
theorem zy1{op:Nat}{name:List Nat}{v:xB}{fs:List fG}(hv:v.fit)(hf:∀f∈fs,zoh key P f):zoh key P (mJ key valid op name v fs):=by
 intro s p h;unfold mJ;by_cases hb:mH valid op v fs.length=false
 ·rw[if_pos hb]
  exact⟨h,.other (by decide) (by unfold dH;decide) .nil⟩
 ·rw[if_neg hb]
  have hb:mH valid op v fs.length=true:=by simpa using hb
  have hn:=hb
  unfold mH at hn;simp only[yac,decide_eq_true_eq]at hn;by_cases h15:op=15
  ·rw[if_pos h15]
   match fs,hf with
   | [],_=>exact⟨h,.nil⟩
   | [_],_=>exact⟨h,.nil⟩
   | f::g::_,hf=>exact zko (hf f (by simp)) (hf g (by simp)) (.inl rfl) h0 s p h
  ·rw[if_neg h15]
   by_cases h16:op=16
   ·rw[if_pos h16]
    match fs,hf with
    | [],_=>exact⟨h,.nil⟩
    | [_],_=>exact⟨h,.nil⟩
    | f::g::_,hf=>exact zko (hf f (by simp)) (hf g (by simp)) (.inr rfl) h1 s p h
   ·rw[if_neg h16]
    by_cases h18:op=18
    ·rw[if_pos h18]
     match fs,hf with
     | [],_=>exact⟨h,.nil⟩
     | [_],_=>exact⟨h,.nil⟩
     | [_,_],_=>exact⟨h,.nil⟩
     | f::g::k::_,hf=>exact lt_if (hf f (by simp)) (hf g (by simp)) (hf k (by simp)) s p h
    ·rw[if_neg h18]
     obtain⟨q1,q2⟩:=znb hf s p h
     have hvP:op=1->P v:=fun e=>hP v hv (by
      have:=hn.1.1
      rw[e]at this;simpa using this)
     obtain⟨o1,o2⟩:=z4b (op:=op) (n:=fs.length) (name:=name) (v:=v) q1 hvP
     exact⟨o1,q2.append o2⟩
mutual
theorem zg9:∀(x:qA),x.fit->zoh key P (lB key valid x)
 | .mk op name v args,h=>by
  unfold qA.fit at h;unfold lB;exact zy1 h0 h1 hP h.2.2.2.1 (z0w args h.2.2.2.2.2)
theorem z0w:∀(l:List qA),qA.fits l->∀f∈uD key valid l,zoh key P f
 | [],_,f,hf=>by simp[uD]at hf
 | x::l,h,f,hf=>by
  unfold qA.fits at h;simp only[uD,yat]at hf;rcases hf with rfl | hf
  ·exact zg9 x h.1
  ·exact z0w l h.2 f hf
end
end
inductive zwz:List (List XIns × List XIns)->Nat->Nat->Nat->Nat->Prop
 | nil {n c:Nat}:zwz [] n c n c
 | cons {a b:List XIns} {l:List (List XIns × List XIns)} {n c n1 c1 n2 c2 n' c':Nat}:eI a n c n1 c1->eI b n1 c1 n2 c2->zwz l n2 c2 n' c'->zwz ((a,b)::l) n c n' c'
theorem z0x(h0:P (cF 0))(h1:P (cF 1))(hP:∀v:xB,v.fit->valid v=true->P v):∀(l:List kC) (s:Nt),(∀x∈l,x.fit)->pK key P s->pK key P (yG key valid l s).1/\zwz (yG key valid l s).2 s.names.length s.consts.length (yG key valid l s).1.names.length (yG key valid l s).1.consts.length
 | [],s,_,h=>⟨h,.nil⟩
 | x::l,s,hf,h=>by
  have hx:=hf x (by simp)
  obtain⟨a1,a2⟩:=zg9 h0 h1 hP x.when_ hx.2.2.2.2.2.1 s 0 h
  obtain⟨b1,b2⟩:=zg9 h0 h1 hP x.then_ hx.2.2.2.2.2.2 (lB key valid x.when_ s 0).1 0 a1
  obtain⟨c1,c2⟩:=z0x h0 h1 hP l _ (fun y hy=>hf y (by simp[hy])) b1
  exact⟨c1,.cons a2 b2 c2⟩
end
end Go.Am
namespace Go.Proofs
open Go Go.Am
variable [aC]
variable {t tf:Tr lA}
def goodV(v:xB):Prop:=vB v=true/\v.fit
theorem zdu{n:Int}(h0:0<=n)(h1:n<=1):goodV (cF n):=by
 refine⟨?_,?_⟩
 ·unfold vB cF
  rw[if_neg (by show ¬ ((1:Nat)=2\/(1:Nat)=3);decide),if_pos rfl]
  have:wO ⟨⟨false,[]⟩,⟨false,[]⟩⟩=true:=by rfl
  simp[this,h0,h1]
 ·exact⟨by show(1:Nat)<256;decide,⟨⟨by show 0<lD;decide,by show 0<lD;decide⟩,fun x hx=>(by cases hx),fun x hx=>(by cases hx)⟩,by show -9223372036854775808<=n;omega,by show n<9223372036854775808;omega⟩
theorem zy6{p:yH}(hp:p.fit):pK cA goodV (nG p).1/\zwz (nG p).2 0 0 (nG p).1.names.length (nG p).1.consts.length:=
 z0x (zdu (by decide) (by decide)) (zdu (by decide) (by decide)) (fun v h1 h2=>⟨h2,h1⟩) p.clauses ⟨[],[]⟩ hp.clauses ⟨by simp,by simp,fun v hv=>(by cases hv)⟩
theorem zhb:∀(l:List kC) (s:Nt),(yG cA vB l s).1.names.length<=s.names.length+dM l/\(yG cA vB l s).1.consts.length<=s.consts.length+dM l
 | [],s=>by simp[yG,dM]
 | x::l,s=>by
  have h1:=kM (key:=cA) (valid:=vB) x.when_ s 0
  have h2:=kM (key:=cA) (valid:=vB) x.then_ (lB cA vB x.when_ s 0).1 0
  have h3:=zhb l (lB cA vB x.then_ (lB cA vB x.when_ s 0).1 0).1
  simp only[yG,dM];omega
theorem oE{a b:Int}(h:a≠b):¬ wA a b=true:=fun e=>h (nE.1 e)
section
variable {nm:List Nat}{a b c vn vc vw vt:zA}{Q:bB}
theorem zg2{l:List xB}{v:zA}(hv:oA t 6 (l.map xB.d) v){i:Nat}{x:xB}(hx:l[i]?=some x) :
  ∃p o u w,yB yA 31 v (.int .i64 (i:Int))=some (.ptr p o)/\jA yA 47 ⟨0,t⟩ (.ptr p o)=some (.agg [.int .u8 x.kind,.bool x.f.n.neg,u,.bool x.f.d.neg,w,.int .i64 x.i]) ∧
   mG [(.int .u8 0),(.bool false),.nilslice,(.bool false),.nilslice,(.int .i64 0)] (.agg [.int .u8 x.kind,.bool x.f.n.neg,u,.bool x.f.d.neg,w,.int .i64 x.i])=some (cellsOf [.int .u8 x.kind,.bool x.f.n.neg,u,.bool x.f.d.neg,w,.int .i64 x.i])/\oA t 1 (gC x.f.n.limbs) u/\oA t 1 (gC x.f.d.limbs) w:=by
 obtain⟨p,o,cs,g1,g2,_,_,g5⟩:=nF.at sl31 (by simp) hv (i:=i) (d:=x.d) (by simp[hx])
 have hz:=bO g5 x.zs
 obtain⟨u,w,rfl,h1,h2⟩:=z1d g5
 exact⟨p,o,u,w,g1,g2,hz,h1,h2⟩
end
end Go.Proofs
namespace Go.Am
def zu9(a:Int):Bool:=(decide (7<=a)&&decide (a<=14))||decide (a=17)||decide (a=19)||decide (a=20)||(decide (24<=a)&&decide (a<=26))
def cU(b:Int):Bool:=decide (21<=b)&&decide (b<=23)
def sE(nN nC:Nat)(x:XIns)(i len:Nat):Bool:=
 if x.op=1 then decide (0<=x.a)&&decide (x.a<nC)&&decide (x.b=0)
 else if x.op=3\/x.op=4\/x.op=5 then decide (0<=x.a)&&decide (x.a<nN)&&decide (x.b=0)
 else if x.op=6 then decide (0<=x.a)&&decide (x.a<nN)&&(decide (x.b=1)||decide (x.b=2))
 else if x.op=8 then decide (0<=x.a)&&decide (x.a<nN)&&cU x.b
 else if x.op=7 then zu9 x.a&&(decide (x.b=0)||decide (x.a=19))
 else if x.op=9\/x.op=10\/x.op=11 then decide ((i:Int)<x.a)&&decide (x.a<=len)&&decide (x.b=0)
 else if x.op=2\/x.op=12\/x.op=13 then decide (x.a=0)&&decide (x.b=0)
 else false
def rG(x:XIns):Int:=
 if x.op=6 then x.b else if x.op=7 then(gF (x.a%256).toNat).1 else if x.op=8 then(gF (x.b%256).toNat).1
 else if x.op=3\/x.op=4\/x.op=5\/x.op=10\/x.op=11\/x.op=12 then 1 else 0
def wK(x:XIns):Nat:=if x.op=9\/x.op=10\/x.op=11 then 0 else 1
def xK(d:List Nat)(k v:Nat):Option (List Nat):=match d[k]? with
 | some 0=>some (d.set k v)
 | some (w+1)=>if w+1=v then some d else none
 | none=>none
def dF(nN nC len:Nat)(x:XIns)(i:Nat)(d:List Nat):Option (List Nat):=match d[i]? with
 | some (e+1)=>
  if sE nN nC x i len=false then none
  else if (e:Int)-rG x<0\/64<(e:Int)-rG x+wK x then none
  else(if x.op=9\/x.op=10\/x.op=11 then xK d x.a.toNat (((e:Int)-rG x+wK x).toNat+1)else some d).bind fun d'=>
   if x.op=9 then some d' else xK d' (i+1) (((e:Int)-rG x+wK x).toNat+1)
 | _=>none
def vI(nN nC len:Nat):List XIns->Nat->List Nat->Option (List Nat)
 | [],_,d=>some d
 | x::l,i,d=>(dF nN nC len x i d).bind (vI nN nC len l (i+1))
def yJ(nN nC:Nat)(code:List XIns):Bool:=
 decide (code.length<=1000)&&match vI nN nC code.length code 0 (1::List.replicate code.length 0)with
  | some d=>decide (d[code.length]?=some 2)
  | none=>false
section
variable {nN nC len:Nat}
theorem tR:∀(l m:List XIns) (i:Nat) (d:List Nat),vI nN nC len (l++m) i d=(vI nN nC len l i d).bind (vI nN nC len m (i+l.length))
 | [],m,i,d=>rfl
 | x::l,m,i,d=>by
  show(dF nN nC len x i d).bind (vI nN nC len (l++m) (i+1))=((dF nN nC len x i d).bind (vI nN nC len l (i+1))).bind (vI nN nC len m (i+(x::l).length))
  cases dF nN nC len x i d with
  | none=>rfl
  | some d'=>
   show vI nN nC len (l++m) (i+1) d'=(vI nN nC len l (i+1) d').bind _
   rw[tR l m (i+1) d',show i+(x::l).length=i+1+l.length by simp;omega]
theorem za1{d:List Nat}{k v:Nat}(h:d[k]?=some 0\/d[k]?=some (v+1)):∃d',xK d k (v+1)=some d'/\d'.length=d.length/\d'[k]?=some (v+1)/\∀j,j≠k->d'[j]?=d[j]?:=by
 unfold xK;rcases h with h | h
 ·rw[h]
  have hk:=(yad.1 h).1
  exact⟨_,rfl,by simp,by rw[ybx,if_pos rfl,if_pos hk],fun j hj=>by rw[ybx,if_neg (Ne.symm hj)]⟩
 ·rw[h]
  exact⟨d,if_pos rfl,rfl,h,fun _ _=>rfl⟩
theorem uX{x:XIns}{i e v:Nat}{d:List Nat}(hd:d[i]?=some (e+1))(hs:sE nN nC x i len=true)(hj:¬ (x.op=9\/x.op=10\/x.op=11))(hp:rG x+v=(e:Int)+1)(hpe:rG x<=e)(hv:v<=64)(hn:d[i+1]?=some 0\/d[i+1]?=some (v+1)) :
  ∃d',dF nN nC len x i d=some d'/\d'.length=d.length/\d'[i+1]?=some (v+1)/\∀j,j≠i+1->d'[j]?=d[j]?:=by
 obtain⟨d',h1,h2,h3,h4⟩:=za1 hn
 refine⟨d',?_,h2,h3,h4⟩
 unfold dF;have e1:wK x=1:=if_neg hj
 have e2:((e:Int)-rG x+(wK x:Nat)).toNat=v:=by rw[e1];omega
 rw[hd];simp only[];rw[if_neg (by simp[hs]),if_neg (by rw[e1];omega),if_neg hj,e2]
 show(if x.op=9 then some d else xK d (i+1) (v+1))=some d'
 rw[if_neg (fun h=>hj (.inl h)),h1]
theorem zhi{x:XIns}{i e T:Nat}{d:List Nat}(hd:d[i]?=some (e+2))(hx:x.op=10\/x.op=11)(ha:x.a=(T:Int))(hb:x.b=0)(hi:i<T)(hT:T<=len)(he:e<=64)(ht:d[T]?=some 0\/d[T]?=some (e+1))(hne:T≠i+1)(hn:d[i+1]?=some 0\/d[i+1]?=some (e+1)) :
  ∃d',dF nN nC len x i d=some d'/\d'.length=d.length/\d'[i+1]?=some (e+1)/\d'[T]?=some (e+1)/\∀j,j≠i+1->j≠T->d'[j]?=d[j]?:=by
 obtain⟨d1,h1,h2,h3,h4⟩:=za1 ht
 obtain⟨d',g1,g2,g3,g4⟩:=za1 (d:=d1) (k:=i+1) (v:=e) (by rw[h4 (i+1) (Ne.symm hne)];exact hn)
 refine⟨d',?_,g2.trans h2,g3,by rw[g4 T hne];exact h3,fun j h5 h6=>(g4 j h5).trans (h4 j h6)⟩
 have hj:x.op=9\/x.op=10\/x.op=11:=by omega
 have e1:wK x=0:=if_pos hj
 have e3:rG x=1:=by unfold rG;rw[if_neg (by omega),if_neg (by omega),if_neg (by omega),if_pos (by omega)]
 have e2:(((e+1:Nat):Int)-rG x+(wK x:Nat)).toNat=e:=by rw[e1,e3];omega
 have hs:sE nN nC x i len=true:=by
  unfold sE;rw[if_neg (by omega),if_neg (by omega),if_neg (by omega),if_neg (by omega),if_neg (by omega),if_pos hj,ha,hb]
  simp;omega
 unfold dF;rw[hd];simp only[];rw[if_neg (by simp[hs]),if_neg (by rw[e1,e3];omega),if_pos hj,e2,ha,show((T:Int)).toNat=T by omega,h1]
 show(if x.op=9 then some d1 else xK d1 (i+1) (e+1))=some d'
 rw[if_neg (by omega),g1]
theorem zhj{i e T:Nat}{d:List Nat}(hd:d[i]?=some (e+1))(hi:i<T)(hT:T<=len)(he:e<=64)(ht:d[T]?=some 0\/d[T]?=some (e+1)) :
  ∃d',dF nN nC len ⟨9,(T:Int),0⟩ i d=some d'/\d'.length=d.length/\d'[T]?=some (e+1)/\∀j,j≠T->d'[j]?=d[j]?:=by
 obtain⟨d',h1,h2,h3,h4⟩:=za1 ht
 refine⟨d',?_,h2,h3,h4⟩
 have hs:sE nN nC ⟨9,(T:Int),0⟩ i len=true:=by
  unfold sE;simp;omega
 unfold dF;rw[hd];simp only[];have e3:rG ⟨9,(T:Int),0⟩=0:=rfl
 have e1:wK ⟨9,(T:Int),0⟩=0:=rfl
 rw[if_neg (by simp[hs]),e3,e1,if_neg (by omega),if_pos (by simp),show((e:Int)-0+((0:Nat):Int)).toNat=e by omega,show((T:Int)).toNat=T by omega,h1]
 rfl
end
section
variable (key:xB->List Nat)
def Snd (f:fG)(m:Nat):Prop:=zoh key (fun _=>True) f/\∀(s:Nt) (p nN nC len:Nat) (d:List Nat) (e:Nat),pK key (fun _=>True) s->1<=(f s p).2.length ∧
 ((f s p).1.names.length<=nN->(f s p).1.consts.length<=nC->p+(f s p).2.length<=len->d.length=len+1->d[p]?=some (e+1)->(∀k,p<k->k<p+(f s p).2.length->d[k]?=some 0)->(d[p+(f s p).2.length]?=some 0\/d[p+(f s p).2.length]?=some (e+2))->e+m<=64 →
  ∃d',vI nN nC len (f s p).2 p d=some d'/\d'.length=len+1/\d'[p+(f s p).2.length]?=some (e+2)/\∀k,p+(f s p).2.length<k->d'[k]?=d[k]?)
end
end Go.Am
