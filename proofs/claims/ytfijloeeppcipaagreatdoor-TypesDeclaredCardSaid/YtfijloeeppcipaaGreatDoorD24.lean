/- Typed data are plans: the types of the interface, and what data of these types are. -/
import Derived.Carry
import Derived.HandedShaped
import Derived.JoinedOf
import Derived.LaidMore
import Derived.OpenShut
import Derived.ProofKit
import Derived.Stop.Joined
import Derived.Test.YtfijloeeppcipaaGreatDoorRows
import Derived.Test.YtfijloeeppcipaaGreatDoorD23
set_option linter.all false
noncomputable section
namespace Go.Am
open Go Go.RowKit
structure zs3 (P:Program) where
 (b i u8 u16 s limbs whole frac val expr exprs row rows table tables dfn dfns clause clauses plan:TypeId)
 hb:P.underlying b=some .bool
 hi:P.underlying i=some (.int .i64)
 hu8:P.underlying u8=some (.int .u8)
 hu16:P.underlying u16=some (.int .u16)
 hs:P.underlying s=some .string
 hlimbs:P.underlying limbs=some (.slice u16)
 hexprs:P.underlying exprs=some (.slice expr)
 hrows:P.underlying rows=some (.slice row)
 htables:P.underlying tables=some (.slice table)
 hdfns:P.underlying dfns=some (.slice dfn)
 hclauses:P.underlying clauses=some (.slice clause)
 hwhole:∃fs,P.underlying whole=some (.struct fs)/\fs.toList.map (·.type)=[b,limbs]
 hfrac:∃fs,P.underlying frac=some (.struct fs)/\fs.toList.map (·.type)=[whole,whole]
 hval:∃fs,P.underlying val=some (.struct fs)/\fs.toList.map (·.type)=[u8,frac,i]
 hexpr:∃fs,P.underlying expr=some (.struct fs)/\fs.toList.map (·.type)=[u8,s,val,exprs]
 hrow:∃fs,P.underlying row=some (.struct fs)/\fs.toList.map (·.type)=[i,i,i,frac]
 htable:∃fs,P.underlying table=some (.struct fs)/\fs.toList.map (·.type)=[s,b,rows]
 hdfn:∃fs,P.underlying dfn=some (.struct fs)/\fs.toList.map (·.type)=[s,u8,b]
 hclause:∃fs,P.underlying clause=some (.struct fs)/\fs.toList.map (·.type)=[s,s,i,i,i,b,expr,expr]
 hplan:∃fs,P.underlying plan=some (.struct fs)/\fs.toList.map (·.type)=[s,dfns,tables,clauses]
 cu16:P.cellsOf u16=1
 cexpr:P.cellsOf expr=9
 crow:P.cellsOf row=7
 ctable:P.cellsOf table=3
 cdfn:P.cellsOf dfn=3
 cclause:P.cellsOf clause=24
 bytes:1<=P.bytesOf u16/\1<=P.bytesOf expr/\1<=P.bytesOf row/\1<=P.bytesOf table/\1<=P.bytesOf dfn/\1<=P.bytesOf clause
section
variable {P:Program}{f:Nat}{t:TypeId}{x:D}
def gV(h:fF P f t x):∃g,f=g+1:=by
 cases f with
 | zero=>exact h.elim
 | succ g=>exact⟨g,rfl⟩
def sX(ht:P.underlying t=some .bool)(h:fF P f t x):∃b,x=.bool b:=by
 obtain⟨g,rfl⟩:=gV h
 unfold fF at h;rw[ht]at h;exact h
def zc4{k:IntKind}(ht:P.underlying t=some (.int k))(h:fF P f t x):∃n,x=.int k n/\(Lit.int k n).wf=true:=by
 obtain⟨g,rfl⟩:=gV h
 unfold fF at h;rw[ht]at h;exact h
def rT(ht:P.underlying t=some (.int .i64))(h:fF P f t x):∃n,x=.int .i64 n/\i64 n:=by
 obtain⟨n,rfl,hn⟩:=zc4 ht h
 simp only[Lit.wf,ybb,decide_eq_true_eq]at hn;have h1:IntKind.i64.min = -9223372036854775808:=rfl
 have h2:IntKind.i64.max=9223372036854775807:=rfl
 rw[h1,h2]at hn;exact⟨n,rfl,hn.1,by omega⟩
def zhy(ht:P.underlying t=some (.int .u8))(h:fF P f t x):∃n:Nat,x=.int .u8 (n:Int)/\n<256:=by
 obtain⟨n,rfl,hn⟩:=zc4 ht h
 simp only[Lit.wf,ybb,decide_eq_true_eq]at hn;have h1:IntKind.u8.min=0:=rfl
 have h2:IntKind.u8.max=255:=rfl
 rw[h1,h2]at hn;exact⟨n.toNat,by rw[show((n.toNat:Nat):Int)=n by omega],by omega⟩
def zwb(ht:P.underlying t=some (.int .u16))(h:fF P f t x):∃n:Nat,x=.int .u16 (n:Int)/\n<65536:=by
 obtain⟨n,rfl,hn⟩:=zc4 ht h
 simp only[Lit.wf,ybb,decide_eq_true_eq]at hn;have h1:IntKind.u16.min=0:=rfl
 have h2:IntKind.u16.max=65535:=rfl
 rw[h1,h2]at hn;exact⟨n.toNat,by rw[show((n.toNat:Nat):Int)=n by omega],by omega⟩
def lU(ht:P.underlying t=some .string)(h:fF P f t x):∃l:List Nat,x=.str l/\l.length<cC/\∀c∈l,c<256:=by
 obtain⟨g,rfl⟩:=gV h
 unfold fF at h;rw[ht]at h;obtain⟨l,h1,h2,h3⟩:=h
 unfold reachBytes at h2;exact⟨l,h1,by unfold cC;omega,h3⟩
def kU{e:TypeId}{sz:Nat}(ht:P.underlying t=some (.slice e))(hc:P.cellsOf e=sz)(hb:1<=P.bytesOf e)(h:fF P f t x):∃(l:List D) (g:Nat),f=g+1/\x=.sl sz l/\l.length<cC/\∀y∈l,fF P g e y:=by
 obtain⟨g,rfl⟩:=gV h
 unfold fF at h;rw[ht]at h;obtain⟨l,h1,h2,h3⟩:=h
 have:l.length<=l.length*P.bytesOf e:=Nat.le_mul_of_pos_right _ hb
 unfold reachBytes at h2;exact⟨l,g,rfl,by rw[<- hc];exact h1,by unfold cC;omega,h3⟩
def mC.ofMap{α β γ:Type}{k:α->γ}{R:γ->β->Prop}:∀ {l:List α} {m:List β},mC (fun a b=>R (k a) b) l m->mC R (l.map k) m
 | [],_,.nil=>.nil
 | _::_,_::_,.cons h r=>.cons h (mC.ofMap r)
def lQ{ts:List TypeId}(ht:∃fs,P.underlying t=some (.struct fs)/\fs.toList.map (·.type)=ts)(h:fF P f t x):∃(l:List D) (g:Nat),f=g+1/\x=.st l/\mC (fun t y=>fF P g t y) ts l:=by
 obtain⟨fs,ht,rfl⟩:=ht
 obtain⟨g,rfl⟩:=gV h
 unfold fF at h;rw[ht]at h;obtain⟨l,h1,h2⟩:=h
 exact⟨l,g,rfl,h1,mC.ofMap h2⟩
def mC.cons_inv{α β:Type}{R:α->β->Prop}{a:α}{l:List α}{m:List β}(h:mC R (a::l) m):∃b r,m=b::r/\R a b/\mC R l r:=by
 cases h with
 | cons h1 h2=>exact⟨_,_,rfl,h1,h2⟩
def mC.nil_inv{α β:Type}{R:α->β->Prop}{m:List β}(h:mC R ([]:List α) m):m=[]:=by
 cases h;rfl
def iT{α β:Type}{g:α->β}{Q:α->Prop}:∀ {l:List β},(∀y∈l,∃a,y=g a/\Q a)->∃m:List α,l=m.map g/\∀a∈m,Q a
 | [],_=>⟨[],rfl,fun _ h=>by cases h⟩
 | y::l,h=>by
  obtain⟨a,h1,h2⟩:=h y (by simp)
  obtain⟨m,h3,h4⟩:=iT (l:=l) fun z hz=>h z (ybr _ hz)
  exact⟨a::m,by simp[h1,h3],fun b hb=>by
   rcases ybs.1 hb with rfl | hb
   ·exact h2
   ·exact h4 b hb⟩
end
namespace zs3
section
variable {P:Program}(A:zs3 P){f:Nat}{x:D}
def dWhole(h:fF P f A.whole x):∃w:cH,x=w.d/\w.limbs.length<cC/\qB 65536 w.limbs:=by
 obtain⟨l,g,rfl,rfl,k⟩:=lQ A.hwhole h
 obtain⟨d1,r,rfl,h1,k⟩:=k.cons_inv
 obtain⟨d2,r,rfl,h2,k⟩:=k.cons_inv
 obtain rfl:=k.nil_inv
 obtain⟨b,rfl⟩:=sX A.hb h1
 obtain⟨l,g,rfl,rfl,hl,hm⟩:=kU A.hlimbs A.cu16 A.bytes.1 h2
 obtain⟨m,rfl,hq⟩:=iT (g:=fun n:Nat=>D.int .u16 (n:Int)) (Q:=fun n=>n<65536) fun y hy=>zwb A.hu16 (hm y hy)
 exact⟨⟨b,m⟩,rfl,by simpa using hl,hq⟩
def dFrac(h:fF P f A.frac x):∃w:qF,x=w.dd/\w.fit:=by
 obtain⟨l,g,rfl,rfl,k⟩:=lQ A.hfrac h
 obtain⟨d1,r,rfl,h1,k⟩:=k.cons_inv
 obtain⟨d2,r,rfl,h2,k⟩:=k.cons_inv
 obtain rfl:=k.nil_inv
 obtain⟨a,rfl,a1,a2⟩:=A.dWhole h1
 obtain⟨b,rfl,b1,b2⟩:=A.dWhole h2
 exact⟨⟨a,b⟩,rfl,⟨a1,b1⟩,a2,b2⟩
def dVal(h:fF P f A.val x):∃w:mH,x=w.d/\w.fit:=by
 obtain⟨l,g,rfl,rfl,k⟩:=lQ A.hval h
 obtain⟨d1,r,rfl,h1,k⟩:=k.cons_inv
 obtain⟨d2,r,rfl,h2,k⟩:=k.cons_inv
 obtain⟨d3,r,rfl,h3,k⟩:=k.cons_inv
 obtain rfl:=k.nil_inv
 obtain⟨kk,rfl,hk⟩:=zhy A.hu8 h1
 obtain⟨q,rfl,hq⟩:=A.dFrac h2
 obtain⟨n,rfl,hn⟩:=rT A.hi h3
 exact⟨⟨kk,q,n⟩,rfl,hk,hq,hn.1,hn.2⟩
def z0l:∀ {l:List dA},(∀x∈l,x.fit)->dA.fits l
 | [],_=>by unfold dA.fits;trivial
 | x::l,h=>by unfold dA.fits;exact⟨h x (by simp),z0l fun y hy=>h y (ybr _ hy)⟩
def dExpr:∀(f:Nat) (x:D),fF P f A.expr x->∃w:dA,x=w.d/\w.fit:=by
 intro f;induction f using Nat.strongRecOn with
 | _ f ih=>
 intro x h;obtain⟨l,g,rfl,rfl,k⟩:=lQ A.hexpr h
 obtain⟨d1,r,rfl,h1,k⟩:=k.cons_inv
 obtain⟨d2,r,rfl,h2,k⟩:=k.cons_inv
 obtain⟨d3,r,rfl,h3,k⟩:=k.cons_inv
 obtain⟨d4,r,rfl,h4,k⟩:=k.cons_inv
 obtain rfl:=k.nil_inv
 obtain⟨kk,rfl,hk⟩:=zhy A.hu8 h1
 obtain⟨n,rfl,hn,hn'⟩:=lU A.hs h2
 obtain⟨v,rfl,hv⟩:=A.dVal h3
 obtain⟨l,g',rfl,rfl,hl,hm⟩:=kU A.hexprs A.cexpr A.bytes.2.1 h4
 obtain⟨m,rfl,hq⟩:=iT (g:=dA.d) (Q:=dA.fit) fun y hy=>ih g' (by omega) y (hm y hy)
 refine⟨.mk kk n v m,?_,?_⟩
 ·rw[dA.d,dA.ds_eq]
 ·unfold dA.fit
  exact⟨hk,hn,hn',hv,by simpa using hl,z0l hq⟩
def dRow(h:fF P f A.row x):∃w:vH,x=w.d/\w.fit:=by
 obtain⟨l,g,rfl,rfl,k⟩:=lQ A.hrow h
 obtain⟨d1,r,rfl,h1,k⟩:=k.cons_inv
 obtain⟨d2,r,rfl,h2,k⟩:=k.cons_inv
 obtain⟨d3,r,rfl,h3,k⟩:=k.cons_inv
 obtain⟨d4,r,rfl,h4,k⟩:=k.cons_inv
 obtain rfl:=k.nil_inv
 obtain⟨a,rfl,ha⟩:=rT A.hi h1
 obtain⟨b,rfl,hb⟩:=rT A.hi h2
 obtain⟨c,rfl,hc⟩:=rT A.hi h3
 obtain⟨q,rfl,hq⟩:=A.dFrac h4
 exact⟨⟨a,b,c,q⟩,rfl,ha,hb,hc,hq⟩
def dTable(h:fF P f A.table x):∃w:qE,x=w.d/\w.fit:=by
 obtain⟨l,g,rfl,rfl,k⟩:=lQ A.htable h
 obtain⟨d1,r,rfl,h1,k⟩:=k.cons_inv
 obtain⟨d2,r,rfl,h2,k⟩:=k.cons_inv
 obtain⟨d3,r,rfl,h3,k⟩:=k.cons_inv
 obtain rfl:=k.nil_inv
 obtain⟨n,rfl,hn,_⟩:=lU A.hs h1
 obtain⟨b,rfl⟩:=sX A.hb h2
 obtain⟨l,g',rfl,rfl,hl,hm⟩:=kU A.hrows A.crow A.bytes.2.2.1 h3
 obtain⟨m,rfl,hq⟩:=iT (g:=vH.d) (Q:=vH.fit) fun y hy=>A.dRow (hm y hy)
 exact⟨⟨n,b,m⟩,rfl,hn,by simpa using hl,hq⟩
def dDef(h:fF P f A.dfn x):∃w:jE,x=w.d/\w.fit:=by
 obtain⟨l,g,rfl,rfl,k⟩:=lQ A.hdfn h
 obtain⟨d1,r,rfl,h1,k⟩:=k.cons_inv
 obtain⟨d2,r,rfl,h2,k⟩:=k.cons_inv
 obtain⟨d3,r,rfl,h3,k⟩:=k.cons_inv
 obtain rfl:=k.nil_inv
 obtain⟨n,rfl,hn,_⟩:=lU A.hs h1
 obtain⟨kk,rfl,hk⟩:=zhy A.hu8 h2
 obtain⟨b,rfl⟩:=sX A.hb h3
 exact⟨⟨n,kk,b⟩,rfl,hn,hk⟩
def dClause(h:fF P f A.clause x):∃w:vF,x=w.d/\w.fit:=by
 obtain⟨l,g,rfl,rfl,k⟩:=lQ A.hclause h
 obtain⟨d1,r,rfl,h1,k⟩:=k.cons_inv
 obtain⟨d2,r,rfl,h2,k⟩:=k.cons_inv
 obtain⟨d3,r,rfl,h3,k⟩:=k.cons_inv
 obtain⟨d4,r,rfl,h4,k⟩:=k.cons_inv
 obtain⟨d5,r,rfl,h5,k⟩:=k.cons_inv
 obtain⟨d6,r,rfl,h6,k⟩:=k.cons_inv
 obtain⟨d7,r,rfl,h7,k⟩:=k.cons_inv
 obtain⟨d8,r,rfl,h8,k⟩:=k.cons_inv
 obtain rfl:=k.nil_inv
 obtain⟨n,rfl,hn,_⟩:=lU A.hs h1
 obtain⟨l,rfl,hl,_⟩:=lU A.hs h2
 obtain⟨a,rfl,ha⟩:=rT A.hi h3
 obtain⟨b,rfl,hb⟩:=rT A.hi h4
 obtain⟨c,rfl,hc⟩:=rT A.hi h5
 obtain⟨o,rfl⟩:=sX A.hb h6
 obtain⟨w,rfl,hw⟩:=A.dExpr _ _ h7
 obtain⟨v,rfl,hv⟩:=A.dExpr _ _ h8
 exact⟨⟨n,l,a,b,c,o,w,v⟩,rfl,hn,hl,ha,hb,hc,hw,hv⟩
def dPlan(h:fF P f A.plan x):∃w:eC,x=w.d/\w.fit:=by
 obtain⟨l,g,rfl,rfl,k⟩:=lQ A.hplan h
 obtain⟨d1,r,rfl,h1,k⟩:=k.cons_inv
 obtain⟨d2,r,rfl,h2,k⟩:=k.cons_inv
 obtain⟨d3,r,rfl,h3,k⟩:=k.cons_inv
 obtain⟨d4,r,rfl,h4,k⟩:=k.cons_inv
 obtain rfl:=k.nil_inv
 obtain⟨n,rfl,hn,_⟩:=lU A.hs h1
 obtain⟨l2,g2,rfl,rfl,hl2,hm2⟩:=kU A.hdfns A.cdfn A.bytes.2.2.2.2.1 h2
 obtain⟨l3,g3,_,rfl,hl3,hm3⟩:=kU A.htables A.ctable A.bytes.2.2.2.1 h3
 obtain⟨l4,g4,_,rfl,hl4,hm4⟩:=kU A.hclauses A.cclause A.bytes.2.2.2.2.2 h4
 obtain⟨m2,rfl,hq2⟩:=iT (g:=jE.d) (Q:=jE.fit) fun y hy=>A.dDef (hm2 y hy)
 obtain⟨m3,rfl,hq3⟩:=iT (g:=qE.d) (Q:=qE.fit) fun y hy=>A.dTable (hm3 y hy)
 obtain⟨m4,rfl,hq4⟩:=iT (g:=vF.d) (Q:=vF.fit) fun y hy=>A.dClause (hm4 y hy)
 exact⟨⟨n,m2,m3,m4⟩,rfl,⟨hn,by simpa using hl2,by simpa using hl3,by simpa using hl4,hq2,hq3,hq4⟩⟩
end
end zs3
end Go.Am
set_option maxRecDepth 100000
namespace Go.Am
open Go Go.RowKit Go.Proofs
def ztw[fC](B N:Nat)(hb:B<=256+fC.n):yT Tryz.prog yA B N aF:=by
 intro f g hg args H v H' hv μ w args' hH hI hl;have hg:zx5.get f=some g:=hg
 unfold zx5 at hg;rcases aK hg with⟨rfl,rfl⟩ | hg
 ·exact jP hv hH fun hv=>zag hI hv hl
 rcases aK hg with⟨rfl,rfl⟩ | hg
 ·exact .inr (zdr hb hH hv hl)
 rcases aK hg with⟨rfl,rfl⟩ | hg
 ·exact .inr (zgq hb hH hv hl)
 rcases aK hg with⟨rfl,rfl⟩ | hg
 ·exact jP hv hH fun hv=>zkv hI hv hl
 rcases aK hg with⟨rfl,rfl⟩ | hg
 ·exact jP hv hH fun hv=>zkw hI hv hl
 rcases aK hg with⟨rfl,rfl⟩ | hg
 ·exact jP hv hH fun hv=>zty hI hv hl
 ·rw[Tr.get_leaf]at hg;cases hg
def sim14[fC](hN:5<=fC.n):Sim Tryz.prog yA (256+fC.n) fC.n aF:=
 ⟨zj9 rfl,zg7 rfl,ztw _ _ (ybk _),ybk _,by kernel_rfl,fun _ _ hb h=>h.below hN hb⟩
section
variable {w:World}
def z9g{b:Nat}{y:rA}(h:(fH w).get b=some y):b<256+w.heap.size:=by
 unfold fH at h;rw[yP]at h;split at h
 ·assumption
 ·cases h
def ztg(hL:aF w)(f:Nat)(args:List zA)(args':Array Value)(hp:∀ [fC],yA.prims.get f=none)(hl:wB (muW w) args args'.toList)
  (h:∀ [fC],∃Q:uC,Wc yA F f args (fH w) Q/\∀v t,Q v t->v=.bool true) (hf:Nat.blt f yo=true:=by rfl) :
  Calls Tryz.prog f args' w fun e w'=>e=.returned (.bool true)/\Below w.heap.size w w':=by
 letI:fC:=⟨w.heap.size⟩
 obtain⟨Q,h1,h2⟩:=h
 refine(zpr (H:=⟨256+w.heap.size,fH w⟩) (sim14 hL.size) hL zzau hp (ybk _) (fun b y hb=>z9g hb) hrelW hl h1 hf).mono fun e w' ⟨v,v',t',μ',g1,g2,g3,g4,g5⟩=>?_
 have:=h2 v t' g4
 subst this;rw[uA]at g3;exact⟨by rw[g1,g3],g5⟩
def zzab(h:aF w):∀ [fC],rJ (fH w):=by
 intro _;obtain⟨t,h⟩:=h.lens
 have hb:=(ybe.1 h).1
 have e:(fH w).get 3=some (.cells (zio (fun j=>((z4m zov).toArray[j]?).bind (zvi w.heap.size)) (z4m zov).toArray.size) (z4m zov).toArray.size none):=by
  unfold fH;rw[yP,yab (by omega),yab (by omega),h]
  rfl
 refine⟨_,_,_,e,fun j a ha=>?_⟩
 rw[yP,ybw];have hj:j<xS.length:=by
  have:=(ybc.1 ha).1
  simpa using this
 rw[ybu]at ha;have hL:xS=zov:=rfl
 rw[hL]at ha hj
 cases hbt:zov[j]? with
 | none=>rw[hbt]at ha;cases ha
 | some b=>
  rw[hbt]at ha;obtain rfl:=yci ha
  rw[yab (by simp[z4m];exact hj)]
  simp only[z4m,List.getElem?_toArray,ybu,hbt,Option.map_some,yai,zvi]
def zsa(h:aF w):∀ [fC],gM (fH w):=by
 intro _;obtain⟨t,h⟩:=h.modes
 have hb:=(ybe.1 h).1
 have e:(fH w).get 0=some (.cells (zio (fun j=>((z2y lL).toArray[j]?).bind (zvi w.heap.size)) (z2y lL).toArray.size) (z2y lL).toArray.size none):=by
  unfold fH;rw[yP,yab (by omega),yab (by omega),h]
  rfl
 refine⟨_,_,_,e,fun j a ha=>?_⟩
 rw[yP,ybw];have hj:j<fP.length:=by
  have:=(ybc.1 ha).1
  simpa using this
 rw[ybu]at ha;have hL:fP=lL.map fun b=>b.map UInt8.toNat:=rfl
 rw[hL]at ha hj;rw[ybu]at ha
 cases hbt:lL[j]? with
 | none=>rw[hbt]at ha;cases ha
 | some b=>
  rw[hbt]at ha;obtain rfl:=yci ha
  rw[yab (by simp[z2y];simpa using hj)]
  simp only[z2y,List.getElem?_toArray,ybu,hbt,Option.map_some,yai,zvi];rfl
def z98{cs:List Value}(h:Has w.heap.size cs):wB (muW w) (cs.map (av w.heap.size)) cs:=by
 induction cs with
 | nil=>exact .nil
 | cons v l ih=>exact .cons (zsz (h v (by simp))) (ih fun u hu=>h u (ybr _ hu))
def z3m{cs:Array Value}(h:Has w.heap.size cs.toList):uA (muW w) (.agg (cs.toList.map (av w.heap.size))) (.agg cs):=by
 rw[uA];exact⟨cs,rfl,z98 h⟩
end
end Go.Am
namespace Go.Am
open Go Go.RowKit Go.ChangeShapes Go.WideShapes Go.ChangeAt
section
variable {H:Type}{enc:TypeId × Value->H}{P:Program}
def zaa(hl:laidOutB P=true){W W':World}(hb:Below W.heap.size W W'):∀ {ts:List TypeId} {vs:List Value} {ds:List (DataW H)} {ps:List MemPlace},(∀t∈ts,P.readableRec t=true/\t<P.types.size) →
  DataW.TrodAll enc P W 0 (fun _=>true) true ts vs ds ps->(∀x∈ps,x.block<W.heap.size)->DataW.TrodAll enc P W' 0 (fun b=>decide (b<W.heap.size)) true ts vs ds ps
 | [],[],[],_,_,h,_=>h
 | t::ts,_::_,_::_,_,ht,⟨p,q,h1,h2,e⟩,hs=>by
  subst e;exact⟨p,q,Below.trod hl (ht t (by simp)).1 (ht t (by simp)).2 h1 hb fun x hx=>hs x (ydc _ hx),
   zaa hl hb (fun t ht'=>ht t (ybr _ ht')) h2 fun x hx=>hs x (ycf _ hx),rfl⟩
 | [],_::_,_,_,_,h,_=>by simp[DataW.TrodAll]at h
 | [],[],_::_,_,_,h,_=>by simp[DataW.TrodAll]at h
 | _::_,[],_,_,_,h,_=>by simp[DataW.TrodAll]at h
 | _::_,_::_,[],_,_,h,_=>by simp[DataW.TrodAll]at h
def law_post(hl:laidOutB P=true){f:Func}{s:ChangeSpec}{tb:TypeId}(hp:∀t∈f.params.toList,P.readableRec t=true/\t<P.types.size)(hv:s.vars=[])(hres:f.resultTypes = #[tb])(htb:P.underlying tb=some .bool)
  {W W':World} {args:Array Value} {ds gs:List (DataW H)} {before:List MemPlace} (hfn:s.fn H ds={ results:=[.lit (.bool true)],args:=ds })
  (hW:DataW.Whole enc P f.params.toList s.vars false W args.toList ds gs before) (hb:Below W.heap.size W W') :
  s.post enc P f false true false false W args (.bool true) W':=by
 have hW0:=hW
 obtain⟨p,q,hA,hV,rfl,hfz,hnd⟩:=hW
 rw[hv]at hV;obtain⟨rfl,rfl⟩:=trodVars_none hV
 refine⟨ds,[],p++[],[],p,[],hW0,?_,?_,?_,hb.frame _,fun h=>by cases h⟩
 ·rw[ycd,hfn,hres]
  exact trodAll_mk1 (shut_bool htb _)
 ·rw[ycd,hfn]
  exact zaa hl hb hp hA fun x hx=>hW0.lt x (by simpa using hx)
 ·rw[ycd,hfn,hv]
  exact rfl
def zqx{a:Assume}{C:Checked}{os:Os}{f:FuncId}{fn:Func}{s:ChangeSpec}{conds:List PathCond}{apart fresh handsOn again:Bool}{X:World->Array Value->Prop}
  (hX:∀(w w':World) (args:Array Value),w.heap=w'.heap->X w args->X w' args)
  (own:ownKnob C.prog.godebug=none) (started:os.Started) (noInit:C.prog.inits.idxOf? f=none) (hfn:C.prog.funcs[f]?=some fn)
  (witness:∃(w:World) (tape:Tape) (i:Input),w.os=os/\(w.forCall tape i).Shaped C.prog/\i.vars=[]/\Input.okWide C.prog (w.forCall tape i) .any w.heap.size f i ∧
   ((s.pre enc C.prog fn conds apart (w.forCall tape i).memory i.args/\X (w.forCall tape i).memory i.args)/\sizedMet enc C.prog fn (OpenSpec.ofChange s) apart (w.forCall tape i).memory i.args)/\a.holds C.prog (lone (Frame.enter C.prog f i.args .normal) [] (w.forCall tape i)))
  (contract:∀(W:World) (base:Nat) (args:Array Value) (ds gs:List (DataW H)) (before:List MemPlace),
   (∀(j:Nat) t v,fn.params[j]?=some t->args[j]?=some v->Value.okWide C.prog W .any base t v) →
   DataW.Whole enc C.prog fn.params.toList s.vars apart W args.toList ds gs before →
   (DataW.weightsEach C.prog (fn.params.toList++s.plain.varTypes C.prog) (ds++gs)).all (· <= reachBytes)=true->X W args->W.ShapedOpen C.prog →
   Calls C.prog f args W fun e W'=>∃v,e=.returned v/\s.post enc C.prog fn apart fresh handsOn again W args v W') :
  ReturnsInHanded a C os f .any (fun w args=>(s.pre enc C.prog fn conds apart w args/\X w args)/\sizedMet enc C.prog fn (OpenSpec.ofChange s) apart w args) (s.post enc C.prog fn apart fresh handsOn again):=by
 refine returnsInHanded_of_calls own started noInit witness ?_
 intro w tape i _ hsh _ hok hpre _;obtain⟨_,_,_,fn',hfn',_,_,_,_,hval⟩:=hok
 have e:fn'=fn:=yci (hfn'.symm.trans hfn)
 subst e;obtain⟨⟨⟨ds,gs,before,hw,hc⟩,hx⟩,hz⟩:=hpre
 have hw':=DataW.Whole.of_heap (w':=w.forCall tape i) (by rfl) hw
 refine(contract (w.forCall tape i) w.heap.size i.args ds gs before hval hw' (hz.weights hw) (hX _ _ _ (by rfl) hx) hsh).mono fun e W' ⟨v,he,hp⟩=>?_
 subst he;exact ChangeSpec.post_blind hp
variable {w:World}{base:Nat}{spare:Nat->Bool}{held:Bool}{fuel:Nat}{t e:TypeId}{cs:List Value}{ps:List MemPlace}
def ze5{α:Type}{g:α->DataW H}{u:α->Value}{l:List α}{n:Nat}(ht:P.underlying t=some (.array n e))(hc:P.cellsOf e=1)(hn:P.cellsOf t=n)
  (h1:∀(m:Nat) (c:List Value) (x:DataW H × List MemPlace) (a:α),DataW.trod enc P w base spare held m e c=some x->x.1=g a->c=[u a])
  (h:DataW.trod enc P w base spare held fuel t cs=some (.agg (l.map g),ps)):cs=l.map u:=by
 obtain⟨xs,m,_,hx,hlen,hxs,hel⟩:=DataW.trod_array ht h
 simp only[Prod.mk.injEq,DataW.agg.injEq]at hx;have hl:l.length=n:=by have:=congrArg List.length hx.1;simp[hxs]at this;exact this
 rw[hn]at hlen;refine List.ext_getElem (by rw[hlen,ybf,hl]) fun i hi1 hi2=>?_
 have hi:i<n:=by omega
 have:=hel i hi
 rw[hc]at this;have hc1:((cs.drop (i*1)).take 1)=[cs[i]]:=by
  rw[Nat.mul_one,ybl hi1];rfl
 rw[hc1,ybd (by omega)]at this
 have hxi:xs[i].1=g (l[i]'(by omega)):=by
  have:=congrArg (fun z=>z[i]?) hx.1
  simp only[ybu]at this;rw[ybd (by omega),ybd (by omega)]at this
  simpa using this.symm
 have:=h1 m _ _ _ this hxi
 rw[List.getElem_map];simpa using this
def z2z(he:P.underlying e=some .string)(m:Nat)(c:List Value)(x:DataW H × List MemPlace)(b:List UInt8)(h:DataW.trod enc P w base spare held m e c=some x)(hx:x.1=.lit (.string b)):c=[.string ⟨b.toArray⟩]:=by
 obtain⟨s,rfl,rfl,_⟩:=DataW.trod_string he h
 simp at hx;rw[<- hx]
def z4n(he:P.underlying e=some (.int .i64))(m:Nat)(c:List Value)(x:DataW H × List MemPlace)(n:Int)(h:DataW.trod enc P w base spare held m e c=some x)(hx:x.1=.lit (.int .i64 n)):c=[.int .i64 n]:=by
 obtain⟨k,rfl,rfl,_⟩:=DataW.trod_int he h
 simp at hx;rw[hx]
end
def joined_of{P:Program}{f:FuncId}{fn:Func}{s:ChangeSpec}{c:OpenClaim}
  (A:(c.wf (OpenSpec.ofChange s)&&laidOutB P&&mapsRowed P&&fn.params.all (P.readableRec ·)&&namedTie P c.named s.vars&&(c.stops == [])&&(P.stops == [])&&(c.knobs == [])&&(P.stopKnobs == []))=true)
  (h1:(c.inPlace == P.inPlace f)=true) (h2:(c.unfollowed == P.unfollowed f)=true) (h3:(c.recurses == P.recurses f)=true) (h4:(c.named == P.varsNamed f)=true)
  (E:((c.maps == (fn.params.toList++s.plain.varTypes P).any (P.mapsRec ·))&&(c.ifaces == (fn.params.toList++s.plain.varTypes P).any (P.ifacesRec ·))&&(c.mapsOut == P.mapsAmong fn.resultTypes.toList) &&
   (c.loops == (fn.params.toList++s.plain.varTypes P).any (P.loopsFrom ·))&&(c.wideKeys == (fn.params.toList++s.plain.varTypes P++fn.resultTypes.toList).any (P.wideKeysFrom ·)) &&
   s.vars.all (P.varReadable ·)&&fn.resultTypes.all (fun t=>P.readableRec t&&decide (t<P.types.size))&&(c.ifacesOut == fn.resultTypes.toList.any (P.ifacesRec ·))&&(c.loopsOut == fn.resultTypes.toList.any (P.loopsFrom ·))&&c.shortTexts.isNone)=true)
  (h5:(c.plainKeys == P.plainKeys)=true) (h6:P.stopsHeard=true) (h7:P.mayEnter=true) (h8:(c.lifted == P.liftsFinal)=true)
  (R:((P.make == some c.make)&&(c.kinds == (if c.domain.isEmpty then []else fn.params.toList.map fun t=>match P.underlying t with | some (.int k)=>some k | _=>none))&&(c.pinned == c.pinnedBy) &&
   (c.veiled == (fn.params.toList++s.plain.varTypes P++fn.resultTypes.toList).any (P.veiledRec ·))&&c.veiledFits P fn.params.toList (fn.params.toList++s.plain.varTypes P++fn.resultTypes.toList))=true) :
  joinedFacts P f fn s c=true:=by
 unfold joinedFacts;simp only[ybb]at A E R ⊢
 obtain⟨⟨⟨⟨⟨⟨⟨⟨a1,a2⟩,a3⟩,a4⟩,a5⟩,a6⟩,a7⟩,a8⟩,a9⟩:=A
 obtain⟨⟨⟨⟨⟨⟨⟨⟨⟨e1,e2⟩,e3⟩,e4⟩,e5⟩,e6⟩,e7⟩,e8⟩,e9⟩,e10⟩:=E
 obtain⟨⟨⟨⟨r1,r2⟩,r3⟩,r4⟩,r5⟩:=R
 exact⟨⟨⟨⟨⟨⟨⟨⟨⟨⟨⟨⟨⟨⟨⟨⟨⟨⟨⟨⟨⟨⟨⟨⟨⟨⟨⟨⟨⟨⟨⟨a1,a2⟩,a3⟩,a4⟩,a5⟩,a6⟩,a7⟩,a8⟩,a9⟩,h1⟩,h2⟩,h3⟩,h4⟩,e1⟩,e2⟩,e3⟩,e4⟩,e5⟩,e6⟩,e7⟩,e8⟩,e9⟩,h5⟩,e10⟩,h6⟩,h7⟩,h8⟩,r1⟩,r2⟩,r3⟩,r4⟩,r5⟩
end Go.Am
namespace Go.Proofs.YtfijloeeppcipaaGreatDoor
open Go Go.Am Go.RowKit Go.ChangeShapes Go.WideShapes Go.ChangeAt
def own:ownKnob Tryz.prog.godebug=none:=by kernel_rfl
def laidOut:laidOutB Tryz.prog=true:=by kernel_rfl
def gPow : Tryz.prog.globalNamed "internal/strconv.uint64pow10" = some 4 := by kernel_rfl
def gLens : Tryz.prog.globalNamed "annuitant/calendar.lengths" = some 3 := by kernel_rfl
def gModes : Tryz.prog.globalNamed "annuitant/parse.modeWords" = some 0 := by kernel_rfl
def tPow:(Tryz.prog.globals[4]?).map (·.type)=some 290:=by kernel_rfl
def tLens:(Tryz.prog.globals[3]?).map (·.type)=some 275:=by kernel_rfl
def tModes:(Tryz.prog.globals[0]?).map (·.type)=some 238:=by kernel_rfl
def laid5 : List (String × DataW Unit) := [("math/bits.deBruijn32tab", Rows.laid_math_bits_deBruijn32tab), ("math/bits.deBruijn64tab", Rows.laid_math_bits_deBruijn64tab), ("internal/strconv.uint64pow10", Rows.laid_internal_strconv_uint64pow10), ("annuitant/calendar.lengths", Rows.laid_annuitant_calendar_lengths), ("annuitant/parse.modeWords", Rows.laid_annuitant_parse_modeWords)]
def door_met(os:Os)(args:Array Value):laidMetH Tryz.prog laid5 ((World.doorLaid Tryz.prog 100 os).forCall (fun _ _=>0) ⟨#[],args,[]⟩).memory:=
 laidMetH_of_parts3 (fuel:=8) (laidMet_of_run' 8 (by kernel_rfl) (by kernel_rfl)) (by kernel_rfl) (by kernel_rfl)
def zc0{W:World}{n:String}{g:Nat}{cs:Array Value}(hg:Tryz.prog.globalNamed n=some g)(hv:W.var? Tryz.prog n=some cs)(hc:∃c t,W.heap[g]?=some (.cells c t (0,0))):∃t,W.heap[g]?=some (.cells cs t (0,0)):=by
 obtain⟨c,t,hc⟩:=hc
 unfold World.var? at hv
 rw[hg]at hv;simp only[yai,hc,Option.some.injEq]at hv;subst hv;exact⟨t,hc⟩
def zn3{g n:Nat}{p q:List MemPlace}(h:0<n):MemPlace.cell g 0∈MemPlace.row ⟨g,0,none⟩ n++p++q:=
 ydc _ (ydc _ (yaq.2 ⟨0,List.mem_range.2 h,rfl⟩))
def z9p:Rows.laid_internal_strconv_uint64pow10 (H:=Unit)=.agg (z2d.map fun n=>.lit (.int .u64 n)):=by kernel_rfl
def z4f:Rows.laid_annuitant_calendar_lengths (H:=Unit)=.agg (zov.map fun n=>.lit (.int .i64 n)):=by kernel_rfl
def zy5:Rows.laid_annuitant_parse_modeWords (H:=Unit)=.agg (lL.map fun b=>.lit (.string b)):=by kernel_rfl
def z2l{H:Type}{enc:TypeId × Value->H}{P:Program}{w:World}{base:Nat}{spare:Nat->Bool}{held:Bool}{e:TypeId}(he:P.underlying e=some (.int .u64))(m:Nat)(c:List Value)(x:DataW H × List MemPlace)(n:Int)(h:DataW.trod enc P w base spare held m e c=some x)(hx:x.1=.lit (.int .u64 n)):c=[.int .u64 n]:=by
 obtain⟨k,rfl,rfl,_⟩:=DataW.trod_int he h
 simp at hx;rw[hx]
def laid_of{W:World}(h:laidMetH Tryz.prog laid5 W)(hsh:W.ShapedOpen Tryz.prog):aF W:=by
 rw[MakeChecks.laidMetH_plain _ _ _ (by kernel_rfl)]at h
 obtain⟨ps,⟨_,_,_,_,_,_,_,_,_,_,⟨_,_,_,_,_,_,_,_,_,_,⟨g0,t0,cs0,f0,p0,q0,hg0,ht0,hv0,hd0,⟨g1,t1,cs1,f1,p1,q1,hg1,ht1,hv1,hd1,⟨g3,t3,cs3,f3,p3,q3,hg3,ht3,hv3,hd3,_,hp3⟩,hp1⟩,hp0⟩,hpb⟩,hpa⟩,_,hcell⟩:=h
 obtain rfl:=yci (gPow.symm.trans hg0)
 obtain rfl:=yci (gLens.symm.trans hg1)
 obtain rfl:=yci (gModes.symm.trans hg3)
 obtain rfl:=yci (tPow.symm.trans ht0)
 obtain rfl:=yci (tLens.symm.trans ht1)
 obtain rfl:=yci (tModes.symm.trans ht3)
 have c3:Tryz.prog.cellsOf 3=1:=by kernel_rfl
 have c9:Tryz.prog.cellsOf 9=1:=by kernel_rfl
 have c225:Tryz.prog.cellsOf 225=1:=by kernel_rfl
 have c290:Tryz.prog.cellsOf 290=20:=by kernel_rfl
 have c275:Tryz.prog.cellsOf 275=12:=by kernel_rfl
 have c238:Tryz.prog.cellsOf 238=7:=by kernel_rfl
 rw[z9p]at hd0;rw[z4f]at hd1;rw[zy5]at hd3;have e0:cs0.toList=u64s z2d:=ze5 (l:=z2d) (g:=fun n=>.lit (.int .u64 n)) (u:=fun n=>.int .u64 n) Tryz.underlying290 c225 c290 (fun m c x a=>z2l Tryz.underlying225 m c x a) hd0
 have e1:cs1.toList=z4m zov:=ze5 (l:=zov) (g:=fun n=>.lit (.int .i64 n)) (u:=fun n=>.int .i64 n) Tryz.underlying275 c3 c275 (fun m c x a=>z4n Tryz.underlying3 m c x a) hd1
 have e3:cs3.toList=z2y lL:=ze5 (l:=lL) (g:=fun b=>.lit (.string b)) (u:=fun b=>.string ⟨b.toArray⟩) Tryz.underlying238 c9 c238 (fun m c x a=>z2z Tryz.underlying9 m c x a) hd3
 have s0:cs0=(u64s z2d).toArray:=by rw[<- e0]
 have s1:cs1=(z4m zov).toArray:=by rw[<- e1]
 have s3:cs3=(z2y lL).toArray:=by rw[<- e3]
 subst s0 s1 s3
 have m0:MemPlace.cell 4 0∈ps:=by
  rw[hpa,hpb,hp0];exact ycf _ (ycf _ (zn3 (by decide)))
 have m1:MemPlace.cell 3 0∈ps:=by
  rw[hpa,hpb,hp0,hp1];exact ycf _ (ycf _ (ycf _ (zn3 (by decide))))
 have m3:MemPlace.cell 0 0∈ps:=by
  rw[hpa,hpb,hp0,hp1,hp3];exact ycf _ (ycf _ (ycf _ (ycf _ (zn3 (by decide)))))
 exact⟨zc0 hg3 hv3 (hcell 0 0 m3).1,zc0 hg1 hv1 (hcell 3 0 m1).1,Tryz.laysM144.s1_3 W hsh,zc0 hg0 hv0 (hcell 4 0 m0).1⟩
def stopsHeard:Tryz.prog.stopsHeard=true:=by kernel_rfl
def mayEnter:Tryz.prog.mayEnter=true:=by kernel_rfl
def bool4:Tryz.prog.underlying 4=some .bool:=Tryz.underlying4
def api14:zs3 Tryz.prog:={
 b:=4,i:=3,u8:=5,u16:=202,s:=9,limbs:=27,whole:=29,frac:=31,val:=33,expr:=36,exprs:=34,row:=84,rows:=79,table:=81,tables:=23,dfn:=59,dfns:=22,clause:=56,clauses:=24,plan:=26,
 hb:=Tryz.underlying4,hi:=Tryz.underlying3,hu8:=Tryz.underlying5,hu16:=Tryz.underlying202,hs:=Tryz.underlying9,hlimbs:=Tryz.underlying27,hexprs:=Tryz.underlying34,hrows:=Tryz.underlying79,htables:=Tryz.underlying23,hdfns:=Tryz.underlying22,hclauses:=Tryz.underlying24,
 hwhole:=⟨_,Tryz.underlying29,rfl⟩,hfrac:=⟨_,Tryz.underlying31,rfl⟩,hval:=⟨_,Tryz.underlying33,rfl⟩,hexpr:=⟨_,Tryz.underlying36,rfl⟩,hrow:=⟨_,Tryz.underlying84,rfl⟩,htable:=⟨_,Tryz.underlying81,rfl⟩,hdfn:=⟨_,Tryz.underlying59,rfl⟩,hclause:=⟨_,Tryz.underlying56,rfl⟩,hplan:=⟨_,Tryz.underlying26,rfl⟩,
 cu16:=by kernel_rfl,cexpr:=by kernel_rfl,crow:=by kernel_rfl,ctable:=by kernel_rfl,cdfn:=by kernel_rfl,cclause:=by kernel_rfl,
 bytes:=⟨of_decide_eq_true (by kernel_rfl),of_decide_eq_true (by kernel_rfl),of_decide_eq_true (by kernel_rfl),of_decide_eq_true (by kernel_rfl),of_decide_eq_true (by kernel_rfl),of_decide_eq_true (by kernel_rfl)⟩ }
def zq7:List Nat:=[4,3,5,202,9,27,29,31,33,36,34,84,79,81,23,59,22,56,24,26]
def partB(t:TypeId):Bool:=match Tryz.prog.underlying t with
 | some .bool=>true
 | some (.int _)=>true
 | some .string=>true
 | some (.slice e)=>zq7.contains e&&Nat.blt 0 (Tryz.prog.cellsOf e)
 | some (.struct fs)=>fs.toList.all (fun f=>zq7.contains f.type)&&zti Tryz.prog 0 fs.toList (Tryz.prog.cellsOf t)
 | _=>false
def zoe:zq7.all partB=true:=by kernel_rfl
def z83:Plain Tryz.prog (fun t=>t∈zq7):=⟨fun t ht=>by
 have h:=ycb.1 zoe t ht
 unfold partB at h
 cases hu:Tryz.prog.underlying t with
 | none=>rw[hu]at h;cases h
 | some d=>
  rw[hu]at h
  cases d with
  | bool=>trivial
  | int k=>trivial
  | string=>trivial
  | slice e=>
   simp only[ybb]at h;exact⟨by simpa using h.1,by simpa using h.2⟩
  | struct fs=>
   simp only[ybb]at h;exact⟨fun f hf=>by simpa using ycb.1 h.1 f hf,h.2⟩
  | _=>cases h⟩
def open_plan{H:Type}{enc:TypeId × Value->H}{W:World}{base:Nat}{v:Value}{d:DataW H}{ps:List MemPlace}(hL:aF W)(hok:Value.okWide Tryz.prog W .any base 26 v)(h:DataW.Trod enc Tryz.prog W 0 (fun _=>true) true 26 v d ps)(hw:(DataW.weights Tryz.prog 26 d).all (· <= reachBytes)=true) :
  ∃(cs:Array Value) (p:eC),v=.agg cs/\p.fit/\Has W.heap.size cs.toList/\RD (fH W) p.d (cs.toList.map (av W.heap.size)):=by
 obtain⟨cs,rfl,_,_⟩:∃cs,v=.agg cs/\cs.size=Tryz.prog.cellsOf 26/\Row.okWide Tryz.prog W .any base 26 cs:=by
  unfold Value.okWide at hok;rw[Tryz.underlying26]at hok;exact hok
 obtain⟨fuel,h⟩:=h
 obtain⟨c,n,lo,hc,_⟩:=@zsa W hL ⟨0⟩
 obtain⟨h1,x,h2,h3⟩:=z8z z83 ⟨c,n,lo,hc⟩ fuel 26 cs.toList (d,ps) (by decide) h hw
 obtain⟨p,rfl,hp⟩:=api14.dPlan h3
 exact⟨cs,p,rfl,hp,h1,h2⟩
end Go.Proofs.YtfijloeeppcipaaGreatDoor
namespace Go.Proofs
open Go Go.Am
variable [fC]
variable {t:Tr rA}
def kS(x:vF)(a b c a' b' c':zA):List zA:=[.str x.name,.str x.label,.int .i64 x.from_,.int .i64 x.to,.int .i64 x.known,.bool x.off,.int .u8 x.when_.op,.str x.when_.name,.int .u8 x.when_.v.kind,.bool x.when_.v.f.n.neg,a,.bool x.when_.v.f.d.neg,b,.int .i64 x.when_.v.i,c,.int .u8 x.then_.op,.str x.then_.name,.int .u8 x.then_.v.kind,.bool x.then_.v.f.n.neg,a',.bool x.then_.v.f.d.neg,b',.int .i64 x.then_.v.i,c']
def zvt:List zA:=[(.str []),(.str []),(.int .i64 0),(.int .i64 0),(.int .i64 0),(.bool false),(.int .u8 0),(.str []),(.int .u8 0),(.bool false),.nilslice,(.bool false),.nilslice,(.int .i64 0),.nilslice,(.int .u8 0),(.str []),(.int .u8 0),(.bool false),.nilslice,(.bool false),.nilslice,(.int .i64 0),.nilslice]
def zt4{x:vF}{a b c a' b' c':zA}(ha:zA.one a=true)(hb:zA.one b=true)(hc:zA.one c=true)(ha':zA.one a'=true)(hb':zA.one b'=true)(hc':zA.one c'=true):tC zA.one (kS x a b c a' b' c')=true:=by
 rw[lG];simp only[kS,ycg,yck,ha,hb,hc,ha',hb',hc'];rfl
def zmh{l:List vF}{v:zA}(hv:cA t 24 (l.map vF.d) v){i:Nat}{x:vF}(hx:l[i]?=some x) :
  ∃p off a b c a' b' c',mB yA 24 v (.int .i64 (i:Int))=some (.ptr p off)/\oA yA 56 ⟨0,t⟩ (.ptr p off)=some (.agg (kS x a b c a' b' c'))/\zm8 zvt (.agg (kS x a b c a' b' c'))=some (cellsOf (kS x a b c a' b' c')) ∧
   RD t x.when_.d (sG x.when_ a b c)/\RD t x.then_.d (sG x.then_ a' b' c')/\tC zA.one (kS x a b c a' b' c')=true:=by
 obtain⟨p,off,cs,g1,g2,_,_,g5⟩:=zF.at sl24 (by simp) hv (i:=i) (d:=x.d) (by simp[hx])
 have hz:=lI g5 x.zs
 obtain⟨a,b,c,a',b',c',rfl,h1,h2⟩:=zdp g5
 obtain⟨u1,u2,u3,e1,m1,m2,m3⟩:=cJ h1
 obtain⟨w1,w2,w3,e2,n1,n2,n3⟩:=cJ h2
 unfold sG at e1 e2
 cases e1
 cases e2
 exact⟨p,off,_,_,_,_,_,_,g1,g2,hz,h1,h2,zt4 m1.one m2.one m3.one n1.one n2.one n3.one⟩
def kQ:List jE->Int->Int
 | [],n=>n
 | d::l,n=>if n<=2000 then kQ l (n+(d.name.length:Int) / 30)else n
def zN:List vH->Int->Int
 | [],n=>n
 | r::l,n=>if n<=2000 then zN l (n+(bK r.f:Nat))else n
def rO:List qE->Int->Int
 | [],n=>n
 | x::l,n=>if n<=2000 then rO l (zN x.rows (n+(x.name.length:Int) / 30))else n
def qK(c:vF)(n:Int):Int:=n+((c.name.length:Int) / 30+(c.label.length:Int) / 30+wJ c.when_ (2000-n))
def yN:List vF->Int->Int
 | [],n=>n
 | c::l,n=>if n<=2000 then(if qK c n<=2000 then yN l (qK c n+wJ c.then_ (2000-qK c n))else yN l (qK c n))else n
def z27(p:eC):Int:=yN p.clauses (rO p.tables (kQ p.defs (1+(p.name.length:Int) / 30+p.defs.length+p.tables.length+p.clauses.length)))
def z5e(n:Nat):Int.tdiv (n:Int) 30=(n:Int) / 30:=Int.tdiv_eq_ediv_of_nonneg (by omega)
section
variable {p:eC}{a b c:zA}
def zke{l:List vF}(hc:cA t 24 (l.map vF.d) c)(hn:l.length<1125899906842624)(hf:∀x∈l,x.fit):∀(m i:Nat) (n:Int),i+m=l.length->0<=n->n<1152921504606846976->jp 15 14 [.int .i64 2000,.int .i64 n,.int .i64 (i:Int),.str p.name,a,b,c] t (fun v s=>v=.int .i64 (yN (l.drop i) n)/\s=t):=by
 intro m;induction m with
 | zero=>
  intro i n hi h0 h1;refine z7k _ _ _ _ _ _ _ ?_
  simp only[zxd,qA,hc.len,vA,oB,ybf,kD];rw[yaa (by omega),ybt (by omega)]
  (first | exact⟨rfl,rfl⟩ | exact⟨rfl,trivial⟩ | trivial)
 | succ m ih=>
  intro i n hi h0 h1;have hlt:i<l.length:=by omega
  obtain⟨q,off,u1,u2,u3,w1,w2,w3,g1,g2,g3,g4,g5,g6⟩:=zmh hc (ybd hlt)
  have hfit:=hf _ (ycj hlt)
  obtain⟨f1,f2,_,_,_,f6,f7⟩:=hfit
  unfold cC at f1 f2;have ok1:=dA.fit_ok f6
  have ok2:=dA.fit_ok f7
  refine z7k _ _ _ _ _ _ _ ?_
  simp only[zxd,qA,hc.len,vA,oB,ybf,kD,vG];rw[yab (by omega),ybl hlt]
  unfold yN;by_cases h2:n<=2000
  ·rw[yab h2,yab h2]
   unfold zvt at g3;rw[g1,vA,g2,vA,g3,vA];unfold kS at g6;simp only[kS,cellsOf,zz2,zxi,sP,zfh,yaz,yba];have s1:=qX l[i].when_ (2000-n) ok1
   have e1:=pv37 l[i].when_ (2000-n) _ ok1 (by omega) (by omega) g4
   unfold sG at e1;have ew:qK l[i] n=n+((l[i].name.length:Int) / 30+(l[i].label.length:Int) / 30+wJ l[i].when_ (2000-n)):=rfl
   have eN:wA .i64 (n+wA .i64 (wA .i64 (wA .i64 ((l[i].name.length:Int) / 30)+wA .i64 ((l[i].label.length:Int) / 30))+wJ l[i].when_ (2000-n)))=qK l[i] n:=by
    rw[wrap_i64 (n:=(l[i].name.length:Int) / 30) (by omega) (by omega),wrap_i64 (n:=(l[i].label.length:Int) / 30) (by omega) (by omega),wrap_i64 (n:=(l[i].name.length:Int) / 30+(l[i].label.length:Int) / 30) (by omega) (by omega),
     wrap_i64 (n:=(l[i].name.length:Int) / 30+(l[i].label.length:Int) / 30+wJ l[i].when_ (2000-n)) (by omega) (by omega),wrap_i64 (by omega) (by omega)]
    rfl
   have bw:0<=qK l[i] n/\qK l[i] n<1152921504606846976:=by rw[ew];omega
   refine zo2 g6 ?_
   rw[wrap_i64 (n:=2000-n) (by omega) (by omega),q22,e1,vA,oB,vA]
   simp only[zie,zW,if_true,kL,z5e,eN,vG];have ei:wA .i64 ((i:Int)+1)=((i+1:Nat):Int):=by rw[wrap_i64 (by omega) (by omega)];omega
   generalize qK l[i] n=k at *
   by_cases h3:k<=2000
   ·rw[yab h3,yab h3]
    have s2:=qX l[i].then_ (2000-k) ok2
    have e2:=pv37 l[i].then_ (2000-k) _ ok2 (by omega) (by omega) g5
    unfold sG at e2;rw[wrap_i64 (n:=2000-k) (by omega) (by omega),q22,e2,vA,oB,vA,ei,wrap_i64 (by omega) (by omega)]
    exact ih (i+1) _ (by omega) (by omega) (by omega)
   ·rw[yaa h3,yaa h3,ei]
    exact ih (i+1) _ (by omega) bw.1 bw.2
  ·rw[yaa h2,yaa h2]
   (first | exact⟨rfl,rfl⟩ | exact⟨rfl,trivial⟩ | trivial)
def zbt:∀(l:List vH) (n:Int),(∀r∈l,r.fit)->0<=n->0<=zN l n/\zN l n<=max n 4503599627372496
 | [],n,_,h=>by unfold zN;omega
 | r::l,n,hf,h=>by
  unfold zN;split
  ·have:=bV (hf r (by simp)).2.2.2.1
   have:=zbt l (n+(bK r.f:Nat)) (fun x hx=>hf x (by simp[hx])) (by omega)
   omega
  ·omega
def zev{l:List qE}(hb:cA t 3 (l.map qE.d) b){i:Nat}(hi:i<l.length):∃p o v,mB yA 23 b (.int .i64 (i:Int))=some (.ptr p o)/\tB yA 81 0 (.ptr p o)=some (.ptr p (o+0))/\tB yA 81 2 (.ptr p o)=some (.ptr p (o+2))/\oA yA 9 ⟨0,t⟩ (.ptr p (o+0))=some (.str l[i].name)/\oA yA 79 ⟨0,t⟩ (.ptr p (o+2))=some v/\cA t 7 (l[i].rows.map vH.d) v:=by
 obtain⟨p,o,cs,g1,g2,g3,_,g5⟩:=zF.at sl23 (by simp) hb (i:=i) (d:=l[i].d) (by simp[ybd hi])
 obtain⟨v,rfl,hv⟩:=uW g5
 exact⟨p,o,v,g1,by kernel_rfl,by kernel_rfl,g3.load1 ty9 rfl rfl,g3.load1 ty79 rfl rfl,hv⟩
def zxl{l:List qE}(hb:cA t 3 (l.map qE.d) b)(hf:∀x∈l,x.fit){i:Nat}(hi:i<l.length)(hil:i<1125899906842624){Q:uC}:∀(m j:Nat) (n:Int),j+m=l[i].rows.length->0<=n->n<1152921504606846976 →
  jp 15 6 [.int .i64 2000,.int .i64 (zN (l[i].rows.drop j) n),.int .i64 ((i+1:Nat):Int),.str p.name,a,b,c] t Q->jp 15 10 [.int .i64 2000,.int .i64 n,.int .i64 (i:Int),.int .i64 (j:Int),.str p.name,a,b,c] t Q:=by
 obtain⟨q,o,v,g1,g2,g3,g4,g5,g6⟩:=zev hb hi
 have hfit:=hf _ (ycj hi)
 obtain⟨f1,f2,f3⟩:=hfit
 unfold cC at f1 f2;have ei:wA .i64 ((i:Int)+1)=((i+1:Nat):Int):=by rw[wrap_i64 (by omega) (by omega)];omega
 intro m;induction m with
 | zero=>
  intro j n hj h0 h1 hQ;rw[ybt (by omega)]at hQ
  refine z7l _ _ _ _ _ _ _ _ ?_
  simp only[zxe,qA];rw[g1,vA,g3,vA,g5,vA,g6.len,vA,ybf,oB,vA];simp only[kD];rw[yaa (by omega),ei]
  exact hQ
 | succ m ih=>
  intro j n hj h0 h1 hQ;have hlt:j<l[i].rows.length:=by omega
  rw[ybl hlt]at hQ;unfold zN at hQ;refine z7l _ _ _ _ _ _ _ _ ?_
  simp only[zxe,qA];rw[g1,vA,g3,vA,g5,vA,g6.len,vA,ybf,oB,vA];simp only[kD,vG];rw[yab (by omega)]
  by_cases h2:n<=2000
  ·rw[yab h2]at hQ ⊢
   obtain⟨q',o',cs,k1,k2,k3,_,k5⟩:=zF.at sl79 (by simp) g6 (i:=j) (d:=l[i].rows[j].d) (by simp[ybd hlt])
   obtain⟨x,y,rfl,hx,hy⟩:=zxw k5
   have fa:tB yA 84 3 (.ptr q' o')=some (.ptr q' (o'+3)):=by kernel_rfl
   have ld:oA yA 31 ⟨0,t⟩ (.ptr q' (o'+3))=some (.agg [.bool l[i].rows[j].f.n.neg,x,.bool l[i].rows[j].f.d.neg,y]):=k3.load (j:=3) ty31 rfl rfl (by exact(by decide:3+4<=7))
   have fr:(l[i].rows[j]).fit:=f3 _ (ycj hlt)
   have hz:zm8 [(.bool false),.nilslice,(.bool false),.nilslice] (.agg [.bool l[i].rows[j].f.n.neg,x,.bool l[i].rows[j].f.d.neg,y])=some (cellsOf [.bool l[i].rows[j].f.n.neg,x,.bool l[i].rows[j].f.d.neg,y]):=dL (by
    show(true&&(zsd .nilslice x&&(true&&(zsd .nilslice y&&true))))=true
    rw[uV hx,uV hy];rfl)
   have e1:=pv36 hx hy fr.2.2.2.1
   have hs:=bV fr.2.2.2.1
   have ej:wA .i64 ((j:Int)+1)=((j+1:Nat):Int):=by rw[wrap_i64 (by omega) (by omega)];omega
   simp only[vA,g3,g5];rw[k1,vA,fa,vA,ld,vA,hz,vA];simp only[cellsOf,sP,zfh,yaz,yba];rw[q32,e1,vA,oB,vA,ej,wrap_i64 (by omega) (by omega)]
   exact ih (j+1) _ (by omega) (by omega) (by omega) hQ
  ·rw[yaa h2]at hQ ⊢
   rw[ei];exact hQ
def zn0(hb:cA t 3 (p.tables.map qE.d) b)(hc:cA t 24 (p.clauses.map vF.d) c)(hp:p.fit):∀(m i:Nat) (n:Int),i+m=p.tables.length->0<=n->n<1152921504606846976->jp 15 6 [.int .i64 2000,.int .i64 n,.int .i64 (i:Int),.str p.name,a,b,c] t (fun v s=>v=.int .i64 (yN p.clauses (rO (p.tables.drop i) n))/\s=t):=by
 have hnt:=hp.ntables
 have hnc:=hp.nclauses
 unfold cC at hnt hnc;have bD:∀n:Int,0<=n->n<1152921504606846976->jp 15 14 [.int .i64 2000,.int .i64 n,.int .i64 0,.str p.name,a,b,c] t (fun v s=>v=.int .i64 (yN p.clauses n)/\s=t):=by
  intro n h0 h1;have:=zke (p:=p) (a:=a) (b:=b) hc hnc hp.clauses p.clauses.length 0 n (by omega) h0 h1
  rw[ycr]at this;exact this
 intro m;induction m with
 | zero=>
  intro i n hi h0 h1;refine j15_6 _ _ _ _ _ _ _ ?_
  simp only[z8r,qA,hb.len,vA,oB,ybf,kD];rw[yaa (by omega),ybt (by omega)]
  exact bD n h0 h1
 | succ m ih=>
  intro i n hi h0 h1;have hlt:i<p.tables.length:=by omega
  obtain⟨q,o,v,g1,g2,g3,g4,g5,g6⟩:=zev hb hlt
  have hfit:=hp.tables _ (ycj hlt)
  obtain⟨f1,f2,f3⟩:=hfit
  unfold cC at f1;refine j15_6 _ _ _ _ _ _ _ ?_
  simp only[z8r,qA,hb.len,vA,oB,ybf,kD,vG];rw[yab (by omega),ybl hlt]
  unfold rO;by_cases h2:n<=2000
  ·rw[yab h2,yab h2,g1,vA,g2,vA,g4,vA,zms,vA,kL,z5e,wrap_i64 (n:=(p.tables[i].name.length:Int) / 30) (by omega) (by omega),wrap_i64 (by omega) (by omega)]
   have hr:=zbt p.tables[i].rows (n+(p.tables[i].name.length:Int) / 30) f3 (by omega)
   refine zxl (p:=p) (a:=a) (c:=c) hb hp.tables hlt (by omega) p.tables[i].rows.length 0 _ (by omega) (by omega) (by omega) ?_
   rw[ycr];exact ih (i+1) _ (by omega) (by omega) (by omega)
  ·rw[yaa h2,yaa h2]
   exact bD n h0 h1
def zxm(ha:cA t 3 (p.defs.map jE.d) a)(hb:cA t 3 (p.tables.map qE.d) b)(hc:cA t 24 (p.clauses.map vF.d) c)(hp:p.fit):∀(m i:Nat) (n:Int),i+m=p.defs.length->0<=n->n<1152921504606846976->jp 15 2 [.int .i64 2000,.int .i64 n,.int .i64 (i:Int),.str p.name,a,b,c] t (fun v s=>v=.int .i64 (yN p.clauses (rO p.tables (kQ (p.defs.drop i) n)))/\s=t):=by
 have hnd:=hp.ndefs
 unfold cC at hnd;have bD:∀n:Int,0<=n->n<1152921504606846976->jp 15 6 [.int .i64 2000,.int .i64 n,.int .i64 0,.str p.name,a,b,c] t (fun v s=>v=.int .i64 (yN p.clauses (rO p.tables n))/\s=t):=by
  intro n h0 h1;have:=zn0 (a:=a) hb hc hp p.tables.length 0 n (by omega) h0 h1
  rw[ycr]at this;exact this
 intro m;induction m with
 | zero=>
  intro i n hi h0 h1;refine j15_2 _ _ _ _ _ _ _ ?_
  simp only[z8s,qA,ha.len,vA,oB,ybf,kD];rw[yaa (by omega),ybt (by omega)]
  exact bD n h0 h1
 | succ m ih=>
  intro i n hi h0 h1;have hlt:i<p.defs.length:=by omega
  obtain⟨q,o,cs,g1,g2,g3,_,g5⟩:=zF.at sl22 (by simp) ha (i:=i) (d:=p.defs[i].d) (by simp[ybd hlt])
  have g5:=zkr g5
  subst g5;have fa:tB yA 59 0 (.ptr q o)=some (.ptr q (o+0)):=by kernel_rfl
  have ld:oA yA 9 ⟨0,t⟩ (.ptr q (o+0))=some (.str p.defs[i].name):=g3.load1 ty9 rfl rfl
  have hfit:=hp.defs _ (ycj hlt)
  have f1:=hfit.1
  unfold cC at f1;have ei:wA .i64 ((i:Int)+1)=((i+1:Nat):Int):=by rw[wrap_i64 (by omega) (by omega)];omega
  refine j15_2 _ _ _ _ _ _ _ ?_
  simp only[z8s,qA,ha.len,vA,oB,ybf,kD,vG];rw[yab (by omega),ybl hlt]
  unfold kQ;by_cases h2:n<=2000
  ·rw[yab h2,yab h2,g1,vA,fa,vA,ld,vA,zms,vA,kL,z5e,ei,wrap_i64 (n:=(p.defs[i].name.length:Int) / 30) (by omega) (by omega),wrap_i64 (by omega) (by omega)]
   exact ih (i+1) _ (by omega) (by omega) (by omega)
  ·rw[yaa h2,yaa h2]
   exact bD n h0 h1
def z26{cs:List zA}(hp:p.fit)(h:RD t p.d cs):lB yA F 15 [.agg cs,.int .i64 2000] t=some (.int .i64 (z27 p)):=by
 obtain⟨a,b,c,rfl,ha,hb,hc⟩:=xN h
 have p1:=hp.name
 have p2:=hp.ndefs
 have p3:=hp.ntables
 have p4:=hp.nclauses
 unfold cC at p1 p2 p3 p4;refine jC.2 (w15 _ _ _ _ _ ?_)
 simp only[t15,qA,ha.len,hb.len,hc.len,vA,oB,ybf,kL,z5e];rw[wrap_i64 (n:=(p.name.length:Int) / 30) (by omega) (by omega),wrap_i64 (n:=1+(p.name.length:Int) / 30) (by omega) (by omega),wrap_i64 (n:=1+(p.name.length:Int) / 30+(p.defs.length:Int)) (by omega) (by omega),wrap_i64 (n:=1+(p.name.length:Int) / 30+(p.defs.length:Int)+(p.tables.length:Int)) (by omega) (by omega),wrap_i64 (by omega) (by omega)]
 have:=zxm ha hb hc hp p.defs.length 0 (1+(p.name.length:Int) / 30+p.defs.length+p.tables.length+p.clauses.length) (by omega) (by omega) (by omega)
 rw[ycr]at this;exact this
end
end Go.Proofs
namespace Go.Proofs
open Go Go.Am
section
variable [fC]
variable {t tf:Tr rA}
def ziv{w:cH}{u:zA}(hu:cA t 1 (lE w.limbs) u):RD t w.d [.bool w.neg,u]:=by
 unfold cH.d;rw[gJ];refine⟨[[.bool w.neg],[u]],rfl,?_⟩
 simp only[eH,pI,kR,fJ];exact⟨_,_,rfl,rfl,_,_,rfl,⟨u,rfl,hu⟩,rfl⟩
def el27:zza7 yA 27 202 1:=⟨⟨_,ty27,rfl,rfl⟩,⟨_,zno,rfl,rfl,by decide,by decide⟩,fun y h=>by rw[zno]at h;cases h;rfl⟩
def el79:zza7 yA 79 84 7:=⟨⟨_,ty79,rfl,rfl⟩,⟨_,ty84,rfl,rfl,by decide,by decide⟩,fun y h=>by rw[ty84]at h;cases h;rfl⟩
def z31{x:qE}{v:zA}(hv:cA t 7 (x.rows.map vH.d) v):RD t x.d [.str x.name,.bool x.two,v]:=by
 unfold qE.d;rw[gJ];refine⟨[[.str x.name],[.bool x.two],[v]],rfl,?_⟩
 simp only[eH,pI,mR,kR,fJ];exact⟨_,_,rfl,rfl,_,_,rfl,rfl,_,_,rfl,⟨v,rfl,hv⟩,rfl⟩
mutual
def dA.cpy:dA->Prop
 | .mk _ _ v args=>(v.f.n.limbs.length<1000000/\v.f.d.limbs.length<1000000)/\args.length<300000/\dA.cpys args
def dA.cpys:List dA->Prop
 | []=>True
 | x::l=>dA.cpy x/\dA.cpys l
end
structure eC.cpy (p:eC):Prop where
 defs:p.defs.length<300000
 tables:p.tables.length<300000
 clauses:p.clauses.length<300000
 rows:∀x∈p.tables,x.rows.length<300000/\∀r∈x.rows,r.f.n.limbs.length<1000000/\r.f.d.limbs.length<1000000
 exprs:∀x∈p.clauses,dA.cpy x.when_/\dA.cpy x.then_
end
section
variable [fC]
variable {t:Tr rA}
def zi7(f:qF):1<=bK f/\f.n.limbs.length<bK f/\f.d.limbs.length<bK f:=by unfold bK;omega
def yZ:∀(x:dA) (left:Int),x.ok->1<=wJ x left
 | .mk op name v args,left,h=>by
  unfold dA.ok at h;unfold wJ;have:=zi7 v.f
  have:=(aV args left (bK v.f+(name.length:Int) / 30) h.2.2.2 (by omega)).1
  omega
mutual
def zjj:∀(x:dA) (left:Int),x.ok->wJ x left<=left->left<=2000->dA.cpy x
 | .mk op name v args,left,h,hs,hl=>by
  unfold dA.ok at h;unfold wJ at hs;unfold dA.cpy;have:=zi7 v.f
  have h1:=(aV args left (bK v.f+(name.length:Int) / 30) h.2.2.2 (by omega)).1
  obtain⟨h2,h3⟩:=zsm args left (bK v.f+(name.length:Int) / 30) h.2.2.2 (by omega) hs hl
  exact⟨⟨by omega,by omega⟩,by omega,h3⟩
def zsm:∀(l:List dA) (left n:Int),dA.oks l->0<=n->gN l left n<=left->left<=2000->n+l.length<=left/\dA.cpys l
 | [],left,n,_,_,hs,_=>by
  unfold gN at hs;unfold dA.cpys;exact⟨by simpa using hs,trivial⟩
 | x::l,left,n,h,hn,hs,hl=>by
  unfold dA.oks at h;unfold gN at hs;unfold dA.cpys;by_cases hc:n<=left
  ·rw[yab hc]at hs
   have h1:=yZ x (left-n) h.1
   have h2:=(aV l left (n+wJ x (left-n)) h.2 (by omega)).1
   obtain⟨h3,h4⟩:=zsm l left _ h.2 (by omega) hs hl
   exact⟨by simp only[ybn];omega,zjj x (left-n) h.1 (by omega) (by omega),h4⟩
  ·rw[yaa hc]at hs
   omega
end
def zde:∀(l:List jE) (n:Int),n<=kQ l n
 | [],n=>by unfold kQ;omega
 | d::l,n=>by
  unfold kQ;split
  ·have:=zde l (n+(d.name.length:Int) / 30);omega
  ·omega
def zqw:∀(l:List vH) (n:Int),n<=zN l n/\(zN l n<=2000->0<=n->l.length+n<=2000/\∀r∈l,r.f.n.limbs.length<1000000/\r.f.d.limbs.length<1000000)
 | [],n=>by unfold zN;exact⟨by omega,fun h _=>⟨by simpa using h,fun r hr=>by cases hr⟩⟩
 | r::l,n=>by
  obtain⟨h1,h2⟩:=zqw l (n+(bK r.f:Nat))
  have:=zi7 r.f
  unfold zN;split
  ·refine⟨by omega,fun h hn=>?_⟩
   obtain⟨h3,h4⟩:=h2 h (by omega)
   refine⟨by simp only[ybn];omega,fun q hq=>?_⟩
   rcases ybs.1 hq with rfl | hq
   ·exact⟨by omega,by omega⟩
   ·exact h4 q hq
  ·exact⟨by omega,fun h=>by omega⟩
def zf3:∀(l:List qE) (n:Int),n<=rO l n/\(rO l n<=2000->0<=n->∀x∈l,x.rows.length<300000/\∀r∈x.rows,r.f.n.limbs.length<1000000/\r.f.d.limbs.length<1000000)
 | [],n=>by unfold rO;exact⟨by omega,fun _ _ r hr=>by cases hr⟩
 | x::l,n=>by
  obtain⟨r1,r2⟩:=zqw x.rows (n+(x.name.length:Int) / 30)
  obtain⟨h1,h2⟩:=zf3 l (zN x.rows (n+(x.name.length:Int) / 30))
  unfold rO;split
  ·refine⟨by omega,fun h hn q hq=>?_⟩
   obtain⟨h3,h4⟩:=r2 (by omega) (by omega)
   rcases ybs.1 hq with rfl | hq
   ·exact⟨by omega,h4⟩
   ·exact h2 h (by omega) q hq
  ·exact⟨by omega,fun h=>by omega⟩
def oZ:∀(l:List vF) (n:Int),(∀x∈l,x.fit)->0<=n->n<=yN l n/\(yN l n<=2000->∀x∈l,dA.cpy x.when_/\dA.cpy x.then_)
 | [],n,_,_=>by unfold yN;exact⟨by omega,fun _ r hr=>by cases hr⟩
 | x::l,n,hf,hn=>by
  have hx:=hf x (by simp)
  have p1:=yZ x.when_ (2000-n) (dA.fit_ok hx.2.2.2.2.2.1)
  have p2:=yZ x.then_ (2000-qK x n) (dA.fit_ok hx.2.2.2.2.2.2)
  have hw:n<=qK x n/\wJ x.when_ (2000-n)<=qK x n-n:=by unfold qK;omega
  unfold yN;split
  ·split
   ·obtain⟨h1,h2⟩:=oZ l (qK x n+wJ x.then_ (2000-qK x n)) (fun y hy=>hf y (by simp[hy])) (by omega)
    refine⟨by omega,fun h q hq=>?_⟩
    rcases ybs.1 hq with rfl | hq
    ·exact⟨zjj _ (2000-n) (dA.fit_ok hx.2.2.2.2.2.1) (by omega) (by omega),zjj _ (2000-qK q n) (dA.fit_ok hx.2.2.2.2.2.2) (by omega) (by omega)⟩
    ·exact h2 h q hq
   ·obtain⟨h1,_⟩:=oZ l (qK x n) (fun y hy=>hf y (by simp[hy])) (by omega)
    exact⟨by omega,fun h=>by omega⟩
  ·exact⟨by omega,fun h=>by omega⟩
def z3n{p:eC}(hp:p.fit)(h:z27 p<=2000):eC.cpy p/\p.clauses.length<=2000:=by
 unfold z27 at h;have h1:=zde p.defs (1+(p.name.length:Int) / 30+p.defs.length+p.tables.length+p.clauses.length)
 obtain⟨h2,h3⟩:=zf3 p.tables (kQ p.defs (1+(p.name.length:Int) / 30+p.defs.length+p.tables.length+p.clauses.length))
 obtain⟨h4,h5⟩:=oZ p.clauses (rO p.tables (kQ p.defs (1+(p.name.length:Int) / 30+p.defs.length+p.tables.length+p.clauses.length))) hp.clauses (by omega)
 exact⟨⟨by omega,by omega,by omega,h3 (by omega) (by omega),h5 h⟩,by omega⟩
def z43(op nm a b c:Nat):(zzae op nm a b c).2=0\/(zzae op nm a b c).2=142/\(zzae op nm a b c).1=0:=by
 unfold zzae;split
 ·split
  ·exact .inl rfl
  ·exact .inr ⟨rfl,rfl⟩
 ·split
  ·split
   ·split
    ·exact .inl rfl
    ·exact .inr ⟨rfl,rfl⟩
   ·split
    ·split
     ·exact .inl rfl
     ·exact .inr ⟨rfl,rfl⟩
    ·exact .inl rfl
  ·exact .inr ⟨rfl,rfl⟩
def z88{p:eC}{op:Nat}{name:List Nat}{vk n:Nat}{ks:List Nat}:(opK p op name vk n ks).2=0\/((opK p op name vk n ks).2=141\/(opK p op name vk n ks).2=142)/\(opK p op name vk n ks).1=0:=by
 unfold opK;split
 ·exact .inr ⟨.inl rfl,rfl⟩
 ·split
  ·exact .inl rfl
  ·rcases z43 op (mL p op name n).1 (ks.getD 0 0) (ks.getD 1 0) (ks.getD 2 0)with h | ⟨h1,h2⟩
   ·exact .inl h
   ·exact .inr ⟨.inr h1,h2⟩
mutual
def zzm{p:eC}:∀x:dA,(sH p x).2=0\/((sH p x).2=141\/(sH p x).2=142)/\(sH p x).1=0
 | .mk op name v args=>by
  unfold sH
  cases h:oN p args with
  | inl e=>
   have:=zbd args e h
   exact .inr ⟨this,rfl⟩
  | inr ks=>exact z88
def zbd{p:eC}:∀(l:List dA) (e:Nat),oN p l=.inl e->e=141\/e=142
 | [],e,h=>by unfold oN at h;cases h
 | x::l,e,h=>by
  unfold oN at h;split at h
  ·rename_i h0
   cases h;rcases zzm (p:=p) x with h1 | ⟨h1,_⟩
   ·exact absurd h1 h0
   ·exact h1
  ·split at h
   ·rename_i e' he
    cases h;exact zbd l _ he
   ·cases h
end
end
section
variable [fC]
variable {t tf:Tr rA}
def zsn{w:cH}(hl:w.limbs.length<1000000):CopyF yA.base (Wq yA F uJ) 55 w.d:=by
 intro L tf t cs Q ho hd hQ;obtain⟨v,rfl,hv⟩:=eU hd
 rw[q55];refine w55 _ _ ?_
 unfold t55;refine yG fun n hn _=>?_
 obtain⟨v',k,t',tf',a1,a2,a3,a4,a5,a6,a7⟩:=zmu el27 hv ho.tle (by rw[sV];exact hl) hn
 refine⟨_,_,a1,?_⟩
 have hr:=ziv (w:=w) a2
 refine mA (by rw[lG];simp only[ycg,yck,a2.one];rfl) (mA hr.all ?_)
 refine hQ tf' t' _ a3 (ho.keep a3 a4 fun k hk=>?_) hr
 have hne:k≠n:=fun e=>by
  obtain⟨y,hy⟩:=ho.live hk
  rw[e,hn]at hy;cases hy
 exact⟨a6 k hne,by rw[a7 k hne];exact(ho.low k hk).2⟩
def zq1{z:List zA}:∀n:Nat,(tI z n).length=n*z.length
 | 0=>by simp[tI]
 | n+1=>by unfold tI;rw[mG,ybg,zq1 n,ybo,Nat.one_mul,yap]
def make79{n b:Nat}(hn:n<300000)(hb:t.get b=none):∃t' cs,qL yA 79 (.int .i64 (n:Int)) (.int .i64 (n:Int)) ⟨b,t⟩=some (.slice b 0 n n,⟨b+1,t'⟩)/\lD t' b none cs/\cs.length=n*7/\zB t t'/\cD b t t':=by
 obtain⟨⟨y,hy1,hy2,_⟩,⟨z,hz1,hz2,hz3,hz4,_⟩⟩:=el79
 obtain⟨t',h1,h2,h3,h4⟩:=zS hb (tI z.zero n) none
 rw[zD]at hz3;refine⟨t',_,?_,h2,by rw[zq1,hz3],h3,h4⟩
 unfold qL;rw[hy1,tA,hy2,tA,hz1,tA];have e1:(zA.int .i64 (n:Int)).asNat=some n:=rfl
 rw[e1,tA,tA];have e2:(Nat.ble n n&&Nat.blt n 1000000&&Nat.blt (n*z.bytes) 1000000000&&Nat.beq (yB z.zero) z.size)=true:=by
  rw[uE.2 (ybk n),xC.2 (by omega),zD,hz3,hz2,fB.2 rfl]
  have:n*z.bytes<1000000000:=by
   have:=ydb (Nat.le_of_lt hn) hz4
   omega
  rw[xC.2 this];rfl
 rw[e2,zE,h1]
def ztk{rows:List vH}{v:zA}{tf0:Tr rA}{nm c40:List Nat}{two c41:Bool}{c42 u:zA}{b8:Nat}(hr:cA tf0 7 (rows.map vH.d) v)(hn:rows.length<300000)(hl:∀r∈rows,r.f.n.limbs.length<1000000/\r.f.d.limbs.length<1000000)(hb8:yA.base<=b8) :
  ∀(k i:Nat) (tf t:Tr rA) (cs:List zA),i+k=rows.length->cs.length=rows.length*7->zB tf0 tf->zp6 yA.base tf t [z2e b8 none cs] →
   jp 40 2 [.slice b8 0 rows.length rows.length,v,.int .i64 (rows.length:Int),.int .i64 (i:Int),.str c40,.bool c41,c42,.str nm,.bool two,u] t (fun x t'=>x=.tup [.agg [.str nm,.bool two,.slice b8 0 rows.length rows.length],.bool true]/\zB tf0 t'):=by
 intro k;induction k with
 | zero=>
  intro i tf t cs hi hcs hf ho;refine j40_2 _ _ _ _ _ _ _ _ _ _ ?_
  unfold z8n;exact lA (dF (by omega)) (mA rfl (mA rfl ⟨rfl,hf.trans ho.tle⟩))
 | succ k ih=>
  intro i tf t cs hi hcs hf ho;have hlt:i<rows.length:=by omega
  have hm:rows[i]∈rows:=ycj hlt
  obtain⟨pb,po,rc,g1,g2,g3,_,g5⟩:=zF.at sl79 (by simp) (hr.mono (hf.trans ho.tle)) (i:=i) (d:=rows[i].d) (by simp[ybd hlt])
  obtain⟨pb',po',rc',g1',g2',g3',_,g5'⟩:=zF.at sl79 (by simp) (hr.mono hf) (i:=i) (d:=rows[i].d) (by simp[ybd hlt])
  rw[g1']at g1
  cases g1
  have erc:rc=rc':=by
   have:=kV (H:=⟨0,tf⟩) (HA:=⟨0,t⟩) (fun a y h=>ho.tle a y h) g2'
   rw[g2]at this;exact zA.agg.inj (yci this)
  subst erc;refine j40_2 _ _ _ _ _ _ _ _ _ _ ?_
  unfold z8n;refine mA (zG (by omega)) (jA g1' (lC g2 ?_))
  rw[sK];refine sF (lI g5' (vH.zs _)) ?_
  have hall:=g5'.all
  have hmk:=g5'.mk (vH.zs rows[i])
  obtain⟨a,c,rfl,ha,hc⟩:=zxw g5'
  refine mA hall (vC ?_)
  refine zsn (w:=rows[i].f.n) (hl _ hm).1 ho (ziv (w:=rows[i].f.n) ha) fun tf1 t1 c1 k1 k2 k3=>?_
  refine sF (lI k3 (cH.zs _)) ?_
  have a1:=k3.all
  obtain⟨a2,rfl,ha2⟩:=eU k3
  have hw2:=ziv (w:=rows[i].f.d) (hc.mono k1)
  refine mA hw2.sameA (vC ?_)
  refine zsn (w:=rows[i].f.d) (hl _ hm).2 k2 hw2 fun tf2 t2 c2 m1 m2 m3=>?_
  refine sF (lI m3 (cH.zs _)) ?_
  obtain⟨b2,rfl,hb2⟩:=eU m3
  refine mA rfl (mA (by rw[lG];simp only[ycg,yck,cellsOf,ha2.one,hb2.one,sP,zfh,yaz,yba,Bool.and_true];rfl) ?_)
  refine jA (nU sl79 hlt) (yG fun n _ _=>?_)
  have hcel:lD t2 b8 none cs:=m2.ok (z2e b8 none cs) (by simp)
  have hone:tC zA.one ([.int .i64 rows[i].a,.int .i64 rows[i].b,.int .i64 rows[i].known,.bool rows[i].f.n.neg,a2,.bool rows[i].f.d.neg,b2]:List zA)=true:=by
   rw[lG];simp only[ycg,yck,ha2.one,hb2.one];rfl
  obtain⟨t3,s1,s2,s3⟩:=hcel.store hb8 (T:=84) (j:=0+i*7) (v:=.agg [.int .i64 rows[i].a,.int .i64 rows[i].b,.int .i64 rows[i].known,.bool rows[i].f.n.neg,a2,.bool rows[i].f.d.neg,b2]) ty84 rfl (by
   show 0+i*7+7<=cs.length
   rw[hcs];omega) hone
  refine⟨_,_,s1 n,oC ?_⟩
  rw[wrap_i64 (by omega) (by omega),show(i:Int)+1=((i+1:Nat):Int) by omega]
  have hlen7:=(zk2 (cs:=cs) (l:=[.int .i64 rows[i].a,.int .i64 rows[i].b,.int .i64 rows[i].known,.bool rows[i].f.n.neg,a2,.bool rows[i].f.d.neg,b2]) (j:=0+i*7) (by show 0+i*7+7<=cs.length;rw[hcs];omega)).trans hcs
  have hn2:tf2.get b8=none:=(m2.low b8 (by simp[z2e])).2
  refine ih (i+1) tf2 t3 _ (by omega) hlen7 (hf.trans (k1.trans m1)) ?_
  refine zp6.upd (A:=[]) (B:=[]) (o:=z2e b8 none cs) m2 (fun k h1 _=>s3 k (by simpa[z2e]using h1)) (fun k h=>.inl (by simpa[z2e]using h)) s2 (by simp[z2e]) (m2.tle.off hn2 s3)
def ztl{p:eC}{cs:List zA}{s:List Nat}{Q:uC}(hp:p.fit)(hc:eC.cpy p)(hr:RD t p.d cs)(hQ:∀t',zB t t'->(match zI p.tables s with
   | some x=>∀b n,Q (.tup [.agg [.str x.name,.bool x.two,.slice b 0 n n],.bool true]) t'
   | none=>Q (.tup [.agg [.str [],.bool false,.nilslice],.bool false]) t')):Wc yA F 40 [.agg cs,.str s] t Q:=by
 obtain⟨r,h1,h2⟩:=z6f hp hr s
 obtain⟨u1,u2,u3,rfl,_⟩:=xN hr
 refine w40 _ _ _ _ _ ?_
 unfold t40;refine vC ?_
 rw[q54,h2,vA];have hmem:∀x,zI p.tables s=some x->x∈p.tables:=fun x h=>List.mem_of_find?_eq_some h
 cases hx:zI p.tables s with
 | none=>
  rw[hx]at h1;have h1:r=.tup [.agg [.str [],.bool false,.nilslice],.bool false]:=h1
  subst h1;refine jA rfl (sF (X:=cellsOf [.str [],.bool false,.nilslice]) rfl (jA rfl (xD (mA rfl (mA rfl (mA rfl (mA rfl ?_)))))))
  have:=hQ t (zB.refl _)
  rw[hx]at this;exact this
 | some x=>
  rw[hx]at h1;obtain⟨a,rfl,ha⟩:=h1
  have hm:=hmem x hx
  obtain⟨k1,k2⟩:=hc.rows x hm
  have hd:=z31 (x:=x) ha
  refine jA rfl (sF (lI hd (qE.zs _)) (jA rfl (xD ?_)))
  have hln:=ha.len
  rw[ybf]at hln;refine mA hd.all (lA (by simp) (jA hln (wC (yG fun b8 hb8 hbase=>?_))))
  obtain⟨t1,zs,e1,e2,e3,e4,e5⟩:=make79 (n:=x.rows.length) k1 hb8
  refine⟨_,_,e1,jA hln (wC (oC ?_))⟩
  have ho:zp6 yA.base t t1 [z2e b8 none zs]:=⟨e4,by simp[z2e],fun o hm=>by
   rw[ydd]at hm;subst hm;exact e2,fun k hk=>by
   have:k=b8:=by simpa[z2e]using hk
   subst this;exact⟨hbase,hb8⟩⟩
  have hloop:=ztk (nm:=x.name) (two:=x.two) (c40:=[]) (c41:=false) (c42:=.nilslice) (u:=a) ha k1 k2 hbase x.rows.length 0 t t1 zs (by omega) e3 (zB.refl _) ho
  refine Jq.mono hloop fun v t' ⟨g1,g2⟩=>?_
  subst g1;have:=hQ t' g2
  rw[hx]at this;exact this b8 x.rows.length
end
section
variable [fC]
variable {t tf:Tr rA}
def z2q{p:eC}{cs:List zA}{s:List Nat}{Q:uC}(hp:p.fit)(hc:eC.cpy p)(hr:RD t p.d cs)(hQ:∀t' tn two was ta,zB t t'->zA.one ta=true->zsd .nilslice ta=true->was=(zI p.tables s).isSome->(∀x,zI p.tables s=some x->two=x.two) →
  Q (.tup [.agg [.str tn,.bool two,ta],.bool was]) t'):Wc yA F 40 [.agg cs,.str s] t Q:=by
 refine ztl hp hc hr fun t' hle=>?_
 cases hx:zI p.tables s with
 | none=>exact hQ t' _ _ _ _ hle rfl rfl (by rw[hx];rfl) (fun x h=>by rw[hx]at h;cases h)
 | some x=>exact fun b n=>hQ t' _ _ _ _ hle rfl rfl (by rw[hx];rfl) (fun y h=>by rw[hx]at h;cases h;rfl)
def mF(p:eC)(op:Nat)(name:List Nat)(n:Nat):Bool:=
 if op=3\/op=4 then(match xK p.defs name with | some d=>d.fact | none=>false)
 else if op=5 then(match xK p.defs name with | some d => !d.fact | none=>false)
 else if op=21 then(match xK p.defs name with | some d=>d.fact&&decide (d.kind=2) | none=>false)
 else if op=22 then(match xK p.defs name with | some d=>d.fact&&decide (d.kind=3) | none=>false)
 else if op=6 then(match zI p.tables name with | some x=>cF x.two (decide (n=2)) | none=>false)
 else if op=23 then(match zI p.tables name with | some x => !x.two | none=>false)
 else true
mutual
def zmc(p:eC):dA->Bool
 | .mk op name _ args=>mF p op name args.length&&mS p args
def mS(p:eC):List dA->Bool
 | []=>true
 | x::l=>zmc p x&&mS p l
end
def zzar(o:Option jE):∃nm k f,defV o=.tup [.agg [.str nm,.int .u8 (k:Nat),.bool f],.bool o.isSome]/\(∀d,o=some d->k=d.kind/\f=d.fact):=by
 cases o with
 | none=>exact⟨[],0,false,rfl,fun d h=>by cases h⟩
 | some d=>exact⟨d.name,d.kind,d.fact,rfl,fun d' h=>by cases h;exact⟨rfl,rfl⟩⟩
section
variable {p:eC}
mutual
def zpo(hp:p.fit)(hc:eC.cpy p):∀(x:dA) (t:Tr rA) (cp cs:List zA),x.fit->RD t p.d cp->RD t x.d cs->lB yA F 24 [.agg cp,.agg cs] t=some (.bool (zmc p x))
 | .mk op name v args,t,cp,cs,hx,hrp,h=>by
  have hrp0:=hrp
  obtain⟨u1,u2,u3,rfl,_⟩:=xN hrp
  obtain⟨a,b,c,rfl,ha,hb,hcc⟩:=cJ h
  simp only[dA.op,dA.name,dA.v,dA.args]at ha hb hcc ⊢
  have hx':=hx
  unfold dA.fit at hx';have hal:=hx'.2.2.2.2.1
  have hlen:=hcc.len
  rw[ybf]at hlen;unfold zmc;refine nJ (w24 _ _ _ _ _ _ _ _ _ _ _ _ _ ?_)
  unfold t24;refine vC ?_
  rw[q19,zsk hp hrp0,vA];obtain⟨nm,k,f,e1,e2⟩:=zzar (xK p.defs name)
  rw[e1];refine jA rfl (sF (X:=cellsOf [.str nm,.int .u8 (k:Nat),.bool f]) rfl (jA rfl (xD (mA rfl (vC ?_)))))
  rw[q40];refine z2q hp hc hrp0 fun t' tn two was ta hle h1 h2 h3 h4=>?_
  refine jA rfl (sF (X:=cellsOf [.str tn,.bool two,ta]) (dL (by show(true&&(true&&(zsd .nilslice ta&&true)))=true;rw[h2];rfl)) (jA rfl (xD (mA (by rw[lG];simp only[ycg,yck,cellsOf,sP,zxi,zfh,yaz,yba,h1];rfl) ?_))))
  have go:mF p op name args.length=true->jp 24 47 [.str p.name,u1,u2,u3,.int .u8 (op:Int),.str name,.int .u8 (v.kind:Int),.bool v.f.n.neg,a,.bool v.f.d.neg,b,.int .i64 v.i,c] t' (fun r s=>r=.bool (mF p op name args.length&&mS p args)/\zB t s):=by
   intro hd;rw[hd,ycn];refine j24_47 _ _ _ _ _ _ _ _ _ _ _ _ _ ?_
   unfold z6m;exact oC (zma hp hc args args t t' u1 u2 u3 op name v a b c 0 hle (hrp0.mono hle) (hcc.mono hle) rfl hx'.2.2.2.2.2 hal)
  have no:mF p op name args.length=false->(.bool false:zA)=.bool (mF p op name args.length&&mS p args)/\zB t t':=fun hd=>⟨by rw[hd];rfl,hle⟩
  have dD:∀d,xK p.defs name=some d->k=d.kind/\f=d.fact:=e2
  cases hD:xK p.defs name with
  | none=>
   have i0:(none:Option jE).isSome=false:=rfl
   rw[i0];by_cases o3:op=3
   ·subst o3;exact mA rfl (mA rfl (mA rfl (no (by unfold mF;simp[hD]))))
   by_cases o4:op=4
   ·exact lA (sC (by omega)) (mA (iD (by omega)) (mA rfl (no (by unfold mF;simp[hD,o4]))))
   by_cases o5:op=5
   ·exact lA (sC (by omega)) (lA (sC (by omega)) (mA (iD (by omega)) (mA rfl (no (by unfold mF;simp[hD,o5])))))
   by_cases o21:op=21
   ·exact lA (sC (by omega)) (lA (sC (by omega)) (lA (sC (by omega)) (mA (iD (by omega)) (mA rfl (no (by unfold mF;simp[hD,o21]))))))
   by_cases o22:op=22
   ·exact lA (sC (by omega)) (lA (sC (by omega)) (lA (sC (by omega)) (lA (sC (by omega)) (mA (iD (by omega)) (mA rfl (no (by unfold mF;simp[hD,o22])))))))
   by_cases o6:op=6
   ·refine lA (sC (by omega)) (lA (sC (by omega)) (lA (sC (by omega)) (lA (sC (by omega)) (lA (sC (by omega)) (mA (iD (by omega)) ?_)))))
    cases hT:zI p.tables name with
    | none=>
     have hw:was=false:=by rw[h3,hT];rfl
     exact mA (by rw[hw];rfl) (no (by unfold mF;simp[hT,o6]))
    | some x=>
     have hw:was=true:=by rw[h3,hT];rfl
     have ht:=h4 x hT
     refine lA (by rw[hw];simp) ?_
     refine jA hlen (wC ?_)
     have e6:cF two (iA (args.length:Int) 2)=cF x.two (decide (args.length=2)):=by
      rw[ht,jL];congr 2
      exact propext ⟨by omega,by omega⟩
     cases hb6:cF x.two (decide (args.length=2))with
     | false=>exact mA (by show(!cF two (iA (args.length:Int) 2))=true;rw[e6,hb6];rfl) (no (by unfold mF;simp[hT,o6,hb6]))
     | true=>exact lA (by show(!cF two (iA (args.length:Int) 2))≠true;rw[e6,hb6];simp) (oC (go (by unfold mF;simp[hT,o6,hb6])))
   by_cases o23:op=23
   ·refine lA (sC (by omega)) (lA (sC (by omega)) (lA (sC (by omega)) (lA (sC (by omega)) (lA (sC (by omega)) (lA (sC (by omega)) (mA (iD (by omega)) ?_))))))
    cases hT:zI p.tables name with
    | none=>
     have hw:was=false:=by rw[h3,hT];rfl
     exact mA (by rw[hw];rfl) (no (by unfold mF;simp[hT,o23]))
    | some x=>
     have hw:was=true:=by rw[h3,hT];rfl
     have ht:=h4 x hT
     refine lA (by rw[hw];simp) ?_
     cases hb6:x.two with
     | true=>exact mA (by show two=true;rw[ht,hb6]) (no (by unfold mF;simp[hT,o23,hb6]))
     | false=>exact lA (by show ¬ two=true;rw[ht,hb6];simp) (oC (go (by unfold mF;simp[hT,o23,hb6])))
   exact lA (sC (by omega)) (lA (sC (by omega)) (lA (sC (by omega)) (lA (sC (by omega)) (lA (sC (by omega)) (lA (sC (by omega)) (lA (sC (by omega)) (oC (go (by unfold mF;simp[o3,o4,o5,o21,o22,o6,o23])))))))))
  | some d=>
   have i0:(some d:Option jE).isSome=true:=rfl
   rw[i0];obtain⟨rfl,rfl⟩:=dD d hD
   by_cases o3:op=3
   ·subst o3
    refine mA rfl (mA rfl (lA (by simp) ?_))
    cases hf:d.fact with
    | true=>exact lA (by show(!true)≠true;simp) (oC (go (by unfold mF;simp[hD,hf])))
    | false=>exact mA rfl (no (by unfold mF;simp[hD,hf]))
   by_cases o4:op=4
   ·refine lA (sC (by omega)) (mA (iD (by omega)) (lA (by simp) ?_))
    cases hf:d.fact with
    | true=>exact lA (by show(!true)≠true;simp) (oC (go (by unfold mF;simp[hD,hf,o4])))
    | false=>exact mA rfl (no (by unfold mF;simp[hD,hf,o4]))
   by_cases o5:op=5
   ·refine lA (sC (by omega)) (lA (sC (by omega)) (mA (iD (by omega)) (lA (by simp) ?_)))
    cases hf:d.fact with
    | true=>exact mA rfl (no (by unfold mF;simp[hD,hf,o5]))
    | false=>exact lA (by show ¬ false=true;simp) (oC (go (by unfold mF;simp[hD,hf,o5])))
   by_cases o21:op=21
   ·refine lA (sC (by omega)) (lA (sC (by omega)) (lA (sC (by omega)) (mA (iD (by omega)) (lA (by simp) ?_))))
    cases hf:d.fact with
    | false=>exact mA rfl (no (by unfold mF;simp[hD,hf,o21]))
    | true=>
     refine lA (by show(!true)≠true;simp) ?_
     by_cases hk:d.kind=2
     ·exact lA (by show(!iA (d.kind:Int) 2)≠true;rw[iD (by omega)];simp) (oC (go (by unfold mF;simp[hD,hf,o21,hk])))
     ·exact mA (by show(!iA (d.kind:Int) 2)=true;rw[Bool.eq_false_iff.2 (sC (by omega))];rfl) (no (by unfold mF;simp[hD,hf,o21,hk]))
   by_cases o22:op=22
   ·refine lA (sC (by omega)) (lA (sC (by omega)) (lA (sC (by omega)) (lA (sC (by omega)) (mA (iD (by omega)) (lA (by simp) ?_)))))
    cases hf:d.fact with
    | false=>exact mA rfl (no (by unfold mF;simp[hD,hf,o22]))
    | true=>
     refine lA (by show(!true)≠true;simp) ?_
     by_cases hk:d.kind=3
     ·exact lA (by show(!iA (d.kind:Int) 3)≠true;rw[iD (by omega)];simp) (oC (go (by unfold mF;simp[hD,hf,o22,hk])))
     ·exact mA (by show(!iA (d.kind:Int) 3)=true;rw[Bool.eq_false_iff.2 (sC (by omega))];rfl) (no (by unfold mF;simp[hD,hf,o22,hk]))
   by_cases o6:op=6
   ·refine lA (sC (by omega)) (lA (sC (by omega)) (lA (sC (by omega)) (lA (sC (by omega)) (lA (sC (by omega)) (mA (iD (by omega)) ?_)))))
    cases hT:zI p.tables name with
    | none=>
     have hw:was=false:=by rw[h3,hT];rfl
     exact mA (by rw[hw];rfl) (no (by unfold mF;simp[hT,o6]))
    | some x=>
     have hw:was=true:=by rw[h3,hT];rfl
     have ht:=h4 x hT
     refine lA (by rw[hw];simp) ?_
     refine jA hlen (wC ?_)
     have e6:cF two (iA (args.length:Int) 2)=cF x.two (decide (args.length=2)):=by
      rw[ht,jL];congr 2
      exact propext ⟨by omega,by omega⟩
     cases hb6:cF x.two (decide (args.length=2))with
     | false=>exact mA (by show(!cF two (iA (args.length:Int) 2))=true;rw[e6,hb6];rfl) (no (by unfold mF;simp[hT,o6,hb6]))
     | true=>exact lA (by show(!cF two (iA (args.length:Int) 2))≠true;rw[e6,hb6];simp) (oC (go (by unfold mF;simp[hT,o6,hb6])))
   by_cases o23:op=23
   ·refine lA (sC (by omega)) (lA (sC (by omega)) (lA (sC (by omega)) (lA (sC (by omega)) (lA (sC (by omega)) (lA (sC (by omega)) (mA (iD (by omega)) ?_))))))
    cases hT:zI p.tables name with
    | none=>
     have hw:was=false:=by rw[h3,hT];rfl
     exact mA (by rw[hw];rfl) (no (by unfold mF;simp[hT,o23]))
    | some x=>
     have hw:was=true:=by rw[h3,hT];rfl
     have ht:=h4 x hT
     refine lA (by rw[hw];simp) ?_
     cases hb6:x.two with
     | true=>exact mA (by show two=true;rw[ht,hb6]) (no (by unfold mF;simp[hT,o23,hb6]))
     | false=>exact lA (by show ¬ two=true;rw[ht,hb6];simp) (oC (go (by unfold mF;simp[hT,o23,hb6])))
   exact lA (sC (by omega)) (lA (sC (by omega)) (lA (sC (by omega)) (lA (sC (by omega)) (lA (sC (by omega)) (lA (sC (by omega)) (lA (sC (by omega)) (oC (go (by unfold mF;simp[o3,o4,o5,o21,o22,o6,o23])))))))))
def zma(hp:p.fit)(hc:eC.cpy p):∀(l args:List dA) (t0 t:Tr rA) (u1 u2 u3:zA) (op:Nat) (name:List Nat) (v:mH) (a b c:zA) (i:Nat),zB t0 t->RD t p.d [.str p.name,u1,u2,u3]->cA t 9 (args.map dA.d) c->args.drop i=l->dA.fits l->args.length<cC →
  jp 24 4 [.int .i64 (i:Int),.str p.name,u1,u2,u3,.int .u8 (op:Int),.str name,.int .u8 (v.kind:Int),.bool v.f.n.neg,a,.bool v.f.d.neg,b,.int .i64 v.i,c] t (fun r t'=>r=.bool (mS p l)/\zB t0 t')
 | [],args,t0,t,u1,u2,u3,op,name,v,a,b,c,i,hle,hrp,hcc,hd,hok,hsz=>by
  have:=zap hd
  have hlen:=hcc.len
  rw[ybf]at hlen;refine j24_4 _ _ _ _ _ _ _ _ _ _ _ _ _ _ ?_
  unfold z8o;exact jA hlen (wC (lA (dF (by omega)) ⟨rfl,hle⟩))
 | x::l,args,t0,t,u1,u2,u3,op,name,v,a,b,c,i,hle,hrp,hcc,hd,hok,hsz=>by
  obtain⟨h1,h2,h3⟩:=aW hd
  have hsz':=hsz
  unfold cC at hsz';have hok':=hok
  unfold dA.fits at hok';unfold mS;have hlen:=hcc.len
  rw[ybf]at hlen;refine j24_4 _ _ _ _ _ _ _ _ _ _ _ _ _ _ ?_
  obtain⟨pb,po,cs,g1,g2,g3,g4,g5⟩:=zF.at z8t (by simp) hcc (i:=i) (d:=x.d) (by simp[h1])
  unfold z8o;refine jA hlen (wC (mA (zG (by omega)) (jA g1 (lC g2 ?_))))
  rw[sK];refine sF (lI g5 x.zs) ?_
  have hcs:[zA.int .u8 ((cellsOf cs).i 0),.str ((cellsOf cs).s 1),.int .u8 ((cellsOf cs).i 2),.bool ((cellsOf cs).b 3),(cellsOf cs).v 4,.bool ((cellsOf cs).b 5),(cellsOf cs).v 6,.int .i64 ((cellsOf cs).i 7),(cellsOf cs).v 8]=cs:=g5.mk x.zs
  rw[hcs];refine vC ?_
  rw[q24,zpo hp hc x t _ cs hok'.1 hrp g5,vA];refine xD ?_
  cases hq:zmc p x with
  | false=>exact mA rfl ⟨rfl,hle⟩
  | true=>
   refine lA (by simp) (oC ?_)
   rw[wrap_i64 (by omega) (by omega),show(i:Int)+1=((i+1:Nat):Int) by omega,ycn]
   exact zma hp hc l args t0 t u1 u2 u3 op name v a b c (i+1) hle hrp hcc h2 hok'.2 hsz
end
end
end
section
variable [fC]
variable {t:Tr rA}
section
variable {p:eC}
def z3s{op:Nat}{name:List Nat}{vk n:Nat}{ks:List Nat}(h:(opK p op name vk n ks).2=0):mF p op name n=true:=by
 unfold opK at h;by_cases h1:(mL p op name n).2=false
 ·rw[yab h1]at h;cases h
 rw[yaa h1]at h;have h1:(mL p op name n).2=true:=by simpa using h1
 unfold mL at h1;unfold mF;by_cases o3:op=3\/op=4
 ·rw[yab o3]
  rw[yab (by omega)]at h1
  cases hd:xK p.defs name with
  | none=>rw[hd]at h1;cases h1
  | some d=>
   rw[hd]at h1;simp only[ybb]at h1;have:=(vO _ _).symm.trans h1.1
   rw[decide_eq_false (show ¬ op=5 by omega)]at this
   simpa using this
 rw[yaa o3];by_cases o5:op=5
 ·rw[yab o5]
  rw[yab (by omega)]at h1
  cases hd:xK p.defs name with
  | none=>rw[hd]at h1;cases h1
  | some d=>
   rw[hd]at h1;simp only[ybb]at h1;have:=(vO _ _).symm.trans h1.1
   rw[decide_eq_true o5]at this;simpa using this
 rw[yaa o5];by_cases o21:op=21\/op=22
 ·rw[yaa (show ¬ op=1 by omega)]at h
  unfold zzae at h;rw[yaa (show ¬ (op=3\/op=5) by omega)]at h
  unfold mL at h;rw[yab (by omega)]at h h1
  cases hd:xK p.defs name with
  | none=>rw[hd]at h1;cases h1
  | some d=>
   rw[hd]at h1 h;simp only[ybb]at h1;have hf:=(vO _ _).symm.trans h1.1
   rw[decide_eq_false (show ¬ op=5 by omega)]at hf
   have hf:d.fact=true:=by simpa using hf
   simp only at h
   split at h
   ·rcases o21 with e | e
    ·subst e
     rw[yab rfl]at h ⊢
     split at h
     ·rename_i hk;simp only;rw[hf,hk];rfl
     ·cases h
    ·subst e
     rw[yaa (by omega),yab rfl]at h ⊢
     split at h
     ·rename_i hk;simp only;rw[hf,hk];rfl
     ·cases h
   ·cases h
 rw[yaa (show ¬ op=21 by omega),yaa (show ¬ op=22 by omega)]
 rw[yaa (by omega)]at h1
 by_cases o6:op=6
 ·rw[yab o6]at h1 ⊢
  cases hd:zI p.tables name with
  | none=>rw[hd]at h1;cases h1
  | some x=>rw[hd]at h1;exact h1
 rw[yaa o6]at h1 ⊢
 by_cases o23:op=23
 ·rw[yab o23]at h1 ⊢
  cases hd:zI p.tables name with
  | none=>rw[hd]at h1;cases h1
  | some x=>rw[hd]at h1;exact h1
 rw[yaa o23]
mutual
def zd7:∀x:dA,(sH p x).2=0->zmc p x=true
 | .mk op name v args,h=>by
  unfold sH at h;unfold zmc
  cases hk:oN p args with
  | inl e=>
   rw[hk]at h;rcases zbd args e hk with e1 | e1 <;> (rw[e1]at h;cases h)
  | inr ks=>
   rw[hk]at h;rw[z3s h,zg2 args ks hk];rfl
def zg2:∀(l:List dA) (ks:List Nat),oN p l=.inr ks->mS p l=true
 | [],ks,h=>rfl
 | x::l,ks,h=>by
  unfold oN at h;unfold mS;split at h
  ·cases h
  ·rename_i h0
   rw[zd7 x (by omega)]
   split at h
   ·cases h
   ·rename_i ks' hk
    rw[zg2 l ks' hk];rfl
end
def zf2:∀(l seen:List (List Nat)),cK seen l=false->(∀x∈l,x∉seen)/\∀i k:Nat,k<i->∀a b,l[i]?=some a->l[k]?=some b->a≠b
 | [],seen,_=>⟨fun x hx=>(by cases hx),fun i k _ a b ha _=>(by rw[List.getElem?_nil]at ha;cases ha)⟩
 | x::l,seen,h=>by
  unfold cK at h;split at h
  ·cases h
  ·rename_i hx
   obtain⟨h1,h2⟩:=zf2 l _ h
   refine⟨fun y hy=>?_,fun i k hk a b ha hb=>?_⟩
   ·rcases ybs.1 hy with e | hy
    ·rw[e];exact hx
    ·exact fun hm=>h1 y hy (ydc _ hm)
   ·cases i with
    | zero=>omega
    | succ i=>
     rw[yba]at ha
     cases k with
     | zero=>
      rw[yaz]at hb
      cases hb;intro e;subst e;exact h1 _ (ycv ha) (ycf _ (ydd.2 rfl))
     | succ k=>exact h2 i k (by omega) a b ha (by rw[yba]at hb;exact hb)
def zg9:∀(l:List vF) (i:Nat),(wR p l i).2=0->∀x∈l,vQ p x=0
 | [],i,_,x,h=>by cases h
 | y::l,i,h,x,hx=>by
  unfold wR at h;split at h
  ·rename_i h0;exact absurd h h0
  ·rename_i h0
   rcases ybs.1 hx with e | hx
   ·rw[e];omega
   ·exact zg9 l (i+1) h x hx
def zpq{x:vF}(h:vQ p x=0):∃d,xK p.defs x.name=some d/\d.fact=false/\x.from_<x.to/\sI x.when_<=200/\sI x.then_<=200 ∧
  (x.off=true\/x.off=false/\zoy p x.when_=(1,0)/\zoy p x.then_=(d.kind,0)/\zmc p x.when_=true/\zmc p x.then_=true):=by
 unfold vQ at h;split at h
 ·cases h
 rename_i hP;split at h
 ·cases h
 rename_i hspan;split at h
 ·cases h
 rename_i hparts;split at h
 ·cases h
 rename_i d hd;unfold vR at h;split at h
 ·cases h
 rename_i hf;refine⟨d,hd,by simpa using hf,by omega,by omega,by omega,?_⟩
 split at h
 ·rename_i ho;exact .inl ho
 rename_i ho;have ho:x.off=false:=by simpa using ho
 split at h
 ·rename_i h1;exact absurd h h1
 rename_i h1;have h1:mK p x.when_ 1=0:=by omega
 have hP:uP x=true:=by simpa using hP
 unfold uP at hP;rw[yaa (by rw[ho];simp)]at hP
 simp only[ybb]at hP;obtain⟨_,_,_,_,_,e1,e2⟩:=hP
 have half:∀(y:dA) (k:Nat),mK p y k=0->(sH p y).2=0/\(sH p y).1=k:=by
  intro y k hh;unfold mK at hh;split at hh
  ·rename_i q;exact absurd hh q
  ·rename_i q
   split at hh
   ·cases hh
   ·rename_i q2;exact⟨by omega,by omega⟩
 obtain⟨a1,a2⟩:=half _ _ h1
 obtain⟨b1,b2⟩:=half _ _ h
 refine .inr ⟨ho,?_,?_,zd7 _ a1,zd7 _ b1⟩
 ·unfold zoy;rw[yab e1,<- a2,<- a1]
 ·unfold zoy;rw[yab e2,<- b2,<- b1]
end
section
variable {p:eC}{u1 u2 u3:zA}
def zmb(hp:p.fit)(hc:eC.cpy p)(hM:rJ t)(hW:gM t)(hr:RD t p.d [.str p.name,u1,u2,u3])(h3:cA t 24 (p.clauses.map vF.d) u3)(hcl:∀x∈p.clauses,vQ p x=0) :
  ∀(k i:Nat),i+k=p.clauses.length->jp 8 10 [.int .i64 (i:Int),.str p.name,u1,u2,u3] t (fun v _=>v=.bool true):=by
 have hb:=hp.nclauses
 unfold cC at hb;have hlen:=h3.len
 rw[ybf]at hlen;intro k;induction k with
 | zero=>
  intro i hi;refine j8_10 _ _ _ _ _ ?_
  unfold z8k;exact jA hlen (wC (lA (dF (by omega)) rfl))
 | succ k ih=>
  intro i hi;have hlt:i<p.clauses.length:=by omega
  have hm:p.clauses[i]∈p.clauses:=ycj hlt
  obtain⟨q,off,a,b,c,a',b',c',g1,g2,g3,g4,g5,g6⟩:=zmh h3 (ybd hlt)
  have hfit:=hp.clauses _ hm
  obtain⟨_,_,_,_,_,f6,f7⟩:=hfit
  obtain⟨d,d1,d2,d3,d4,d5,d6⟩:=zpq (hcl _ hm)
  refine j8_10 _ _ _ _ _ ?_
  unfold z8k;refine jA hlen (wC (mA (zG (by omega)) (jA g1 (lC g2 (sF g3 (mA g6 (vC ?_)))))))
  have e1:lB yA F 19 [.agg [.str p.name,u1,u2,u3],.str p.clauses[i].name] t=some (defV (some d)):=by rw[zsk hp hr,d1]
  rw[q19];show uD (lB yA F 19 [.agg [.str p.name,u1,u2,u3],.str p.clauses[i].name] t) _
  rw[e1,vA];refine jA rfl (sF (X:=cellsOf [.str d.name,.int .u8 (d.kind:Nat),.bool d.fact]) rfl (jA rfl (xD (mA rfl (lA (by simp) ?_)))))
  refine lA (by show ¬ d.fact=true;rw[d2];simp) ?_
  refine lA (by show nC p.clauses[i].to p.clauses[i].from_≠true;exact nLe (by omega)) (vC ?_)
  have p1:=sW p.clauses[i].when_ _ f6 (by omega) g4
  have p2:=sW p.clauses[i].then_ _ f7 (by omega) g5
  rw[q23];show uD (lB yA F 23 [.agg (sG p.clauses[i].when_ a b c)] t) _
  rw[p1,vA];refine wC (lA (dF (by omega)) (vC ?_))
  rw[q23];show uD (lB yA F 23 [.agg (sG p.clauses[i].then_ a' b' c')] t) _
  rw[p2,vA];refine wC (lA (dF (by omega)) ?_)
  have next:jp 8 10 [.int .i64 (wA .i64 ((i:Int)+1)),.str p.name,u1,u2,u3] t (fun v _=>v=.bool true):=by
   rw[wrap_i64 (by omega) (by omega),show(i:Int)+1=((i+1:Nat):Int) by omega]
   exact ih (i+1) (by omega)
  rcases d6 with ho | ⟨ho,k1,k2,k3,k4⟩
  ·exact mA (by show p.clauses[i].off=true;exact ho) (oC next)
  ·refine lA (by show ¬ p.clauses[i].off=true;rw[ho];simp) (vC ?_)
   have v1:=zzl hp f6 hM hW hr g4
   have v2:=zzl hp f7 hM hW hr g5
   rw[k1]at v1;rw[k2]at v2;have w1:=zpo hp hc p.clauses[i].when_ t _ _ f6 hr g4
   have w2:=zpo hp hc p.clauses[i].then_ t _ _ f7 hr g5
   rw[k3]at w1;rw[k4]at w2;rw[q11];show uD (lB yA F 11 [.agg [.str p.name,u1,u2,u3],.agg (sG p.clauses[i].when_ a b c)] t) _
   rw[v1,vA];refine jA rfl (wC (jA rfl (wC (vC ?_))))
   rw[q11];show uD (lB yA F 11 [.agg [.str p.name,u1,u2,u3],.agg (sG p.clauses[i].then_ a' b' c')] t) _
   rw[v2,vA];refine jA rfl (wC (jA rfl (wC (lA (by decide) (lA (by show(!iA ((0:Nat):Int) 0)≠true;decide) (lA (by decide) ?_))))))
   refine lA (by show(!iA (d.kind:Int) (d.kind:Int))≠true;rw[iD rfl];simp) (vC ?_)
   rw[q24];show uD (lB yA F 24 [.agg [.str p.name,u1,u2,u3],.agg (sG p.clauses[i].when_ a b c)] t) _
   rw[w1,vA];refine xD (lA (by simp) (vC ?_))
   rw[q24];show uD (lB yA F 24 [.agg [.str p.name,u1,u2,u3],.agg (sG p.clauses[i].then_ a' b' c')] t) _
   rw[w2,vA];exact xD (lA (by simp) (oC next))
def z05(hp:p.fit)(h1:cA t 3 (p.defs.map jE.d) u1)(hno:∀i k:Nat,k<i->∀a b,(p.defs.map jE.name)[i]?=some a->(p.defs.map jE.name)[k]?=some b->a≠b)(hnext:jp 8 10 [.int .i64 0,.str p.name,u1,u2,u3] t (fun v _=>v=.bool true)) :
  ∀(k i:Nat),i+k=p.defs.length->jp 8 2 [.int .i64 (i:Int),.str p.name,u1,u2,u3] t (fun v _=>v=.bool true):=by
 have hb:=hp.ndefs
 unfold cC at hb;have hlen:=h1.len
 rw[ybf]at hlen;intro k;induction k with
 | zero=>
  intro i hi;refine j8_2 _ _ _ _ _ ?_
  unfold t8_2;exact jA hlen (wC (lA (dF (by omega)) (oC hnext)))
 | succ k ih=>
  intro i hi;have hlt:i<p.defs.length:=by omega
  refine j8_2 _ _ _ _ _ ?_
  unfold t8_2;refine jA hlen (wC (mA (zG (by omega)) (oC ?_)))
  have at_:∀j (hj:j<p.defs.length),∃q o,mB yA 22 u1 (.int .i64 (j:Int))=some (.ptr q o)/\tB yA 59 0 (.ptr q o)=some (.ptr q (o+0))/\oA yA 9 ⟨0,t⟩ (.ptr q (o+0))=some (.str p.defs[j].name):=by
   intro j hj;obtain⟨q,o,cs,g1,g2,g3,_,g5⟩:=zF.at sl22 (by simp) h1 (i:=j) (d:=p.defs[j].d) (by simp[ybd hj])
   have g5:=zkr g5
   subst g5;exact⟨q,o,g1,by kernel_rfl,g3.load1 ty9 rfl rfl⟩
  have inner:∀(m j:Nat),j+m=i->jp 8 6 [.int .i64 (i:Int),.int .i64 (j:Int),.str p.name,u1,u2,u3] t (fun v _=>v=.bool true):=by
   intro m;induction m with
   | zero=>
    intro j hj;refine j8_6 _ _ _ _ _ _ ?_
    unfold t8_6;refine lA (dF (by omega)) (oC ?_)
    rw[wrap_i64 (by omega) (by omega),show(i:Int)+1=((i+1:Nat):Int) by omega]
    exact ih (i+1) (by omega)
   | succ m ih2=>
    intro j hj;refine j8_6 _ _ _ _ _ _ ?_
    unfold t8_6;obtain⟨q,o,g1,g2,g3⟩:=at_ i hlt
    obtain⟨q',o',g1',g2',g3'⟩:=at_ j (by omega)
    refine mA (zG (by omega)) (jA g1 (jA g2 (lC g3 (kH (jA g1' (jA g2' (lC g3' (kH ?_))))))))
    have hne:p.defs[i].name≠p.defs[j].name:=hno i j (by omega) _ _ (by simp[ybd hlt]) (by simp[ybd (show j<p.defs.length by omega)])
    refine lA (fun e=>hne ((jK _ _).1 e)) (oC ?_)
    rw[wrap_i64 (by omega) (by omega),show(j:Int)+1=((j+1:Nat):Int) by omega]
    exact ih2 (j+1) (by omega)
  exact inner i 0 (by omega)
end
def z2o{p:eC}{cp:List zA}(hp:p.fit)(hM:rJ t)(hW:gM t)(hr:RD t p.d cp):Wc yA F 8 [.agg cp] t (fun v _=>v=.bool true):=by
 have hr0:=hr
 obtain⟨u1,u2,u3,rfl,h1,h2,h3⟩:=xN hr
 have h9:lB yA F 9 [] t=some (.bool true):=zig (g:=z3q) (by kernel_rfl) fun H=>rfl
 refine w8 _ _ _ _ ?_
 unfold t8;refine vC ?_
 rw[q9,h9,vA];refine xD (lA (by simp) (vC ?_))
 rw[q15,z26 hp hr0,vA];refine wC ?_
 by_cases hs:2000<z27 p
 ·exact mA (zG hs) rfl
 refine lA (dF hs) (vC ?_)
 rw[q16,z5q hp hr0,vA];refine jA rfl (wC (jA rfl (wC ?_)))
 by_cases he:(zsp p).2=0
 case neg=>exact mA (by rw[Bool.eq_false_iff.2 (sC (by omega))];rfl) rfl
 refine lA (by rw[iD (by omega)];simp) (oC ?_)
 have hk:lS p=0/\(wR p p.clauses 0).2=0:=by
  unfold zsp at he;split at he
  ·rename_i q;exact absurd he q
  ·rename_i q;exact⟨by omega,he⟩
 have htw:cK [] (p.defs.map jE.name)=false:=by
  have:=hk.1
  unfold lS at this;split at this
  ·cases this
  ·split at this
   ·cases this
   ·split at this
    ·cases this
    ·rename_i q;simpa using q
 have hc:=(z3n hp (by omega)).1
 exact z05 hp h1 (zf2 _ _ htw).2 (zmb hp hc hM hW hr0 h3 (zg9 _ _ hk.2) p.clauses.length 0 (by omega)) p.defs.length 0 (by omega)
end
end Go.Proofs
namespace Go.Am
open Go Go.RowKit Go.Proofs
def tdecl8{w:World}(hL:aF w){cs:Array Value}{p:eC}(hp:p.fit)(hh:Has w.heap.size cs.toList)(hrd:RD (fH w) p.d (cs.toList.map (av w.heap.size))) :
  Calls Tryz.prog 8 #[.agg cs] w fun e w'=>e=.returned (.bool true)/\Below w.heap.size w w':=
 ztg hL 8 [.agg (cs.toList.map (av w.heap.size))] _ (by intro _;kernel_rfl) (.single (z3m hh)) ⟨_,z2o hp (zzab hL) (zsa hL) hrd,fun v t h=>h⟩
end Go.Am
