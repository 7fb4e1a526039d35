/- append: in the room, into new memory, and both ways where the room is not known. -/
import Derived.AtR
import Derived.Orders
import Derived.Test.YtfijloeeppcipaaGreatDoorG02
set_option linter.all false
noncomputable section
namespace Go.Am
open Go Go.RowKit
section
section
variable {P:Program}{C:oA}{B N:Nat}{μ:Mu}{H H':xA}{w:World}
variable {e:iC}{ρ:Operand->Value}{dst:Option Tmp}{type:TypeId}{pos:String}{after:Array Edge}{guard:Option (Nat × Bool)}{v:zA}
def aA.drop(hH:aA B N μ H w)(b:Nat)(hb:∀x t,μ.pd b≠some (x,t)):aA B N μ ⟨H.next,H.t.del b⟩ w:=by
 have hget:∀a,(H.t.del b).get a=if a=b then none else H.t.get a:=fun a=>Tr.get_del _ _ _
 have key:∀a x,(H.t.del b).get a=some x->a≠b/\H.t.get a=some x:=by
  intro a x h;rw[hget]at h;split at h
  ·cases h
  ·exact⟨‹_›,h⟩
 refine⟨hH.base,hH.glob,fun a x i ha hx=>hH.low a x i ha (key a x hx).2,hH.next,hH.size,fun a ha=>⟨(hH.fresh a ha).1,?_⟩,fun a x i hx=>hH.blk a x i (key a x hx).2,hH.own,fun a c x y i j hx hy=>hH.inj a c x y i j (key a x hx).2 (key c y hy).2,fun a x t ha=>?_⟩
 rotate_left
 ·obtain⟨h1,h2,h3⟩:=hH.pnd a x t ha
  exact⟨h1,by rw[hget,yaa fun e=>hb x t (by rw[<- e];exact ha)];exact h2,h3⟩
 rw[hget];split
 ·rfl
 ·exact(hH.fresh a ha).2
def aA.adopt(hH:aA B N μ H w){y:rA}{o':Obj}{i:BI}(hN:N<=i.b/\i.b<w.heap.size/\i.ro=false)(hfree:∀a x j,B<=a->H.t.get a=some x->μ a=some j->j.b≠i.b)(hy:lH (μ.ext H.next i) i y o') :
  aA B N (μ.ext H.next i) (Am.newBlk H y) (World.setBlk w i.b o'):=by
 have hle:μ.le (μ.ext H.next i):=hH.ext_le
 have hget:∀a,(Am.newBlk H y).t.get a=if a=H.next then some y else H.t.get a:=fun a=>Tr.get_set _ _ _ _
 have hsz:(World.setBlk w i.b o').heap.size=w.heap.size:=by simp[World.setBlk]
 refine⟨hH.base,?_,?_,?_,?_,?_,?_,?_,?_,fun a x t ha=>?_⟩
 ·intro g hg;rw[Mu.ext_get,yaa (by have:=hH.next;have:=hH.base;omega)];exact hH.glob g hg
 ·intro a x j ha hx hj
  rw[hget,yaa (by have:=hH.next;omega)]at hx
  rw[Mu.ext_get,yaa (by have:=hH.next;omega)]at hj
  exact hH.low a x j ha hx hj
 ·have:=hH.next;show B<=H.next+1;omega
 ·rw[hsz];exact hH.size
 ·intro a ha
  have ha':H.next+1<=a:=ha
  rw[hget,yaa (by omega)]
  rw[Mu.ext_get,yaa (by omega)]
  exact hH.fresh a (by omega)
 ·intro a x j hx h1
  rw[hget]at hx;rw[Mu.ext_get]at h1;split at hx
  ·rename_i e;subst e;cases hx
   rw[yab rfl]at h1;cases h1;exact⟨o',by rw[gT,yab ⟨rfl,hN.2.1⟩],hy⟩
  ·rename_i hne
   rw[yaa hne]at h1;obtain⟨q,h2,h3⟩:=hH.blk a x j hx h1
   refine⟨q,?_,h3.mono hle⟩
   rw[gT,yaa]
   ·exact h2
   ·rintro⟨e,_⟩
    by_cases hb:B<=a
    ·exact hfree a x j hb hx h1 e
    ·have h5:=(hH.low a x j (by omega) hx h1).1
     omega
 ·intro a j ha hj
  rw[Mu.ext_get]at hj;rw[hsz];split at hj
  ·cases hj;exact hN
  ·exact hH.own a j ha hj
 ·intro a b x z j k hx hz hj hk ha hb hjk
  rw[hget]at hx hz;rw[Mu.ext_get]at hj hk;by_cases ea:a=H.next
  ·by_cases eb:b=H.next
   ·rw[ea,eb]
   ·exfalso
    rw[yab ea]at hj;rw[yaa eb]at hk hz
    cases hj;exact hfree b z k hb hz hk hjk.symm
  ·by_cases eb:b=H.next
   ·exfalso
    rw[yaa ea]at hj hx;rw[yab eb]at hk
    cases hk;exact hfree a x j ha hx hj hjk
   ·rw[yaa ea]at hx hj;rw[yaa eb]at hz hk
    exact hH.inj a b x z j k hx hz hj hk ha hb hjk
 ·obtain⟨h1,h2,h3⟩:=hH.pnd a x t ha
  have hne:a≠H.next:=fun e=>by rw[e,(hH.fresh _ (ybk _)).2]at h2;cases h2
  exact⟨by rw[Mu.ext_get,yaa hne];exact h1,by rw[hget,yaa hne];exact h2,h3⟩
def zza{a:zA}{x:Value}(hx:vA μ a x){n:Nat}(h:nS a=some n):(Builtin.lenOf x).run P w=.ok n w:=by
 unfold nS at h;split at h
 ·rename_i s hs
  cases h;rw[xT]at hs;subst hs;rw[vA]at hx;rcases hx with⟨i,c,_,rfl,_⟩ | ⟨_,k,_,A,_,rfl,_⟩
  ·rfl
  ·rw[k];rfl
 ·split at h
  ·rename_i s hs
   rw[mP]at hs;subst hs;rw[vA]at hx;obtain⟨str,rfl,rfl⟩:=hx
   rw[bC,nU]at h
   cases h;rfl
  ·rw[wB,fB,bP.2.1]at h
   obtain⟨rfl,h⟩:=h
   cases h;rw[vA]at hx;subst hx;rfl
def zmb(hH:aA B N μ H w){a:zA}{x:Value}(hx:vA μ a x){size n:Nat}{l:List zA}(hn:nS a=some n)(h:sO H size n a=some l) :
  ∃vs:List Value,(Builtin.firstCells size n x).run P w=.ok vs.toArray w/\zB μ l vs:=by
 unfold sO at h;split at h
 ·rename_i s hs
  rw[xT]at hs;subst hs;simp only[uA]at h;obtain⟨c,hc,h⟩:=h
  rw[vA]at hx;rcases hx with⟨i,c',hi,rfl,_⟩ | ⟨_,k,_,A,_,rfl,_⟩
  rotate_left
  ·have hn0:n=0:=by
    have hn:some s.2.2.1=some n:=hn
    exact(yci hn).symm.trans k
   subst hn0;rw[Nat.zero_mul]at h
   cases h;exact⟨[],by show(loadCells A (0*size)).run P w=_;rw[Nat.zero_mul];rfl,.nil⟩
  obtain⟨vs,_,h2,h3,_⟩:=hH.manyAt (P:=P) hc hi h
  exact⟨vs,h3,h2⟩
 ·split at h
  ·rename_i s hs
   rw[mP]at hs;subst hs
   cases h;rw[vA]at hx;obtain⟨str,rfl,rfl⟩:=hx
   refine⟨((str.extract 0 n).data.map fun b=>Value.int .u8 b.toNat).toList,by rw[Array.toArray_toList];rfl,?_⟩
   have h1:zfr (qE str) n=qE (str.extract 0 n):=by rw[eO,bZ];simp
   rw[h1];exact zb7 _
  ·rw[wB,fB,bP.2.1]at h
   obtain⟨rfl,h⟩:=h
   cases h;rw[vA]at hx;subst hx;exact⟨[],rfl,.nil⟩
def z0h(newLen:Nat):∀(r c:Nat),c<newLen->Builtin.growBy newLen r c<=newLen+(newLen+768) / 4:=by
 intro r;induction r with
 | zero=>intro c h;rw[Builtin.growBy];omega
 | succ r ih=>
  intro c h;rw[Builtin.growBy,yaa (by omega)]
  by_cases h2:c+(c+768) / 4<newLen
  ·exact ih _ h2
  ·cases r with
   | zero=>rw[Builtin.growBy];omega
   | succ r=>rw[Builtin.growBy,yab (by omega)];omega
def zt6(need cap:Nat)(h:cap<need):Builtin.nextslicecap need cap<=2*need+192:=by
 unfold Builtin.nextslicecap;split
 ·omega
 ·split
  ·omega
  ·have:=z0h need 4 cap h;omega
structure znd (et:tC) (len cap n:Nat) (new:List zA):Prop where
 small:len+n+cap<1000000000
 bytes:(len+n+cap)*et.bytes<1000000000
 b:et.bytes<1000000000
 size:et.size≠0
 new:new.length=n*et.size
 zero:et.zero.length=et.size
def qZ{et:tC}{len cap n:Nat}{new:List zA}(h:sP et len cap n new=true):znd et len cap n new:=by
 unfold sP at h;simp only[ybb,vC,ycp,beqf,fB,bC]at h;obtain⟨⟨⟨⟨⟨h1,h2⟩,h3⟩,h4⟩,h5⟩,h6⟩:=h
 exact⟨h1,h2,h3,h4,h5,h6⟩
def lZ(z:Array Value)(n:Nat):(Builtin.zeroCells z n).size=n*z.size:=by simp[Builtin.zeroCells]
def jX{st ut el:Nat}{u:TypeDesc}{et:tC}(hst:P.underlying st=some (.slice el))(hut:P.underlying ut=some u)(hu:∀k,u≠.int k)(hF:tJ P el et){base:Option Addr}{len cap n:Nat}{x:Value}{tys:Array TypeId}{args:Array Value}
  (ht0:tys[0]?=some st) (ht1:tys[1]?=some ut) (ha0:args[0]?=some (.slice base len cap)) (ha1:args[1]?=some x) (hn:(Builtin.lenOf x).run P w=.ok n w) (hlt:¬ len+n<=cap)
  (hs:len+n<1000000000) (hb:(len+n)*et.bytes<1000000000) (hbb:et.bytes<1000000000) {old new:Array Value} {z:Value} (hold:(Builtin.firstCells et.size len (.slice base len cap)).run P w.drew=.ok old w.drew) (hnew:(Builtin.firstCells et.size n x).run P w.drew=.ok new w.drew)
  (hz:∀w,(zeroValue el).run P w=.ok z w) :
  ∃newCap,len+n<=newCap/\(Builtin.append_ tys type args).run P w=.ok (.slice (some ⟨w.heap.size,0,none⟩) (len+n) newCap) (w.drew.alloc (.cells (old++new++Builtin.zeroCells z.cells (newCap-(len+n))) el)):=by
 obtain⟨inf,hinf,hsz,hby,_⟩:=hF.info
 obtain⟨newCap,hcap,hc⟩:=zae (P:=P) (w:=w) (len+n) cap el
 refine⟨newCap,hcap,?_⟩
 have h1:¬ (((len+n:Nat):Int) > IntKind.i64.max/\(False\/et.bytes=0)):=by
  have:IntKind.i64.max=9223372036854775807:=by decide
  rw[this];omega
 have h2:¬ Builtin.nextslicecap (len+n) cap*et.bytes > 2^48:=by
  have h3:=zt6 (len+n) cap (by omega)
  have h4:Builtin.nextslicecap (len+n) cap*et.bytes<=(2*(len+n)+192)*et.bytes:=ybi _ h3
  have h5:(2*(len+n)+192)*et.bytes=2*((len+n)*et.bytes)+192*et.bytes:=by rw[ybo,ybj]
  omega
 unfold Builtin.append_;simp only[ht0,ht1,ha0,ha1,yad,nE hst,nE hut,yac,hF.size,yae]
 cases u<;>first
  | exact absurd rfl (hu _)
  | simp only[ybq,if_false,ycl,if_true,hn,yaa hlt,yac,eT hinf,hby,yad,Sem.run_ite,yae,yaa h1,yaa h2,hc,run_askRoom,hold,hnew,hz,zR,World.size_drew]
def kX{st ut el:Nat}{u:TypeDesc}{et:tC}(hst:P.underlying st=some (.slice el))(hut:P.underlying ut=some u)(hu:∀k,u≠.int k)(hF:tJ P el et){base:Option Addr}{len cap n:Nat}{x:Value}{tys:Array TypeId}{args:Array Value}
  (ht0:tys[0]?=some st) (ht1:tys[1]?=some ut) (ha0:args[0]?=some (.slice base len cap)) (ha1:args[1]?=some x) (hn:(Builtin.lenOf x).run P w=.ok n w) (hlt:len+n<=cap)
  {new:Array Value} {w':World} (hnew:(Builtin.firstCells et.size n x).run P w=.ok new w) (hst':(match base with | some a=>storeCells (a.add (len*et.size)) new.toList | none=>pure ():Sem Unit).run P w=.ok () w') :
  (Builtin.append_ tys type args).run P w=.ok (.slice base (len+n) cap) w':=by
 unfold Builtin.append_;simp only[ht0,ht1,ha0,ha1,yad,nE hst,nE hut,yac,hF.size,yae]
 cases base with
 | none=>
  have e:w=w':=by simpa using hst'
  subst e
  cases u<;>first
   | exact absurd rfl (hu _)
   | simp only[ybq,if_false,ycl,if_true,hn,yab hlt,yac,yad,Sem.run_ite,yae,hnew]
 | some a=>
  simp only[]at hst'
  cases u<;>first
   | exact absurd rfl (hu _)
   | simp only[ybq,if_false,ycl,if_true,hn,yab hlt,yac,yad,Sem.run_ite,yae,hnew,hst']
@[simp] theorem Lo.es_sz (n:Nat):(Lo.sz n).es=n:=rfl
@[simp] theorem Lo.es_ty (n:Nat):(Lo.ty n).es=1:=rfl
def oU(e:Nat)(et:tC):(oI e et).es=et.size:=by
 unfold oI;rw[zC];split
 ·rename_i h;rw[ybb,fB]at h;exact h.1.symm
 ·rfl
def z1m{e t:Nat}{et:tC}(h:oI e et=.ty t):e=t:=by
 unfold oI at h;rw[zC]at h;split at h<;>cases h;rfl
def zy6{a b:Lo}:loEq a b=true ↔ a=b:=by
 cases a<;>cases b<;>simp[loEq,fB]
def aA.newGrown(hH:aA B N μ H w){et:tC}{len cap n newCap:Nat}{new old:List zA}{vo vn:List Value}{z:Array Value}(hg:znd et len cap n new)(hz:zB μ et.zero z.toList)(hcap:len+n<=newCap)(ho:zB μ old vo)(hol:old.length=len*et.size)(hn:zB μ new vn)(el:TypeId) :
  aA B N (μ.ext H.next ⟨w.heap.size,false,et.size,newCap*et.size,false⟩) (mE H (old++new) (some (oI el et))) (w.alloc (.cells (vo.toArray++vn.toArray++Builtin.zeroCells z (newCap-(len+n))) el)):=by
 have hzs:=hz.length
 simp only[ycz]at hzs;have h1:=ho.length
 have h2:=hn.length
 have hsz:(vo.toArray++vn.toArray++Builtin.zeroCells z (newCap-(len+n))).size=newCap*et.size:=by
  simp only[Array.size_append,List.size_toArray,lZ,h1,h2,hol,hg.new,hzs,hg.zero];rw[<- ybo,<- ybo];congr 1;omega
 have:=hH.newLoose (l:=old++new) (cs:=vo.toArray++vn.toArray++Builtin.zeroCells z (newCap-(len+n))) (lo:=oI el et) ?_ ?_ el (0,0) (.inl (ybk _)) fun t=>z1m
 ·rw[hsz,oU]at this;exact this
 ·rw[hsz,ybg,hol,hg.new,<- ybo];exact ybi _ hcap
 ·intro j a ha
  obtain⟨v,hv,hr⟩:=(ho.append hn).get ha
  refine⟨v,?_,hr⟩
  have hj:j<(vo++vn).length:=(ybc.1 hv).1
  rw[yaj (by simpa using hj)]
  simpa using hv
def z9h(hbase:B<=C.base)(hH:aA B N μ H w){et:tC}{n:Nat}{new:List zA}{s:Nat × Nat × Nat × Nat}(h:dS C H et n new s=some (v,H')){i:BI}(hi:μ s.1=some i){vs:List Value}(hl:zB μ new vs) :
  v=.slice s.1 s.2.1 (s.2.2.1+n) s.2.2.2/\∃w',(storeCells (Addr.add ⟨i.b,s.2.1,none⟩ (s.2.2.1*et.size)) vs.toArray.toList).run P w=.ok () w'/\aA B N μ H' w'/\Below N w w':=by
 unfold dS at h;split at h
 ·cases h
  rw[zB]at hl;subst hl;exact⟨rfl,w,rfl,hH,Below.refl _ _⟩
 ·rw[uA]at h
  obtain⟨H1,h1,h⟩:=h
  cases h;obtain⟨w',h2,h3,h4⟩:=zkk (P:=P) hbase hH h1 hi hl
  rw[kQ];exact⟨rfl,w',h2,h3,h4⟩
def z22{b:Nat}{p:Tr zA × Nat × Option Lo}(hH:aA B N μ H w)(h:vE H b=some p){i:BI}(hi:μ b=some i)(hl:p.2.2=none):i.tight=true:=by
 obtain⟨o,h2,h3⟩:=hH.blk _ _ _ (zT h) hi
 obtain⟨cs,elem,fr,_,_,_,_,h4⟩:=h3
 rw[hl]at h4;exact h4
def zlp{b:Nat}{cs:Array Value}{elem:TypeId}{fr:Nat × Nat}(h:w.heap[b]?=some (.cells cs elem fr)){n:Nat}(hn:n<=cs.size):(loadCells ⟨b,0,none⟩ n).run P w=.ok (cs.toList.take n).toArray w:=by
 have:=run_loadCells_list (P:=P) w ⟨b,0,none⟩ (cs.toList.take n) fun j v hv=>by
  rw[kQ];rw[ydf]at hv;split at hv
  ·simp only[World.cell?,h];simpa using hv
  ·cases hv
 rwa [yda,ycz,Nat.min_eq_left hn]at this
def zd5{μ':Mu}{i j:BI}{c:Tr zA}{m L:Nat}{es:Lo}{cs cs2:Array Value}{elem el:TypeId}{fr fr2:Nat × Nat}(hle:μ.lw μ')(h:lH μ i (.cells c m (some es)) (.cells cs elem fr)){new:List zA}{vn:List Value}(hn:zB μ new vn)
  {tot:Nat} (hm:m<=tot) (htot:L+new.length=tot) (hsz:tot<=cs2.size) (hfr:fr2.2<=fr2.1\/cs2.size<=fr2.1) (hold:∀k,k<L->cs2[k]?=cs[k]?) (hnew:∀k,k<new.length->cs2[L+k]?=vn[k]?)
  (hj:j.tight=false/\j.es=es.es/\j.room=cs2.size) (hmod:∀t,es=.ty t->el=t):lH μ' j (.cells (c.setMany new L) tot (some es)) (.cells cs2 el fr2):=by
 obtain⟨cs0,elem0,fr0,e,h2,h3,h4,h5⟩:=h
 cases e
 refine⟨cs2,el,fr2,rfl,hsz,.inr hfr,fun k v hv=>?_,hj.1,hj.2.1,hj.2.2,hmod⟩
 rw[Tr.get_setMany]at hv;split at hv
 ·rename_i hk
  obtain⟨u,hu,hr⟩:=hn.get hv
  refine⟨by omega,u,?_,hr.mono hle _ _⟩
  have:=hnew (k-L) (by omega)
  rw[show L+(k-L)=k by omega]at this
  rw[this];exact hu
 ·rename_i hk
  obtain⟨a,u,hu,hr⟩:=h4 k v hv
  refine⟨by omega,u,?_,hr.mono hle _ _⟩
  rw[hold k (by omega)];exact hu
def zui(hT:jE P C)(hbase:B<=C.base)(hH:aA B N μ H w)(hE:fE μ e ρ){c:Call}(hc:c.callee=.builtin .append)(h:zbn c C e H=.val v H'):zqf P B N μ w ρ ⟨dst,.call c,type,pos,after,guard⟩ v H':=by
 have h:=dL h
 simp only[uA,wB,eF,ycp,beqf]at h;obtain⟨st,hst,ty,hty,ut,hut,uty,huty,htag,p,hp,h⟩:=h
 obtain⟨X,Y,hXY,hX,hY⟩:=zh4 hE hp
 unfold kP at h;simp only[uA]at h;obtain⟨el,hel,et,het,n,hn,new,hnew,h⟩:=h
 have hF:=hT.facts het
 obtain⟨z,hz,_,hzl⟩:=hF.zero (μ:=μ)
 have hU:=hT.facts huty
 obtain⟨U,hUu⟩:=hU.und
 have hU2:∀k,U≠.int k:=by
  intro k e;subst e;have h0:=hU.desc
  unfold rL at h0;rw[hUu]at h0;rw[<- h0]at htag;exact htag rfl
 have ht0:c.argTypes[0]?=some st:=by simpa using hst
 have ht1:c.argTypes[1]?=some ut:=by simpa using hut
 have ha0:(c.args.map ρ)[0]?=some (ρ X):=by rw[hXY];simp
 have ha1:(c.args.map ρ)[1]?=some (ρ Y):=by rw[hXY];simp
 have hln:=zza (P:=P) (w:=w) hY hn
 obtain⟨vn,hvn,hvl⟩:=zmb (P:=P) hH hY hn hnew
 obtain⟨vn2,hvn2,hvl2⟩:=zmb (P:=P) hH.drew hY hn hnew
 have run:∀ {v' w'},(Builtin.append_ c.argTypes type (c.args.map ρ)).run P w=.ok v' w'->(execOp ρ ⟨dst,.call c,type,pos,after,guard⟩).run P w=.ok (.value v') w':=by
  intro v' w' hr;rw[uW hc];simp only[builtin,yad,hr,yac,yae]
 have hsl:=pN (hT.facts hty) hel
 split at h
 ·rename_i s hs
  rw[xT]at hs;rw[hs,vA]at hX;rcases hX with⟨i,cap',hi,hxv,hcap,htt,hrm⟩ | ⟨k1,k3,k4,A,rc,hxv,k2⟩
  rotate_left
  ·rw[hxv]at ha0
   rw[zC]at h;simp only[kE]at h;obtain⟨sb,so,sl,sc⟩:=s
   simp only at k1 k2 k3 k4
   subst k1 k3 k4
   simp only at h
   split at h
   ·rename_i hle
    have hn0:n=0:=by omega
    subst hn0;unfold dS at h;split at h
    ·cases h
     rw[zB]at hvl;subst hvl;refine⟨.slice (some A) 0 rc,w,μ,.inl (run ?_),μ.le_refl,hH,Below.refl _ _,by rw[vA];exact .inr ⟨rfl,rfl,rfl,A,rc,rfl,k2⟩⟩
     have:=kX (type:=type) (w':=w) hsl hUu hU2 hF ht0 ht1 ha0 ha1 hln (by omega) hvn rfl
     simpa using this
    ·rw[uA]at h
     obtain⟨H1,h1,_⟩:=h
     unfold eI at h1;rw[wB,ycp]at h1;have h2:=h1.1
     have:=hH.base
     rw[vC.2 (show 0<C.base by omega)]at h2
     cases h2
   ·rename_i hgt
    unfold rR at h;simp only[wB,uA]at h;obtain⟨hmark,hg,cc,hcc,h⟩:=h
    obtain⟨rfl,rfl⟩:so=0/\rc=0:=by
     rcases k2 with k2 | rfl
     ·exact k2
     ·cases hmark
    have hG:=qZ hg
    have hb1:(0+n)*et.bytes<1000000000:=yam (ybi _ (by omega)) hG.bytes
    split at h
    ·rename_i hnone
     unfold qV at h;rw[uA]at h;obtain⟨old,hold,h⟩:=h
     cases h;simp only[Nat.zero_mul]at hold
     cases hold;obtain⟨nc,hnc,hr⟩:=jX (w:=w) hsl hUu hU2 hF ht0 ht1 ha0 ha1 hln (by omega) (by have:=hG.small;omega) hb1 hG.b (old := #[]) (new:=vn2.toArray) (z:=z) (by show(loadCells A (0*et.size)).run P w.drew=_;rw[Nat.zero_mul];rfl) hvn2 hz
     rw[iG];have hgr:=hH.drew.newGrown hG hzl hnc (zB.nil (μ:=μ)) (by simp) hvl2 el
     refine⟨_,_,_,.inl (run hr),hH.ext_le,hgr,kV.trans (pM hH.drew.size _),?_⟩
     rw[vA];exact .inl ⟨_,nc,Mu.ext_same,rfl,hnc,(fun h=>by cases h),(fun _=>by simp)⟩
    ·rename_i es hsome
     unfold pV at h;simp only[wB,ybb,fB,kE,yG,ycp]at h;obtain⟨⟨⟨⟨⟨⟨h1,h2⟩,h3⟩,h4⟩,h5⟩,h6⟩,h⟩:=h
     have:=hH.base
     rw[vC.2 (show 0<C.base by omega)]at h6
     cases h6
  rw[hxv]at ha0;rw[zC]at h;simp only[kE]at h;split at h
  ·rename_i hle
   obtain⟨rfl,w',h1,h2,h3⟩:=z9h (P:=P) hbase hH h hi hvl
   refine⟨.slice (some ⟨i.b,s.2.1,none⟩) (s.2.2.1+n) cap',w',μ,.inl (run ?_),μ.le_refl,h2,h3,?_⟩
   ·exact kX hsl hUu hU2 hF ht0 ht1 ha0 ha1 hln (by omega) hvn h1
   ·rw[vA];exact .inl ⟨i,cap',hi,rfl,hcap,htt,hrm⟩
  ·rename_i hgt
   unfold rR at h;simp only[wB,uA]at h;obtain⟨_,hg,cc,hcc,h⟩:=h
   have hG:=qZ hg
   have hb1:(s.2.2.1+n)*et.bytes<1000000000:=yam (ybi _ (by omega)) hG.bytes
   split at h
   ·rename_i hnone
    unfold qV at h;rw[uA]at h;obtain⟨old,hold,h⟩:=h
    cases h;have hti:=z22 hH hcc hi hnone
    obtain⟨vo,_,hvo,hlo,_⟩:=hH.drew.manyAt (P:=P) hcc hi hold
    have hcc':=htt hti
    obtain⟨nc,hnc,hr⟩:=jX (w:=w) hsl hUu hU2 hF ht0 ht1 ha0 ha1 hln (by omega) (by have:=hG.small;omega) hb1 hG.b (old:=vo.toArray) (new:=vn2.toArray) (z:=z) hlo hvn2 hz
    rw[iG];refine⟨_,_,_,.inl (run hr),hH.ext_le,hH.drew.newGrown hG hzl hnc hvo (Tr.many_some _ _ _ _ hold).1 hvl2 el,kV.trans (pM hH.drew.size _),?_⟩
    rw[vA];exact .inl ⟨_,nc,Mu.ext_same,rfl,hnc,(fun h=>by cases h),(fun _=>by simp)⟩
   ·rename_i es hsome
    unfold pV at h;simp only[wB,ybb,fB,kE,yG,ycp]at h;obtain⟨⟨⟨⟨⟨⟨h1,h2⟩,h3⟩,h4⟩,h5⟩,h6⟩,h⟩:=h
    have h2:=zy6.1 h2
    subst h2;have hown:B<=s.1:=by
     have:¬ s.1<C.base:=fun k=>by rw[vC.2 k]at h6;cases h6
     omega
    have hNb:=hH.own s.1 i hown hi
    have hxs:=zT hcc
    obtain⟨o,g2,g3⟩:=hH.blk _ _ _ hxs hi
    have g3':=g3
    obtain⟨cs,elem,fr,rfl,g4,g5,g6,g7⟩:=g3
    have g5:=g5.resolve_left (by rw[hNb.2.2];simp)
    rw[hsome]at g7;obtain⟨g8,g9,g10,g11⟩:=g7
    rw[oU]at g9;have hone:∀a∈new,a.one=true:=fun a ha=>ycb.1 h5 a ha
    have hrm':=hrm g8
    rw[h1,g9,g10]at hrm'
    rw[hsome]at g3'
    have hlen1:=hvl.length
    have hlen2:=hvl2.length
    have htotal:s.2.2.1*et.size+new.length=(s.2.2.1+n)*et.size:=by rw[hG.new,<- ybo]
    have hH2:=hH.drop s.1 (fun x t e=>by have:=(hH.pnd _ _ _ e).1;rw[hi]at this;cases this)
    by_cases hroom:s.2.2.1+n<=cap'
    ·have hfit:(s.2.2.1+n)*et.size<=cs.size:=by
      have:(s.2.2.1+n)*et.size<=cap'*et.size:=ybi _ hroom
      omega
     obtain⟨cs',hs',hj',hr'⟩:=gZ (P:=P) (o:=s.2.2.1*et.size) vn 0 cs w g2 g5 (by omega) (hvl.one hone)
     have hst':(storeCells (Addr.add ⟨i.b,s.2.1,none⟩ (s.2.2.1*et.size)) vn.toArray.toList).run P w=.ok () (World.setBlk w i.b (.cells cs' elem fr)):=by
      rw[kQ,h1,ybw];exact hr'
     have hr:=kX (type:=type) hsl hUu hU2 hF ht0 ht1 ha0 ha1 hln hroom hvn (w':=World.setBlk w i.b (.cells cs' elem fr)) hst'
     simp only[Option.some.injEq,Prod.mk.injEq]at h;obtain⟨rfl,rfl⟩:=h
     refine⟨_,_,μ.ext H.next i,.inl (run hr),hH.ext_le,?_,nQ hNb.1,?_⟩
     ·refine hH2.adopt hNb ?_ (zd5 hH.ext_le.f g3' hvl h4 htotal (by omega) (by rw[hs'];exact g5) ?_ ?_ ⟨g8,by rw[oU];exact g9,by rw[hs'];exact g10⟩ g11)
      ·intro a x j ha hx hj hb
       have hx':(if a=s.1 then none else H.t.get a)=some x:=by rw[<- Tr.get_del];exact hx
       split at hx'
       ·cases hx'
       ·rename_i hne
        exact hne (hH.inj a s.1 x _ j i hx' hxs hj hi ha hown hb)
      ·intro k hk
       rw[hj',yaa (by omega)]
      ·intro k hk
       rw[hj',yab (by omega)]
       congr 1;omega
     ·rw[vA]
      refine .inl ⟨i,cap',Mu.ext_same,by rw[h1],hroom,(fun h=>by rw[g8]at h;cases h),(fun _=>?_)⟩
      rw[g9,g10];omega
    ·have hlo:(Builtin.firstCells et.size s.2.2.1 (.slice (some ⟨i.b,s.2.1,none⟩) s.2.2.1 cap')).run P w.drew=.ok (cs.toList.take (s.2.2.1*et.size)).toArray w.drew:=by
      rw[h1];exact zlp (w:=w.drew) g2 (by omega)
     obtain⟨nc,hnc,hr⟩:=jX (w:=w) (type:=type) hsl hUu hU2 hF ht0 ht1 ha0 ha1 hln hroom (by have:=hG.small;omega) hb1 hG.b (new:=vn2.toArray) (z:=z) hlo hvn2 hz
     have hzs:=hzl.length
     simp only[ycz]at hzs;have hol:(cs.toList.take (s.2.2.1*et.size)).length=s.2.2.1*et.size:=by rw[yda,ycz];omega
     have hsz2:((cs.toList.take (s.2.2.1*et.size)).toArray++vn2.toArray++Builtin.zeroCells z.cells (nc-(s.2.2.1+n))).size=nc*et.size:=by
      simp only[Array.size_append,List.size_toArray,lZ,hol,hlen2,hG.new,hzs,hG.zero];rw[<- ybo,<- ybo];congr 1;omega
     simp only[Option.some.injEq,Prod.mk.injEq]at h;obtain⟨rfl,rfl⟩:=h
     refine⟨_,_,μ.ext H.next ⟨w.heap.size,false,et.size,nc*et.size,false⟩,.inl (run hr),hH.ext_le,?_,kV.trans (pM hH.drew.size _),?_⟩
     ·refine hH2.drew.newBlk (H:=⟨H.next,H.t.del s.1⟩) rfl rfl (zd5 hH.ext_le.f g3' hvl2 h4 htotal ?_ (.inl (ybk _)) ?_ ?_ ⟨rfl,(oU _ _).symm,hsz2.symm⟩ fun t=>z1m)
      ·rw[hsz2];exact ybi _ hnc
      ·intro k hk
       rw[yaj (by simp[hol];omega),yaj (by simp[hol];omega)]
       simp[hk]
      ·intro k hk
       rw[yaj (by simp only[Array.size_append,List.size_toArray,hol,hlen2];omega),Array.getElem?_append_right (by simp only[List.size_toArray,hol];omega)]
       simp only[List.size_toArray,hol,Nat.add_sub_cancel_left];simp
     ·rw[vA]
      exact .inl ⟨_,nc,Mu.ext_same,rfl,hnc,(fun h=>by cases h),(fun _=>by simp)⟩
 ·simp only[wB,fB,bP.2.1]at h
  obtain⟨hs,h⟩:=h
  rw[hs,vA]at hX;rw[hX]at ha0;unfold uM at h;rw[zC]at h;simp only[fB]at h;split at h
  ·rename_i hn0
   subst hn0
   cases h;refine⟨.slice none 0 0,w,μ,.inl (run ?_),μ.le_refl,hH,Below.refl _ _,by rw[vA]⟩
   have:=kX (type:=type) (w':=w) hsl hUu hU2 hF ht0 ht1 ha0 ha1 hln (by omega) hvn rfl
   simpa using this
  ·rename_i hn0
   simp only[wB]at h;obtain⟨hg,h⟩:=h
   cases h;have hG:=qZ hg
   have hb1:(0+n)*et.bytes<1000000000:=yam (ybi _ (by omega)) hG.bytes
   obtain⟨nc,hnc,hr⟩:=jX (w:=w) hsl hUu hU2 hF ht0 ht1 ha0 ha1 hln (by omega) (by have:=hG.small;omega) hb1 hG.b (old := #[]) (new:=vn2.toArray) (z:=z) rfl hvn2 hz
   rw[ybw]at hr hnc;have hgr:=hH.drew.newGrown hG hzl (by omega) (zB.nil (μ:=μ)) (by simp) hvl2 el (newCap:=nc)
   simp only[ybw]at hgr;refine⟨_,_,_,.inl (run hr),hH.ext_le,hgr,kV.trans (pM hH.drew.size _),?_⟩
   rw[vA];exact .inl ⟨_,nc,Mu.ext_same,rfl,hnc,(fun h=>by cases h),(fun _=>by simp)⟩
end
end
section
section
variable {P:Program}{C:oA}{B N:Nat}{μ:Mu}{H H':xA}{w:World}{I:World->Prop}
variable {e:iC}{ρ:Operand->Value}{dst:Option Tmp}{type:TypeId}{pos:String}{after:Array Edge}{guard:Option (Nat × Bool)}{v:zA}
def zne (P : Program) (C : oA) : Prop := ∀ f fn, C.fns.get f = some fn -> P.funcs[f]? = some fn /\ (fn.name == "runtime.NumGoroutine") = false
def rT(P:Program)(C:oA)(B N:Nat)(I:World->Prop):Prop:=∀f g,C.prims.get f=some g->∀args H v H',g args H=some (v,H')->∀ μ w args',aA B N μ H w->I w->zB μ args args'.toList →
 (H'=H/\∃v',(callFunc f args').run P w=.ok (.value v') w/\vA μ v v') ∨
 ((callFunc f args').run P w=.ok (.enter f args') w/\Calls P f args' w fun e w'=>∃v' μ',e=.returned v'/\μ.le μ'/\aA B N μ' H' w'/\Below N w w'/\vA μ' v v')
def zgi(hE:fE μ e ρ){c:Call}{f:Operand}(hc:c.callee=.value f){p:AFn × List zA × List zA}(h:jO f c.args e=some p) :
  ∃fn cap as,(resolve ρ c type).run P w=.ok { target:=.fn fn cap,args:=as } w/\zvm μ p.1 fn/\zB μ p.2.1 as.toList/\zB μ p.2.2 cap.toList:=by
 unfold jO at h;simp only[uA,ze5,iG]at h;obtain⟨a,ha,q,rfl,as,has,h⟩:=h
 cases h;have hv:=hE _ _ ha
 rw[vA]at hv;obtain⟨fn,first,cap,hfv,hfn,h1,h2⟩:=hv
 refine⟨fn,cap,first++c.args.map ρ,?_,hfn,?_,h2⟩
 ·simp only[resolve,hc,hfv,Deferred.ofValue,yae]
 ·have h3:=hE.many has
  have:=h1.append h3
  simpa using this
def lX(hF:zne P C){f:Nat}{fn:Func}(hf:C.fns.get f=some fn)(hb:fn.body.isSome=true){args:Array Value}:(callFunc f args).run P w=.ok (.enter f args) w:=by
 obtain⟨h1,h2⟩:=hF f fn hf
 unfold callFunc;simp only[yad,run_program,yac,h1,h2];have:fn.body.isNone=false:=by cases h:fn.body<;>simp[h]at hb ⊢
 simp[this]
def nK (P:Program)(C:oA)(B N:Nat)(μ:Mu)(H:xA)(w:World)(ρ:Operand->Value)(o:Oper):aI->Prop
 | .val v H'=>zqf P B N μ w ρ o v H'\/(∃f args',(execOp ρ o).run P w=.ok (.enter f args') w/\Calls P f args' w fun e w'=>∃v' μ',e=.returned v'/\μ.le μ'/\aA B N μ' H' w'/\Below N w w'/\vA μ' v v')
 | .enter f args=>∀fn,C.fns.get f=some fn->fn.body.isSome=true->∃args',(execOp ρ o).run P w=.ok (.enter f args') w/\zB μ args args'.toList
 | .round l args=>∃i args',μ l=some i/\zB μ args args'.toList/\(execOp ρ o).run P w=(Instr.yield i.b args').run P w
 | .defer d=>(∃c,o.op=.defer c)/\∃d',(execOp ρ o).run P w=.ok (.defer d') w/\xS μ d d'
 | .panic v=>∃v',(execOp ρ o).run P w=.halt (.panic v') w/\vA μ v v'
 | .recover=>(execOp ρ o).run P w=.ok .recover w
 | .fail=>True
def z0e(hF:zne P C)(hP:rT P C B N I)(hH:aA B N μ H w)(hI:I w)(hE:fE μ e ρ){c:Call}{f:Operand}(hc:c.callee=.value f) :
  nK P C B N μ H w ρ ⟨dst,.call c,type,pos,after,guard⟩ (zen f c.args C e H):=by
 unfold zen
 cases hr:jO f c.args e with
 | none=>exact trivial
 | some p=>
  obtain⟨fn,cap,as,h1,h2,h3,h3'⟩:=zgi (P:=P) (w:=w) (type:=type) hE hc hr
  have run:(execOp ρ ⟨dst,.call c,type,pos,after,guard⟩).run P w=(invoke (.fn fn cap) as).run P w:=by
   simp only[execOp,yad,h1,yac]
  show nK P C B N μ H w ρ _ (zzbm C H p.2.1 p.2.2 p.1)
  obtain⟨fa,args,caps⟩:=p
  cases fa with
  | func g=>
   cases h2;have run2:(execOp ρ ⟨dst,.call c,type,pos,after,guard⟩).run P w=(callFunc g (as++cap)).run P w:=by rw[run];rfl
   have hl:zB μ (xD args caps) (as++cap).toList:=by rw[iG];simpa using h3.append h3'
   show nK P C B N μ H w ρ _ (zho C H (xD args caps) g (C.prims.get g))
   cases hp:C.prims.get g with
   | none=>
    show ∀fn,C.fns.get g=some fn->_
    intro fn hfn hb;exact⟨as++cap,by rw[run2];exact lX hF hfn hb,hl⟩
   | some pr=>
    cases hv:pr (xD args caps) H with
    | none=>simp only[zho,hv];exact trivial
    | some x=>
     obtain⟨v,H'⟩:=x
     simp only[zho,hv];rcases hP g pr hp _ H v H' hv μ w (as++cap) hH hI hl with⟨rfl,v',h4,h5⟩ | ⟨h4,h5⟩
     ·exact Or.inl ⟨v',w,μ,.inl (by rw[run2];exact h4),μ.le_refl,hH,Below.refl _ _,h5⟩
     ·exact Or.inr ⟨g,as++cap,by rw[run2];exact h4,h5⟩
  | yld l=>
   obtain⟨i,hi,rfl⟩:=h2
   show nK P C B N μ H w ρ _ (zmv l args caps)
   cases caps with
   | cons a b=>exact trivial
   | nil=>exact⟨i,as,hi,h3,by rw[run];rfl⟩
def z8j(hT:jE P C)(hbase:B<=C.base)(hF:zne P C)(hP:rT P C B N I)(hH:aA B N μ H w)(hI:I w)(hE:fE μ e ρ)(o:Oper):nK P C B N μ H w ρ o ((sF o.op).f C e H):=by
 have light:(∃l:LOp,(sF o.op).f=lv l/\∀v,l C e H=some v->LOk P μ w ρ o v)->nK P C B N μ H w ρ o ((sF o.op).f C e H):=by
  rintro⟨l,h1,h2⟩
  rw[h1];unfold lv
  cases h:l C e H with
  | none=>exact trivial
  | some v=>exact Or.inl ((h2 v h).hv hH)
 have val:∀x:Option (zA × xA),(sF o.op).f C e H=iJ x->(∀v H',iJ x=.val v H'->zqf P B N μ w ρ o v H')->nK P C B N μ H w ρ o ((sF o.op).f C e H):=by
  intro x h1 h2;rw[h1]
  cases x with
  | none=>exact trivial
  | some p=>exact Or.inl (h2 p.1 p.2 rfl)
 obtain⟨dst,op,type,pos,after,guard⟩:=o
 cases op
 case move=>exact light ⟨_,rfl,fun v h=>zru (C:=C) (H:=H) hE h⟩
 case assign=>exact light ⟨_,rfl,fun v h=>zg3 (C:=C) (H:=H) hE h⟩
 case pick=>exact light ⟨_,rfl,fun v h=>zrt (C:=C) (H:=H) hE h⟩
 case load=>exact light ⟨_,rfl,fun v h=>zrv hT hH hE h⟩
 case nilCheck=>exact light ⟨_,rfl,fun v h=>zze (C:=C) (H:=H) hE h⟩
 case binOp=>exact light ⟨_,rfl,fun v h=>zzo (H:=H) hT hE h⟩
 case unOp=>exact light ⟨_,rfl,fun v h=>z7n (C:=C) (H:=H) hE h⟩
 case makeInterface=>exact light ⟨_,rfl,fun v h=>zlx (H:=H) hT hE h⟩
 case makeFunc=>exact light ⟨_,rfl,fun v h=>zrw (C:=C) (H:=H) hE h⟩
 case slice=>exact light ⟨_,rfl,fun v h=>zlv hT hH hE h⟩
 case fieldAddr=>exact light ⟨_,rfl,fun v h=>zao (H:=H) hT hE h⟩
 case field=>exact light ⟨_,rfl,fun v h=>zly (H:=H) hT hE h⟩
 case indexAddr=>exact light ⟨_,rfl,fun v h=>zan (H:=H) hT hE h⟩
 case index=>exact light ⟨_,rfl,fun v h=>zlw (H:=H) hT hE h⟩
 case extract=>exact light ⟨_,rfl,fun v h=>zd9 (C:=C) (H:=H) hE h⟩
 case build=>exact light ⟨_,rfl,fun v h=>zlz (H:=H) hT hE h⟩
 case typeAssert=>exact light ⟨_,rfl,fun v h=>zg4 (H:=H) hT hE h⟩
 case lookup=>exact light ⟨_,rfl,fun v h=>zg2 hT hH hE h⟩
 case convert s d x=>
  show nK P C B N μ H w ρ _ (rQ s d x C e H)
  cases h:rQ s d x C e H with
  | val v H'=>exact Or.inl (zo8 hT hH hE h)
  | fail=>exact trivial
  | _=>
   exfalso
   unfold rQ at h;split at h
   ·cases h
   ·revert h;unfold iJ;split<;>intro h<;>cases h
 case alloc=>exact val _ rfl fun v H' h=>z0g (e:=e) hT hH h
 case box=>exact val _ rfl fun v H' h=>zzau (C:=C) hH hE h
 case buildSlice=>exact val _ rfl fun v H' h=>zft hT hH hE h
 case store=>exact val _ rfl fun v H' h=>zl7 hT hbase hH hE h
 case makeMap t r=>
  show nK P C B N μ H w ρ _ (eW r C e H)
  cases r with
  | none=>exact Or.inl (zo7 (C:=C) (e:=e) hH rfl)
  | some x=>exact trivial
 case insert=>exact val _ rfl fun v H' h=>(tY hT hbase hH hE h).2
 case mapUpdate=>exact val _ rfl fun v H' h=>(tY hT hbase hH hE h).1
 case makeSlice=>exact val _ rfl fun v H' h=>zjh hT hH hE h
 case panic x=>
  show nK P C B N μ H w ρ _ (z0f x C e H)
  unfold z0f
  cases hx:ev x e with
  | none=>exact trivial
  | some a=>
   cases hf:a.asIface with
   | none=>simp only[sA,hf,z9v,z7c];exact trivial
   | some p=>
    simp only[sA,hf,z7c];have h1:=hE _ _ hx
    rw[zb8.1 hf,vA]at h1;obtain⟨x',h2,h3⟩:=h1
    refine⟨.iface p.1 x',?_,by rw[vA];exact⟨_,rfl,h3⟩⟩
    simp[execOp,h2,Instr.panic]
 case defer c=>
  show nK P C B N μ H w ρ _ ((zcs c c.callee).f C e H)
  cases hc:c.callee with
  | value f=>
   show nK P C B N μ H w ρ _ (z7c (ob (jO f c.args e) fun p=>some (.defer ⟨some p.1,0,xD p.2.1 p.2.2⟩)))
   cases hr:jO f c.args e with
   | none=>exact trivial
   | some p=>
    obtain⟨fn,cap,as,h1,h2,h3,h3'⟩:=zgi (P:=P) (w:=w) (type:=type) hE hc hr
    refine⟨⟨c,rfl⟩,{ target:=.fn fn cap,args:=as },by simp only[execOp,yad,h1,yac,yae],⟨?_⟩⟩
    refine⟨fn,cap,as,rfl,h2,?_⟩
    show zB μ (xD p.2.1 p.2.2) _
    rw[iG];simpa using h3.append h3'
  | _=>exact trivial
 case call c=>
  show nK P C B N μ H w ρ _ ((zbm c c.callee).f C e H)
  cases hc:c.callee with
  | value f=>exact z0e hF hP hH hI hE hc
  | builtin b=>
   cases b
   case append=>
    show nK P C B N μ H w ρ _ (zbn c C e H)
    cases h:zbn c C e H with
    | val v H'=>exact Or.inl (zui hT hbase hH hE hc h)
    | fail=>exact trivial
    | _=>exfalso;revert h;unfold zbn iJ;split<;>intro h<;>cases h
   case len=>
    show nK P C B N μ H w ρ _ (lv (zo3 c) C e H)
    unfold lv
    cases h:zo3 c C e H with
    | none=>exact trivial
    | some v=>exact Or.inl ((zzl hT hH hE hc h).hv hH)
   case max=>
    show nK P C B N μ H w ρ _ (lv (zzi c) C e H)
    unfold lv
    cases h:zzi c C e H with
    | none=>exact trivial
    | some v=>exact Or.inl ((zzh (C:=C) (H:=H) hE hc h).hv hH)
   case min=>
    show nK P C B N μ H w ρ _ (lv (zzg c) C e H)
    unfold lv
    cases h:zzg c C e H with
    | none=>exact trivial
    | some v=>exact Or.inl ((zzf (C:=C) (H:=H) hE hc h).hv hH)
   case recover=>
    show(execOp ρ ⟨dst,.call c,type,pos,after,guard⟩).run P w=_
    rw[uW hc];rfl
   all_goals exact trivial
  | invoke r m=>exact trivial
 all_goals exact trivial
end
end
section
inductive jF (μ:Mu):fD->Item->Prop
 | code (c:Code):jF μ (.code c) (.code c)
 | inBlock (id:Nat):jF μ (.inBlock id) (.inBlock id)
 | inLoop (c:Code):jF μ (.inLoop c) (.inLoop c)
 | inScope (c:Code):jF μ (.inScope c) (.inScope c)
 | ops (all:Array Oper) (i:Nat) (h:i<=all.size):jF μ (.ops all (all.toList.drop i)) (.inRegion all ((List.range all.size).drop i))
 | inRange (l:Nat) (i:BI) (h:μ l=some i):jF μ (.inRange l) (.inRangeFunc i.b)
 | endRange (l:Nat) (i:BI) (h:μ l=some i):jF μ (.endRange l) (.endRangeFunc i.b)
 | beginRound:jF μ .beginRound .beginRound
def jF.mono{μ ν:Mu}(h:μ.lw ν){a:fD}{b:Item}(k:jF μ a b):jF ν a b:=by
 cases k with
 | code c=>exact .code c
 | inBlock id=>exact .inBlock id
 | inLoop c=>exact .inLoop c
 | inScope c=>exact .inScope c
 | ops all i hi=>exact .ops all i hi
 | inRange l i hl=>exact .inRange l i (h _ _ hl)
 | endRange l i hl=>exact .endRange l i (h _ _ hl)
 | beginRound=>exact .beginRound
structure qT (μ:Mu) (p:zca) (e:PanicEntry):Prop where
 v:vA μ p.v e.v
 recovered:e.recovered=p.recovered
 goexit:e.goexit=false
def qT.mono{μ ν:Mu}(h:μ.lw ν){p:zca}{e:PanicEntry}(k:qT μ p e):qT ν p e:=⟨k.v.mono h _ _,k.recovered,k.goexit⟩
def zfd(μ:Mu):zfw->FrameMode->Prop
 | .run,.run=>True
 | .returning,.returning=>True
 | .panicking c,.panicking d=>qC (qT μ) c d
 | _,_=>False
def zfd.mono{μ ν:Mu}(h:μ.lw ν){a:zfw}{b:FrameMode}(k:zfd μ a b):zfd ν a b:=by
 cases a<;>cases b<;>first | exact qC.mono (fun _ _ r=>qT.mono h r) k | exact k
def tT(μ:Mu):Option Nat->Option Nat->Prop
 | none,none=>True
 | some l,some m=>∃i,μ l=some i/\m=i.b
 | _,_=>False
def tT.mono{μ ν:Mu}(h:μ.lw ν){a b:Option Nat}(k:tT μ a b):tT ν a b:=by
 cases a<;>cases b<;>first | (obtain⟨i,h1,h2⟩:=k;exact⟨i,h _ _ h1,h2⟩) | exact k
structure aF (μ:Mu) (R:nI) (fr:Frame):Prop where
 fn:fr.fn=R.fn
 size:fr.tmps.size=R.n
 defers:qC (xS μ) R.defers fr.defers
 mode:zfd μ R.mode fr.mode
 kind:fr.kind=if R.deferred then .deferred else .normal
 round:tT μ R.roundOf fr.roundOf
def aF.mono{μ ν:Mu}(h:μ.lw ν){R:nI}{fr:Frame}(k:aF μ R fr):aF ν R fr:=
 ⟨k.fn,k.size,k.defers.mono fun _ _ r=>r.mono h,k.mode.mono h,k.kind,k.round.mono h⟩
def bI(o:Oper)(j:Nat):Prop:=∃e∈o.after.toList,Region.binds .any e=true/\e.on=j
def z6p(ops:Array Oper):(Nat->Bool)->List Nat->Prop
 | S,[]=>∀i,i<ops.size->S i=true
 | S,i::rest=>∃o,ops[i]?=some o/\S i=false/\(∀j,bI o j->S j=true)/\z6p ops (fun k=>S k||k == i) rest
def zxw{ops:Array Oper}{listed:Array Bool}{i:Nat}(h:i∈Region.ready .any ops listed):∃o,ops[i]?=some o/\listed.getD i true=false/\∀j,bI o j->listed.getD j false=true:=by
 unfold Region.ready at h;rw[List.mem_filter]at h;obtain⟨h1,h2⟩:=h
 simp only[ybb,ycp]at h2;obtain⟨h2,h3⟩:=h2
 cases ho:ops[i]? with
 | none=>rw[ho]at h3;simp at h3
 | some o=>
  rw[ho]at h3;refine⟨o,rfl,h2,?_⟩
  rintro j ⟨e,he,hb,rfl⟩
  simp only[Option.map_some,Option.getD_some,Array.all_eq_true']at h3;have:=h3 e (by simpa using he)
  rw[hb]at this;simpa using this
def z32{ops:Array Oper}{listed:Array Bool}{i:Nat}{o:Oper}(ho:ops[i]?=some o)(h1:listed.getD i true=false)(h2:∀j,bI o j->listed.getD j false=true):i∈Region.ready .any ops listed:=by
 unfold Region.ready;rw[List.mem_filter];refine⟨by rw[List.mem_range];exact(ybe.1 ho).1,?_⟩
 rw[h1,ho];simp only[ycl,ycn,Option.map_some,Option.getD_some,Array.all_eq_true'];intro e he
 cases hb:Region.binds .any e with
 | false=>rfl
 | true=>simpa using h2 e.on ⟨e,by simpa using he,hb,rfl⟩
def Back (ops:Array Oper):Prop:=∀i o,ops[i]?=some o->∀j,bI o j->j<i
def z1f{p q:Nat->Bool}(hqp:∀k,q k=true->p k=true){i:Nat}(hp:p i=true)(hq:q i=false):∀l:List Nat,i∈l->l.countP q+1<=l.countP p:=by
 have le:∀l:List Nat,l.countP q<=l.countP p:=fun l=>List.countP_mono_left fun k _ h=>hqp k h
 intro l;induction l with
 | nil=>intro h;cases h
 | cons k l ih=>
  intro h;rw[List.countP_cons,List.countP_cons];rcases ybs.1 h with rfl | h
  ·rw[hp,hq];have:=le l;simp;omega
  ·have:=ih h
   cases hk:q k with
   | true=>rw[hqp k hk];simp;omega
   | false=>simp;omega
def z3t{ops:Array Oper}(hb:Back ops):∀(fuel t:Nat) (listed:Array Bool),listed.size=ops.size →
  (List.range ops.size).countP (fun i => !listed.getD i true)<=fuel →
  z6p ops (fun i=>listed.getD i false) (Region.linearise.go .any ops fuel t listed []):=by
 intro fuel;induction fuel with
 | zero=>
  intro t listed hs hc;simp only[Region.linearise.go,List.reverse_nil];intro i hi;have h0:=Nat.le_zero.1 hc
  rw[List.countP_eq_zero]at h0;have:=h0 i (List.mem_range.2 hi)
  simp only[Bool.not_eq_true,Bool.not_eq_false']at this;have hi':i<listed.size:=by omega
  simpa[Array.getD,hi']using this
 | succ fuel ih=>
  intro t listed hs hc;simp only[Region.linearise.go];change z6p ops _ (match (Region.ready .any ops listed)[t%(Region.ready .any ops listed).length]? with
   | some i=>Region.linearise.go .any ops fuel (t / (Region.ready .any ops listed).length) (listed.setIfInBounds i true) [i]
   | none=>[].reverse)
  cases hi:(Region.ready .any ops listed)[t%(Region.ready .any ops listed).length]? with
  | none=>
   have hnil:Region.ready .any ops listed=[]:=by
    cases hr:Region.ready .any ops listed with
    | nil=>rfl
    | cons x xs=>
     rw[hr]at hi;have hlt:t%(x::xs).length<(x::xs).length:=ycy _ (by simp)
     rw[List.getElem?_eq_none_iff]at hi;omega
   show ∀i,i<ops.size->listed.getD i false=true
   intro i;induction i using Nat.strongRecOn with
   | _ i ihi=>
    intro hlt;refine Classical.byContradiction fun hne=>?_
    have ho:ops[i]?=some ops[i]:=by simp[hlt]
    have hil:i<listed.size:=by omega
    have h1:listed.getD i true=false:=by
     have:listed.getD i false=false:=by simpa using hne
     simpa[Array.getD,hil]using this
    have:=z32 ho h1 fun j hj=>ihi j (hb i _ ho j hj) (Nat.lt_trans (hb i _ ho j hj) hlt)
    rw[hnil]at this;cases this
  | some i=>
   simp only[];rw[linearise_go_acc,List.reverse_singleton,List.singleton_append];obtain⟨o,ho,h1,h2⟩:=zxw (ycv hi)
   have hlt:i<ops.size:=(ybe.1 ho).1
   have hil:i<listed.size:=by omega
   refine⟨o,ho,by simpa[Array.getD,hil]using h1,h2,?_⟩
   have key:(fun k=>listed.getD k false||k == i)=fun k=>(listed.setIfInBounds i true).getD k false:=by
    funext k
    simp only[ycx,ycs];by_cases e:i=k
    ·subst e;simp[hil]
    ·rw[yaa e]
     have:(k == i)=false:=by simp;exact fun h=>e h.symm
     simp[this]
   rw[key];refine ih _ _ (by simpa using hs) ?_
   have hcnt:(List.range ops.size).countP (fun k => !(listed.setIfInBounds i true).getD k true)+1<=(List.range ops.size).countP (fun k => !listed.getD k true):=by
    refine z1f (fun k hk=>?_) (i:=i) ?_ ?_ _ (List.mem_range.2 hlt)
    ·simp only[ycp,ycx,ycs]at hk ⊢
     split at hk
     ·rename_i e;subst e;simp at hk
     ·exact hk
    ·simpa using h1
    ·simp[ycx,hil]
   omega
end
section
def zwr(m i:Nat):tb m i=m.testBit i:=by
 have h:Nat.mod (Nat.shiftRight m i) 2=(m >>> i)%2:=rfl
 unfold tb;show Nat.beq ((m >>> i)%2) 1=_
 rw[Nat.testBit,Nat.and_comm,Nat.and_one_is_mod];rcases Nat.mod_two_eq_zero_or_one (m >>> i)with h | h<;>rw[h]<;>rfl
def zch(i j:Nat):tb (zjx i) j=(i == j):=by
 rw[zwr];show(1 <<< i).testBit j=_
 rw[Nat.one_shiftLeft,Nat.testBit_two_pow]
 cases h:(i == j)<;>simp_all
def zqs(a b j:Nat):tb (Nat.lor a b) j=(tb a j||tb b j):=by
 rw[zwr,zwr,zwr];exact Nat.testBit_or a b j
def zh8(j:Nat):tb 0 j=false:=by rw[zwr];simp
def lU(e:Edge):yT e=Region.binds .any e:=by
 unfold yT Region.binds
 cases e.ground<;>rfl
def gQ(ops:Array Oper)(S:Nat->Bool):Prop:=∀i o,ops[i]?=some o->S i=true->∀j,bI o j->S j=true
def zzbz(ops:Array Oper)(k m:Nat):Prop:=∀S,gQ ops S->(∀o,ops[k]?=some o->∀j,bI o j->S j=true)->∀j,tb m j=true->S j=true
def zy0{t:Tr Nat}{j:Nat}:∀ {l:List Edge},tb (zg1 t l) j=true->∃e∈l,Region.binds .any e=true/\(e.on=j\/tb (eH t e.on) j=true):=by
 intro l;induction l with
 | nil=>intro h;simp[zg1,zh8]at h
 | cons e l ih=>
  intro h;unfold zg1 at h
  cases hb:yT e with
  | false=>
   rw[hb]at h;obtain⟨e',h1,h2⟩:=ih h
   exact⟨e',.tail _ h1,h2⟩
  | true=>
   rw[hb]at h;simp only[cond_true,zqs,zch,ycq,beq_iff_eq]at h;rcases h with(h | h) | h
   ·exact⟨e,.head _,by rw[<- lU];exact hb,.inl h⟩
   ·exact⟨e,.head _,by rw[<- lU];exact hb,.inr h⟩
   ·obtain⟨e',h1,h2⟩:=ih h
    exact⟨e',.tail _ h1,h2⟩
def z5i{t:Tr Nat}{i k m:Nat}:eH (t.set i m) k=if k=i then m else eH t k:=by
 unfold eH;rw[Tr.get_set];by_cases h:k=i<;>simp[h]
def z0i{k:Nat}:eH .leaf k=0:=rfl
def pP{α:Type}{l r:List α}{a:α}{i:Nat}(h:a::r=l.drop i):l[i]?=some a/\r=l.drop (i+1):=by
 have h1:(l.drop i)[0]?=some a:=by rw[<- h];rfl
 rw[yde]at h1;refine⟨by simpa using h1,?_⟩
 have:r=(l.drop i).drop 1:=by rw[<- h];rfl
 rw[this,List.drop_drop]
def z6i{ops:Array Oper}:∀(r:List Oper) (i:Nat) (t:Tr Nat),r=ops.toList.drop i->(∀k,zzbz ops k (eH t k))->∀k,zzbz ops k (eH (zzbq r i t) k):=by
 intro r;induction r with
 | nil=>intro i t _ h k;exact h k
 | cons o r ih=>
  intro i t hr h;obtain⟨h1,h2⟩:=pP hr
  refine ih (i+1) _ h2 fun k=>?_
  rw[z5i];split
  ·rename_i e;subst e
   intro S hS hp j hj;obtain⟨e,he,hb,hj⟩:=zy0 hj
   have ho:ops[k]?=some o:=by simpa using h1
   have hon:=hp o ho e.on ⟨e,he,hb,rfl⟩
   rcases hj with rfl | hj
   ·exact hon
   ·exact h e.on S hS (fun o' ho'=>hS _ o' ho' hon) j hj
  ·exact h k
def zyq{ops:Array Oper}:∀(r:List Oper) (i:Nat),r=ops.toList.drop i->zro r i=true->∀k o,i<=k->ops[k]?=some o->∀j,bI o j->j<k:=by
 intro r;induction r with
 | nil=>
  intro i hr _ k o hk ho;have:ops.toList.length<=i:=by rw[<- yak];exact hr.symm
  have:=(ybe.1 ho).1
  simp at *;omega
 | cons o r ih=>
  intro i hr h k o' hk ho;obtain⟨h1,h2⟩:=pP hr
  unfold zro at h;rw[zC]at h;split at h
  ·rename_i h3
   rcases Nat.eq_or_lt_of_le hk with rfl | hk
   ·have:o'=o:=by
     have:ops[i]?=some o:=by simpa using h1
     rw[this]at ho;exact(yci ho).symm
    subst this;rintro j ⟨e,he,hb,rfl⟩
    rw[yG,ycb]at h3;have:=h3 e he
    rw[lU,hb]at this;exact vC.1 this
   ·exact ih (i+1) h2 h k o' hk ho
  ·cases h
def WrOk (ops:Array Oper)(i:Nat)(wr:Tr Nat):Prop:=∀d k,wr.get d=some k ↔ k<i/\∃o,ops[k]?=some o/\o.dst=some d
def z8r{ops:Array Oper}:∀(r:List Oper) (i:Nat) (t wr:Tr Nat),r=ops.toList.drop i->i<=ops.size->WrOk ops i t->wrOf r i t=some wr->WrOk ops ops.size wr:=by
 intro r;induction r with
 | nil=>
  intro i t wr hr hi h he
  cases he;have:ops.toList.length<=i:=by rw[<- yak];exact hr.symm
  have:i=ops.size:=by simp at this;omega
  rw[<- this];exact h
 | cons o r ih=>
  intro i t wr hr hi h he;obtain⟨h1,h2⟩:=pP hr
  have ho:ops[i]?=some o:=by simpa using h1
  have hi':i<ops.size:=(ybe.1 ho).1
  unfold wrOf at he
  cases hd:o.dst with
  | none=>
   rw[hd]at he;refine ih (i+1) t wr h2 hi' (fun d k=>?_) he
   rw[h d k];constructor
   ·rintro⟨a,b⟩;exact⟨by omega,b⟩
   ·rintro⟨a,o',ho',hd'⟩
    refine⟨?_,o',ho',hd'⟩
    rcases Nat.lt_succ_iff_lt_or_eq.1 a with a | rfl
    ·exact a
    ·rw[ho]at ho';cases ho';rw[hd]at hd';cases hd'
  | some d0=>
   rw[hd]at he;simp only[]at he
   cases hg:t.get d0 with
   | some x=>rw[hg]at he;cases he
   | none=>
    rw[hg]at he;refine ih (i+1) _ wr h2 hi' (fun d k=>?_) he
    rw[Tr.get_set];by_cases hdd:d=d0
    ·subst hdd
     rw[yab rfl];constructor
     ·intro e;cases e;exact⟨Nat.lt_succ_self _,o,ho,hd⟩
     ·rintro⟨a,o',ho',hd'⟩
      rcases Nat.lt_succ_iff_lt_or_eq.1 a with a | rfl
      ·have:=(h d k).2 ⟨a,o',ho',hd'⟩
       rw[hg]at this;cases this
      ·rfl
    ·rw[yaa hdd,h d k]
     constructor
     ·rintro⟨a,b⟩;exact⟨by omega,b⟩
     ·rintro⟨a,o',ho',hd'⟩
      refine⟨?_,o',ho',hd'⟩
      rcases Nat.lt_succ_iff_lt_or_eq.1 a with a | rfl
      ·exact a
      ·rw[ho]at ho';cases ho';rw[hd]at hd';cases hd';exact absurd rfl hdd
def z4e{ops:Array Oper}{wr anc:Tr Nat}{olds:List (Nat × List Nat)}:∀(r:List Oper) (i:Nat),r=ops.toList.drop i->z4f wr anc olds r i=true →
  ∀k o,i<=k->ops[k]?=some o->zor (eH anc k) o.guard=true/\∀t∈zG o.op,zyo wr anc k (aD k olds) t=true:=by
 intro r;induction r with
 | nil=>
  intro i hr _ k o hk ho;have:ops.toList.length<=i:=by rw[<- yak];exact hr.symm
  have:=(ybe.1 ho).1
  simp at *;omega
 | cons o r ih=>
  intro i hr h k o' hk ho;obtain⟨h1,h2⟩:=pP hr
  unfold z4f at h;rw[zC]at h;split at h
  ·rename_i h3
   rw[zC]at h;split at h
   ·rename_i h4
    rcases Nat.eq_or_lt_of_le hk with rfl | hk
    ·have:o'=o:=by
      have:ops[i]?=some o:=by simpa using h1
      rw[this]at ho;exact(yci ho).symm
     subst this;rw[yG,ycb]at h4;exact⟨h3,h4⟩
    ·exact ih (i+1) h2 h k o' hk ho
   ·cases h
  ·cases h
structure jP (ops:Array Oper) (olds:List (Nat × List Nat)) (anc:Tr Nat):Prop where
 back:Back ops
 before:∀k,zzbz ops k (eH anc k)
 one:∀(i j:Nat) (o u:Oper) (d:Nat),ops[i]?=some o->ops[j]?=some u->o.dst=some d->u.dst=some d->i=j
 guard:∀(k:Nat) (o:Oper),ops[k]?=some o->zor (eH anc k) o.guard=true
 name:∀(k:Nat) (o:Oper) (j:Nat) (u:Oper) (t:Nat),ops[k]?=some o->ops[j]?=some u->u.dst=some t->t∈zG o.op->if t∈aD k olds then j=k\/tb (eH anc j) k=true else tb (eH anc k) j=true
def zym{ops:Array Oper}{p:Plan}(h:yO ops p=true):∃anc D,jP ops p.olds anc/\wL ops.toList p.first 0=some D/\zI ops.toList anc p.stages D=true:=by
 change zoq ops.toList p=true at h
 unfold zoq at h;rw[zC]at h;split at h
 case isFalse=>cases h
 rename_i hb
 cases hw:wrOf ops.toList 0 .leaf with
 | none=>rw[hw]at h;cases h
 | some wr=>
  rw[hw]at h;simp only[]at h;rw[zC]at h;split at h
  case isFalse=>cases h
  rename_i ho
  cases hl:wL ops.toList p.first 0 with
  | none=>rw[hl]at h;cases h
  | some D=>
   rw[hl]at h;have wo:WrOk ops ops.size wr:=z8r _ 0 _ _ rfl (yaw _) (fun d k=>by simp[Tr.get_leaf]) hw
   have oo:=z4e _ 0 (by rfl) ho
   have wr':∀k o d,ops[k]?=some o->o.dst=some d->wr.get d=some k:=fun k o d h1 h2=>(wo d k).2 ⟨(ybe.1 h1).1,o,h1,h2⟩
   refine⟨_,D,⟨fun i o h1=>zyq _ 0 rfl hb i o (yaw _) h1,z6i _ 0 _ rfl fun k S _ _ j hj=>?_,?_,fun k o h1=>(oo k o (yaw _) h1).1,?_⟩,rfl,h⟩
   ·rw[z0i,zh8]at hj;cases hj
   ·intro i j o u d h1 h2 h3 h4
    have a:=wr' i o d h1 h3
    rw[wr' j u d h2 h4]at a;exact(yci a).symm
   ·intro k o j u t h1 h2 h3 h4
    have a:=(oo k o (yaw _) h1).2 t h4
    unfold zyo at a;rw[wr' j u t h2 h3]at a;simp only[]at a;rw[zC]at a;by_cases hm:aE t (aD k p.olds)=true
    ·rw[yab hm]at a
     rw[yab ((fO _ _).1 hm)]
     rw[zC]at a;split at a
     ·rename_i e;exact .inl (fB.1 e)
     ·exact .inr a
    ·rw[yaa hm]at a
     rw[yaa fun e=>hm ((fO _ _).2 e)]
     exact a
def pW{ops:Array Oper}{i D D':Nat}(h:yQ ops.toList i D=some D'):∃o,ops[i]?=some o/\tb D i=false/\(∀j,bI o j->tb D j=true)/\∀k,tb D' k=(tb D k||k == i):=by
 unfold yQ at h;rw[uA]at h;obtain⟨o,h1,h2⟩:=h
 rw[eF]at h1;rw[wB]at h2;obtain⟨h2,h3⟩:=h2
 cases h3;rw[zC]at h2;split at h2
 ·cases h2
 ·rename_i h4
  refine⟨o,by simpa using h1,by simpa using h4,?_,fun k=>by rw[zqs,zch];congr 1;exact Bool.beq_comm⟩
  rintro j ⟨e,he,hb,rfl⟩
  unfold z21 at h2;rw[yG,ycb]at h2;have:=h2 e he
  rw[lU,hb]at this;exact this
def zyn{ops:Array Oper}{h D:Nat}:∀(r:List Oper) (i:Nat),r=ops.toList.drop i->zrn h D r i=true →
  ∀k o,i<=k->ops[k]?=some o->tb D k=false->(∀j,bI o j->tb D j=true)->k=h:=by
 intro r;induction r with
 | nil=>
  intro i hr _ k o hk ho;have:ops.toList.length<=i:=by rw[<- yak];exact hr.symm
  have:=(ybe.1 ho).1
  simp at *;omega
 | cons o r ih=>
  intro i hr h k o' hk ho;obtain⟨h1,h2⟩:=pP hr
  unfold zrn at h;rw[zC]at h;split at h
  ·rename_i h3
   rcases Nat.eq_or_lt_of_le hk with rfl | hk
   ·have:o'=o:=by
     have:ops[i]?=some o:=by simpa using h1
     rw[this]at ho;exact(yci ho).symm
    subst this;intro hD hj;rw[hD]at h3;simp only[cond_false]at h3;rw[zC]at h3;split at h3
    ·rename_i e;exact fB.1 e
    ·exfalso
     have:z21 D o'=true:=by
      unfold z21;rw[yG,ycb];intro e he
      cases hb:yT e with
      | false=>rfl
      | true=>exact hj e.on ⟨e,he,by rw[<- lU];exact hb,rfl⟩
     rw[this]at h3;cases h3
   ·exact ih (i+1) h2 h k o' hk ho
  ·cases h
def zt3{ops:Array Oper}{m D:Nat}{again:List Nat}:∀(r:List Oper) (i:Nat),r=ops.toList.drop i->ziv m D again r i=true →
  ∀k o,i<=k->ops[k]?=some o->tb D k=true->tb m k=true\/bN o.op=true\/dI o.op=true\/k∈again:=by
 intro r;induction r with
 | nil=>
  intro i hr _ k o hk ho;have:ops.toList.length<=i:=by rw[<- yak];exact hr.symm
  have:=(ybe.1 ho).1
  simp at *;omega
 | cons o r ih=>
  intro i hr h k o' hk ho;obtain⟨h1,h2⟩:=pP hr
  unfold ziv at h;rw[zC]at h;split at h
  ·rename_i h3
   rcases Nat.eq_or_lt_of_le hk with rfl | hk
   ·have:o'=o:=by
     have:ops[i]?=some o:=by simpa using h1
     rw[this]at ho;exact(yci ho).symm
    subst this;intro hD;rw[hD]at h3;simp only[cond_true]at h3;rw[zC]at h3;split at h3
    ·rename_i e;exact .inl e
    ·rw[zC]at h3
     split at h3
     ·rename_i e;exact .inr (.inl e)
     ·rw[zC]at h3
      split at h3
      ·rename_i e;exact .inr (.inr (.inl e))
      ·exact .inr (.inr (.inr ((fO _ _).1 h3)))
   ·exact ih (i+1) h2 h k o' hk ho
  ·cases h
def z4g{ops:Array Oper}{D:Nat}:∀(r:List Oper) (i:Nat),r=ops.toList.drop i->z4h D r i=true->∀k,i<=k->k<ops.size->tb D k=true:=by
 intro r;induction r with
 | nil=>
  intro i hr _ k hk ho;have:ops.toList.length<=i:=by rw[<- yak];exact hr.symm
  simp at *;omega
 | cons o r ih=>
  intro i hr h k hk ho;obtain⟨h1,h2⟩:=pP hr
  unfold z4h at h;rw[zC]at h;split at h
  ·rename_i h3
   rcases Nat.eq_or_lt_of_le hk with rfl | hk
   ·exact h3
   ·exact ih (i+1) h2 h k hk ho
  ·cases h
def zle{ops:Array Oper}{anc:Tr Nat}{D:Nat}(h:zI ops.toList anc [] D=true):∀k,k<ops.size->tb D k=true:=
 fun k hk=>z4g _ 0 rfl h k (yaw _) hk
def eX{ops:Array Oper}{anc:Tr Nat}{D:Nat}{st:pE}{r:List pE}(h:zI ops.toList anc (st::r) D=true)(hlt:st.heavy<=ops.size) :
  (∀k o,ops[k]?=some o->tb D k=false->(∀j,bI o j->tb D j=true)->k=st.heavy) ∧
  (∀k o,ops[k]?=some o->tb D k=true->tb (eH anc st.heavy) k=true\/bN o.op=true\/dI o.op=true\/k∈st.again) ∧
  ∃D1 D2,yQ ops.toList st.heavy D=some D1/\wL ops.toList st.lights D1=some D2/\zI ops.toList anc r D2=true:=by
 unfold zI at h;rw[zC,yaa fun e=>by have:=vC.1 e;rw[bC]at this;simp at this;omega,zC]at h
 split at h
 case isFalse=>cases h
 rename_i h1;rw[zC]at h;split at h
 case isFalse=>cases h
 rename_i h2;refine⟨fun k o a b c=>zyn _ 0 rfl h1 k o (yaw _) a b c,fun k o a b=>zt3 _ 0 rfl h2 k o (yaw _) a b,?_⟩
 cases h3:yQ ops.toList st.heavy D with
 | none=>rw[h3]at h;cases h
 | some D1=>
  rw[h3]at h;simp only[sA]at h
  cases h4:wL ops.toList st.lights D1 with
  | none=>rw[h4]at h;cases h
  | some D2=>rw[h4]at h;exact⟨D1,D2,rfl,h4,h⟩
def zfq{ops:Array Oper}{anc:Tr Nat}{D:Nat}{st:pE}{r:List pE}(h:zI ops.toList anc (st::r) D=true)(hlt:ops.size<st.heavy)(hle:st.heavy<=ops.size+ops.size) :
  ∃o D1 D2,ops[st.heavy-(ops.size+1)]?=some o/\dI o.op=true/\yQ ops.toList (st.heavy-(ops.size+1)) D=some D1/\wL ops.toList st.lights D1=some D2/\zI ops.toList anc r D2=true:=by
 have e0:Nat.sub st.heavy (Nat.succ (yB ops.toList))=st.heavy-(ops.size+1):=by rw[bC];simp
 unfold zI at h;rw[zC,yab (vC.2 (by rw[bC];simpa using hlt)),zC,yaa (fun e=>by have:=vC.1 e;rw[bC]at this;simp at this;omega),zC,e0]at h
 split at h
 case isFalse=>cases h
 rename_i h1
 cases h3:yQ ops.toList (st.heavy-(ops.size+1)) D with
 | none=>rw[h3]at h;cases h
 | some D1=>
  rw[h3]at h;simp only[sA]at h
  cases h4:wL ops.toList st.lights D1 with
  | none=>rw[h4]at h;cases h
  | some D2=>
   rw[h4]at h;rw[eF]at h1
   cases ho:ops.toList[st.heavy-(ops.size+1)]? with
   | none=>rw[ho]at h1;cases h1
   | some o=>rw[ho]at h1;exact⟨o,D1,D2,by simpa using ho,h1,rfl,h4,h⟩
structure zqg (ops:Array Oper) (anc:Tr Nat) (D:Nat) (G:List Nat) (D1:Nat):Prop where
 op:∀i∈G,∃o,ops[i]?=some o/\tb D i=false/\(∀j,bI o j->tb D j=true)/\o.dst=none
 nodup:G.Nodup
 done:∀k,tb D1 k=(tb D k||decide (k∈G))
 rest:∀k o,ops[k]?=some o->tb D1 k=false->(∀g∈G,tb (eH anc k) g=true)\/¬ ∀j,bI o j->tb D1 j=true
 again:∀k o,ops[k]?=some o->tb D k=true->bN o.op=true\/dI o.op=true\/zl4 o.op=true\/∀g∈G,tb (eH anc g) k=true
def zqq{D:Nat}{o:Oper}:z21 D o=true ↔ ∀j,bI o j->tb D j=true:=by
 unfold z21;rw[yG,ycb];constructor
 ·rintro h j ⟨e,he,hb,rfl⟩
  have:=h e he
  rw[lU,hb]at this;exact this
 ·intro h e he
  cases hb:yT e with
  | false=>rfl
  | true=>exact h e.on ⟨e,he,by rw[<- lU];exact hb,rfl⟩
def okG_ok{ops:Array Oper}{D:Nat}:∀ {G:List Nat} {E D1:Nat},okG ops.toList D G E=some D1->(∀k,tb D k=true->tb E k=true) →
  (∀i∈G,∃o,ops[i]?=some o/\tb E i=false/\(∀j,bI o j->tb D j=true)/\o.dst=none)/\G.Nodup/\∀k,tb D1 k=(tb E k||decide (k∈G)):=by
 intro G;induction G with
 | nil=>intro E D1 h _;cases h;exact⟨fun i hi=>(by cases hi),List.nodup_nil,fun k=>by simp⟩
 | cons i G ih=>
  intro E D1 h hDE;unfold okG at h;simp only[uA,wB,ybb,ycp,eF]at h;obtain⟨o,ho,⟨⟨h1,h2⟩,h3⟩,h⟩:=h
  have hE:∀k,tb (Nat.lor E (zjx i)) k=(tb E k||i == k):=fun k=>by rw[zqs,zch]
  obtain⟨g1,g2,g3⟩:=ih h (fun k hk=>by rw[hE,hDE k hk];rfl)
  have hni:i∉G:=fun hi=>by
   obtain⟨_,_,h4,_⟩:=g1 i hi
   rw[hE]at h4;simp at h4
  refine⟨fun j hj=>?_,List.nodup_cons.2 ⟨hni,g2⟩,fun k=>?_⟩
  ·rcases ybs.1 hj with rfl | hj
   ·refine⟨o,by simpa using ho,h1,zqq.1 h2,?_⟩
    cases hd:o.dst with
    | none=>rfl
    | some d=>rw[hd]at h3;cases h3
   ·obtain⟨u,a,b,c,d⟩:=g1 j hj
    rw[hE]at b;simp only[yal]at b;exact⟨u,a,b.1,c,d⟩
  ·rw[g3,hE,Bool.or_assoc]
   congr 1
   by_cases e:k=i
   ·subst e;simp
   ·have:(i == k)=false:=by simpa using fun h=>e h.symm
    simp[this,e]
def zyl{ops:Array Oper}{anc:Tr Nat}{D1:Nat}{G:List Nat}:∀(r:List Oper) (i:Nat),r=ops.toList.drop i->zrm anc D1 G r i=true →
  ∀k o,i<=k->ops[k]?=some o->tb D1 k=false->(∀g∈G,tb (eH anc k) g=true)\/¬ ∀j,bI o j->tb D1 j=true:=by
 intro r;induction r with
 | nil=>
  intro i hr _ k o hk ho;have:ops.toList.length<=i:=by rw[<- yak];exact hr.symm
  have:=(ybe.1 ho).1
  simp at *;omega
 | cons o r ih=>
  intro i hr h k o' hk ho;obtain⟨h1,h2⟩:=pP hr
  unfold zrm at h;rw[zC]at h;split at h
  case isFalse=>cases h
  rename_i h3;rcases Nat.eq_or_lt_of_le hk with rfl | hk
  ·have:o'=o:=by
    have:ops[i]?=some o:=by simpa using h1
    rw[this]at ho;exact(yci ho).symm
   subst this;intro hD;rw[hD]at h3;simp only[cond_false]at h3;rw[zC]at h3;split at h3
   ·rename_i e
    rw[yG,ycb]at e;exact .inl e
   ·refine .inr fun hj=>?_
    rw[zqq.2 hj]at h3;cases h3
  ·exact ih (i+1) h2 h k o' hk ho
def zos{ops:Array Oper}{anc:Tr Nat}{D:Nat}{G:List Nat}:∀(r:List Oper) (i:Nat),r=ops.toList.drop i->zcm anc D G r i=true →
  ∀k o,i<=k->ops[k]?=some o->tb D k=true->bN o.op=true\/dI o.op=true\/zl4 o.op=true\/∀g∈G,tb (eH anc g) k=true:=by
 intro r;induction r with
 | nil=>
  intro i hr _ k o hk ho;have:ops.toList.length<=i:=by rw[<- yak];exact hr.symm
  have:=(ybe.1 ho).1
  simp at *;omega
 | cons o r ih=>
  intro i hr h k o' hk ho;obtain⟨h1,h2⟩:=pP hr
  unfold zcm at h;rw[zC]at h;split at h
  case isFalse=>cases h
  rename_i h3;rcases Nat.eq_or_lt_of_le hk with rfl | hk
  ·have:o'=o:=by
    have:ops[i]?=some o:=by simpa using h1
    rw[this]at ho;exact(yci ho).symm
   subst this;intro hD;rw[hD]at h3;simp only[cond_true]at h3;rw[zC]at h3;split at h3
   ·rename_i e;exact .inl e
   ·rw[zC]at h3
    split at h3
    ·rename_i e;exact .inr (.inl e)
    ·rw[zC]at h3
     split at h3
     ·rename_i e;exact .inr (.inr (.inl e))
     ·rw[yG,ycb]at h3
      exact .inr (.inr (.inr h3))
  ·exact ih (i+1) h2 h k o' hk ho
def zfp{ops:Array Oper}{anc:Tr Nat}{D:Nat}{st:pE}{r:List pE}(h:zI ops.toList anc (st::r) D=true)(hlt:ops.size+ops.size<st.heavy) :
  ∃D1 D2,zqg ops anc D st.again D1/\wL ops.toList st.lights D1=some D2/\zI ops.toList anc r D2=true:=by
 unfold zI at h;rw[zC,yab (vC.2 (by rw[bC];simp;omega)),zC,yab (vC.2 (by rw[bC];simpa using hlt))]at h
 split at h
 case h_2=>cases h
 rename_i D2 hg;unfold zyp at hg;simp only[uA,wB,ybb]at hg;obtain⟨D1,h1,⟨h2,h3⟩,h4⟩:=hg
 obtain⟨g1,g2,g3⟩:=okG_ok h1 fun _ h=>h
 exact⟨D1,D2,⟨g1,g2,g3,fun k o a b=>zyl _ 0 rfl h2 k o (yaw _) a b,fun k o a b=>zos _ 0 rfl h3 k o (yaw _) a b⟩,h4,h⟩
end
section
section
variable {P:Program}{C:oA}{μ:Mu}{all:Array Oper}{olds:List (Nat × List Nat)}{anc:Tr Nat}{n:Nat}{old tm:Tm}{D:Nat}{S:Nat->Bool}{order:List Nat}{tmps:Array Value}{ds:List Deferred}
def rX:vA μ nD undef:=by rw[nD,vA];exact⟨#[],rfl,rfl⟩
def z0t{e:iC}(hg:∀g,g<256->μ g=some ⟨g,true,0,0,true⟩)(ht:∀t v,z2m t e=some v->vA μ v (tmps.getD t undef)):fE μ e (Act.eval ⟨tmps,ds⟩):=by
 intro x v h
 cases x with
 | tmp t=>exact ht t v h
 | const c=>exact zot h
 | global g=>
  change znm g e=some v at h
  unfold znm at h;rw[zC]at h;split at h
  ·rename_i hlt
   cases h;rw[vA];exact⟨_,hg g (vC.1 hlt),rfl⟩
  ·cases h
 | func f=>
  change xFunc f e=some v at h
  cases h;rw[vA];exact⟨.func f,#[],#[],rfl,rfl,rfl,rfl⟩
def tE.erel(hg:∀g,g<256->μ g=some ⟨g,true,0,0,true⟩)(h:tE μ n tm tmps):fE μ (.now tm) (Act.eval ⟨tmps,ds⟩):=
 z0t hg fun t v hv=>h.2 t v hv
def Tm.get_set{t:Tm}{i j:Nat}{x:zA}:(t.set i x).get j=if j=i then some x else t.get j:=by
 unfold Tm.set Tm.get;simp only[nH];by_cases h:Nat.blt i t.k=true
 ·rw[yab h]
  simp only[];by_cases hj:j=i
  ·subst hj;rw[yab h,yab rfl,Tr.get_set,yab rfl]
  ·rw[yaa hj,Tr.get_set,yaa hj]
 ·rw[yaa h]
  simp only[];have as:z6h j ((i,x)::t.t)=if j=i then some x else z6h j t.t:=by
   show(Bool.rec (motive:=fun _=>Option zA) (z6h j t.t) (some x) (Nat.beq j i))=_
   rw[nH];by_cases hj:j=i
   ·rw[yab (fB.2 hj),yab hj]
   ·rw[yaa (fun e=>hj (fB.1 e)),yaa hj]
  by_cases hj:j=i
  ·subst hj;rw[yaa h,yab rfl,as,yab rfl]
  ·rw[yaa hj]
   rw[as,yaa hj]
def fH{dst:Option Nat}{v:zA}{t:Nat}:(putA n tm dst v).get t=if dst=some t/\t<n then some v else tm.get t:=by
 unfold putA putB
 cases dst with
 | none=>simp[putNo]
 | some d=>
  simp only[z34];rw[zC];by_cases h:Nat.blt d n=true
  ·rw[yab h,Tm.get_set]
   by_cases e:t=d
   ·subst e;rw[yab rfl,yab ⟨rfl,vC.1 h⟩]
   ·rw[yaa e,yaa fun k=>e (yci k.1).symm]
  ·rw[yaa h,yaa]
   rintro⟨e,h2⟩
   cases e
   exact h (vC.2 h2)
def aL(tm old:Tm)(olds:List (Nat × List Nat))(i:Nat)(o:Oper):iC:=.mixed tm old (aD i olds) (zG o.op)
structure cE (μ:Mu) (all:Array Oper) (olds:List (Nat × List Nat)) (anc:Tr Nat) (n:Nat) (old tm:Tm) (D:Nat) (S:Nat->Bool) (order:List Nat) (tmps:Array Value):Prop where
 reg:jP all olds anc
 sched:z6p all S order
 sub:∀i,S i=true->tb D i=true
 closed:gQ all S
 dclosed:gQ all (tb D)
 size:tmps.size=n
 now:∀(i:Nat) (o:Oper) (d:Nat) (v:zA),all[i]?=some o->o.dst=some d->S i=true->d<n->tm.get d=some v->vA μ v (tmps.getD d undef)
 past:∀(d:Nat) (v:zA),d<n->(∀(i:Nat) (o:Oper),all[i]?=some o->o.dst=some d->S i=false)->old.get d=some v->vA μ v (tmps.getD d undef)
 keep:∀d:Nat,d<n->(∀(i:Nat) (o:Oper),all[i]?=some o->o.dst=some d->tb D i=false)->tm.get d=old.get d
 big:∀(d:Nat) (v:zA),n<=d->(tm.get d=some v\/old.get d=some v)->vA μ v undef
def jP.up(R:jP all olds anc)(hS:gQ all S){i j:Nat}{o:Oper}(ho:all[i]?=some o)(hp:∀j,bI o j->S j=true)(h:tb (eH anc i) j=true):S j=true:=
 R.before i S hS (fun o' ho'=>by rw[ho]at ho';cases ho';exact hp) j h
def oV{d:Nat}(h:tmps.size<=d):tmps.getD d undef=undef:=by
 simp[Array.getD,Nat.not_lt.2 h]
def cE.erel(R:cE μ all olds anc n old tm D S order tmps)(hg:∀g,g<256->μ g=some ⟨g,true,0,0,true⟩){i:Nat}{o:Oper}(ho:all[i]?=some o)(hi:S i=false)(hp:∀j,bI o j->S j=true) :
  fE μ (aL tm old olds i o) (Act.eval ⟨tmps,ds⟩):=by
 refine z0t hg fun t v h=>?_
 unfold aL at h;simp only[z2m]at h;rw[zC]at h;split at h
 case isFalse=>cases h
 rename_i hn;have hn:=(fO _ _).1 hn
 by_cases hd:t<n
 ·by_cases hw:∃(j:Nat) (u:Oper),all[j]?=some u/\u.dst=some t
  ·obtain⟨j,u,hu,hud⟩:=hw
   have nm:=R.reg.name i o j u t ho hu hud hn
   by_cases hold:t∈aD i olds
   ·rw[yab hold]at nm
    rw[(fO _ _).2 hold]at h
    simp only[cond_true]at h;have hj:S j=false:=by
     rcases nm with rfl | nm
     ·exact hi
     ·cases hj:S j with
      | false=>rfl
      | true=>
       have:=R.reg.up R.closed hu (fun k hk=>R.closed j u hu hj k hk) nm
       rw[hi]at this;cases this
    refine R.past t v hd (fun i' o' ho' hd'=>?_) h
    have:=R.reg.one i' j o' u t ho' hu hd' hud
    rw[this];exact hj
   ·rw[yaa hold]at nm
    have:aE t (aD i olds)=false:=by
     cases hm:aE t (aD i olds)with
     | false=>rfl
     | true=>exact absurd ((fO _ _).1 hm) hold
    rw[this]at h;simp only[cond_false]at h;exact R.now j u t v hu hud (R.reg.up R.closed ho hp nm) hd h
  ·have none1:∀(i:Nat) (o:Oper),all[i]?=some o->o.dst=some t->S i=false:=fun i o h1 h2=>absurd ⟨i,o,h1,h2⟩ hw
   have k:=R.keep t hd fun i o h1 h2=>absurd ⟨i,o,h1,h2⟩ hw
   refine R.past t v hd none1 ?_
   cases hm:aE t (aD i olds)with
   | false=>rw[hm]at h;rw[<- k];exact h
   | true=>rw[hm]at h;exact h
 ·rw[oV (by rw[R.size];omega)]
  refine R.big t v (by omega) ?_
  cases hm:aE t (aD i olds)with
  | false=>rw[hm]at h;exact .inl h
  | true=>rw[hm]at h;exact .inr h
def zj6{v:zA}{b:Bool}(h:vA μ v (.bool b)):v=.bool b:=by
 cases v<;>rw[vA]at h
 case bool=>cases h;rfl
 all_goals simp at h
def cE.wanted(R:cE μ all olds anc n old tm D S order tmps){i:Nat}{o:Oper}{w:Bool}(ho:all[i]?=some o)(hp:∀j,bI o j->S j=true)(h:eE o.guard all tm=some w) :
  Region.wanted o (yielded all tmps)=w:=by
 have hgd:=R.reg.guard i o ho
 unfold eE zv3 at h;unfold Region.wanted
 cases hg:o.guard with
 | none=>rw[hg]at h;cases h;rfl
 | some jw=>
  obtain⟨j,want⟩:=jw
  rw[hg]at h hgd;simp only[zj5,uA,eF]at h;obtain⟨d,⟨u,hu,hud⟩,v,hv,h⟩:=h
  have hu':all[j]?=some u:=by simpa using hu
  have hj:S j=true:=R.reg.up R.closed ho hp hgd
  have hy:yielded all tmps j=match tmps[d]? with | some (.bool b)=>some b | _=>none:=by
   unfold yielded;rw[hu'];simp[hud]
   rfl
  simp only[];rw[hy];by_cases hd:d<n
  ·have hs:d<tmps.size:=by rw[R.size];exact hd
   have rel:=R.now j u d v hu' hud hj hd hv
   have e1:tmps[d]?=some (tmps.getD d undef):=by simp[Array.getD,hs]
   rw[e1];generalize tmps.getD d undef=x at rel
   cases hb:v.asBool with
   | some b=>
    rw[hb]at h;have:v=.bool b:=by cases v<;>simp[zA.asBool]at hb;rw[hb]
    rw[this,vA]at rel;subst rel;simp only[Option.some.injEq]at h;rw[<- h,nP]
    cases b<;>cases want<;>rfl
   | none=>
    rw[hb]at h
    cases h
    cases x with
    | bool b=>rw[zj6 rel]at hb;cases hb
    | _=>rfl
  ·have e1:tmps[d]?=none:=by simp[R.size];omega
   rw[e1];have rel:=R.big d v (by omega) (.inl hv)
   cases hb:v.asBool with
   | some b=>
    have:v=.bool b:=by cases v<;>simp[zA.asBool]at hb;rw[hb]
    rw[this,vA]at rel
    cases rel
   | none=>rw[hb]at h;cases h;rfl
def cE.did{i:Nat}{D':Nat}{tm':Tm}{v:zA}{v':Value}{o:Oper}(R:cE μ all olds anc n old tm D S (i::order) tmps)(ho:all[i]?=some o)
  (hD:∀k,tb D' k=(tb D k||k == i)) (hput:∀d,o.dst=some d->d<n->tm'.get d=some v) (hother:∀d,(o.dst=some d->n<=d)->tm'.get d=tm.get d) (hv:vA μ v v') :
  cE μ all olds anc n old tm' D' (fun k=>S k||k == i) order (Act.put ⟨tmps,ds⟩ o.dst v').tmps:=by
 obtain⟨o',ho',hi,hp,hs⟩:=R.sched
 rw[ho]at ho';cases ho'
 have htm:∀d,(Act.put ⟨tmps,ds⟩ o.dst v').tmps.getD d undef=if o.dst=some d/\d<n then v' else tmps.getD d undef:=by
  intro d;unfold Act.put
  cases hd:o.dst with
  | none=>simp
  | some d0=>
   simp only[ycx,ycs];by_cases e:d0=d
   ·subst e
    by_cases hn:d0<n
    ·simp[hn,R.size]
    ·simp[hn,R.size]
   ·simp[e]
 have hsz:(Act.put ⟨tmps,ds⟩ o.dst v').tmps.size=n:=by
  unfold Act.put
  cases o.dst<;>simp[R.size]
 refine⟨R.reg,hs,fun k hk=>?_,?_,?_,hsz,?_,?_,?_,?_⟩
 ·rw[hD]
  simp only[ycq]at hk ⊢
  exact hk.imp (R.sub k) id
 ·intro k u hu hk j hj
  simp only[ycq,beq_iff_eq]at hk ⊢
  rcases hk with hk | rfl
  ·exact .inl (R.closed k u hu hk j hj)
  ·rw[ho]at hu;cases hu
   exact .inl (hp j hj)
 ·intro k u hu hk j hj
  rw[hD]at hk ⊢
  simp only[ycq,beq_iff_eq]at hk ⊢
  rcases hk with hk | rfl
  ·exact .inl (R.dclosed k u hu hk j hj)
  ·rw[ho]at hu;cases hu
   exact .inl (R.sub j (hp j hj))
 ·intro k u d x hu hud hk hd hx
  rw[htm];by_cases e:o.dst=some d
  ·rw[yab ⟨e,hd⟩]
   rw[hput d e hd]at hx;cases hx;exact hv
  ·rw[yaa fun h=>e h.1]
   rw[hother d fun h=>absurd h e]at hx;refine R.now k u d x hu hud ?_ hd hx
   simp only[ycq,beq_iff_eq]at hk;rcases hk with hk | rfl
   ·exact hk
   ·rw[ho]at hu;cases hu;exact absurd hud e
 ·intro d x hd hw hx
  rw[htm];have e:o.dst≠some d:=fun e=>by
   have:=hw i o ho e
   simp at this
  rw[yaa fun h=>e h.1];refine R.past d x hd (fun k u hu hud=>?_) hx
  have:=hw k u hu hud
  simp only[yal]at this;exact this.1
 ·intro d hd hw
  have e:o.dst≠some d:=fun e=>by
   have:=hw i o ho e
   rw[hD]at this;simp at this
  rw[hother d fun h=>absurd h e];refine R.keep d hd fun k u hu hud=>?_
  have:=hw k u hu hud
  rw[hD]at this;simp only[yal]at this;exact this.1
 ·intro d x hd hx
  refine R.big d x hd ?_
  rw[hother d fun _=>hd]at hx;exact hx
end
end
end Go.Am
namespace Go.Am.HM
open Go Go.Am
def HLe (H H':xA):Prop:=∀b y,H.t.get b=some y->H'.t.get b=some y
section
variable {H HA:xA}{e:iC}{C:oA}{v:zA}
def qM(h:HLe H HA){b:Nat}{p:Tr zA × Nat × Option Lo}(hb:vE H b=some p):vE HA b=some p:=by
 unfold vE at hb ⊢;rw[uA]at hb ⊢;obtain⟨y,h1,h2⟩:=hb;exact⟨y,h _ _ h1,h2⟩
def mU(h:HLe H HA){b:Nat}{p:List (zA × zA)}(hb:bG H b=some p):bG HA b=some p:=by
 unfold bG at hb ⊢;rw[uA]at hb ⊢;obtain⟨y,h1,h2⟩:=hb;exact⟨y,h _ _ h1,h2⟩
def zbq(h:HLe H HA){s d:tC}{a:zA}(hx:nN C s d a H=some v):nN C s d a HA=some v:=by
 unfold nN at hx ⊢
 split at hx
 ·rename_i k hk;exact hx
 ·rename_i hk
  rw[wB]at hx ⊢
  refine⟨hx.1,?_⟩
  have hx:=hx.2
  rw[zC]at hx ⊢
  split at hx
  ·rename_i e;rw[yab e];exact hx
  ·rename_i e
   rw[yaa e];simp only[uA,wB]at hx ⊢
   obtain⟨a1,h1,b1,h2,k1,h3,h4,h5⟩:=hx
   refine⟨a1,h1,b1,h2,k1,h3,h4,?_⟩
   unfold mV at h5 ⊢
   split at h5
   ·simp only[uA]at h5 ⊢
    obtain⟨c,g1,g2⟩:=h5
    exact⟨c,qM h g1,g2⟩
   ·exact h5
def zfm(h:HLe H HA){b size cap l:Nat}{arr:Bool}(hx:vI H b size cap l arr=true):vI HA b size cap l arr=true:=by
 unfold vI at hx ⊢
 cases hc:vE H b with
 | none=>rw[hc]at hx;cases hx
 | some c=>rw[hc]at hx;rw[qM h hc];exact hx
def aY(h:HLe H HA){ty:tC}{a:zA}{l r:Option zA}(hx:aK C H ty a l r=some v):aK C HA ty a l r=some v:=by
 have row:∀ {arr e b off len cap},eL C H arr e b off len cap l r=some v->eL C HA arr e b off len cap l r=some v:=by
  intro arr e b off len cap hx;unfold eL at hx ⊢
  simp only[uA]at hx ⊢
  obtain⟨a1,h1,b1,h2,hx⟩:=hx
  refine⟨a1,h1,b1,h2,?_⟩
  cases hb:vE H b with
  | none=>
   have e1:qJ H b a1.size cap b1.1 arr=false:=by unfold qJ;rw[hb]
   have e2:vI H b a1.size cap b1.1 arr=false:=by unfold vI;rw[hb]
   rw[e1,e2,yay,yay]at hx
   cases hx
  | some c=>
   have e1:qJ HA b a1.size cap b1.1 arr=qJ H b a1.size cap b1.1 arr:=by unfold qJ;rw[hb,qM h hb]
   have e2:vI HA b a1.size cap b1.1 arr=vI H b a1.size cap b1.1 arr:=by unfold vI;rw[hb,qM h hb]
   rw[e1,e2];exact hx
 unfold aK at hx ⊢
 split at hx
 ·exact hx
 ·split at hx
  ·rw[uA]at hx ⊢;obtain⟨a1,h1,h2⟩:=hx;exact⟨a1,h1,row h2⟩
  ·split at hx
   ·rw[uA]at hx ⊢;obtain⟨a1,h1,h2⟩:=hx;exact⟨a1,h1,row h2⟩
   ·exact hx
def zbe(h:HLe H HA){m:zA}{l:List (zA × zA)}(hx:xN H m=some l):xN HA m=some l:=by
 unfold xN at hx ⊢
 split at hx
 ·exact mU h hx
 ·exact hx
def zd7(h:HLe H HA){ty:tC}{a:zA}{n:Nat}(hx:zvt H ty a=some n):zvt HA ty a=some n:=by
 unfold zvt at hx ⊢
 split at hx
 ·exact hx
 ·split at hx
  ·exact hx
  ·split at hx
   ·exact hx
   ·split at hx
    ·rw[wB,uA]at hx ⊢
     obtain⟨h1,l,h2,h3⟩:=hx
     exact⟨h1,l,mU h h2,h3⟩
    ·exact hx
def alight_mono(h:HLe H HA){o:Op}(hx:(gE o).f C e H=some v):(gE o).f C e HA=some v:=by
 cases o<;>first | exact hx | skip
 case makeFunc fn a b=>cases fn<;>exact hx
 case load t a=>
  change bO t a C e H=some v at hx
  show bO t a C e HA=some v
  unfold bO at hx ⊢
  simp only[uA]at hx ⊢
  obtain⟨a1,h1,p,h2,y,h3,c,h4,h5⟩:=hx
  exact⟨a1,h1,p,h2,y,h3,c,qM h h4,h5⟩
 case convert s d x=>
  change uL s d x C e H=some v at hx
  show uL s d x C e HA=some v
  unfold uL at hx ⊢
  simp only[uA]at hx ⊢
  obtain⟨a1,h1,b1,h2,c1,h3,h4⟩:=hx
  exact⟨a1,h1,b1,h2,c1,h3,zbq h h4⟩
 case slice t x lo hi mx=>
  cases mx with
  | some m=>exact hx
  | none=>
   change tR t x lo hi C e H=some v at hx
   show tR t x lo hi C e HA=some v
   unfold tR at hx ⊢
   simp only[uA]at hx ⊢
   obtain⟨a1,h1,b1,h2,c1,h3,d1,h4,h5⟩:=hx
   exact⟨a1,h1,b1,h2,c1,h3,d1,h4,aY h h5⟩
 case lookup t x i ok=>
  change cO t x i ok C e H=some v at hx
  show cO t x i ok C e HA=some v
  unfold cO at hx ⊢
  simp only[uA,wB]at hx ⊢
  obtain⟨a1,h1,b1,h2,c1,h3,h4,d1,h5,m,h6,es,h7,h8⟩:=hx
  exact⟨a1,h1,b1,h2,c1,h3,h4,d1,h5,m,h6,es,zbe h h7,h8⟩
 case call c=>
  change (uN c c.callee).f C e H=some v at hx
  show(uN c c.callee).f C e HA=some v
  cases hc:c.callee with
  | builtin b=>
   rw[hc]at hx
   cases b<;>first | exact hx | skip
   case len=>
    change zo3 c C e H=some v at hx
    show zo3 c C e HA=some v
    unfold zo3 at hx ⊢
    simp only[uA]at hx ⊢
    obtain⟨a1,h1,b1,h2,c1,h3,d1,h4,n,h5,h6⟩:=hx
    exact⟨a1,h1,b1,h2,c1,h3,d1,h4,n,zd7 h h5,h6⟩
  | _=>rw[hc]at hx;exact hx
end
end Go.Am.HM
namespace Go.Am
open Go Go.RowKit
def zqc{o:Op}(h:bN o=true)(C:oA)(e:iC)(H H':xA):(gE o).f C e H=(gE o).f C e H':=by
 cases o<;>first | (simp[bN]at h;done) | rfl | skip
 case makeFunc fn a b=>cases fn<;>rfl
def zna{e e':iC}(h:∀x,ev x e=ev x e')(o:Op)(C:oA)(H:xA):(gE o).f C e H=(gE o).f C e' H:=by
 have hs:∀l,evs l e=evs l e':=fun l=>by unfold evs;rw[funext h]
 have hp:∀l,evp l e=evp l e':=fun l=>by unfold evp;simp only[h]
 have ho:∀x,evo x e=evo x e':=fun x=>by cases x<;>simp[evo,h]
 cases o<;>first | rfl | skip
 case move x=>exact h x
 case assign x=>exact h x
 case pick c a b=>simp only[gE,zzd,h]
 case load t a=>simp only[gE,bO,h]
 case nilCheck x=>simp only[gE,z41,h]
 case binOp op t x y z=>simp only[gE,zzp,h]
 case unOp op t x=>simp only[gE,lUn,h]
 case convert s d x=>simp only[gE,uL,h]
 case makeInterface t x=>simp only[gE,mS,h]
 case makeFunc fn a b=>cases fn<;>simp only[gE,lS,zzm,zi9,hs]
 case slice t x lo hi mx=>cases mx<;>simp only[gE,lW,tR,zi9,h,ho]
 case fieldAddr s x f=>simp only[gE,yP,h]
 case field t x f=>simp only[gE,kS,h]
 case indexAddr t x i=>simp only[gE,aO,h]
 case index t x i=>simp only[gE,zP,h]
 case extract t i=>simp only[gE,xP,h]
 case build t ps=>simp only[gE,uQ,hp]
 case typeAssert x a u ok=>simp only[gE,wP,h]
 case lookup t x i ok=>simp only[gE,cO,h]
 case call c=>
  have h2:two c e=two c e':=by unfold two;split<;>simp only[h]
  simp only[gE,zzaa]
  cases c.callee with
  | builtin b=>cases b<;>simp only[uN,zcp,zi9,zo3,zzi,zzg,h,h2]
  | _=>rfl
def zsk{e e':iC}(h:∀t,z2m t e=z2m t e')(x:Operand):ev x e=ev x e':=by
 cases x with
 | tmp t=>exact h t
 | _=>rfl
def zdz{tm tm' old:Tm}{olds:List (Nat × List Nat)}{i:Nat}{o:Oper}(h:∀t∈zG o.op,t∉aD i olds->tm'.get t=tm.get t)(C:oA)(H:xA) :
  (gE o.op).f C (aL tm' old olds i o) H=(gE o.op).f C (aL tm old olds i o) H:=by
 refine zna (zsk fun t=>?_) _ _ _
 simp only[aL,z2m]
 cases hn:aE t (zG o.op)with
 | false=>rfl
 | true=>
  cases hm:aE t (aD i olds)with
  | true=>rfl
  | false=>exact h t ((fO _ _).1 hn) fun k=>by rw[(fO _ _).2 k]at hm;cases hm
section
variable {P:Program}{C:oA}{μ:Mu}{H H':xA}{all:Array Oper}{olds:List (Nat × List Nat)}{anc:Tr Nat}{n:Nat}{old tm tm':Tm}{D:Nat}{S:Nat->Bool}{order:List Nat}{tmps:Array Value}{ds:List Deferred}
structure oK (C:oA) (H:xA) (all:Array Oper) (olds:List (Nat × List Nat)) (n:Nat) (old tm:Tm) (i:Nat) (o:Oper) (w:Bool) (v:zA):Prop where
 op:all[i]?=some o
 want:eE o.guard all tm=some w
 val:if w=true then(gE o.op).f C (aL tm old olds i o) H=some v else v=nD
 put:∀d,o.dst=some d->d<n->tm.get d=some v
def oK.pure{i:Nat}{o:Oper}{w:Bool}{v:zA}(h:oK C H all olds n old tm i o w v)(hp:bN o.op=true)(H':xA):oK C H' all olds n old tm i o w v:=
 ⟨h.op,h.want,by have:=h.val;cases w with | false=>exact this | true=>rw[yab rfl]at this ⊢;rw[<- this];exact zqc hp _ _ _ _,h.put⟩
def tW(R:jP all olds anc)(hD:gQ all (tb D)){i k:Nat}{o u:Oper}(ho:all[i]?=some o)(hi:tb D i=true\/(i=k/\∀j,bI o j->tb D j=true))(hu:all[k]?=some u)(hk:tb D k=false) :
  (∀t∈zG o.op,t∉aD i olds->u.dst≠some t)/\(∀j w,o.guard=some (j,w)->∀g,all[j]?=some g->∀d,g.dst=some d->u.dst≠some d):=by
 have up:∀j,tb (eH anc i) j=true->tb D j=true:=fun j hj=>R.up hD ho (by
  rcases hi with hi | ⟨_,hi⟩
  ·exact fun j hj=>hD i o ho hi j hj
  ·exact hi) hj
 constructor
 ·intro t ht hto e
  have:=R.name i o k u t ho hu e ht
  rw[yaa hto]at this;have:=up k this
  rw[hk]at this;cases this
 ·intro j w hg g hgj d hd e
  have h1:=R.guard i o ho
  rw[hg]at h1;have h2:=up j h1
  have:=R.one j k g u d hgj hu hd e
  rw[this,hk]at h2;cases h2
def gV{o:Oper}(h:∀j w,o.guard=some (j,w)->∀g,all[j]?=some g->∀d,g.dst=some d->tm'.get d=tm.get d):eE o.guard all tm'=eE o.guard all tm:=by
 unfold eE zv3
 cases hg:o.guard with
 | none=>rfl
 | some jw=>
  obtain⟨j,w⟩:=jw
  simp only[zj5,eF]
  cases hj:all.toList[j]? with
  | none=>rfl
  | some g=>
   simp only[sA]
   cases hd:g.dst with
   | none=>rfl
   | some d=>simp only[sA];rw[h j w hg g (by simpa using hj) d hd]
def oK.keep(R:jP all olds anc)(hD:gQ all (tb D)){i k:Nat}{o u:Oper}{w:Bool}{v x:zA}(h:oK C H all olds n old tm i o w v)(hi:tb D i=true)(hu:all[k]?=some u)(hk:tb D k=false) :
  oK C H all olds n old (putA n tm u.dst x) i o w v:=by
 obtain⟨r1,r2⟩:=tW R hD h.op (.inl hi) hu hk
 refine⟨h.op,?_,?_,?_⟩
 ·rw[gV (tm:=tm) fun j w hg g hj d hd=>by rw[fH,yaa fun e=>r2 j w hg g hj d hd e.1]]
  exact h.want
 ·have:=h.val
  cases w with
  | false=>exact this
  | true=>
   rw[yab rfl]at this ⊢
   rw[zdz (tm:=tm) fun t ht hto=>by rw[fH,yaa fun e=>r1 t ht hto e.1]]
   exact this
 ·intro d hd hn
  rw[fH,yaa]
  ·exact h.put d hd hn
  ·rintro⟨e,_⟩
   have:=R.one i k o u d h.op hu hd e
   rw[this,hk]at hi;cases hi
def oK.grow{i:Nat}{o:Oper}{w:Bool}{v:zA}(h:oK C H all olds n old tm i o w v)(hle:HM.HLe H H'):oK C H' all olds n old tm i o w v:=
 ⟨h.op,h.want,by have:=h.val;cases w with | false=>exact this | true=>rw[yab rfl]at this ⊢;exact HM.alight_mono hle this,h.put⟩
structure zfc (C:oA) (μ:Mu) (dp:Nat) (all:Array Oper) (olds:List (Nat × List Nat)) (n:Nat) (old tm:Tm) (i:Nat) (o:Oper) (v:zA):Prop where
 op:all[i]?=some o
 flo:dI o.op=true
 want:eE o.guard all tm=some true
 val:∃H0 l,(sF o.op).f C (aL tm old olds i o) H0=.val v (mE H0 l none)/\μ.pd H0.next=some (.cells (Tr.ofList l) (yB l) none,dp,i)
 put:∀d,o.dst=some d->d<n->tm.get d=some v
 lo:z4p C o.op=none
structure Mu.ln (dp:Nat) (μ ν:Mu):Prop where
 f:∀a i,μ a=some i->ν a=some i
 pd:∀a x j,μ.pd a=some (x,dp,j)->ν.pd a=some (x,dp,j)
instance {dp:Nat} {μ ν:Mu}:CoeOut (μ.ln dp ν) (μ.lw ν):=⟨Mu.ln.f⟩
def Mu.le.ln{μ ν:Mu}(h:μ.le ν)(dp:Nat):μ.ln dp ν:=⟨h.f,fun a x j k=>by rw[h.pd];exact k⟩
instance {dp:Nat} {μ ν:Mu}:Coe (μ.le ν) (μ.ln dp ν):=⟨fun h=>h.ln dp⟩
def Mu.ln_refl(μ:Mu)(dp:Nat):μ.ln dp μ:=⟨fun _ _ h=>h,fun _ _ _ h=>h⟩
def Mu.ln_trans{dp:Nat}{a b c:Mu}(h:a.ln dp b)(k:b.ln dp c):a.ln dp c:=⟨fun x i hx=>k.f x i (h.f x i hx),fun x y j hx=>k.pd x y j (h.pd x y j hx)⟩
def zfc.mono{ν:Mu}{dp:Nat}(h:μ.ln dp ν){i:Nat}{o:Oper}{v:zA}(p:zfc C μ dp all olds n old tm i o v):zfc C ν dp all olds n old tm i o v:=by
 obtain⟨H0,l,h1,h2⟩:=p.val
 exact⟨p.op,p.flo,p.want,⟨H0,l,h1,h.pd _ _ _ h2⟩,p.put,p.lo⟩
def dZ{tm tm' old:Tm}{i:Nat}{o:Oper}(hf:dI o.op=true)(h:∀t∈zG o.op,t∉aD i olds->tm'.get t=tm.get t)(C:oA)(H:xA) :
  (sF o.op).f C (aL tm' old olds i o) H=(sF o.op).f C (aL tm old olds i o) H:=by
 refine zpa (zsk fun t=>?_) hf _
 simp only[aL,z2m]
 cases hn:aE t (zG o.op)with
 | false=>rfl
 | true=>
  cases hm:aE t (aD i olds)with
  | true=>rfl
  | false=>exact h t ((fO _ _).1 hn) fun k=>by rw[(fO _ _).2 k]at hm;cases hm
def zfc.keep{dp:Nat}(R:jP all olds anc)(hD:gQ all (tb D)){i k:Nat}{o u:Oper}{v x:zA}(h:zfc C μ dp all olds n old tm i o v)(hi:tb D i=true)(hu:all[k]?=some u)(hk:tb D k=false) :
  zfc C μ dp all olds n old (putA n tm u.dst x) i o v:=by
 obtain⟨r1,r2⟩:=tW R hD h.op (.inl hi) hu hk
 obtain⟨H0,l,h1,h2⟩:=h.val
 refine⟨h.op,h.flo,?_,⟨H0,l,?_,h2⟩,?_,h.lo⟩
 ·rw[gV (tm:=tm) fun j w hg g hj d hd=>by rw[fH,yaa fun e=>r2 j w hg g hj d hd e.1]]
  exact h.want
 ·rw[dZ (tm:=tm) h.flo fun t ht hto=>by rw[fH,yaa fun e=>r1 t ht hto e.1]]
  exact h1
 ·intro d hd hn
  rw[fH,yaa]
  ·exact h.put d hd hn
  ·rintro⟨e,_⟩
   have:=R.one i k o u d h.op hu hd e
   rw[this,hk]at hi;cases hi
def zfc.fresh{dp:Nat}(R:jP all olds anc)(hD:gQ all (tb D)){i:Nat}{o:Oper}{v:zA}(ho:all[i]?=some o)(hp:∀j,bI o j->tb D j=true)(hi:tb D i=false)
  (hf:dI o.op=true) (hlo:z4p C o.op=none) (hw:eE o.guard all tm=some true) (hv:∃H0 l,(sF o.op).f C (aL tm old olds i o) H0=.val v (mE H0 l none)/\μ.pd H0.next=some (.cells (Tr.ofList l) (yB l) none,dp,i)) :
  zfc C μ dp all olds n old (putA n tm o.dst v) i o v:=by
 obtain⟨r1,r2⟩:=tW R hD ho (.inr ⟨rfl,hp⟩) ho hi
 obtain⟨H0,l,h1,h2⟩:=hv
 refine⟨ho,hf,?_,⟨H0,l,?_,h2⟩,?_,hlo⟩
 ·rw[gV (tm:=tm) fun j w hg g hj d hd=>by rw[fH,yaa fun e=>r2 j w hg g hj d hd e.1]]
  exact hw
 ·rw[dZ (tm:=tm) hf fun t ht hto=>by rw[fH,yaa fun e=>r1 t ht hto e.1]]
  exact h1
 ·intro d hd hn
  rw[fH,yab ⟨hd,hn⟩]
def oK.fresh(R:jP all olds anc)(hD:gQ all (tb D)){i:Nat}{o:Oper}{w:Bool}{v:zA}(ho:all[i]?=some o)(hp:∀j,bI o j->tb D j=true)(hi:tb D i=false)
  (hw:eE o.guard all tm=some w) (hv:if w=true then(gE o.op).f C (aL tm old olds i o) H=some v else v=nD) :
  oK C H all olds n old (putA n tm o.dst v) i o w v:=by
 obtain⟨r1,r2⟩:=tW R hD ho (.inr ⟨rfl,hp⟩) ho hi
 refine⟨ho,?_,?_,?_⟩
 ·rw[gV (tm:=tm) fun j w hg g hj d hd=>by rw[fH,yaa fun e=>r2 j w hg g hj d hd e.1]]
  exact hw
 ·cases w with
  | false=>exact hv
  | true=>
   rw[yab rfl]at hv ⊢
   rw[zdz (tm:=tm) fun t ht hto=>by rw[fH,yaa fun e=>r1 t ht hto e.1]]
   exact hv
 ·intro d hd hn
  rw[fH,yab ⟨hd,hn⟩]
def cE.light{i:Nat}{o:Oper}{v:zA}{D':Nat}(R:cE μ all olds anc n old tm D S order tmps)(ho:all[i]?=some o)(hi:tb D i=false)(hp:∀j,bI o j->tb D j=true)(hD:∀k,tb D' k=(tb D k||k == i)) :
  cE μ all olds anc n old (putA n tm o.dst v) D' S order tmps:=by
 refine⟨R.reg,R.sched,fun k hk=>by rw[hD,R.sub k hk];rfl,R.closed,?_,R.size,?_,R.past,?_,?_⟩
 ·intro k u hu hk j hj
  rw[hD]at hk ⊢
  simp only[ycq,beq_iff_eq]at hk ⊢
  rcases hk with hk | rfl
  ·exact .inl (R.dclosed k u hu hk j hj)
  ·rw[ho]at hu;cases hu
   exact .inl (hp j hj)
 ·intro k u d x hu hud hk hd hx
  rw[fH,yaa]at hx
  ·exact R.now k u d x hu hud hk hd hx
  ·rintro⟨e,_⟩
   have:=R.reg.one k i u o d hu ho hud e
   have hk':=R.sub k hk
   rw[this,hi]at hk';cases hk'
 ·intro d hd hw
  rw[fH,yaa]
  ·refine R.keep d hd fun k u hu hud=>?_
   have:=hw k u hu hud
   rw[hD]at this;simp only[yal]at this;exact this.1
  ·rintro⟨e,_⟩
   have:=hw i o ho e
   rw[hD]at this;simp at this
 ·intro d x hd hx
  refine R.big d x hd ?_
  rw[fH,yaa fun e=>absurd e.2 (by omega)]at hx
  exact hx
def cE.mono{ν:Mu}(hm:μ.lw ν)(R:cE μ all olds anc n old tm D S order tmps):cE ν all olds anc n old tm D S order tmps:=
 ⟨R.reg,R.sched,R.sub,R.closed,R.dclosed,R.size,fun i o d v a b c e f=>(R.now i o d v a b c e f).mono hm _ _,fun d v a b c=>(R.past d v a b c).mono hm _ _,R.keep,fun d v a b=>(R.big d v a b).mono hm _ _⟩
end
end Go.Am
namespace Go.Am
open Go Go.RowKit
section
section steps
variable {P:Program}{fr b:Frame}{a:Act}{k:List Item}{cs:List Frame}{w w':World}{s:Sem Next}{ops:Array Oper}
def zp7{v:Value}(hr:s.run P w=.ok (.value v) w') :
  (stepG.apply P true fr cs none s w).bare=.go { frame:=fr.finish v,callers:=cs,status:=.running,dying:=none } w':=by
 simp[stepG.apply,Sem.runT_eq,hr]
def zvg(hr:s.run P w=.ok .skip w') :
  (stepG.apply P true fr cs none s w).bare=.go { frame:=fr.finish undef,callers:=cs,status:=.running,dying:=none } w':=by
 simp[stepG.apply,Sem.runT_eq,hr]
def dY{i:Nat}{rest:List Nat}{o:Oper}{v:Value}(ho:ops[i]?=some o)(hw:Region.wanted o (yielded ops a.tmps)=true)
  (hr:(o.semAt b.roundOf a.eval).run P w=.ok (.value v) w') :
  step P (lone (b.atR a (.inRegion ops (i::rest)::k)) cs w)=.next (lone (b.atR (a.put o.dst v) (.inRegion ops rest::k)) cs w'):=by
 have:=Frame.finish_atR b a ops i rest k v
 rw[ho]at this;simp only[yai]at this;rw[<- this];exact step_lone_go (by rw[stepGR_op ho hw];exact zp7 hr)
def zh9{i:Nat}{rest:List Nat}{o:Oper}(ho:ops[i]?=some o)(hw:Region.wanted o (yielded ops a.tmps)=true)
  (hr:(o.semAt b.roundOf a.eval).run P w=.ok .skip w') :
  step P (lone (b.atR a (.inRegion ops (i::rest)::k)) cs w)=.next (lone (b.atR (a.put o.dst undef) (.inRegion ops rest::k)) cs w'):=by
 have:=Frame.finish_atR b a ops i rest k undef
 rw[ho]at this;simp only[yai]at this;rw[<- this];exact step_lone_go (by rw[stepGR_op ho hw];exact zvg hr)
def cY{i:Nat}{rest:List Nat}{o:Oper}(ho:ops[i]?=some o)(hw:Region.wanted o (yielded ops a.tmps)=false) :
  step P (lone (b.atR a (.inRegion ops (i::rest)::k)) cs w)=.next (lone (b.atR (a.put o.dst undef) (.inRegion ops rest::k)) cs w):=by
 have:=stepR_op_skip (P:=P) (b:=b) (a:=a) (k:=k) (cs:=cs) (w:=w) (ops:=ops) (i:=i) (rest:=rest) (by rw[ho];simpa using hw)
 rw[this,ho];rfl
end steps
mutual
def za4:∀(d:Nat) (a b:zA),same d a b=true->a=b
 | d,a,b,h=>by
  cases a<;>cases b<;>cases d<;>simp[same,nP,oJ,sQ,dJ,Nat.beq_eq]at h ⊢
  all_goals first
   | exact h
   | (obtain⟨h1,h2⟩:=h;exact⟨h1,h2⟩)
   | exact zii _ _ _ h
   | (obtain⟨⟨⟨h1,h2⟩,h3⟩,h4⟩:=h;exact⟨h1,h2,h3,h4⟩)
def zii:∀(d:Nat) (a b:List zA),same.sames d a b=true->a=b
 | d,[],[],_=>rfl
 | d,a::x,b::y,h=>by
  simp only[same.sames,ybb]at h;rw[za4 d a b h.1,zii d x y h.2]
 | d,[],b::y,h=>by simp[same.sames]at h
 | d,a::x,[],h=>by simp[same.sames]at h
end
section
variable {P:Program}{C:oA}{B N:Nat}{μ:Mu}{H H':xA}{w:World}{all:Array Oper}{olds:List (Nat × List Nat)}{anc:Tr Nat}{n:Nat}{old tm tm':Tm}{D D':Nat}{S:Nat->Bool}{order:List Nat}{tmps:Array Value}{ds:List Deferred}{dp:Nat}
def sG(C:oA)(μ:Mu)(dp:Nat)(H:xA)(all:Array Oper)(olds:List (Nat × List Nat))(n:Nat)(old tm:Tm)(D:Nat)(S:Nat->Bool):Prop:=
 ∀i,tb D i=true->S i=false->(∃o w v,oK C H all olds n old tm i o w v)\/∃o v,zfc C μ dp all olds n old tm i o v
def xY:∀(l:List Nat) (tm:Tm) (D:Nat),yM C H all n old olds l tm=some tm'->wL all.toList l D=some D'->cE μ all olds anc n old tm D S order tmps->sG C μ dp H all olds n old tm D S →
  cE μ all olds anc n old tm' D' S order tmps/\sG C μ dp H all olds n old tm' D' S:=by
 intro l;induction l with
 | nil=>intro tm D h hD R hp;cases h;cases hD;exact⟨R,hp⟩
 | cons i l ih=>
  intro tm D h hD R hp;unfold yM at h;unfold wL at hD;rw[uA]at hD;obtain⟨D1,h1,hD⟩:=hD
  simp only[uA,eF]at h;obtain⟨o,ho,wn,hw,v,hv,h⟩:=h
  obtain⟨o',ho',hi,hb,hD1⟩:=pW h1
  have ho2:all[i]?=some o:=by simpa using ho
  rw[ho2]at ho';cases ho'
  have hval:if wn=true then(gE o.op).f C (aL tm old olds i o) H=some v else v=nD:=by
   cases wn with
   | true=>rw[yab rfl];exact hv
   | false=>rw[yaa (by simp)];exact(yci hv).symm
  refine ih _ _ h hD (R.light ho2 hi hb hD1) fun j hj hSj=>?_
  rw[hD1]at hj;simp only[ycq,beq_iff_eq]at hj;rcases hj with hj | rfl
  ·rcases hp j hj hSj with⟨u,wu,vu,pu⟩ | ⟨u,vu,pu⟩
   ·exact .inl ⟨u,wu,vu,pu.keep R.reg R.dclosed hj ho2 hi⟩
   ·exact .inr ⟨u,vu,pu.keep R.reg R.dclosed hj ho2 hi⟩
  ·exact .inl ⟨o,wn,v,oK.fresh R.reg R.dclosed ho2 hb hi hw hval⟩
structure Weak (all:Array Oper) (n:Nat) (tm:Tm) (i:Nat) (o:Oper) (w:Bool) (v:zA):Prop where
 op:all[i]?=some o
 want:eE o.guard all tm=some w
 val:w=false->v=nD
 put:∀d,o.dst=some d->d<n->tm.get d=some v
def z18:∀(l:List Nat),vT C H all old olds tm l=true->∀i∈l,∀o w v,Weak all n tm i o w v->∃v,oK C H all olds n old tm i o w v:=by
 intro l;induction l with
 | nil=>intro _ i hi;cases hi
 | cons j l ih=>
  intro h i hi o w v W;unfold vT at h;split at h
  case h_2=>cases h
  rename_i hx;rcases ybs.1 hi with rfl | hi
  ·simp only[uA,eF]at hx
   obtain⟨o',ho',d,hd,wn,hw,hx⟩:=hx
   have ho2:all[i]?=some o':=by simpa using ho'
   rw[W.op]at ho2;cases ho2;rw[W.want]at hw;cases hw
   cases w with
   | false=>exact⟨v,W.op,W.want,by rw[yaa (by simp)];exact W.val rfl,W.put⟩
   | true=>
    simp only[cond_true,uA]at hx;obtain⟨v1,hv1,u,hu,hs⟩:=hx
    have e:=za4 _ _ _ (yci hs)
    refine⟨v1,W.op,W.want,by rw[yab rfl];exact hv1,fun d' hd' hn=>?_⟩
    rw[hd]at hd';cases hd'
    rw[hu,e]
  ·exact ih h i hi o w v W
end
end
section
section
variable {P:Program}{C:oA}{B N:Nat}{μ:Mu}{H H':xA}{w:World}{all:Array Oper}{olds:List (Nat × List Nat)}{anc:Tr Nat}{n:Nat}{old tm tm':Tm}{D D':Nat}{S:Nat->Bool}{order:List Nat}{tmps:Array Value}{ds:List Deferred}{dp:Nat}
variable {b:Frame}{k:List Item}{cs:List Frame}
structure zfv (B N dp:Nat) (μ:Mu) (H:xA) (w:World) (μ':Mu) (w':World):Prop where
 heap:aA B N μ' H w'
 le:μ.lw μ'
 pd:∀d,d≠dp->μ.ln d μ'
 below:Below N w w'
def zfv.refl(hH:aA B N μ H w):zfv B N dp μ H w μ w:=⟨hH,fun _ _ h=>h,fun d _=>μ.ln_refl d,Below.refl _ _⟩
def zfv.trans{μ1 μ2:Mu}{w1 w2:World}(h:zfv B N dp μ H w μ1 w1)(k:zfv B N dp μ1 H w1 μ2 w2):zfv B N dp μ H w μ2 w2:=
 ⟨k.heap,fun a i e=>k.le a i (h.le a i e),fun d hd=>Mu.ln_trans (h.pd d hd) (k.pd d hd),h.below.trans k.below⟩
def zk7(hT:jE P C)(hH:aA B N μ H w){i:Nat}(R:cE μ all olds anc n old tm D S (i::order) tmps)(hp:sG C μ dp H all olds n old tm D S)(hi:tb D i=true) :
  ∃S' tmps' μ' w',step P (lone (b.atR ⟨tmps,ds⟩ (.inRegion all (i::order)::k)) cs w)=.next (lone (b.atR ⟨tmps',ds⟩ (.inRegion all order::k)) cs w')/\zfv B N dp μ H w μ' w' ∧
   cE μ' all olds anc n old tm D S' order tmps'/\sG C μ' dp H all olds n old tm D S'/\∀k,S k=true->S' k=true:=by
 obtain⟨o,ho,hS,hb,_⟩:=R.sched
 have hDD:∀k,tb D k=(tb D k||k == i):=by
  intro k;by_cases e:k=i
  ·subst e;rw[hi];rfl
  ·have:(k == i)=false:=by simpa using e
   rw[this,Bool.or_false]
 have ds':∀v',Act.put ⟨tmps,ds⟩ o.dst v'=⟨(Act.put ⟨tmps,ds⟩ o.dst v').tmps,ds⟩:=by intro v';unfold Act.put;cases o.dst<;>rfl
 rcases hp i hi hS with⟨o',wn,v,pd⟩ | ⟨o',v,pd⟩
 ·have:=pd.op
  rw[ho]at this;cases this
  have hw:=R.wanted ho hb pd.want
  have rest:∀v',vA μ v v'->cE μ all olds anc n old tm D (fun k=>S k||k == i) order (Act.put ⟨tmps,ds⟩ o.dst v').tmps/\sG C μ dp H all olds n old tm D (fun k=>S k||k == i):=by
   intro v' hv;refine⟨R.did ho hDD pd.put (fun _ _=>rfl) hv,fun j hj hSj=>hp j hj ?_⟩
   simp only[yal]at hSj;exact hSj.1
  cases wn with
  | false=>
   have hv:=pd.val
   rw[yaa (by simp)]at hv
   subst hv;obtain⟨r1,r2⟩:=rest undef rX
   refine⟨_,_,μ,w,?_,.refl hH,r1,r2,fun k hk=>by simp only[hk,Bool.true_or]⟩
   rw[<- ds'];exact cY (a:=⟨tmps,ds⟩) ho hw
  | true=>
   have hv:=pd.val
   rw[yab rfl]at hv;obtain⟨v',h1,h2⟩:=z17 hT hH (R.erel (ds:=ds) hH.glob ho hS hb) hv
   obtain⟨r1,r2⟩:=rest v' h2
   refine⟨_,_,μ,w,?_,.refl hH,r1,r2,fun k hk=>by simp only[hk,Bool.true_or]⟩
   rw[<- ds'];refine dY (a:=⟨tmps,ds⟩) ho hw ?_
   rw[Oper.semAt_eq]
   ·exact h1
   ·intro c e
    rw[e]at hv
    cases hv
 ·have:=pd.op
  rw[ho]at this;cases this
  have hw:=R.wanted ho hb pd.want
  obtain⟨H0,l,h1,h2⟩:=pd.val
  obtain⟨l',vs,v',elem,e1,run,hl,hv⟩:=z5k (P:=P) (w:=w) hT (R.erel (ds:=ds) hH.glob ho hS hb) o pd.flo pd.lo h1
  have e2:mE H0 l none=mE H0 l' none:=e1
  have p1:=(hH.pnd _ _ _ h2).1
  have lg:∀c,(μ.land H0.next ⟨w.heap.size,true,0,0,false⟩) c=if c=H0.next then some ⟨w.heap.size,true,0,0,false⟩else μ c:=fun _=>rfl
  have hle:μ.lw (μ.land H0.next ⟨w.heap.size,true,0,0,false⟩):=fun c j hj=>by
   rw[lg,yaa fun e=>by rw[e,p1]at hj;cases hj];exact hj
  have hlp:∀c x d j,(d≠dp\/j≠i)->μ.pd c=some (x,d,j)->(μ.land H0.next ⟨w.heap.size,true,0,0,false⟩).pd c=some (x,d,j):=by
   intro c x d j hne hc;show(if c=H0.next then none else μ.pd c)=_
   rw[yaa]
   ·exact hc
   ·intro e
    rw[e,h2]at hc
    cases hc;rcases hne with h | h<;>exact h rfl
  have hblk:(rA.cells (Tr.ofList l) (yB l) none)=.cells (Tr.ofList l') (yB l') none:=by
   have h3:(mE H0 l none).t.get H0.next=(mE H0 l' none).t.get H0.next:=by rw[e2]
   have hg:∀m,(mE H0 m none).t.get H0.next=some (.cells (Tr.ofList m) (yB m) none):=fun m=>by
    show(H0.t.set H0.next _).get H0.next=_
    rw[Tr.get_set,yab rfl]
   rw[hg,hg]at h3;exact yci h3
  have hH':aA B N (μ.land H0.next ⟨w.heap.size,true,0,0,false⟩) H (w.alloc (.cells vs elem)):=by
   refine hH.late h2 rfl rfl ?_
   rw[hblk];have:=(zB.mono hle _ _ hl).rel_one (i:=⟨w.heap.size,true,0,0,false⟩) rfl (elem:=elem)
   rwa [Array.toArray_toList]at this
  have hvr:=hv (μ.land H0.next ⟨w.heap.size,true,0,0,false⟩) ⟨w.heap.size,true,0,0,false⟩ (by rw[lg,yab rfl]) rfl rfl
  refine⟨fun k=>S k||k == i,(Act.put ⟨tmps,ds⟩ o.dst v').tmps,μ.land H0.next ⟨w.heap.size,true,0,0,false⟩,w.alloc (.cells vs elem),?_,⟨hH',hle,fun d hd=>⟨hle,fun c x j hc=>hlp c x d j (.inl hd) hc⟩,pM hH.size _⟩,
   (R.mono hle).did ho hDD pd.put (fun _ _=>rfl) hvr,fun j hj hSj=>?_,fun k hk=>by simp only[hk,Bool.true_or]⟩
  ·rw[<- ds']
   refine dY (a:=⟨tmps,ds⟩) ho hw ?_
   rw[Oper.semAt_eq]
   ·exact run
   ·intro c e
    have:=pd.flo
    rw[e]at this
    cases this
  ·simp only[yal,beq_eq_false_iff_ne]at hSj
   rcases hp j hj hSj.1 with h | ⟨u,vu,pu⟩
   ·exact .inl h
   ·refine .inr ⟨u,vu,pu.op,pu.flo,pu.want,?_,pu.put,pu.lo⟩
    obtain⟨H1,m,g1,g2⟩:=pu.val
    exact⟨H1,m,g1,hlp _ _ _ _ (.inr hSj.2) g2⟩
def zrh(hT:jE P C)(hH:aA B N μ H w){i:Nat}(R:cE μ all olds anc n old tm D S (i::order) tmps)(hp:sG C μ dp H all olds n old tm D S)(hi:tb D i=true) :
  ∃S' tmps' μ' w',step P (lone (b.atR ⟨tmps,ds⟩ (.inRegion all (i::order)::k)) cs w)=.next (lone (b.atR ⟨tmps',ds⟩ (.inRegion all order::k)) cs w')/\zfv B N dp μ H w μ' w' ∧
   cE μ' all olds anc n old tm D S' order tmps'/\sG C μ' dp H all olds n old tm D S':=by
 obtain⟨S',tmps',μ',w',h1,h2,h3,h4,_⟩:=zk7 (b:=b) (k:=k) (cs:=cs) (ds:=ds) hT hH R hp hi
 exact⟨S',tmps',μ',w',h1,h2,h3,h4⟩
def reach(hT:jE P C){st:pE}{r:List pE}(hst:zI all.toList anc (st::r) D=true)(hlt:st.heavy<=all.size):∀(order:List Nat) (S:Nat->Bool) (tmps:Array Value) (μ:Mu) (w:World),aA B N μ H w →
  cE μ all olds anc n old tm D S order tmps->sG C μ dp H all olds n old tm D S →
  ∃S' order' tmps' μ' w',Steps P (lone (b.atR ⟨tmps,ds⟩ (.inRegion all order::k)) cs w) (lone (b.atR ⟨tmps',ds⟩ (.inRegion all (st.heavy::order')::k)) cs w')/\zfv B N dp μ H w μ' w' ∧
   cE μ' all olds anc n old tm D S' (st.heavy::order') tmps'/\sG C μ' dp H all olds n old tm D S':=by
 obtain⟨only,_,D1,D2,h1,_⟩:=eX hst hlt
 obtain⟨oh,hoh,hh,hbh,_⟩:=pW h1
 intro order;induction order with
 | nil=>
  intro S tmps μ w _ R hp;have:=R.sub _ (R.sched st.heavy (ybe.1 hoh).1)
  rw[hh]at this;cases this
 | cons i order ih=>
  intro S tmps μ w hH R hp
  cases hi:tb D i with
  | true=>
   obtain⟨S',tmps',μ1,w1,s1,g1,r1,p1⟩:=zrh (b:=b) (k:=k) (cs:=cs) (ds:=ds) hT hH R hp hi
   obtain⟨S2,order',tmps2,μ2,w2,s2,g2,r2⟩:=ih S' tmps' μ1 w1 g1.heap r1 p1
   exact⟨S2,order',tmps2,μ2,w2,.head s1 s2,g1.trans g2,r2⟩
  | false=>
   obtain⟨o,ho,hS,hb,_⟩:=R.sched
   have:=only i o ho hi fun j hj=>R.sub j (hb j hj)
   subst this;exact⟨S,order,tmps,μ,w,.refl _ _,.refl hH,R,hp⟩
def regEnd(hT:jE P C)(hst:zI all.toList anc [] D=true):∀(order:List Nat) (S:Nat->Bool) (tmps:Array Value) (μ:Mu) (w:World),aA B N μ H w →
  cE μ all olds anc n old tm D S order tmps->sG C μ dp H all olds n old tm D S →
  ∃tmps' μ' w',Steps P (lone (b.atR ⟨tmps,ds⟩ (.inRegion all order::k)) cs w) (lone (b.atR ⟨tmps',ds⟩ k) cs w')/\zfv B N dp μ H w μ' w'/\tE μ' n tm tmps':=by
 have full:=zle hst
 intro order;induction order with
 | nil=>
  intro S tmps μ w hH R hp;refine⟨tmps,μ,w,.one stepR_region_end,.refl hH,R.size,fun t v hv=>?_⟩
  by_cases hn:t<n
  ·by_cases hw:∃(j:Nat) (u:Oper),all[j]?=some u/\u.dst=some t
   ·obtain⟨j,u,hu,hud⟩:=hw
    exact R.now j u t v hu hud (R.sched j (ybe.1 hu).1) hn hv
   ·have k:=R.keep t hn fun i o h1 h2=>absurd ⟨i,o,h1,h2⟩ hw
    exact R.past t v hn (fun i o h1 h2=>absurd ⟨i,o,h1,h2⟩ hw) (by rw[<- k];exact hv)
  ·rw[oV (by rw[R.size];omega)]
   exact R.big t v (by omega) (.inl hv)
 | cons i order ih=>
  intro S tmps μ w hH R hp;obtain⟨o,ho,_⟩:=R.sched
  obtain⟨S',tmps',μ1,w1,s1,g1,r1,p1⟩:=zrh (b:=b) (k:=k) (cs:=cs) (ds:=ds) hT hH R hp (full i (ybe.1 ho).1)
  obtain⟨tmps2,μ2,w2,s2,g2,r2⟩:=ih S' tmps' μ1 w1 g1.heap r1 p1
  exact⟨tmps2,μ2,w2,.head s1 s2,g1.trans g2,r2⟩
def z31(hM:P.follows .mixedOrders=true){anc:Tr Nat}(hR:jP all olds anc)(ht:tE μ n old tmps)(t:Nat) :
  cE μ all olds anc n old old 0 (fun _=>false) (Region.schedule (P.follows .mixedOrders) all t) tmps/\sG C μ dp H all olds n old old 0 (fun _=>false):=by
 refine⟨⟨hR,?_,fun i h=>(by cases h),fun i o _ h=>(by cases h),fun i o _ h=>(by rw[zh8]at h;cases h),ht.1,fun i o d v _ _ h=>(by cases h),fun d v _ _ h=>ht.2 d v h,fun _ _ _=>rfl,fun d v hd h=>?_⟩,fun i h=>(by rw[zh8]at h;cases h)⟩
 ·rw[hM]
  unfold Region.schedule;simp only[Bool.true_or,if_true];have:=z3t hR.back all.size t (Array.replicate all.size false) (by simp) (by
   refine Nat.le_trans (List.countP_le_length) ?_
   simp)
  have e:(fun i=>(Array.replicate all.size false).getD i false)=fun _=>false:=by
   funext i
   simp only[ycx,Array.getElem?_replicate];split<;>rfl
  rw[e]at this;exact this
 ·have h':old.get d=some v:=h.elim id id
  have:=ht.2 d v h'
  rw[oV (by rw[ht.1];exact hd)]at this
  exact this
def jQ(C:oA)(μ:Mu)(dp:Nat)(all:Array Oper)(olds:List (Nat × List Nat))(n:Nat)(old tm:Tm)(D:Nat)(S:Nat->Bool)(again:List Nat):Prop:=
 ∀i,tb D i=true->S i=false->(∃o w v,(∀H,oK C H all olds n old tm i o w v)\/(i∈again/\Weak all n tm i o w v))\/∃o v,zfc C μ dp all olds n old tm i o v
def oK.float{i:Nat}{o:Oper}{w:Bool}{v:zA}(h:oK C H all olds n old tm i o w v)(hf:dI o.op=true)(H':xA):oK C H' all olds n old tm i o w v:=by
 refine⟨h.op,h.want,?_,h.put⟩
 have:=h.val
 cases w with
 | false=>exact this
 | true=>
  rw[yab rfl]at this;exfalso
  obtain⟨dst,op,type,pos,after,guard⟩:=o
  cases op<;>first | (simp[dI]at hf;done) | cases this
def zv2{again:List Nat}(hw:jQ C μ dp all olds n old tm D S again)(ha:vT C H all old olds tm again=true):sG C μ dp H all olds n old tm D S:=by
 intro i hi hS;rcases hw i hi hS with⟨o,w,v,h | ⟨h1,h2⟩⟩ | h
 ·exact .inl ⟨o,w,v,h H⟩
 ·obtain⟨v,h⟩:=z18 (C:=C) (H:=H) (olds:=olds) (old:=old) again ha i h1 o w v h2
  exact .inl ⟨o,w,v,h⟩
 ·exact .inr h
end
end
section
section
variable {P:Program}{C:oA}{B N:Nat}{μ:Mu}{H H':xA}{w:World}{all:Array Oper}{olds:List (Nat × List Nat)}{anc:Tr Nat}{n:Nat}{old tm tm':Tm}{D D':Nat}{S:Nat->Bool}{order:List Nat}{tmps:Array Value}{ds:List Deferred}{dp:Nat}
def Weak.keep(R:jP all olds anc)(hD:gQ all (tb D)){i k:Nat}{o u:Oper}{w:Bool}{v x:zA}(h:Weak all n tm i o w v)(hi:tb D i=true)(hu:all[k]?=some u)(hk:tb D k=false) :
  Weak all n (putA n tm u.dst x) i o w v:=by
 obtain⟨_,r2⟩:=tW R hD h.op (.inl hi) hu hk
 refine⟨h.op,?_,h.val,?_⟩
 ·rw[gV (tm:=tm) fun j w hg g hj d hd=>by rw[fH,yaa fun e=>r2 j w hg g hj d hd e.1]]
  exact h.want
 ·intro d hd hn
  rw[fH,yaa]
  ·exact h.put d hd hn
  ·rintro⟨e,_⟩
   have:=R.one i k o u d h.op hu hd e
   rw[this,hk]at hi;cases hi
def toWeak{st:pE}{r:List pE}(hst:zI all.toList anc (st::r) D=true)(hlt:st.heavy<=all.size)(R:cE μ all olds anc n old tm D S (st.heavy::order) tmps)(hp:sG C μ dp H all olds n old tm D S) :
  jQ C μ dp all olds n old tm D S st.again:=by
 obtain⟨_,ag,_⟩:=eX hst hlt
 intro i hDi hSi;rcases hp i hDi hSi with⟨u,wu,vu,pu⟩ | h
 rotate_left
 ·exact .inr h
 refine .inl ⟨u,wu,vu,?_⟩
 rcases ag i u pu.op hDi with h | h | h | h
 ·obtain⟨o,ho,_,hb,_⟩:=R.sched
  have:=R.reg.up R.closed ho hb h
  rw[hSi]at this;cases this
 ·exact .inl fun H=>pu.pure h H
 ·exact .inl fun H=>pu.float h H
 ·exact .inr ⟨h,pu.op,pu.want,fun e=>by have:=pu.val;rw[e]at this;simpa using this,pu.put⟩
def z2w{h:Nat}{again:List Nat}{D1:Nat}{o:Oper}{v:zA}{v':Value}(h1:yQ all.toList h D=some D1)(ho:all[h]?=some o)
  (R:cE μ all olds anc n old tm D S (h::order) tmps) (hp:jQ C μ dp all olds n old tm D S again) (hv:vA μ v v') :
  cE μ all olds anc n old (putA n tm o.dst v) D1 (fun k=>S k||k == h) order (Act.put ⟨tmps,ds⟩ o.dst v').tmps/\jQ C μ dp all olds n old (putA n tm o.dst v) D1 (fun k=>S k||k == h) again:=by
 obtain⟨o',ho',hi,hb,hD1⟩:=pW h1
 rw[ho]at ho';cases ho'
 refine⟨R.did ho hD1 (fun d hd hn=>by rw[fH,yab ⟨hd,hn⟩]) (fun d hd=>by rw[fH,yaa fun e=>absurd (hd e.1) (by omega)]) hv,fun i hDi hSi=>?_⟩
 simp only[yal,beq_eq_false_iff_ne]at hSi;rw[hD1]at hDi;simp only[ycq,beq_iff_eq]at hDi;have hDi:=hDi.resolve_right hSi.2
 rcases hp i hDi hSi.1 with⟨u,wu,vu,pu⟩ | ⟨u,vu,pu⟩
 ·exact .inl ⟨u,wu,vu,pu.imp (fun pu H=>(pu H).keep R.reg R.dclosed hDi ho hi) (fun pu=>⟨pu.1,pu.2.keep R.reg R.dclosed hDi ho hi⟩)⟩
 ·exact .inr ⟨u,vu,pu.keep R.reg R.dclosed hDi ho hi⟩
inductive uK (C:oA) (μ:Mu) (dp:Nat) (n:Nat):Option xA->List fD->Tm->List Item->Array Value->Prop
 | plain {cur:Option xA} {todo:List fD} {tm:Tm} {btodo:List Item} {tmps:Array Value}:qC (jF μ) todo btodo->tE μ n tm tmps->uK C μ dp n cur todo tm btodo tmps
 | reg {H:xA} {all:Array Oper} {old tm:Tm} {olds:List (Nat × List Nat)} {stages:List pE} {k:List fD} {order:List Nat} {k':List Item} {tmps:Array Value} {anc:Tr Nat} {D:Nat} {S:Nat->Bool} :
   cE μ all olds anc n old tm D S order tmps->zI all.toList anc stages D=true->sG C μ dp H all olds n old tm D S->qC (jF μ) k k' →
   uK C μ dp n (some H) (.reg all old olds stages::k) tm (.inRegion all order::k') tmps
 | mid {cur:Option xA} {all:Array Oper} {old tm:Tm} {olds:List (Nat × List Nat)} {lights again:List Nat} {stages:List pE} {k:List fD} {order:List Nat} {k':List Item} {tmps:Array Value} {anc:Tr Nat} {D D2:Nat} {S:Nat->Bool} :
   cE μ all olds anc n old tm D S order tmps->wL all.toList lights D=some D2->zI all.toList anc stages D2=true->jQ C μ dp all olds n old tm D S again->qC (jF μ) k k' →
   uK C μ dp n cur (.reg all old olds (⟨all.size,lights,again⟩::stages)::k) tm (.inRegion all order::k') tmps
 | wait {all:Array Oper} {old tm:Tm} {olds:List (Nat × List Nat)} {st:pE} {stages:List pE} {k:List fD} {order:List Nat} {k':List Item} {tmps:Array Value} {anc:Tr Nat} {D:Nat} {S:Nat->Bool} :
   cE μ all olds anc n old tm D S (st.heavy::order) tmps->zI all.toList anc (st::stages) D=true->st.heavy<=all.size->jQ C μ dp all olds n old tm D S st.again->qC (jF μ) k k' →
   uK C μ dp n none (.reg all old olds (st::stages)::k) tm (.inRegion all (st.heavy::order)::k') tmps
def sG.mono{ν:Mu}(h:μ.ln dp ν)(p:sG C μ dp H all olds n old tm D S):sG C ν dp H all olds n old tm D S:=
 fun i h1 h2=>(p i h1 h2).imp id fun⟨o,v,q⟩=>⟨o,v,q.mono h⟩
def jQ.mono{ν:Mu}{again:List Nat}(h:μ.ln dp ν)(p:jQ C μ dp all olds n old tm D S again):jQ C ν dp all olds n old tm D S again:=
 fun i h1 h2=>(p i h1 h2).imp id fun⟨o,v,q⟩=>⟨o,v,q.mono h⟩
def uK.mono{ν:Mu}(h:μ.ln dp ν){cur:Option xA}{todo:List fD}{btodo:List Item}(R:uK C μ dp n cur todo tm btodo tmps):uK C ν dp n cur todo tm btodo tmps:=by
 have mk:∀ {k:List fD} {k':List Item},qC (jF μ) k k'->qC (jF ν) k k':=fun k=>qC.mono (fun _ _ r=>jF.mono h r) k
 cases R with
 | plain a b=>exact .plain (mk a) (b.mono h)
 | reg a b c d=>exact .reg (a.mono h) b (c.mono h) (mk d)
 | mid a b c d e=>exact .mid (a.mono h) b c (d.mono h) (mk e)
 | wait a b b' c d=>exact .wait (a.mono h) b b' (c.mono h) (mk d)
end
end
section
section
variable {P:Program}{C:oA}{B N:Nat}{μ ν:Mu}{H H':xA}{w:World}{n:Nat}{tm:Tm}{tmps:Array Value}{ds:List Deferred}{dp:Nat}
def tE.put{v:zA}{v':Value}{dst:Option Nat}(h:tE μ n tm tmps)(hv:vA μ v v'):tE μ n (putA n tm dst v) (Act.put ⟨tmps,ds⟩ dst v').tmps:=by
 cases dst with
 | none=>exact h
 | some d=>
  refine⟨by simp[Act.put,h.1],fun t x hx=>?_⟩
  rw[fH]at hx;simp only[Act.put,ycx,ycs];by_cases e:d=t
  ·subst e
   by_cases hn:d<n
   ·rw[yab ⟨rfl,hn⟩]at hx
    cases hx;simp[h.1,hn,hv]
   ·rw[yaa fun k=>hn k.2]at hx
    have:=h.2 d x hx
    rw[oV (by rw[h.1];omega)]at this
    simp[h.1,hn,this]
  ·rw[yaa fun k=>e (yci k.1)]at hx
   have:=h.2 t x hx
   rw[ycx]at this;simpa[e]using this
structure wI (C:oA) (μ:Mu) (dp:Nat) (cur:Option xA) (fr:xC) (b:Frame):Prop where
 rest:aF μ fr.R b
 body:if fr.R.mode.running=true then uK C μ dp fr.R.n cur fr.todo fr.tm b.todo b.tmps else tE μ fr.R.n fr.tm b.tmps
def wI.mono(h:μ.ln dp ν){cur:Option xA}{fr:xC}{b:Frame}(r:wI C μ dp cur fr b):wI C ν dp cur fr b:=by
 refine⟨r.rest.mono h,?_⟩
 have:=r.body
 split at this
 ·rename_i e;rw[yab e];exact this.mono h
 ·rename_i e;rw[yaa e];exact this.mono h
inductive qF (C:oA) (μ:Mu):List xC->List Frame->Prop
 | nil:qF C μ [] []
 | cons {a:xC} {b:Frame} {l:List xC} {m:List Frame}:wI C μ l.length none a b->qF C μ l m->qF C μ (a::l) (b::m)
def qF.monoD{l:List xC}{m:List Frame}(r:qF C μ l m)(h:∀d,d<l.length->μ.ln d ν):qF C ν l m:=by
 induction r with
 | nil=>exact .nil
 | @cons a b l m h1 h2 ih=>exact .cons (h1.mono (h _ (by simp))) (ih fun d hd=>h d (by simp;omega))
def qF.mono{l:List xC}{m:List Frame}(r:qF C μ l m)(h:μ.le ν):qF C ν l m:=r.monoD fun d _=>h.ln d
def tU{fr fr':xC}{b:Frame}{v:zA}{v':Value}{cur:Option xA}(r:wI C μ dp none fr b)(h:gG fr v=some fr')(hv:vA μ v v'):wI C μ dp cur fr' (b.finish v'):=by
 obtain⟨todo,tm,R⟩:=fr
 unfold gG at h
 cases todo with
 | nil=>cases h
 | cons x k=>
  simp only[zC]at h;split at h
  case isFalse=>cases h
  rename_i hm;have body:=r.body
  rw[yab hm]at body;have rest:=r.rest
  obtain⟨fn,btmps,btodo,bdefers,bmode,bkind,bround⟩:=b
  simp only at body rest
  cases body with
  | plain a t=>
   cases a with
   | cons i l=>
    cases i with
    | ops all i hi=>
     simp only[zjm]at h;unfold z8e at h;split at h
     case h_2=>cases h
     rename_i o rest' ho
     cases h;obtain⟨h1,h2⟩:=pP ho.symm
     have hlt:i<all.size:=by have:=(ybc.1 h1).1;simpa using this
     have hr:(List.range all.size).drop i=i::(List.range all.size).drop (i+1):=by
      rw[ybl (by simpa using hlt)];simp
     have ho2:all[i]?=some o:=by simpa using h1
     have e:∀k',Frame.finish ⟨fn,btmps,.inRegion all ((List.range all.size).drop i)::k',bdefers,bmode,bkind,bround⟩ v'=⟨fn,(Act.put ⟨btmps,bdefers⟩ o.dst v').tmps,.inRegion all ((List.range all.size).drop (i+1))::k',bdefers,bmode,bkind,bround⟩:=by
      intro k';simp only[Frame.finish,hr,ho2,yai];unfold Act.put
      cases o.dst<;>rfl
     rw[e];refine⟨⟨rest.fn,?_,rest.defers,rest.mode,rest.kind,rest.round⟩,?_⟩
     ·exact(t.put (ds:=bdefers) (dst:=o.dst) hv).1
     ·rw[yab hm]
      rw[h2];exact .plain (.cons (.ops all (i+1) hlt) l) (t.put hv)
    | inRange l' i hl=>
     cases h;refine⟨⟨rest.fn,rest.size,rest.defers,rest.mode,rest.kind,rest.round⟩,?_⟩
     simp only[Frame.finish];rw[yab hm];exact .plain (.cons (.endRange l' i hl) l) t
    | beginRound=>
     cases h;refine⟨⟨rest.fn,rest.size,rest.defers,rest.mode,rest.kind,rest.round⟩,?_⟩
     simp only[Frame.finish];rw[yab hm];exact .plain l t
    | _=>cases h
  | mid a b c d e=>
   exfalso
   simp only[zjm]at h;unfold z0q at h;simp only[uA,eF]at h;obtain⟨o,ho,_⟩:=h
   have:=(ybc.1 ho).1
   simp at this
  | @wait all old _ olds st stages _ order _ _ anc D S a b b2 c d=>
   simp only[zjm]at h;unfold z0q at h;simp only[uA,eF]at h;obtain⟨o,ho,h⟩:=h
   cases h;have ho2:all[st.heavy]?=some o:=by simpa using ho
   obtain⟨_,_,D1,D2,h1,h2,h3⟩:=eX b b2
   obtain⟨r1,r2⟩:=z2w (ds:=bdefers) h1 ho2 a c hv
   have e:∀k',Frame.finish ⟨fn,btmps,.inRegion all (st.heavy::order)::k',bdefers,bmode,bkind,bround⟩ v'=⟨fn,(Act.put ⟨btmps,bdefers⟩ o.dst v').tmps,.inRegion all order::k',bdefers,bmode,bkind,bround⟩:=by
    intro k';simp only[Frame.finish,ho2,yai];unfold Act.put
    cases o.dst<;>rfl
   rw[e];refine⟨⟨rest.fn,r1.size,rest.defers,rest.mode,rest.kind,rest.round⟩,?_⟩
   rw[yab hm];exact .mid r1 h2 h3 r2 d
def sD(P:Program)(C:oA)(B N:Nat)(μ:Mu)(base:List Frame)(m:Machine)(w:World):rE->Prop
 | .next s=>∃ μ' b cs w',Steps P m (lone b (cs++base) w')/\μ.lw μ'/\Below N w w'/\aA B N μ' s.H w'/\wI C μ' s.cs.length (some s.H) s.fr b/\qF C μ' s.cs cs
 | .done v H=>∃ μ' b w' v',Steps P m (lone b base w')/\μ.lw μ'/\Below N w w'/\aA B N μ' H w'/\vA μ' v v'/\b.fn=C.root/\b.leaving P w' (.returned v')
 | .fail _=>True
def sD.of_steps{base:List Frame}{m m1:Machine}{o:rE}{w w1:World}(hs:Steps P m m1)(hm:μ.lw ν)(hb:Below N w w1)(h:sD P C B N ν base m1 w1 o):sD P C B N μ base m w o:=by
 cases o with
 | fail=>exact trivial
 | next s=>
  obtain⟨μ',b,cs,w',h1,h2,h3,h4⟩:=h
  exact⟨μ',b,cs,w',hs.trans h1,fun a i k=>h2 a i (hm a i k),hb.trans h3,h4⟩
 | done v H=>
  obtain⟨μ',b,w',v',h1,h2,h3,h4⟩:=h
  exact⟨μ',b,w',v',hs.trans h1,fun a i k=>h2 a i (hm a i k),hb.trans h3,h4⟩
def z6g{b:Frame}(h:b.mode=.run):b.atR ⟨b.tmps,b.defers⟩ b.todo=b:=by
 obtain⟨fn,tmps,todo,defers,mode,kind,round⟩:=b
 simp only at h
 subst h;rfl
end
end
section
structure Sim (P:Program) (C:oA) (B N:Nat) (I:World->Prop):Prop where
 tys:jE P C
 fns:zne P C
 prims:rT P C B N I
 base:B<=C.base
 mixed:P.follows .mixedOrders=true
 inv:∀w w',Below N w w'->I w->I w'
section
variable {P:Program}{C:oA}{B N:Nat}{I:World->Prop}{μ ν:Mu}{H H':xA}{w:World}{tm:Tm}{R:nI}{acs:List xC}{base cs:List Frame}
variable {b:Frame}{tmps:Array Value}{ds:List Deferred}{k:List fD}{k':List Item}
def aF.todo{todo:List Item}(h:aF μ R (b.atR ⟨tmps,ds⟩ [])):aF μ R (b.atR ⟨tmps,ds⟩ todo):=⟨h.fn,h.size,h.defers,h.mode,h.kind,h.round⟩
def aF.running{todo:List Item}(h:aF μ R (b.atR ⟨tmps,ds⟩ todo)):R.mode.running=true:=by
 have:=h.mode
 cases hm:R.mode with
 | run=>rfl
 | _=>rw[hm]at this;exact this.elim
def vR{m:Machine}{todo:List fD}{btodo:List Item}(hH:aA B N μ H w)(hcs:qF C μ acs cs)(hR:aF μ R (b.atR ⟨tmps,ds⟩ []))(ht:tE μ R.n tm tmps)
  (hk:qC (jF μ) todo btodo) (hs:Steps P m (lone (b.atR ⟨tmps,ds⟩ btodo) (cs++base) w)):sD P C B N μ base m w (xGo todo tm R acs H):=
 ⟨μ,_,cs,w,hs,fun _ _ h=>h,Below.refl _ _,hH,⟨hR.todo,by rw[yab hR.running];exact .plain hk ht⟩,hcs⟩
def zis(hH:aA B N μ H w)(hcs:qF C μ acs cs)(hR:aF μ R (b.atR ⟨tmps,ds⟩ []))(ht:tE μ R.n tm tmps)(hk:qC (jF μ) k k'){m:Machine}
  (hs:step P m=.next (lone (b.atR ⟨tmps,ds⟩ k') (cs++base) w)):sD P C B N μ base m w (znl C k tm R acs H):=
 vR hH hcs hR ht hk (.one hs)
def zzbi(hH:aA B N μ H w)(hcs:qF C μ acs cs)(hR:aF μ R (b.atR ⟨tmps,ds⟩ []))(ht:tE μ R.n tm tmps)(hk:qC (jF μ) k k'){c:Operand}{x y:Code} :
  sD P C B N μ base (lone (b.atR ⟨tmps,ds⟩ (.code (.cond c x y)::k')) (cs++base) w) w (zvz c x y C k tm R acs H):=by
 unfold zvz
 cases hc:ob (ev c (.now tm)) zA.asBool with
 | none=>exact trivial
 | some t=>
  rw[uA]at hc;obtain⟨v,hv,ht'⟩:=hc
  have:v=.bool t:=by cases v<;>simp[zA.asBool]at ht';rw[ht']
  subst this;have hr:=ht.erel (ds:=ds) hH.glob c _ hv
  rw[vA]at hr;refine vR hH hcs hR ht (.cons (.code _) hk) (.one ?_)
  rw[stepR_cond hr]
  cases t<;>rfl
def z6c(hH:aA B N μ H w)(hcs:qF C μ acs cs)(hR:aF μ R (b.atR ⟨tmps,ds⟩ []))(ht:tE μ R.n tm tmps)(hk:qC (jF μ) k k'){id:Nat}{c:Code} :
  sD P C B N μ base (lone (b.atR ⟨tmps,ds⟩ (.code (.block id c)::k')) (cs++base) w) w (z6t id c C k tm R acs H):=
 vR hH hcs hR ht (.cons (.code _) (.cons (.inBlock _) hk)) (.one stepR_block)
def z93(hH:aA B N μ H w)(hcs:qF C μ acs cs)(hR:aF μ R (b.atR ⟨tmps,ds⟩ []))(ht:tE μ R.n tm tmps)(hk:qC (jF μ) k k'){c:Code} :
  sD P C B N μ base (lone (b.atR ⟨tmps,ds⟩ (.code (.loop c)::k')) (cs++base) w) w (z8o c C k tm R acs H):=
 vR hH hcs hR ht (.cons (.code _) (.cons (.inLoop _) hk)) (.one stepR_loop)
def z0s{id:Nat}:∀ {k:List fD} {k':List Item} {r:List fD},qC (jF μ) k k'->eK id k=some r->∃r',exitTo id k'=some r'/\qC (jF μ) r r':=by
 intro k k' r h;induction h with
 | nil=>intro e;cases e
 | cons a l ih=>
  intro e
  cases a with
  | inBlock i=>
   unfold eK at e;simp only[fD.blockId]at e;rw[zC]at e;unfold exitTo;by_cases hi:i=id
   ·subst hi
    rw[yab (fB.2 rfl)]at e
    cases e
    exact⟨_,by simp,l⟩
   ·rw[yaa fun h=>hi (fB.1 h)]at e
    obtain⟨r',h1,h2⟩:=ih e
    exact⟨r',by simp[hi,h1],h2⟩
  | _=>
   unfold eK at e;obtain⟨r',h1,h2⟩:=ih e
   exact⟨r',by unfold exitTo;exact h1,h2⟩
end
end
end Go.Am
