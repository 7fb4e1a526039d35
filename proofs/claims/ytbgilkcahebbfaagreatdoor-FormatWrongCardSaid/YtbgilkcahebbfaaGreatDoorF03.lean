/- append: in the room, into new memory, and both ways where the room is not known. -/
import Derived.AtR
import Derived.Orders
import Derived.Test.YtbgilkcahebbfaaGreatDoorF02
set_option linter.all false
noncomputable section
namespace Go.Am
open Go Go.RowKit
section
section
variable {P:Program}{C:oA}{B N:Nat}{μ:Mu}{H H':xA}{w:World}
variable {e:nC}{ρ:Operand->Value}{dst:Option Tmp}{type:TypeId}{pos:String}{after:Array Edge}{guard:Option (Nat × Bool)}{v:zA}
def cA.drop(hH:cA B N μ H w)(b:Nat)(hb:∀x t,μ.pd b≠some (x,t)):cA B N μ ⟨H.next,H.t.del b⟩ w:=by
 have hget:∀a,(H.t.del b).get a=if a=b then none else H.t.get a:=fun a=>Tr.get_del _ _ _
 have key:∀a x,(H.t.del b).get a=some x->a≠b/\H.t.get a=some x:=by
  intro a x h;rw[hget]at h;split at h
  ·cases h
  ·exact⟨‹_›,h⟩
 refine⟨hH.base,hH.glob,fun a x i ha hx=>hH.low a x i ha (key a x hx).2,hH.next,hH.size,fun a ha=>⟨(hH.fresh a ha).1,?_⟩,fun a x i hx=>hH.blk a x i (key a x hx).2,hH.own,fun a c x y i j hx hy=>hH.inj a c x y i j (key a x hx).2 (key c y hy).2,fun a x t ha=>?_⟩
 rotate_left
 ·obtain⟨h1,h2,h3⟩:=hH.pnd a x t ha
  exact⟨h1,by rw[hget,yaa fun e=>hb x t (by rw[<- e];exact ha)];exact h2,h3⟩
 rw[hget];split
 ·rfl
 ·exact(hH.fresh a ha).2
def cA.adopt(hH:cA B N μ H w){y:qA}{o':Obj}{i:BI}(hN:N<=i.b/\i.b<w.heap.size/\i.ro=false)(hfree:∀a x j,B<=a->H.t.get a=some x->μ a=some j->j.b≠i.b)(hy:aG (μ.ext H.next i) i y o') :
  cA B N (μ.ext H.next i) (Am.newBlk H y) (World.setBlk w i.b o'):=by
 have hle:μ.le (μ.ext H.next i):=hH.ext_le
 have hget:∀a,(Am.newBlk H y).t.get a=if a=H.next then some y else H.t.get a:=fun a=>Tr.get_set _ _ _ _
 have hsz:(World.setBlk w i.b o').heap.size=w.heap.size:=by simp[World.setBlk]
 refine⟨hH.base,?_,?_,?_,?_,?_,?_,?_,?_,fun a x t ha=>?_⟩
 ·intro g hg;rw[Mu.ext_get,yaa (by have:=hH.next;have:=hH.base;omega)];exact hH.glob g hg
 ·intro a x j ha hx hj
  rw[hget,yaa (by have:=hH.next;omega)]at hx
  rw[Mu.ext_get,yaa (by have:=hH.next;omega)]at hj
  exact hH.low a x j ha hx hj
 ·have:=hH.next;show B<=H.next+1;omega
 ·rw[hsz];exact hH.size
 ·intro a ha
  have ha':H.next+1<=a:=ha
  rw[hget,yaa (by omega)]
  rw[Mu.ext_get,yaa (by omega)]
  exact hH.fresh a (by omega)
 ·intro a x j hx h1
  rw[hget]at hx;rw[Mu.ext_get]at h1;split at hx
  ·rename_i e;subst e;cases hx
   rw[yab rfl]at h1;cases h1;exact⟨o',by rw[jS,yab ⟨rfl,hN.2.1⟩],hy⟩
  ·rename_i hne
   rw[yaa hne]at h1;obtain⟨q,h2,h3⟩:=hH.blk a x j hx h1
   refine⟨q,?_,h3.mono hle⟩
   rw[jS,yaa]
   ·exact h2
   ·rintro⟨e,_⟩
    by_cases hb:B<=a
    ·exact hfree a x j hb hx h1 e
    ·have h5:=(hH.low a x j (by omega) hx h1).1
     omega
 ·intro a j ha hj
  rw[Mu.ext_get]at hj;rw[hsz];split at hj
  ·cases hj;exact hN
  ·exact hH.own a j ha hj
 ·intro a b x z j k hx hz hj hk ha hb hjk
  rw[hget]at hx hz;rw[Mu.ext_get]at hj hk;by_cases ea:a=H.next
  ·by_cases eb:b=H.next
   ·rw[ea,eb]
   ·exfalso
    rw[yab ea]at hj;rw[yaa eb]at hk hz
    cases hj;exact hfree b z k hb hz hk hjk.symm
  ·by_cases eb:b=H.next
   ·exfalso
    rw[yaa ea]at hj hx;rw[yab eb]at hk
    cases hk;exact hfree a x j ha hx hj hjk
   ·rw[yaa ea]at hx hj;rw[yaa eb]at hz hk
    exact hH.inj a b x z j k hx hz hj hk ha hb hjk
 ·obtain⟨h1,h2,h3⟩:=hH.pnd a x t ha
  have hne:a≠H.next:=fun e=>by rw[e,(hH.fresh _ (ybk _)).2]at h2;cases h2
  exact⟨by rw[Mu.ext_get,yaa hne];exact h1,by rw[hget,yaa hne];exact h2,h3⟩
def zwk{a:zA}{x:Value}(hx:wA μ a x){n:Nat}(h:qR a=some n):(Builtin.lenOf x).run P w=.ok n w:=by
 unfold qR at h;split at h
 ·rename_i s hs
  cases h;rw[aR]at hs;subst hs;rw[wA]at hx;rcases hx with⟨i,c,_,rfl,_⟩ | ⟨_,k,_,A,_,rfl,_⟩
  ·rfl
  ·rw[k];rfl
 ·split at h
  ·rename_i s hs
   rw[iO]at hs;subst hs;rw[wA]at hx;obtain⟨str,rfl,rfl⟩:=hx
   rw[gC,oT]at h
   cases h;rfl
  ·rw[zB,pB,xP.2.1]at h
   obtain⟨rfl,h⟩:=h
   cases h;rw[wA]at hx;subst hx;rfl
def zke(hH:cA B N μ H w){a:zA}{x:Value}(hx:wA μ a x){size n:Nat}{l:List zA}(hn:qR a=some n)(h:oN H size n a=some l) :
  ∃vs:List Value,(Builtin.firstCells size n x).run P w=.ok vs.toArray w/\yB μ l vs:=by
 unfold oN at h;split at h
 ·rename_i s hs
  rw[aR]at hs;subst hs;simp only[uA]at h;obtain⟨c,hc,h⟩:=h
  rw[wA]at hx;rcases hx with⟨i,c',hi,rfl,_⟩ | ⟨_,k,_,A,_,rfl,_⟩
  rotate_left
  ·have hn0:n=0:=by
    have hn:some s.2.2.1=some n:=hn
    exact(yci hn).symm.trans k
   subst hn0;rw[Nat.zero_mul]at h
   cases h;exact⟨[],by show(loadCells A (0*size)).run P w=_;rw[Nat.zero_mul];rfl,.nil⟩
  obtain⟨vs,_,h2,h3,_⟩:=hH.manyAt (P:=P) hc hi h
  exact⟨vs,h3,h2⟩
 ·split at h
  ·rename_i s hs
   rw[iO]at hs;subst hs
   cases h;rw[wA]at hx;obtain⟨str,rfl,rfl⟩:=hx
   refine⟨((str.extract 0 n).data.map fun b=>Value.int .u8 b.toNat).toList,by rw[Array.toArray_toList];rfl,?_⟩
   have h1:zes (aD str) n=aD (str.extract 0 n):=by rw[yO,bZ];simp
   rw[h1];exact zbc _
  ·rw[zB,pB,xP.2.1]at h
   obtain⟨rfl,h⟩:=h
   cases h;rw[wA]at hx;subst hx;exact⟨[],rfl,.nil⟩
def zxq(newLen:Nat):∀(r c:Nat),c<newLen->Builtin.growBy newLen r c<=newLen+(newLen+768) / 4:=by
 intro r;induction r with
 | zero=>intro c h;rw[Builtin.growBy];omega
 | succ r ih=>
  intro c h;rw[Builtin.growBy,yaa (by omega)]
  by_cases h2:c+(c+768) / 4<newLen
  ·exact ih _ h2
  ·cases r with
   | zero=>rw[Builtin.growBy];omega
   | succ r=>rw[Builtin.growBy,yab (by omega)];omega
def zrz(need cap:Nat)(h:cap<need):Builtin.nextslicecap need cap<=2*need+192:=by
 unfold Builtin.nextslicecap;split
 ·omega
 ·split
  ·omega
  ·have:=zxq need 4 cap h;omega
structure zk7 (et:uC) (len cap n:Nat) (new:List zA):Prop where
 small:len+n+cap<1000000000
 bytes:(len+n+cap)*et.bytes<1000000000
 b:et.bytes<1000000000
 size:et.size≠0
 new:new.length=n*et.size
 zero:et.zero.length=et.size
def qZ{et:uC}{len cap n:Nat}{new:List zA}(h:lL et len cap n new=true):zk7 et len cap n new:=by
 unfold lL at h;simp only[ybb,dB,ycp,beqf,pB,gC]at h;obtain⟨⟨⟨⟨⟨h1,h2⟩,h3⟩,h4⟩,h5⟩,h6⟩:=h
 exact⟨h1,h2,h3,h4,h5,h6⟩
def oZ(z:Array Value)(n:Nat):(Builtin.zeroCells z n).size=n*z.size:=by simp[Builtin.zeroCells]
def sX{st ut el:Nat}{u:TypeDesc}{et:uC}(hst:P.underlying st=some (.slice el))(hut:P.underlying ut=some u)(hu:∀k,u≠.int k)(hF:mI P el et){base:Option Addr}{len cap n:Nat}{x:Value}{tys:Array TypeId}{args:Array Value}
  (ht0:tys[0]?=some st) (ht1:tys[1]?=some ut) (ha0:args[0]?=some (.slice base len cap)) (ha1:args[1]?=some x) (hn:(Builtin.lenOf x).run P w=.ok n w) (hlt:¬ len+n<=cap)
  (hs:len+n<1000000000) (hb:(len+n)*et.bytes<1000000000) (hbb:et.bytes<1000000000) {old new:Array Value} {z:Value} (hold:(Builtin.firstCells et.size len (.slice base len cap)).run P w.drew=.ok old w.drew) (hnew:(Builtin.firstCells et.size n x).run P w.drew=.ok new w.drew)
  (hz:∀w,(zeroValue el).run P w=.ok z w) :
  ∃newCap,len+n<=newCap/\(Builtin.append_ tys type args).run P w=.ok (.slice (some ⟨w.heap.size,0,none⟩) (len+n) newCap) (w.drew.alloc (.cells (old++new++Builtin.zeroCells z.cells (newCap-(len+n))) el)):=by
 obtain⟨inf,hinf,hsz,hby,_⟩:=hF.info
 obtain⟨newCap,hcap,hc⟩:=zaa (P:=P) (w:=w) (len+n) cap el
 refine⟨newCap,hcap,?_⟩
 have h1:¬ (((len+n:Nat):Int) > IntKind.i64.max/\(False\/et.bytes=0)):=by
  have:IntKind.i64.max=9223372036854775807:=by decide
  rw[this];omega
 have h2:¬ Builtin.nextslicecap (len+n) cap*et.bytes > 2^48:=by
  have h3:=zrz (len+n) cap (by omega)
  have h4:Builtin.nextslicecap (len+n) cap*et.bytes<=(2*(len+n)+192)*et.bytes:=ybi _ h3
  have h5:(2*(len+n)+192)*et.bytes=2*((len+n)*et.bytes)+192*et.bytes:=by rw[ybo,ybj]
  omega
 unfold Builtin.append_;simp only[ht0,ht1,ha0,ha1,yad,wE hst,wE hut,yac,hF.size,yae]
 cases u<;>first
  | exact absurd rfl (hu _)
  | simp only[ybq,if_false,ycl,if_true,hn,yaa hlt,yac,iS hinf,hby,yad,Sem.run_ite,yae,yaa h1,yaa h2,hc,run_askRoom,hold,hnew,hz,tQ,World.size_drew]
def tX{st ut el:Nat}{u:TypeDesc}{et:uC}(hst:P.underlying st=some (.slice el))(hut:P.underlying ut=some u)(hu:∀k,u≠.int k)(hF:mI P el et){base:Option Addr}{len cap n:Nat}{x:Value}{tys:Array TypeId}{args:Array Value}
  (ht0:tys[0]?=some st) (ht1:tys[1]?=some ut) (ha0:args[0]?=some (.slice base len cap)) (ha1:args[1]?=some x) (hn:(Builtin.lenOf x).run P w=.ok n w) (hlt:len+n<=cap)
  {new:Array Value} {w':World} (hnew:(Builtin.firstCells et.size n x).run P w=.ok new w) (hst':(match base with | some a=>storeCells (a.add (len*et.size)) new.toList | none=>pure ():Sem Unit).run P w=.ok () w') :
  (Builtin.append_ tys type args).run P w=.ok (.slice base (len+n) cap) w':=by
 unfold Builtin.append_;simp only[ht0,ht1,ha0,ha1,yad,wE hst,wE hut,yac,hF.size,yae]
 cases base with
 | none=>
  have e:w=w':=by simpa using hst'
  subst e
  cases u<;>first
   | exact absurd rfl (hu _)
   | simp only[ybq,if_false,ycl,if_true,hn,yab hlt,yac,yad,Sem.run_ite,yae,hnew]
 | some a=>
  simp only[]at hst'
  cases u<;>first
   | exact absurd rfl (hu _)
   | simp only[ybq,if_false,ycl,if_true,hn,yab hlt,yac,yad,Sem.run_ite,yae,hnew,hst']
@[simp] theorem Lo.es_sz (n:Nat):(Lo.sz n).es=n:=rfl
@[simp] theorem Lo.es_ty (n:Nat):(Lo.ty n).es=1:=rfl
def rT(e:Nat)(et:uC):(qH e et).es=et.size:=by
 unfold qH;rw[iB];split
 ·rename_i h;rw[ybb,pB]at h;exact h.1.symm
 ·rfl
def zym{e t:Nat}{et:uC}(h:qH e et=.ty t):e=t:=by
 unfold qH at h;rw[iB]at h;split at h<;>cases h;rfl
def zmu{a b:Lo}:loEq a b=true ↔ a=b:=by
 cases a<;>cases b<;>simp[loEq,pB]
def cA.newGrown(hH:cA B N μ H w){et:uC}{len cap n newCap:Nat}{new old:List zA}{vo vn:List Value}{z:Array Value}(hg:zk7 et len cap n new)(hz:yB μ et.zero z.toList)(hcap:len+n<=newCap)(ho:yB μ old vo)(hol:old.length=len*et.size)(hn:yB μ new vn)(el:TypeId) :
  cA B N (μ.ext H.next ⟨w.heap.size,false,et.size,newCap*et.size,false⟩) (bD H (old++new) (some (qH el et))) (w.alloc (.cells (vo.toArray++vn.toArray++Builtin.zeroCells z (newCap-(len+n))) el)):=by
 have hzs:=hz.length
 simp only[ycz]at hzs;have h1:=ho.length
 have h2:=hn.length
 have hsz:(vo.toArray++vn.toArray++Builtin.zeroCells z (newCap-(len+n))).size=newCap*et.size:=by
  simp only[Array.size_append,List.size_toArray,oZ,h1,h2,hol,hg.new,hzs,hg.zero];rw[<- ybo,<- ybo];congr 1;omega
 have:=hH.newLoose (l:=old++new) (cs:=vo.toArray++vn.toArray++Builtin.zeroCells z (newCap-(len+n))) (lo:=qH el et) ?_ ?_ el (0,0) (.inl (ybk _)) fun t=>zym
 ·rw[hsz,rT]at this;exact this
 ·rw[hsz,ybg,hol,hg.new,<- ybo];exact ybi _ hcap
 ·intro j a ha
  obtain⟨v,hv,hr⟩:=(ho.append hn).get ha
  refine⟨v,?_,hr⟩
  have hj:j<(vo++vn).length:=(ybc.1 hv).1
  rw[yaj (by simpa using hj)]
  simpa using hv
def z5k(hbase:B<=C.base)(hH:cA B N μ H w){et:uC}{n:Nat}{new:List zA}{s:Nat × Nat × Nat × Nat}(h:lQ C H et n new s=some (v,H')){i:BI}(hi:μ s.1=some i){vs:List Value}(hl:yB μ new vs) :
  v=.slice s.1 s.2.1 (s.2.2.1+n) s.2.2.2/\∃w',(storeCells (Addr.add ⟨i.b,s.2.1,none⟩ (s.2.2.1*et.size)) vs.toArray.toList).run P w=.ok () w'/\cA B N μ H' w'/\Below N w w':=by
 unfold lQ at h;split at h
 ·cases h
  rw[yB]at hl;subst hl;exact⟨rfl,w,rfl,hH,Below.refl _ _⟩
 ·rw[uA]at h
  obtain⟨H1,h1,h⟩:=h
  cases h;obtain⟨w',h2,h3,h4⟩:=ziy (P:=P) hbase hH h1 hi hl
  rw[dP];exact⟨rfl,w',h2,h3,h4⟩
def zzz{b:Nat}{p:Tr zA × Nat × Option Lo}(hH:cA B N μ H w)(h:fC H b=some p){i:BI}(hi:μ b=some i)(hl:p.2.2=none):i.tight=true:=by
 obtain⟨o,h2,h3⟩:=hH.blk _ _ _ (dR h) hi
 obtain⟨cs,elem,fr,_,_,_,_,h4⟩:=h3
 rw[hl]at h4;exact h4
def zju{b:Nat}{cs:Array Value}{elem:TypeId}{fr:Nat × Nat}(h:w.heap[b]?=some (.cells cs elem fr)){n:Nat}(hn:n<=cs.size):(loadCells ⟨b,0,none⟩ n).run P w=.ok (cs.toList.take n).toArray w:=by
 have:=run_loadCells_list (P:=P) w ⟨b,0,none⟩ (cs.toList.take n) fun j v hv=>by
  rw[dP];rw[ydf]at hv;split at hv
  ·simp only[World.cell?,h];simpa using hv
  ·cases hv
 rwa [yda,ycz,Nat.min_eq_left hn]at this
def zda{μ':Mu}{i j:BI}{c:Tr zA}{m L:Nat}{es:Lo}{cs cs2:Array Value}{elem el:TypeId}{fr fr2:Nat × Nat}(hle:μ.lw μ')(h:aG μ i (.cells c m (some es)) (.cells cs elem fr)){new:List zA}{vn:List Value}(hn:yB μ new vn)
  {tot:Nat} (hm:m<=tot) (htot:L+new.length=tot) (hsz:tot<=cs2.size) (hfr:fr2.2<=fr2.1\/cs2.size<=fr2.1) (hold:∀k,k<L->cs2[k]?=cs[k]?) (hnew:∀k,k<new.length->cs2[L+k]?=vn[k]?)
  (hj:j.tight=false/\j.es=es.es/\j.room=cs2.size) (hmod:∀t,es=.ty t->el=t):aG μ' j (.cells (c.setMany new L) tot (some es)) (.cells cs2 el fr2):=by
 obtain⟨cs0,elem0,fr0,e,h2,h3,h4,h5⟩:=h
 cases e
 refine⟨cs2,el,fr2,rfl,hsz,.inr hfr,fun k v hv=>?_,hj.1,hj.2.1,hj.2.2,hmod⟩
 rw[Tr.get_setMany]at hv;split at hv
 ·rename_i hk
  obtain⟨u,hu,hr⟩:=hn.get hv
  refine⟨by omega,u,?_,hr.mono hle _ _⟩
  have:=hnew (k-L) (by omega)
  rw[show L+(k-L)=k by omega]at this
  rw[this];exact hu
 ·rename_i hk
  obtain⟨a,u,hu,hr⟩:=h4 k v hv
  refine⟨by omega,u,?_,hr.mono hle _ _⟩
  rw[hold k (by omega)];exact hu
def zsa(hT:rE P C)(hbase:B<=C.base)(hH:cA B N μ H w)(hE:kE μ e ρ){c:Call}(hc:c.callee=.builtin .append)(h:kU c C e H=.val v H'):zn6 P B N μ w ρ ⟨dst,.call c,type,pos,after,guard⟩ v H':=by
 have h:=uL h
 simp only[uA,zB,oF,ycp,beqf]at h;obtain⟨st,hst,ty,hty,ut,hut,uty,huty,htag,p,hp,h⟩:=h
 obtain⟨X,Y,hXY,hX,hY⟩:=zgs hE hp
 unfold gO at h;simp only[uA]at h;obtain⟨el,hel,et,het,n,hn,new,hnew,h⟩:=h
 have hF:=hT.facts het
 obtain⟨z,hz,_,hzl⟩:=hF.zero (μ:=μ)
 have hU:=hT.facts huty
 obtain⟨U,hUu⟩:=hU.und
 have hU2:∀k,U≠.int k:=by
  intro k e;subst e;have h0:=hU.desc
  unfold lK at h0;rw[hUu]at h0;rw[<- h0]at htag;exact htag rfl
 have ht0:c.argTypes[0]?=some st:=by simpa using hst
 have ht1:c.argTypes[1]?=some ut:=by simpa using hut
 have ha0:(c.args.map ρ)[0]?=some (ρ X):=by rw[hXY];simp
 have ha1:(c.args.map ρ)[1]?=some (ρ Y):=by rw[hXY];simp
 have hln:=zwk (P:=P) (w:=w) hY hn
 obtain⟨vn,hvn,hvl⟩:=zke (P:=P) hH hY hn hnew
 obtain⟨vn2,hvn2,hvl2⟩:=zke (P:=P) hH.drew hY hn hnew
 have run:∀ {v' w'},(Builtin.append_ c.argTypes type (c.args.map ρ)).run P w=.ok v' w'->(execOp ρ ⟨dst,.call c,type,pos,after,guard⟩).run P w=.ok (.value v') w':=by
  intro v' w' hr;rw[iV hc];simp only[builtin,yad,hr,yac,yae]
 have hsl:=fM (hT.facts hty) hel
 split at h
 ·rename_i s hs
  rw[aR]at hs;rw[hs,wA]at hX;rcases hX with⟨i,cap',hi,hxv,hcap,htt,hrm⟩ | ⟨k1,k3,k4,A,rc,hxv,k2⟩
  rotate_left
  ·rw[hxv]at ha0
   rw[iB]at h;simp only[vE]at h;obtain⟨sb,so,sl,sc⟩:=s
   simp only at k1 k2 k3 k4
   subst k1 k3 k4
   simp only at h
   split at h
   ·rename_i hle
    have hn0:n=0:=by omega
    subst hn0;unfold lQ at h;split at h
    ·cases h
     rw[yB]at hvl;subst hvl;refine⟨.slice (some A) 0 rc,w,μ,.inl (run ?_),μ.le_refl,hH,Below.refl _ _,by rw[wA];exact .inr ⟨rfl,rfl,rfl,A,rc,rfl,k2⟩⟩
     have:=tX (type:=type) (w':=w) hsl hUu hU2 hF ht0 ht1 ha0 ha1 hln (by omega) hvn rfl
     simpa using this
    ·rw[uA]at h
     obtain⟨H1,h1,_⟩:=h
     unfold lH at h1;rw[zB,ycp]at h1;have h2:=h1.1
     have:=hH.base
     rw[dB.2 (show 0<C.base by omega)]at h2
     cases h2
   ·rename_i hgt
    unfold nO at h;simp only[zB,uA]at h;obtain⟨hmark,hg,cc,hcc,h⟩:=h
    obtain⟨rfl,rfl⟩:so=0/\rc=0:=by
     rcases k2 with k2 | rfl
     ·exact k2
     ·cases hmark
    have hG:=qZ hg
    have hb1:(0+n)*et.bytes<1000000000:=yam (ybi _ (by omega)) hG.bytes
    split at h
    ·rename_i hnone
     unfold jU at h;rw[uA]at h;obtain⟨old,hold,h⟩:=h
     cases h;simp only[Nat.zero_mul]at hold
     cases hold;obtain⟨nc,hnc,hr⟩:=sX (w:=w) hsl hUu hU2 hF ht0 ht1 ha0 ha1 hln (by omega) (by have:=hG.small;omega) hb1 hG.b (old := #[]) (new:=vn2.toArray) (z:=z) (by show(loadCells A (0*et.size)).run P w.drew=_;rw[Nat.zero_mul];rfl) hvn2 hz
     rw[oG];have hgr:=hH.drew.newGrown hG hzl hnc (yB.nil (μ:=μ)) (by simp) hvl2 el
     refine⟨_,_,_,.inl (run hr),hH.ext_le,hgr,cU.trans (bL hH.drew.size _),?_⟩
     rw[wA];exact .inl ⟨_,nc,Mu.ext_same,rfl,hnc,(fun h=>by cases h),(fun _=>by simp)⟩
    ·rename_i es hsome
     unfold bS at h;simp only[zB,ybb,pB,vE,cG,ycp]at h;obtain⟨⟨⟨⟨⟨⟨h1,h2⟩,h3⟩,h4⟩,h5⟩,h6⟩,h⟩:=h
     have:=hH.base
     rw[dB.2 (show 0<C.base by omega)]at h6
     cases h6
  rw[hxv]at ha0;rw[iB]at h;simp only[vE]at h;split at h
  ·rename_i hle
   obtain⟨rfl,w',h1,h2,h3⟩:=z5k (P:=P) hbase hH h hi hvl
   refine⟨.slice (some ⟨i.b,s.2.1,none⟩) (s.2.2.1+n) cap',w',μ,.inl (run ?_),μ.le_refl,h2,h3,?_⟩
   ·exact tX hsl hUu hU2 hF ht0 ht1 ha0 ha1 hln (by omega) hvn h1
   ·rw[wA];exact .inl ⟨i,cap',hi,rfl,hcap,htt,hrm⟩
  ·rename_i hgt
   unfold nO at h;simp only[zB,uA]at h;obtain⟨_,hg,cc,hcc,h⟩:=h
   have hG:=qZ hg
   have hb1:(s.2.2.1+n)*et.bytes<1000000000:=yam (ybi _ (by omega)) hG.bytes
   split at h
   ·rename_i hnone
    unfold jU at h;rw[uA]at h;obtain⟨old,hold,h⟩:=h
    cases h;have hti:=zzz hH hcc hi hnone
    obtain⟨vo,_,hvo,hlo,_⟩:=hH.drew.manyAt (P:=P) hcc hi hold
    have hcc':=htt hti
    obtain⟨nc,hnc,hr⟩:=sX (w:=w) hsl hUu hU2 hF ht0 ht1 ha0 ha1 hln (by omega) (by have:=hG.small;omega) hb1 hG.b (old:=vo.toArray) (new:=vn2.toArray) (z:=z) hlo hvn2 hz
    rw[oG];refine⟨_,_,_,.inl (run hr),hH.ext_le,hH.drew.newGrown hG hzl hnc hvo (Tr.many_some _ _ _ _ hold).1 hvl2 el,cU.trans (bL hH.drew.size _),?_⟩
    rw[wA];exact .inl ⟨_,nc,Mu.ext_same,rfl,hnc,(fun h=>by cases h),(fun _=>by simp)⟩
   ·rename_i es hsome
    unfold bS at h;simp only[zB,ybb,pB,vE,cG,ycp]at h;obtain⟨⟨⟨⟨⟨⟨h1,h2⟩,h3⟩,h4⟩,h5⟩,h6⟩,h⟩:=h
    have h2:=zmu.1 h2
    subst h2;have hown:B<=s.1:=by
     have:¬ s.1<C.base:=fun k=>by rw[dB.2 k]at h6;cases h6
     omega
    have hNb:=hH.own s.1 i hown hi
    have hxs:=dR hcc
    obtain⟨o,g2,g3⟩:=hH.blk _ _ _ hxs hi
    have g3':=g3
    obtain⟨cs,elem,fr,rfl,g4,g5,g6,g7⟩:=g3
    have g5:=g5.resolve_left (by rw[hNb.2.2];simp)
    rw[hsome]at g7;obtain⟨g8,g9,g10,g11⟩:=g7
    rw[rT]at g9;have hone:∀a∈new,a.one=true:=fun a ha=>ycb.1 h5 a ha
    have hrm':=hrm g8
    rw[h1,g9,g10]at hrm'
    rw[hsome]at g3'
    have hlen1:=hvl.length
    have hlen2:=hvl2.length
    have htotal:s.2.2.1*et.size+new.length=(s.2.2.1+n)*et.size:=by rw[hG.new,<- ybo]
    have hH2:=hH.drop s.1 (fun x t e=>by have:=(hH.pnd _ _ _ e).1;rw[hi]at this;cases this)
    by_cases hroom:s.2.2.1+n<=cap'
    ·have hfit:(s.2.2.1+n)*et.size<=cs.size:=by
      have:(s.2.2.1+n)*et.size<=cap'*et.size:=ybi _ hroom
      omega
     obtain⟨cs',hs',hj',hr'⟩:=hZ (P:=P) (o:=s.2.2.1*et.size) vn 0 cs w g2 g5 (by omega) (hvl.one hone)
     have hst':(storeCells (Addr.add ⟨i.b,s.2.1,none⟩ (s.2.2.1*et.size)) vn.toArray.toList).run P w=.ok () (World.setBlk w i.b (.cells cs' elem fr)):=by
      rw[dP,h1,ybw];exact hr'
     have hr:=tX (type:=type) hsl hUu hU2 hF ht0 ht1 ha0 ha1 hln hroom hvn (w':=World.setBlk w i.b (.cells cs' elem fr)) hst'
     simp only[Option.some.injEq,Prod.mk.injEq]at h;obtain⟨rfl,rfl⟩:=h
     refine⟨_,_,μ.ext H.next i,.inl (run hr),hH.ext_le,?_,gP hNb.1,?_⟩
     ·refine hH2.adopt hNb ?_ (zda hH.ext_le.f g3' hvl h4 htotal (by omega) (by rw[hs'];exact g5) ?_ ?_ ⟨g8,by rw[rT];exact g9,by rw[hs'];exact g10⟩ g11)
      ·intro a x j ha hx hj hb
       have hx':(if a=s.1 then none else H.t.get a)=some x:=by rw[<- Tr.get_del];exact hx
       split at hx'
       ·cases hx'
       ·rename_i hne
        exact hne (hH.inj a s.1 x _ j i hx' hxs hj hi ha hown hb)
      ·intro k hk
       rw[hj',yaa (by omega)]
      ·intro k hk
       rw[hj',yab (by omega)]
       congr 1;omega
     ·rw[wA]
      refine .inl ⟨i,cap',Mu.ext_same,by rw[h1],hroom,(fun h=>by rw[g8]at h;cases h),(fun _=>?_)⟩
      rw[g9,g10];omega
    ·have hlo:(Builtin.firstCells et.size s.2.2.1 (.slice (some ⟨i.b,s.2.1,none⟩) s.2.2.1 cap')).run P w.drew=.ok (cs.toList.take (s.2.2.1*et.size)).toArray w.drew:=by
      rw[h1];exact zju (w:=w.drew) g2 (by omega)
     obtain⟨nc,hnc,hr⟩:=sX (w:=w) (type:=type) hsl hUu hU2 hF ht0 ht1 ha0 ha1 hln hroom (by have:=hG.small;omega) hb1 hG.b (new:=vn2.toArray) (z:=z) hlo hvn2 hz
     have hzs:=hzl.length
     simp only[ycz]at hzs;have hol:(cs.toList.take (s.2.2.1*et.size)).length=s.2.2.1*et.size:=by rw[yda,ycz];omega
     have hsz2:((cs.toList.take (s.2.2.1*et.size)).toArray++vn2.toArray++Builtin.zeroCells z.cells (nc-(s.2.2.1+n))).size=nc*et.size:=by
      simp only[Array.size_append,List.size_toArray,oZ,hol,hlen2,hG.new,hzs,hG.zero];rw[<- ybo,<- ybo];congr 1;omega
     simp only[Option.some.injEq,Prod.mk.injEq]at h;obtain⟨rfl,rfl⟩:=h
     refine⟨_,_,μ.ext H.next ⟨w.heap.size,false,et.size,nc*et.size,false⟩,.inl (run hr),hH.ext_le,?_,cU.trans (bL hH.drew.size _),?_⟩
     ·refine hH2.drew.newBlk (H:=⟨H.next,H.t.del s.1⟩) rfl rfl (zda hH.ext_le.f g3' hvl2 h4 htotal ?_ (.inl (ybk _)) ?_ ?_ ⟨rfl,(rT _ _).symm,hsz2.symm⟩ fun t=>zym)
      ·rw[hsz2];exact ybi _ hnc
      ·intro k hk
       rw[yaj (by simp[hol];omega),yaj (by simp[hol];omega)]
       simp[hk]
      ·intro k hk
       rw[yaj (by simp only[Array.size_append,List.size_toArray,hol,hlen2];omega),Array.getElem?_append_right (by simp only[List.size_toArray,hol];omega)]
       simp only[List.size_toArray,hol,Nat.add_sub_cancel_left];simp
     ·rw[wA]
      exact .inl ⟨_,nc,Mu.ext_same,rfl,hnc,(fun h=>by cases h),(fun _=>by simp)⟩
 ·simp only[zB,pB,xP.2.1]at h
  obtain⟨hs,h⟩:=h
  rw[hs,wA]at hX;rw[hX]at ha0;unfold cJ at h;rw[iB]at h;simp only[pB]at h;split at h
  ·rename_i hn0
   subst hn0
   cases h;refine⟨.slice none 0 0,w,μ,.inl (run ?_),μ.le_refl,hH,Below.refl _ _,by rw[wA]⟩
   have:=tX (type:=type) (w':=w) hsl hUu hU2 hF ht0 ht1 ha0 ha1 hln (by omega) hvn rfl
   simpa using this
  ·rename_i hn0
   simp only[zB]at h;obtain⟨hg,h⟩:=h
   cases h;have hG:=qZ hg
   have hb1:(0+n)*et.bytes<1000000000:=yam (ybi _ (by omega)) hG.bytes
   obtain⟨nc,hnc,hr⟩:=sX (w:=w) hsl hUu hU2 hF ht0 ht1 ha0 ha1 hln (by omega) (by have:=hG.small;omega) hb1 hG.b (old := #[]) (new:=vn2.toArray) (z:=z) rfl hvn2 hz
   rw[ybw]at hr hnc;have hgr:=hH.drew.newGrown hG hzl (by omega) (yB.nil (μ:=μ)) (by simp) hvl2 el (newCap:=nc)
   simp only[ybw]at hgr;refine⟨_,_,_,.inl (run hr),hH.ext_le,hgr,cU.trans (bL hH.drew.size _),?_⟩
   rw[wA];exact .inl ⟨_,nc,Mu.ext_same,rfl,hnc,(fun h=>by cases h),(fun _=>by simp)⟩
end
end
section
section
variable {P:Program}{C:oA}{B N:Nat}{μ:Mu}{H H':xA}{w:World}{I:World->Prop}
variable {e:nC}{ρ:Operand->Value}{dst:Option Tmp}{type:TypeId}{pos:String}{after:Array Edge}{guard:Option (Nat × Bool)}{v:zA}
def zk8 (P : Program) (C : oA) : Prop := ∀ f fn, C.fns.get f = some fn -> P.funcs[f]? = some fn /\ (fn.name == "runtime.NumGoroutine") = false
def yV(P:Program)(C:oA)(B N:Nat)(I:World->Prop):Prop:=∀f g,C.prims.get f=some g->∀args H v H',g args H=some (v,H')->∀ μ w args',cA B N μ H w->I w->yB μ args args'.toList →
 (H'=H/\∃v',(callFunc f args').run P w=.ok (.value v') w/\wA μ v v') ∨
 ((callFunc f args').run P w=.ok (.enter f args') w/\Calls P f args' w fun e w'=>∃v' μ',e=.returned v'/\μ.le μ'/\cA B N μ' H' w'/\Below N w w'/\wA μ' v v')
def zfi(hE:kE μ e ρ){c:Call}{f:Operand}(hc:c.callee=.value f){p:AFn × List zA × List zA}(h:eN f c.args e=some p) :
  ∃fn cap as,(resolve ρ c type).run P w=.ok { target:=.fn fn cap,args:=as } w/\zta μ p.1 fn/\yB μ p.2.1 as.toList/\yB μ p.2.2 cap.toList:=by
 unfold eN at h;simp only[uA,zea,oG]at h;obtain⟨a,ha,q,rfl,as,has,h⟩:=h
 cases h;have hv:=hE _ _ ha
 rw[wA]at hv;obtain⟨fn,first,cap,hfv,hfn,h1,h2⟩:=hv
 refine⟨fn,cap,first++c.args.map ρ,?_,hfn,?_,h2⟩
 ·simp only[resolve,hc,hfv,Deferred.ofValue,yae]
 ·have h3:=hE.many has
  have:=h1.append h3
  simpa using this
def uX(hF:zk8 P C){f:Nat}{fn:Func}(hf:C.fns.get f=some fn)(hb:fn.body.isSome=true){args:Array Value}:(callFunc f args).run P w=.ok (.enter f args) w:=by
 obtain⟨h1,h2⟩:=hF f fn hf
 unfold callFunc;simp only[yad,run_program,yac,h1,h2];have:fn.body.isNone=false:=by cases h:fn.body<;>simp[h]at hb ⊢
 simp[this]
def mJ (P:Program)(C:oA)(B N:Nat)(μ:Mu)(H:xA)(w:World)(ρ:Operand->Value)(o:Oper):uI->Prop
 | .val v H'=>zn6 P B N μ w ρ o v H'\/(∃f args',(execOp ρ o).run P w=.ok (.enter f args') w/\Calls P f args' w fun e w'=>∃v' μ',e=.returned v'/\μ.le μ'/\cA B N μ' H' w'/\Below N w w'/\wA μ' v v')
 | .enter f args=>∀fn,C.fns.get f=some fn->fn.body.isSome=true->∃args',(execOp ρ o).run P w=.ok (.enter f args') w/\yB μ args args'.toList
 | .round l args=>∃i args',μ l=some i/\yB μ args args'.toList/\(execOp ρ o).run P w=(Instr.yield i.b args').run P w
 | .defer d=>(∃c,o.op=.defer c)/\∃d',(execOp ρ o).run P w=.ok (.defer d') w/\zR μ d d'
 | .panic v=>∃v',(execOp ρ o).run P w=.halt (.panic v') w/\wA μ v v'
 | .recover=>(execOp ρ o).run P w=.ok .recover w
 | .fail=>True
def zxm(hF:zk8 P C)(hP:yV P C B N I)(hH:cA B N μ H w)(hI:I w)(hE:kE μ e ρ){c:Call}{f:Operand}(hc:c.callee=.value f) :
  mJ P C B N μ H w ρ ⟨dst,.call c,type,pos,after,guard⟩ (zds f c.args C e H):=by
 unfold zds
 cases hr:eN f c.args e with
 | none=>exact trivial
 | some p=>
  obtain⟨fn,cap,as,h1,h2,h3,h3'⟩:=zfi (P:=P) (w:=w) (type:=type) hE hc hr
  have run:(execOp ρ ⟨dst,.call c,type,pos,after,guard⟩).run P w=(invoke (.fn fn cap) as).run P w:=by
   simp only[execOp,yad,h1,yac]
  show mJ P C B N μ H w ρ _ (z69 C H p.2.1 p.2.2 p.1)
  obtain⟨fa,args,caps⟩:=p
  cases fa with
  | func g=>
   cases h2;have run2:(execOp ρ ⟨dst,.call c,type,pos,after,guard⟩).run P w=(callFunc g (as++cap)).run P w:=by rw[run];rfl
   have hl:yB μ (eC args caps) (as++cap).toList:=by rw[oG];simpa using h3.append h3'
   show mJ P C B N μ H w ρ _ (zgd C H (eC args caps) g (C.prims.get g))
   cases hp:C.prims.get g with
   | none=>
    show ∀fn,C.fns.get g=some fn->_
    intro fn hfn hb;exact⟨as++cap,by rw[run2];exact uX hF hfn hb,hl⟩
   | some pr=>
    cases hv:pr (eC args caps) H with
    | none=>simp only[zgd,hv];exact trivial
    | some x=>
     obtain⟨v,H'⟩:=x
     simp only[zgd,hv];rcases hP g pr hp _ H v H' hv μ w (as++cap) hH hI hl with⟨rfl,v',h4,h5⟩ | ⟨h4,h5⟩
     ·exact Or.inl ⟨v',w,μ,.inl (by rw[run2];exact h4),μ.le_refl,hH,Below.refl _ _,h5⟩
     ·exact Or.inr ⟨g,as++cap,by rw[run2];exact h4,h5⟩
  | yld l=>
   obtain⟨i,hi,rfl⟩:=h2
   show mJ P C B N μ H w ρ _ (zkr l args caps)
   cases caps with
   | cons a b=>exact trivial
   | nil=>exact⟨i,as,hi,h3,by rw[run];rfl⟩
def z4r(hT:rE P C)(hbase:B<=C.base)(hF:zk8 P C)(hP:yV P C B N I)(hH:cA B N μ H w)(hI:I w)(hE:kE μ e ρ)(o:Oper):mJ P C B N μ H w ρ o ((aE o.op).f C e H):=by
 have light:(∃l:LOp,(aE o.op).f=lv l/\∀v,l C e H=some v->LOk P μ w ρ o v)->mJ P C B N μ H w ρ o ((aE o.op).f C e H):=by
  rintro⟨l,h1,h2⟩
  rw[h1];unfold lv
  cases h:l C e H with
  | none=>exact trivial
  | some v=>exact Or.inl ((h2 v h).hv hH)
 have val:∀x:Option (zA × xA),(aE o.op).f C e H=eI x->(∀v H',eI x=.val v H'->zn6 P B N μ w ρ o v H')->mJ P C B N μ H w ρ o ((aE o.op).f C e H):=by
  intro x h1 h2;rw[h1]
  cases x with
  | none=>exact trivial
  | some p=>exact Or.inl (h2 p.1 p.2 rfl)
 obtain⟨dst,op,type,pos,after,guard⟩:=o
 cases op
 case move=>exact light ⟨_,rfl,fun v h=>zpj (C:=C) (H:=H) hE h⟩
 case assign=>exact light ⟨_,rfl,fun v h=>zfw (C:=C) (H:=H) hE h⟩
 case pick=>exact light ⟨_,rfl,fun v h=>zpi (C:=C) (H:=H) hE h⟩
 case load=>exact light ⟨_,rfl,fun v h=>zpk hT hH hE h⟩
 case nilCheck=>exact light ⟨_,rfl,fun v h=>zwr (C:=C) (H:=H) hE h⟩
 case binOp=>exact light ⟨_,rfl,fun v h=>zw1 (H:=H) hT hE h⟩
 case unOp=>exact light ⟨_,rfl,fun v h=>z32 (C:=C) (H:=H) hE h⟩
 case makeInterface=>exact light ⟨_,rfl,fun v h=>zj2 (H:=H) hT hE h⟩
 case makeFunc=>exact light ⟨_,rfl,fun v h=>zpl (C:=C) (H:=H) hE h⟩
 case slice=>exact light ⟨_,rfl,fun v h=>zj0 hT hH hE h⟩
 case fieldAddr=>exact light ⟨_,rfl,fun v h=>zag (H:=H) hT hE h⟩
 case field=>exact light ⟨_,rfl,fun v h=>zj3 (H:=H) hT hE h⟩
 case indexAddr=>exact light ⟨_,rfl,fun v h=>zaf (H:=H) hT hE h⟩
 case index=>exact light ⟨_,rfl,fun v h=>zj1 (H:=H) hT hE h⟩
 case extract=>exact light ⟨_,rfl,fun v h=>zdf (C:=C) (H:=H) hE h⟩
 case build=>exact light ⟨_,rfl,fun v h=>zj4 (H:=H) hT hE h⟩
 case typeAssert=>exact light ⟨_,rfl,fun v h=>zfx (H:=H) hT hE h⟩
 case lookup=>exact light ⟨_,rfl,fun v h=>zfv hT hH hE h⟩
 case convert s d x=>
  show mJ P C B N μ H w ρ _ (kP s d x C e H)
  cases h:kP s d x C e H with
  | val v H'=>exact Or.inl (zm5 hT hH hE h)
  | fail=>exact trivial
  | _=>
   exfalso
   unfold kP at h;split at h
   ·cases h
   ·revert h;unfold eI;split<;>intro h<;>cases h
 case alloc=>exact val _ rfl fun v H' h=>zxo (e:=e) hT hH h
 case box=>exact val _ rfl fun v H' h=>z6m (C:=C) hH hE h
 case buildSlice=>exact val _ rfl fun v H' h=>zet hT hH hE h
 case store=>exact val _ rfl fun v H' h=>zj9 hT hbase hH hE h
 case makeMap t r=>
  show mJ P C B N μ H w ρ _ (sW r C e H)
  cases r with
  | none=>exact Or.inl (zm4 (C:=C) (e:=e) hH rfl)
  | some x=>exact trivial
 case insert=>exact val _ rfl fun v H' h=>(bX hT hbase hH hE h).2
 case mapUpdate=>exact val _ rfl fun v H' h=>(bX hT hbase hH hE h).1
 case makeSlice=>exact val _ rfl fun v H' h=>zht hT hH hE h
 case panic x=>
  show mJ P C B N μ H w ρ _ (zxn x C e H)
  unfold zxn
  cases hx:ev x e with
  | none=>exact trivial
  | some a=>
   cases hf:a.asIface with
   | none=>simp only[vA,hf,z5s,z3u];exact trivial
   | some p=>
    simp only[vA,hf,z3u];have h1:=hE _ _ hx
    rw[zbd.1 hf,wA]at h1;obtain⟨x',h2,h3⟩:=h1
    refine⟨.iface p.1 x',?_,by rw[wA];exact⟨_,rfl,h3⟩⟩
    simp[execOp,h2,Instr.panic]
 case defer c=>
  show mJ P C B N μ H w ρ _ ((zbu c c.callee).f C e H)
  cases hc:c.callee with
  | value f=>
   show mJ P C B N μ H w ρ _ (z3u (ob (eN f c.args e) fun p=>some (.defer ⟨some p.1,0,eC p.2.1 p.2.2⟩)))
   cases hr:eN f c.args e with
   | none=>exact trivial
   | some p=>
    obtain⟨fn,cap,as,h1,h2,h3,h3'⟩:=zfi (P:=P) (w:=w) (type:=type) hE hc hr
    refine⟨⟨c,rfl⟩,{ target:=.fn fn cap,args:=as },by simp only[execOp,yad,h1,yac,yae],⟨?_⟩⟩
    refine⟨fn,cap,as,rfl,h2,?_⟩
    show yB μ (eC p.2.1 p.2.2) _
    rw[oG];simpa using h3.append h3'
  | _=>exact trivial
 case call c=>
  show mJ P C B N μ H w ρ _ ((lU c c.callee).f C e H)
  cases hc:c.callee with
  | value f=>exact zxm hF hP hH hI hE hc
  | builtin b=>
   cases b
   case append=>
    show mJ P C B N μ H w ρ _ (kU c C e H)
    cases h:kU c C e H with
    | val v H'=>exact Or.inl (zsa hT hbase hH hE hc h)
    | fail=>exact trivial
    | _=>exfalso;revert h;unfold kU eI;split<;>intro h<;>cases h
   case len=>
    show mJ P C B N μ H w ρ _ (lv (zmz c) C e H)
    unfold lv
    cases h:zmz c C e H with
    | none=>exact trivial
    | some v=>exact Or.inl ((zwy hT hH hE hc h).hv hH)
   case max=>
    show mJ P C B N μ H w ρ _ (lv (zwv c) C e H)
    unfold lv
    cases h:zwv c C e H with
    | none=>exact trivial
    | some v=>exact Or.inl ((zwu (C:=C) (H:=H) hE hc h).hv hH)
   case min=>
    show mJ P C B N μ H w ρ _ (lv (zwt c) C e H)
    unfold lv
    cases h:zwt c C e H with
    | none=>exact trivial
    | some v=>exact Or.inl ((zws (C:=C) (H:=H) hE hc h).hv hH)
   case recover=>
    show(execOp ρ ⟨dst,.call c,type,pos,after,guard⟩).run P w=_
    rw[iV hc];rfl
   all_goals exact trivial
  | invoke r m=>exact trivial
 all_goals exact trivial
end
end
section
inductive wF (μ:Mu):oD->Item->Prop
 | code (c:Code):wF μ (.code c) (.code c)
 | inBlock (id:Nat):wF μ (.inBlock id) (.inBlock id)
 | inLoop (c:Code):wF μ (.inLoop c) (.inLoop c)
 | inScope (c:Code):wF μ (.inScope c) (.inScope c)
 | ops (all:Array Oper) (i:Nat) (h:i<=all.size):wF μ (.ops all (all.toList.drop i)) (.inRegion all ((List.range all.size).drop i))
 | inRange (l:Nat) (i:BI) (h:μ l=some i):wF μ (.inRange l) (.inRangeFunc i.b)
 | endRange (l:Nat) (i:BI) (h:μ l=some i):wF μ (.endRange l) (.endRangeFunc i.b)
 | beginRound:wF μ .beginRound .beginRound
def wF.mono{μ ν:Mu}(h:μ.lw ν){a:oD}{b:Item}(k:wF μ a b):wF ν a b:=by
 cases k with
 | code c=>exact .code c
 | inBlock id=>exact .inBlock id
 | inLoop c=>exact .inLoop c
 | inScope c=>exact .inScope c
 | ops all i hi=>exact .ops all i hi
 | inRange l i hl=>exact .inRange l i (h _ _ hl)
 | endRange l i hl=>exact .endRange l i (h _ _ hl)
 | beginRound=>exact .beginRound
structure rS (μ:Mu) (p:qS) (e:PanicEntry):Prop where
 v:wA μ p.v e.v
 recovered:e.recovered=p.recovered
 goexit:e.goexit=false
def rS.mono{μ ν:Mu}(h:μ.lw ν){p:qS}{e:PanicEntry}(k:rS μ p e):rS ν p e:=⟨k.v.mono h _ _,k.recovered,k.goexit⟩
def zef(μ:Mu):zey->FrameMode->Prop
 | .run,.run=>True
 | .returning,.returning=>True
 | .panicking c,.panicking d=>rC (rS μ) c d
 | _,_=>False
def zef.mono{μ ν:Mu}(h:μ.lw ν){a:zey}{b:FrameMode}(k:zef μ a b):zef ν a b:=by
 cases a<;>cases b<;>first | exact rC.mono (fun _ _ r=>rS.mono h r) k | exact k
def uS(μ:Mu):Option Nat->Option Nat->Prop
 | none,none=>True
 | some l,some m=>∃i,μ l=some i/\m=i.b
 | _,_=>False
def uS.mono{μ ν:Mu}(h:μ.lw ν){a b:Option Nat}(k:uS μ a b):uS ν a b:=by
 cases a<;>cases b<;>first | (obtain⟨i,h1,h2⟩:=k;exact⟨i,h _ _ h1,h2⟩) | exact k
structure kF (μ:Mu) (R:fH) (fr:Frame):Prop where
 fn:fr.fn=R.fn
 size:fr.tmps.size=R.n
 defers:rC (zR μ) R.defers fr.defers
 mode:zef μ R.mode fr.mode
 kind:fr.kind=if R.deferred then .deferred else .normal
 round:uS μ R.roundOf fr.roundOf
def kF.mono{μ ν:Mu}(h:μ.lw ν){R:fH}{fr:Frame}(k:kF μ R fr):kF ν R fr:=
 ⟨k.fn,k.size,k.defers.mono fun _ _ r=>r.mono h,k.mode.mono h,k.kind,k.round.mono h⟩
def vI(o:Oper)(j:Nat):Prop:=∃e∈o.after.toList,Region.binds .any e=true/\e.on=j
def z27(ops:Array Oper):(Nat->Bool)->List Nat->Prop
 | S,[]=>∀i,i<ops.size->S i=true
 | S,i::rest=>∃o,ops[i]?=some o/\S i=false/\(∀j,vI o j->S j=true)/\z27 ops (fun k=>S k||k == i) rest
def zva{ops:Array Oper}{listed:Array Bool}{i:Nat}(h:i∈Region.ready .any ops listed):∃o,ops[i]?=some o/\listed.getD i true=false/\∀j,vI o j->listed.getD j false=true:=by
 unfold Region.ready at h;rw[List.mem_filter]at h;obtain⟨h1,h2⟩:=h
 simp only[ybb,ycp]at h2;obtain⟨h2,h3⟩:=h2
 cases ho:ops[i]? with
 | none=>rw[ho]at h3;simp at h3
 | some o=>
  rw[ho]at h3;refine⟨o,rfl,h2,?_⟩
  rintro j ⟨e,he,hb,rfl⟩
  simp only[Option.map_some,Option.getD_some,Array.all_eq_true']at h3;have:=h3 e (by simpa using he)
  rw[hb]at this;simpa using this
def z0n{ops:Array Oper}{listed:Array Bool}{i:Nat}{o:Oper}(ho:ops[i]?=some o)(h1:listed.getD i true=false)(h2:∀j,vI o j->listed.getD j false=true):i∈Region.ready .any ops listed:=by
 unfold Region.ready;rw[List.mem_filter];refine⟨by rw[List.mem_range];exact(ybe.1 ho).1,?_⟩
 rw[h1,ho];simp only[ycl,ycn,Option.map_some,Option.getD_some,Array.all_eq_true'];intro e he
 cases hb:Region.binds .any e with
 | false=>rfl
 | true=>simpa using h2 e.on ⟨e,by simpa using he,hb,rfl⟩
def Back (ops:Array Oper):Prop:=∀i o,ops[i]?=some o->∀j,vI o j->j<i
def zyj{p q:Nat->Bool}(hqp:∀k,q k=true->p k=true){i:Nat}(hp:p i=true)(hq:q i=false):∀l:List Nat,i∈l->l.countP q+1<=l.countP p:=by
 have le:∀l:List Nat,l.countP q<=l.countP p:=fun l=>List.countP_mono_left fun k _ h=>hqp k h
 intro l;induction l with
 | nil=>intro h;cases h
 | cons k l ih=>
  intro h;rw[List.countP_cons,List.countP_cons];rcases ybs.1 h with rfl | h
  ·rw[hp,hq];have:=le l;simp;omega
  ·have:=ih h
   cases hk:q k with
   | true=>rw[hqp k hk];simp;omega
   | false=>simp;omega
def z0h{ops:Array Oper}(hb:Back ops):∀(fuel t:Nat) (listed:Array Bool),listed.size=ops.size →
  (List.range ops.size).countP (fun i => !listed.getD i true)<=fuel →
  z27 ops (fun i=>listed.getD i false) (Region.linearise.go .any ops fuel t listed []):=by
 intro fuel;induction fuel with
 | zero=>
  intro t listed hs hc;simp only[Region.linearise.go,List.reverse_nil];intro i hi;have h0:=Nat.le_zero.1 hc
  rw[List.countP_eq_zero]at h0;have:=h0 i (List.mem_range.2 hi)
  simp only[Bool.not_eq_true,Bool.not_eq_false']at this;have hi':i<listed.size:=by omega
  simpa[Array.getD,hi']using this
 | succ fuel ih=>
  intro t listed hs hc;simp only[Region.linearise.go];change z27 ops _ (match (Region.ready .any ops listed)[t%(Region.ready .any ops listed).length]? with
   | some i=>Region.linearise.go .any ops fuel (t / (Region.ready .any ops listed).length) (listed.setIfInBounds i true) [i]
   | none=>[].reverse)
  cases hi:(Region.ready .any ops listed)[t%(Region.ready .any ops listed).length]? with
  | none=>
   have hnil:Region.ready .any ops listed=[]:=by
    cases hr:Region.ready .any ops listed with
    | nil=>rfl
    | cons x xs=>
     rw[hr]at hi;have hlt:t%(x::xs).length<(x::xs).length:=ycy _ (by simp)
     rw[List.getElem?_eq_none_iff]at hi;omega
   show ∀i,i<ops.size->listed.getD i false=true
   intro i;induction i using Nat.strongRecOn with
   | _ i ihi=>
    intro hlt;refine Classical.byContradiction fun hne=>?_
    have ho:ops[i]?=some ops[i]:=by simp[hlt]
    have hil:i<listed.size:=by omega
    have h1:listed.getD i true=false:=by
     have:listed.getD i false=false:=by simpa using hne
     simpa[Array.getD,hil]using this
    have:=z0n ho h1 fun j hj=>ihi j (hb i _ ho j hj) (Nat.lt_trans (hb i _ ho j hj) hlt)
    rw[hnil]at this;cases this
  | some i=>
   simp only[];rw[linearise_go_acc,List.reverse_singleton,List.singleton_append];obtain⟨o,ho,h1,h2⟩:=zva (ycv hi)
   have hlt:i<ops.size:=(ybe.1 ho).1
   have hil:i<listed.size:=by omega
   refine⟨o,ho,by simpa[Array.getD,hil]using h1,h2,?_⟩
   have key:(fun k=>listed.getD k false||k == i)=fun k=>(listed.setIfInBounds i true).getD k false:=by
    funext k
    simp only[ycx,ycs];by_cases e:i=k
    ·subst e;simp[hil]
    ·rw[yaa e]
     have:(k == i)=false:=by simp;exact fun h=>e h.symm
     simp[this]
   rw[key];refine ih _ _ (by simpa using hs) ?_
   have hcnt:(List.range ops.size).countP (fun k => !(listed.setIfInBounds i true).getD k true)+1<=(List.range ops.size).countP (fun k => !listed.getD k true):=by
    refine zyj (fun k hk=>?_) (i:=i) ?_ ?_ _ (List.mem_range.2 hlt)
    ·simp only[ycp,ycx,ycs]at hk ⊢
     split at hk
     ·rename_i e;subst e;simp at hk
     ·exact hk
    ·simpa using h1
    ·simp[ycx,hil]
   omega
end
section
def zuf(m i:Nat):tb m i=m.testBit i:=by
 have h:Nat.mod (Nat.shiftRight m i) 2=(m >>> i)%2:=rfl
 unfold tb;show Nat.beq ((m >>> i)%2) 1=_
 rw[Nat.testBit,Nat.and_comm,Nat.and_one_is_mod];rcases Nat.mod_two_eq_zero_or_one (m >>> i)with h | h<;>rw[h]<;>rfl
def zbk(i j:Nat):tb (zh8 i) j=(i == j):=by
 rw[zuf];show(1 <<< i).testBit j=_
 rw[Nat.one_shiftLeft,Nat.testBit_two_pow]
 cases h:(i == j)<;>simp_all
def zoh(a b j:Nat):tb (Nat.lor a b) j=(tb a j||tb b j):=by
 rw[zuf,zuf,zuf];exact Nat.testBit_or a b j
def zgw(j:Nat):tb 0 j=false:=by rw[zuf];simp
def lT(e:Edge):bR e=Region.binds .any e:=by
 unfold bR Region.binds
 cases e.ground<;>rfl
def aP(ops:Array Oper)(S:Nat->Bool):Prop:=∀i o,ops[i]?=some o->S i=true->∀j,vI o j->S j=true
def z7n(ops:Array Oper)(k m:Nat):Prop:=∀S,aP ops S->(∀o,ops[k]?=some o->∀j,vI o j->S j=true)->∀j,tb m j=true->S j=true
def zwa{t:Tr Nat}{j:Nat}:∀ {l:List Edge},tb (zft t l) j=true->∃e∈l,Region.binds .any e=true/\(e.on=j\/tb (xH t e.on) j=true):=by
 intro l;induction l with
 | nil=>intro h;simp[zft,zgw]at h
 | cons e l ih=>
  intro h;unfold zft at h
  cases hb:bR e with
  | false=>
   rw[hb]at h;obtain⟨e',h1,h2⟩:=ih h
   exact⟨e',.tail _ h1,h2⟩
  | true=>
   rw[hb]at h;simp only[cond_true,zoh,zbk,ycq,beq_iff_eq]at h;rcases h with(h | h) | h
   ·exact⟨e,.head _,by rw[<- lT];exact hb,.inl h⟩
   ·exact⟨e,.head _,by rw[<- lT];exact hb,.inr h⟩
   ·obtain⟨e',h1,h2⟩:=ih h
    exact⟨e',.tail _ h1,h2⟩
def z11{t:Tr Nat}{i k m:Nat}:xH (t.set i m) k=if k=i then m else xH t k:=by
 unfold xH;rw[Tr.get_set];by_cases h:k=i<;>simp[h]
def zxs{k:Nat}:xH .leaf k=0:=rfl
def kO{α:Type}{l r:List α}{a:α}{i:Nat}(h:a::r=l.drop i):l[i]?=some a/\r=l.drop (i+1):=by
 have h1:(l.drop i)[0]?=some a:=by rw[<- h];rfl
 rw[yde]at h1;refine⟨by simpa using h1,?_⟩
 have:r=(l.drop i).drop 1:=by rw[<- h];rfl
 rw[this,List.drop_drop]
def z2z{ops:Array Oper}:∀(r:List Oper) (i:Nat) (t:Tr Nat),r=ops.toList.drop i->(∀k,z7n ops k (xH t k))->∀k,z7n ops k (xH (z7d r i t) k):=by
 intro r;induction r with
 | nil=>intro i t _ h k;exact h k
 | cons o r ih=>
  intro i t hr h;obtain⟨h1,h2⟩:=kO hr
  refine ih (i+1) _ h2 fun k=>?_
  rw[z11];split
  ·rename_i e;subst e
   intro S hS hp j hj;obtain⟨e,he,hb,hj⟩:=zwa hj
   have ho:ops[k]?=some o:=by simpa using h1
   have hon:=hp o ho e.on ⟨e,he,hb,rfl⟩
   rcases hj with rfl | hj
   ·exact hon
   ·exact h e.on S hS (fun o' ho'=>hS _ o' ho' hon) j hj
  ·exact h k
def zv3{ops:Array Oper}:∀(r:List Oper) (i:Nat),r=ops.toList.drop i->zpa r i=true->∀k o,i<=k->ops[k]?=some o->∀j,vI o j->j<k:=by
 intro r;induction r with
 | nil=>
  intro i hr _ k o hk ho;have:ops.toList.length<=i:=by rw[<- yak];exact hr.symm
  have:=(ybe.1 ho).1
  simp at *;omega
 | cons o r ih=>
  intro i hr h k o' hk ho;obtain⟨h1,h2⟩:=kO hr
  unfold zpa at h;rw[iB]at h;split at h
  ·rename_i h3
   rcases Nat.eq_or_lt_of_le hk with rfl | hk
   ·have:o'=o:=by
     have:ops[i]?=some o:=by simpa using h1
     rw[this]at ho;exact(yci ho).symm
    subst this;rintro j ⟨e,he,hb,rfl⟩
    rw[cG,ycb]at h3;have:=h3 e he
    rw[lT,hb]at this;exact dB.1 this
   ·exact ih (i+1) h2 h k o' hk ho
  ·cases h
def WrOk (ops:Array Oper)(i:Nat)(wr:Tr Nat):Prop:=∀d k,wr.get d=some k ↔ k<i/\∃o,ops[k]?=some o/\o.dst=some d
def z40{ops:Array Oper}:∀(r:List Oper) (i:Nat) (t wr:Tr Nat),r=ops.toList.drop i->i<=ops.size->WrOk ops i t->wrOf r i t=some wr->WrOk ops ops.size wr:=by
 intro r;induction r with
 | nil=>
  intro i t wr hr hi h he
  cases he;have:ops.toList.length<=i:=by rw[<- yak];exact hr.symm
  have:i=ops.size:=by simp at this;omega
  rw[<- this];exact h
 | cons o r ih=>
  intro i t wr hr hi h he;obtain⟨h1,h2⟩:=kO hr
  have ho:ops[i]?=some o:=by simpa using h1
  have hi':i<ops.size:=(ybe.1 ho).1
  unfold wrOf at he
  cases hd:o.dst with
  | none=>
   rw[hd]at he;refine ih (i+1) t wr h2 hi' (fun d k=>?_) he
   rw[h d k];constructor
   ·rintro⟨a,b⟩;exact⟨by omega,b⟩
   ·rintro⟨a,o',ho',hd'⟩
    refine⟨?_,o',ho',hd'⟩
    rcases Nat.lt_succ_iff_lt_or_eq.1 a with a | rfl
    ·exact a
    ·rw[ho]at ho';cases ho';rw[hd]at hd';cases hd'
  | some d0=>
   rw[hd]at he;simp only[]at he
   cases hg:t.get d0 with
   | some x=>rw[hg]at he;cases he
   | none=>
    rw[hg]at he;refine ih (i+1) _ wr h2 hi' (fun d k=>?_) he
    rw[Tr.get_set];by_cases hdd:d=d0
    ·subst hdd
     rw[yab rfl];constructor
     ·intro e;cases e;exact⟨Nat.lt_succ_self _,o,ho,hd⟩
     ·rintro⟨a,o',ho',hd'⟩
      rcases Nat.lt_succ_iff_lt_or_eq.1 a with a | rfl
      ·have:=(h d k).2 ⟨a,o',ho',hd'⟩
       rw[hg]at this;cases this
      ·rfl
    ·rw[yaa hdd,h d k]
     constructor
     ·rintro⟨a,b⟩;exact⟨by omega,b⟩
     ·rintro⟨a,o',ho',hd'⟩
      refine⟨?_,o',ho',hd'⟩
      rcases Nat.lt_succ_iff_lt_or_eq.1 a with a | rfl
      ·exact a
      ·rw[ho]at ho';cases ho';rw[hd]at hd';cases hd';exact absurd rfl hdd
def z0v{ops:Array Oper}{wr anc:Tr Nat}{olds:List (Nat × List Nat)}:∀(r:List Oper) (i:Nat),r=ops.toList.drop i->z0w wr anc olds r i=true →
  ∀k o,i<=k->ops[k]?=some o->zmi (xH anc k) o.guard=true/\∀t∈iF o.op,zv1 wr anc k (kD k olds) t=true:=by
 intro r;induction r with
 | nil=>
  intro i hr _ k o hk ho;have:ops.toList.length<=i:=by rw[<- yak];exact hr.symm
  have:=(ybe.1 ho).1
  simp at *;omega
 | cons o r ih=>
  intro i hr h k o' hk ho;obtain⟨h1,h2⟩:=kO hr
  unfold z0w at h;rw[iB]at h;split at h
  ·rename_i h3
   rw[iB]at h;split at h
   ·rename_i h4
    rcases Nat.eq_or_lt_of_le hk with rfl | hk
    ·have:o'=o:=by
      have:ops[i]?=some o:=by simpa using h1
      rw[this]at ho;exact(yci ho).symm
     subst this;rw[cG,ycb]at h4;exact⟨h3,h4⟩
    ·exact ih (i+1) h2 h k o' hk ho
   ·cases h
  ·cases h
structure fO (ops:Array Oper) (olds:List (Nat × List Nat)) (anc:Tr Nat):Prop where
 back:Back ops
 before:∀k,z7n ops k (xH anc k)
 one:∀(i j:Nat) (o u:Oper) (d:Nat),ops[i]?=some o->ops[j]?=some u->o.dst=some d->u.dst=some d->i=j
 guard:∀(k:Nat) (o:Oper),ops[k]?=some o->zmi (xH anc k) o.guard=true
 name:∀(k:Nat) (o:Oper) (j:Nat) (u:Oper) (t:Nat),ops[k]?=some o->ops[j]?=some u->u.dst=some t->t∈iF o.op->if t∈kD k olds then j=k\/tb (xH anc j) k=true else tb (xH anc k) j=true
def zvz{ops:Array Oper}{p:Plan}(h:vN ops p=true):∃anc D,fO ops p.olds anc/\sK ops.toList p.first 0=some D/\rH ops.toList anc p.stages D=true:=by
 change zmh ops.toList p=true at h
 unfold zmh at h;rw[iB]at h;split at h
 case isFalse=>cases h
 rename_i hb
 cases hw:wrOf ops.toList 0 .leaf with
 | none=>rw[hw]at h;cases h
 | some wr=>
  rw[hw]at h;simp only[]at h;rw[iB]at h;split at h
  case isFalse=>cases h
  rename_i ho
  cases hl:sK ops.toList p.first 0 with
  | none=>rw[hl]at h;cases h
  | some D=>
   rw[hl]at h;have wo:WrOk ops ops.size wr:=z40 _ 0 _ _ rfl (yaw _) (fun d k=>by simp[Tr.get_leaf]) hw
   have oo:=z0v _ 0 (by rfl) ho
   have wr':∀k o d,ops[k]?=some o->o.dst=some d->wr.get d=some k:=fun k o d h1 h2=>(wo d k).2 ⟨(ybe.1 h1).1,o,h1,h2⟩
   refine⟨_,D,⟨fun i o h1=>zv3 _ 0 rfl hb i o (yaw _) h1,z2z _ 0 _ rfl fun k S _ _ j hj=>?_,?_,fun k o h1=>(oo k o (yaw _) h1).1,?_⟩,rfl,h⟩
   ·rw[zxs,zgw]at hj;cases hj
   ·intro i j o u d h1 h2 h3 h4
    have a:=wr' i o d h1 h3
    rw[wr' j u d h2 h4]at a;exact(yci a).symm
   ·intro k o j u t h1 h2 h3 h4
    have a:=(oo k o (yaw _) h1).2 t h4
    unfold zv1 at a;rw[wr' j u t h2 h3]at a;simp only[]at a;rw[iB]at a;by_cases hm:pF t (kD k p.olds)=true
    ·rw[yab hm]at a
     rw[yab ((aN _ _).1 hm)]
     rw[iB]at a;split at a
     ·rename_i e;exact .inl (pB.1 e)
     ·exact .inr a
    ·rw[yaa hm]at a
     rw[yaa fun e=>hm ((aN _ _).2 e)]
     exact a
def cV{ops:Array Oper}{i D D':Nat}(h:wP ops.toList i D=some D'):∃o,ops[i]?=some o/\tb D i=false/\(∀j,vI o j->tb D j=true)/\∀k,tb D' k=(tb D k||k == i):=by
 unfold wP at h;rw[uA]at h;obtain⟨o,h1,h2⟩:=h
 rw[oF]at h1;rw[zB]at h2;obtain⟨h2,h3⟩:=h2
 cases h3;rw[iB]at h2;split at h2
 ·cases h2
 ·rename_i h4
  refine⟨o,by simpa using h1,by simpa using h4,?_,fun k=>by rw[zoh,zbk];congr 1;exact Bool.beq_comm⟩
  rintro j ⟨e,he,hb,rfl⟩
  unfold zzy at h2;rw[cG,ycb]at h2;have:=h2 e he
  rw[lT,hb]at this;exact this
def zv0{ops:Array Oper}{h D:Nat}:∀(r:List Oper) (i:Nat),r=ops.toList.drop i->zo9 h D r i=true →
  ∀k o,i<=k->ops[k]?=some o->tb D k=false->(∀j,vI o j->tb D j=true)->k=h:=by
 intro r;induction r with
 | nil=>
  intro i hr _ k o hk ho;have:ops.toList.length<=i:=by rw[<- yak];exact hr.symm
  have:=(ybe.1 ho).1
  simp at *;omega
 | cons o r ih=>
  intro i hr h k o' hk ho;obtain⟨h1,h2⟩:=kO hr
  unfold zo9 at h;rw[iB]at h;split at h
  ·rename_i h3
   rcases Nat.eq_or_lt_of_le hk with rfl | hk
   ·have:o'=o:=by
     have:ops[i]?=some o:=by simpa using h1
     rw[this]at ho;exact(yci ho).symm
    subst this;intro hD hj;rw[hD]at h3;simp only[cond_false]at h3;rw[iB]at h3;split at h3
    ·rename_i e;exact pB.1 e
    ·exfalso
     have:zzy D o'=true:=by
      unfold zzy;rw[cG,ycb];intro e he
      cases hb:bR e with
      | false=>rfl
      | true=>exact hj e.on ⟨e,he,by rw[<- lT];exact hb,rfl⟩
     rw[this]at h3;cases h3
   ·exact ih (i+1) h2 h k o' hk ho
  ·cases h
def zrw{ops:Array Oper}{m D:Nat}{again:List Nat}:∀(r:List Oper) (i:Nat),r=ops.toList.drop i->zhe m D again r i=true →
  ∀k o,i<=k->ops[k]?=some o->tb D k=true->tb m k=true\/xN o.op=true\/wI o.op=true\/k∈again:=by
 intro r;induction r with
 | nil=>
  intro i hr _ k o hk ho;have:ops.toList.length<=i:=by rw[<- yak];exact hr.symm
  have:=(ybe.1 ho).1
  simp at *;omega
 | cons o r ih=>
  intro i hr h k o' hk ho;obtain⟨h1,h2⟩:=kO hr
  unfold zhe at h;rw[iB]at h;split at h
  ·rename_i h3
   rcases Nat.eq_or_lt_of_le hk with rfl | hk
   ·have:o'=o:=by
     have:ops[i]?=some o:=by simpa using h1
     rw[this]at ho;exact(yci ho).symm
    subst this;intro hD;rw[hD]at h3;simp only[cond_true]at h3;rw[iB]at h3;split at h3
    ·rename_i e;exact .inl e
    ·rw[iB]at h3
     split at h3
     ·rename_i e;exact .inr (.inl e)
     ·rw[iB]at h3
      split at h3
      ·rename_i e;exact .inr (.inr (.inl e))
      ·exact .inr (.inr (.inr ((aN _ _).1 h3)))
   ·exact ih (i+1) h2 h k o' hk ho
  ·cases h
def z0x{ops:Array Oper}{D:Nat}:∀(r:List Oper) (i:Nat),r=ops.toList.drop i->z0y D r i=true->∀k,i<=k->k<ops.size->tb D k=true:=by
 intro r;induction r with
 | nil=>
  intro i hr _ k hk ho;have:ops.toList.length<=i:=by rw[<- yak];exact hr.symm
  simp at *;omega
 | cons o r ih=>
  intro i hr h k hk ho;obtain⟨h1,h2⟩:=kO hr
  unfold z0y at h;rw[iB]at h;split at h
  ·rename_i h3
   rcases Nat.eq_or_lt_of_le hk with rfl | hk
   ·exact h3
   ·exact ih (i+1) h2 h k hk ho
  ·cases h
def zjo{ops:Array Oper}{anc:Tr Nat}{D:Nat}(h:rH ops.toList anc [] D=true):∀k,k<ops.size->tb D k=true:=
 fun k hk=>z0x _ 0 rfl h k (yaw _) hk
def pX{ops:Array Oper}{anc:Tr Nat}{D:Nat}{st:xE}{r:List xE}(h:rH ops.toList anc (st::r) D=true)(hlt:st.heavy<=ops.size) :
  (∀k o,ops[k]?=some o->tb D k=false->(∀j,vI o j->tb D j=true)->k=st.heavy) ∧
  (∀k o,ops[k]?=some o->tb D k=true->tb (xH anc st.heavy) k=true\/xN o.op=true\/wI o.op=true\/k∈st.again) ∧
  ∃D1 D2,wP ops.toList st.heavy D=some D1/\sK ops.toList st.lights D1=some D2/\rH ops.toList anc r D2=true:=by
 unfold rH at h;rw[iB,yaa fun e=>by have:=dB.1 e;rw[gC]at this;simp at this;omega,iB]at h
 split at h
 case isFalse=>cases h
 rename_i h1;rw[iB]at h;split at h
 case isFalse=>cases h
 rename_i h2;refine⟨fun k o a b c=>zv0 _ 0 rfl h1 k o (yaw _) a b c,fun k o a b=>zrw _ 0 rfl h2 k o (yaw _) a b,?_⟩
 cases h3:wP ops.toList st.heavy D with
 | none=>rw[h3]at h;cases h
 | some D1=>
  rw[h3]at h;simp only[vA]at h
  cases h4:sK ops.toList st.lights D1 with
  | none=>rw[h4]at h;cases h
  | some D2=>rw[h4]at h;exact⟨D1,D2,rfl,h4,h⟩
def zeq{ops:Array Oper}{anc:Tr Nat}{D:Nat}{st:xE}{r:List xE}(h:rH ops.toList anc (st::r) D=true)(hlt:ops.size<st.heavy)(hle:st.heavy<=ops.size+ops.size) :
  ∃o D1 D2,ops[st.heavy-(ops.size+1)]?=some o/\wI o.op=true/\wP ops.toList (st.heavy-(ops.size+1)) D=some D1/\sK ops.toList st.lights D1=some D2/\rH ops.toList anc r D2=true:=by
 have e0:Nat.sub st.heavy (Nat.succ (aA ops.toList))=st.heavy-(ops.size+1):=by rw[gC];simp
 unfold rH at h;rw[iB,yab (dB.2 (by rw[gC];simpa using hlt)),iB,yaa (fun e=>by have:=dB.1 e;rw[gC]at this;simp at this;omega),iB,e0]at h
 split at h
 case isFalse=>cases h
 rename_i h1
 cases h3:wP ops.toList (st.heavy-(ops.size+1)) D with
 | none=>rw[h3]at h;cases h
 | some D1=>
  rw[h3]at h;simp only[vA]at h
  cases h4:sK ops.toList st.lights D1 with
  | none=>rw[h4]at h;cases h
  | some D2=>
   rw[h4]at h;rw[oF]at h1
   cases ho:ops.toList[st.heavy-(ops.size+1)]? with
   | none=>rw[ho]at h1;cases h1
   | some o=>rw[ho]at h1;exact⟨o,D1,D2,by simpa using ho,h1,rfl,h4,h⟩
structure zn7 (ops:Array Oper) (anc:Tr Nat) (D:Nat) (G:List Nat) (D1:Nat):Prop where
 op:∀i∈G,∃o,ops[i]?=some o/\tb D i=false/\(∀j,vI o j->tb D j=true)/\o.dst=none
 nodup:G.Nodup
 done:∀k,tb D1 k=(tb D k||decide (k∈G))
 rest:∀k o,ops[k]?=some o->tb D1 k=false->(∀g∈G,tb (xH anc k) g=true)\/¬ ∀j,vI o j->tb D1 j=true
 again:∀k o,ops[k]?=some o->tb D k=true->xN o.op=true\/wI o.op=true\/zj7 o.op=true\/∀g∈G,tb (xH anc g) k=true
def zof{D:Nat}{o:Oper}:zzy D o=true ↔ ∀j,vI o j->tb D j=true:=by
 unfold zzy;rw[cG,ycb];constructor
 ·rintro h j ⟨e,he,hb,rfl⟩
  have:=h e he
  rw[lT,hb]at this;exact this
 ·intro h e he
  cases hb:bR e with
  | false=>rfl
  | true=>exact h e.on ⟨e,he,by rw[<- lT];exact hb,rfl⟩
def okG_ok{ops:Array Oper}{D:Nat}:∀ {G:List Nat} {E D1:Nat},okG ops.toList D G E=some D1->(∀k,tb D k=true->tb E k=true) →
  (∀i∈G,∃o,ops[i]?=some o/\tb E i=false/\(∀j,vI o j->tb D j=true)/\o.dst=none)/\G.Nodup/\∀k,tb D1 k=(tb E k||decide (k∈G)):=by
 intro G;induction G with
 | nil=>intro E D1 h _;cases h;exact⟨fun i hi=>(by cases hi),List.nodup_nil,fun k=>by simp⟩
 | cons i G ih=>
  intro E D1 h hDE;unfold okG at h;simp only[uA,zB,ybb,ycp,oF]at h;obtain⟨o,ho,⟨⟨h1,h2⟩,h3⟩,h⟩:=h
  have hE:∀k,tb (Nat.lor E (zh8 i)) k=(tb E k||i == k):=fun k=>by rw[zoh,zbk]
  obtain⟨g1,g2,g3⟩:=ih h (fun k hk=>by rw[hE,hDE k hk];rfl)
  have hni:i∉G:=fun hi=>by
   obtain⟨_,_,h4,_⟩:=g1 i hi
   rw[hE]at h4;simp at h4
  refine⟨fun j hj=>?_,List.nodup_cons.2 ⟨hni,g2⟩,fun k=>?_⟩
  ·rcases ybs.1 hj with rfl | hj
   ·refine⟨o,by simpa using ho,h1,zof.1 h2,?_⟩
    cases hd:o.dst with
    | none=>rfl
    | some d=>rw[hd]at h3;cases h3
   ·obtain⟨u,a,b,c,d⟩:=g1 j hj
    rw[hE]at b;simp only[yal]at b;exact⟨u,a,b.1,c,d⟩
  ·rw[g3,hE,Bool.or_assoc]
   congr 1
   by_cases e:k=i
   ·subst e;simp
   ·have:(i == k)=false:=by simpa using fun h=>e h.symm
    simp[this,e]
def zvy{ops:Array Oper}{anc:Tr Nat}{D1:Nat}{G:List Nat}:∀(r:List Oper) (i:Nat),r=ops.toList.drop i->zo8 anc D1 G r i=true →
  ∀k o,i<=k->ops[k]?=some o->tb D1 k=false->(∀g∈G,tb (xH anc k) g=true)\/¬ ∀j,vI o j->tb D1 j=true:=by
 intro r;induction r with
 | nil=>
  intro i hr _ k o hk ho;have:ops.toList.length<=i:=by rw[<- yak];exact hr.symm
  have:=(ybe.1 ho).1
  simp at *;omega
 | cons o r ih=>
  intro i hr h k o' hk ho;obtain⟨h1,h2⟩:=kO hr
  unfold zo8 at h;rw[iB]at h;split at h
  case isFalse=>cases h
  rename_i h3;rcases Nat.eq_or_lt_of_le hk with rfl | hk
  ·have:o'=o:=by
    have:ops[i]?=some o:=by simpa using h1
    rw[this]at ho;exact(yci ho).symm
   subst this;intro hD;rw[hD]at h3;simp only[cond_false]at h3;rw[iB]at h3;split at h3
   ·rename_i e
    rw[cG,ycb]at e;exact .inl e
   ·refine .inr fun hj=>?_
    rw[zof.2 hj]at h3;cases h3
  ·exact ih (i+1) h2 h k o' hk ho
def zmj{ops:Array Oper}{anc:Tr Nat}{D:Nat}{G:List Nat}:∀(r:List Oper) (i:Nat),r=ops.toList.drop i->zbq anc D G r i=true →
  ∀k o,i<=k->ops[k]?=some o->tb D k=true->xN o.op=true\/wI o.op=true\/zj7 o.op=true\/∀g∈G,tb (xH anc g) k=true:=by
 intro r;induction r with
 | nil=>
  intro i hr _ k o hk ho;have:ops.toList.length<=i:=by rw[<- yak];exact hr.symm
  have:=(ybe.1 ho).1
  simp at *;omega
 | cons o r ih=>
  intro i hr h k o' hk ho;obtain⟨h1,h2⟩:=kO hr
  unfold zbq at h;rw[iB]at h;split at h
  case isFalse=>cases h
  rename_i h3;rcases Nat.eq_or_lt_of_le hk with rfl | hk
  ·have:o'=o:=by
    have:ops[i]?=some o:=by simpa using h1
    rw[this]at ho;exact(yci ho).symm
   subst this;intro hD;rw[hD]at h3;simp only[cond_true]at h3;rw[iB]at h3;split at h3
   ·rename_i e;exact .inl e
   ·rw[iB]at h3
    split at h3
    ·rename_i e;exact .inr (.inl e)
    ·rw[iB]at h3
     split at h3
     ·rename_i e;exact .inr (.inr (.inl e))
     ·rw[cG,ycb]at h3
      exact .inr (.inr (.inr h3))
  ·exact ih (i+1) h2 h k o' hk ho
def zep{ops:Array Oper}{anc:Tr Nat}{D:Nat}{st:xE}{r:List xE}(h:rH ops.toList anc (st::r) D=true)(hlt:ops.size+ops.size<st.heavy) :
  ∃D1 D2,zn7 ops anc D st.again D1/\sK ops.toList st.lights D1=some D2/\rH ops.toList anc r D2=true:=by
 unfold rH at h;rw[iB,yab (dB.2 (by rw[gC];simp;omega)),iB,yab (dB.2 (by rw[gC];simpa using hlt))]at h
 split at h
 case h_2=>cases h
 rename_i D2 hg;unfold zv2 at hg;simp only[uA,zB,ybb]at hg;obtain⟨D1,h1,⟨h2,h3⟩,h4⟩:=hg
 obtain⟨g1,g2,g3⟩:=okG_ok h1 fun _ h=>h
 exact⟨D1,D2,⟨g1,g2,g3,fun k o a b=>zvy _ 0 rfl h2 k o (yaw _) a b,fun k o a b=>zmj _ 0 rfl h3 k o (yaw _) a b⟩,h4,h⟩
end
section
section
variable {P:Program}{C:oA}{μ:Mu}{all:Array Oper}{olds:List (Nat × List Nat)}{anc:Tr Nat}{n:Nat}{old tm:Tm}{D:Nat}{S:Nat->Bool}{order:List Nat}{tmps:Array Value}{ds:List Deferred}
def fW:wA μ tD undef:=by rw[tD,wA];exact⟨#[],rfl,rfl⟩
def zx3{e:nC}(hg:∀g,g<256->μ g=some ⟨g,true,0,0,true⟩)(ht:∀t v,zzj t e=some v->wA μ v (tmps.getD t undef)):kE μ e (Act.eval ⟨tmps,ds⟩):=by
 intro x v h
 cases x with
 | tmp t=>exact ht t v h
 | const c=>exact zmk h
 | global g=>
  change zlb g e=some v at h
  unfold zlb at h;rw[iB]at h;split at h
  ·rename_i hlt
   cases h;rw[wA];exact⟨_,hg g (dB.1 hlt),rfl⟩
  ·cases h
 | func f=>
  change xFunc f e=some v at h
  cases h;rw[wA];exact⟨.func f,#[],#[],rfl,rfl,rfl,rfl⟩
def fD.erel(hg:∀g,g<256->μ g=some ⟨g,true,0,0,true⟩)(h:fD μ n tm tmps):kE μ (.now tm) (Act.eval ⟨tmps,ds⟩):=
 zx3 hg fun t v hv=>h.2 t v hv
def Tm.get_set{t:Tm}{i j:Nat}{x:zA}:(t.set i x).get j=if j=i then some x else t.get j:=by
 unfold Tm.set Tm.get;simp only[bG];by_cases h:Nat.blt i t.k=true
 ·rw[yab h]
  simp only[];by_cases hj:j=i
  ·subst hj;rw[yab h,yab rfl,Tr.get_set,yab rfl]
  ·rw[yaa hj,Tr.get_set,yaa hj]
 ·rw[yaa h]
  simp only[];have as:z2x j ((i,x)::t.t)=if j=i then some x else z2x j t.t:=by
   show(Bool.rec (motive:=fun _=>Option zA) (z2x j t.t) (some x) (Nat.beq j i))=_
   rw[bG];by_cases hj:j=i
   ·rw[yab (pB.2 hj),yab hj]
   ·rw[yaa (fun e=>hj (pB.1 e)),yaa hj]
  by_cases hj:j=i
  ·subst hj;rw[yaa h,yab rfl,as,yab rfl]
  ·rw[yaa hj]
   rw[as,yaa hj]
def yH{dst:Option Nat}{v:zA}{t:Nat}:(putA n tm dst v).get t=if dst=some t/\t<n then some v else tm.get t:=by
 unfold putA putB
 cases dst with
 | none=>simp[putNo]
 | some d=>
  simp only[z0q];rw[iB];by_cases h:Nat.blt d n=true
  ·rw[yab h,Tm.get_set]
   by_cases e:t=d
   ·subst e;rw[yab rfl,yab ⟨rfl,dB.1 h⟩]
   ·rw[yaa e,yaa fun k=>e (yci k.1).symm]
  ·rw[yaa h,yaa]
   rintro⟨e,h2⟩
   cases e
   exact h (dB.2 h2)
def qL(tm old:Tm)(olds:List (Nat × List Nat))(i:Nat)(o:Oper):nC:=.mixed tm old (kD i olds) (iF o.op)
structure eE (μ:Mu) (all:Array Oper) (olds:List (Nat × List Nat)) (anc:Tr Nat) (n:Nat) (old tm:Tm) (D:Nat) (S:Nat->Bool) (order:List Nat) (tmps:Array Value):Prop where
 reg:fO all olds anc
 sched:z27 all S order
 sub:∀i,S i=true->tb D i=true
 closed:aP all S
 dclosed:aP all (tb D)
 size:tmps.size=n
 now:∀(i:Nat) (o:Oper) (d:Nat) (v:zA),all[i]?=some o->o.dst=some d->S i=true->d<n->tm.get d=some v->wA μ v (tmps.getD d undef)
 past:∀(d:Nat) (v:zA),d<n->(∀(i:Nat) (o:Oper),all[i]?=some o->o.dst=some d->S i=false)->old.get d=some v->wA μ v (tmps.getD d undef)
 keep:∀d:Nat,d<n->(∀(i:Nat) (o:Oper),all[i]?=some o->o.dst=some d->tb D i=false)->tm.get d=old.get d
 big:∀(d:Nat) (v:zA),n<=d->(tm.get d=some v\/old.get d=some v)->wA μ v undef
def fO.up(R:fO all olds anc)(hS:aP all S){i j:Nat}{o:Oper}(ho:all[i]?=some o)(hp:∀j,vI o j->S j=true)(h:tb (xH anc i) j=true):S j=true:=
 R.before i S hS (fun o' ho'=>by rw[ho]at ho';cases ho';exact hp) j h
def iU{d:Nat}(h:tmps.size<=d):tmps.getD d undef=undef:=by
 simp[Array.getD,Nat.not_lt.2 h]
def eE.erel(R:eE μ all olds anc n old tm D S order tmps)(hg:∀g,g<256->μ g=some ⟨g,true,0,0,true⟩){i:Nat}{o:Oper}(ho:all[i]?=some o)(hi:S i=false)(hp:∀j,vI o j->S j=true) :
  kE μ (qL tm old olds i o) (Act.eval ⟨tmps,ds⟩):=by
 refine zx3 hg fun t v h=>?_
 unfold qL at h;simp only[zzj]at h;rw[iB]at h;split at h
 case isFalse=>cases h
 rename_i hn;have hn:=(aN _ _).1 hn
 by_cases hd:t<n
 ·by_cases hw:∃(j:Nat) (u:Oper),all[j]?=some u/\u.dst=some t
  ·obtain⟨j,u,hu,hud⟩:=hw
   have nm:=R.reg.name i o j u t ho hu hud hn
   by_cases hold:t∈kD i olds
   ·rw[yab hold]at nm
    rw[(aN _ _).2 hold]at h
    simp only[cond_true]at h;have hj:S j=false:=by
     rcases nm with rfl | nm
     ·exact hi
     ·cases hj:S j with
      | false=>rfl
      | true=>
       have:=R.reg.up R.closed hu (fun k hk=>R.closed j u hu hj k hk) nm
       rw[hi]at this;cases this
    refine R.past t v hd (fun i' o' ho' hd'=>?_) h
    have:=R.reg.one i' j o' u t ho' hu hd' hud
    rw[this];exact hj
   ·rw[yaa hold]at nm
    have:pF t (kD i olds)=false:=by
     cases hm:pF t (kD i olds)with
     | false=>rfl
     | true=>exact absurd ((aN _ _).1 hm) hold
    rw[this]at h;simp only[cond_false]at h;exact R.now j u t v hu hud (R.reg.up R.closed ho hp nm) hd h
  ·have none1:∀(i:Nat) (o:Oper),all[i]?=some o->o.dst=some t->S i=false:=fun i o h1 h2=>absurd ⟨i,o,h1,h2⟩ hw
   have k:=R.keep t hd fun i o h1 h2=>absurd ⟨i,o,h1,h2⟩ hw
   refine R.past t v hd none1 ?_
   cases hm:pF t (kD i olds)with
   | false=>rw[hm]at h;rw[<- k];exact h
   | true=>rw[hm]at h;exact h
 ·rw[iU (by rw[R.size];omega)]
  refine R.big t v (by omega) ?_
  cases hm:pF t (kD i olds)with
  | false=>rw[hm]at h;exact .inl h
  | true=>rw[hm]at h;exact .inr h
def zik{v:zA}{b:Bool}(h:wA μ v (.bool b)):v=.bool b:=by
 cases v<;>rw[wA]at h
 case bool=>cases h;rfl
 all_goals simp at h
def eE.wanted(R:eE μ all olds anc n old tm D S order tmps){i:Nat}{o:Oper}{w:Bool}(ho:all[i]?=some o)(hp:∀j,vI o j->S j=true)(h:jE o.guard all tm=some w) :
  Region.wanted o (yielded all tmps)=w:=by
 have hgd:=R.reg.guard i o ho
 unfold jE zto at h;unfold Region.wanted
 cases hg:o.guard with
 | none=>rw[hg]at h;cases h;rfl
 | some jw=>
  obtain⟨j,want⟩:=jw
  rw[hg]at h hgd;simp only[zij,uA,oF]at h;obtain⟨d,⟨u,hu,hud⟩,v,hv,h⟩:=h
  have hu':all[j]?=some u:=by simpa using hu
  have hj:S j=true:=R.reg.up R.closed ho hp hgd
  have hy:yielded all tmps j=match tmps[d]? with | some (.bool b)=>some b | _=>none:=by
   unfold yielded;rw[hu'];simp[hud]
   rfl
  simp only[];rw[hy];by_cases hd:d<n
  ·have hs:d<tmps.size:=by rw[R.size];exact hd
   have rel:=R.now j u d v hu' hud hj hd hv
   have e1:tmps[d]?=some (tmps.getD d undef):=by simp[Array.getD,hs]
   rw[e1];generalize tmps.getD d undef=x at rel
   cases hb:v.asBool with
   | some b=>
    rw[hb]at h;have:v=.bool b:=by cases v<;>simp[zA.asBool]at hb;rw[hb]
    rw[this,wA]at rel;subst rel;simp only[Option.some.injEq]at h;rw[<- h,fQ]
    cases b<;>cases want<;>rfl
   | none=>
    rw[hb]at h
    cases h
    cases x with
    | bool b=>rw[zik rel]at hb;cases hb
    | _=>rfl
  ·have e1:tmps[d]?=none:=by simp[R.size];omega
   rw[e1];have rel:=R.big d v (by omega) (.inl hv)
   cases hb:v.asBool with
   | some b=>
    have:v=.bool b:=by cases v<;>simp[zA.asBool]at hb;rw[hb]
    rw[this,wA]at rel
    cases rel
   | none=>rw[hb]at h;cases h;rfl
def eE.did{i:Nat}{D':Nat}{tm':Tm}{v:zA}{v':Value}{o:Oper}(R:eE μ all olds anc n old tm D S (i::order) tmps)(ho:all[i]?=some o)
  (hD:∀k,tb D' k=(tb D k||k == i)) (hput:∀d,o.dst=some d->d<n->tm'.get d=some v) (hother:∀d,(o.dst=some d->n<=d)->tm'.get d=tm.get d) (hv:wA μ v v') :
  eE μ all olds anc n old tm' D' (fun k=>S k||k == i) order (Act.put ⟨tmps,ds⟩ o.dst v').tmps:=by
 obtain⟨o',ho',hi,hp,hs⟩:=R.sched
 rw[ho]at ho';cases ho'
 have htm:∀d,(Act.put ⟨tmps,ds⟩ o.dst v').tmps.getD d undef=if o.dst=some d/\d<n then v' else tmps.getD d undef:=by
  intro d;unfold Act.put
  cases hd:o.dst with
  | none=>simp
  | some d0=>
   simp only[ycx,ycs];by_cases e:d0=d
   ·subst e
    by_cases hn:d0<n
    ·simp[hn,R.size]
    ·simp[hn,R.size]
   ·simp[e]
 have hsz:(Act.put ⟨tmps,ds⟩ o.dst v').tmps.size=n:=by
  unfold Act.put
  cases o.dst<;>simp[R.size]
 refine⟨R.reg,hs,fun k hk=>?_,?_,?_,hsz,?_,?_,?_,?_⟩
 ·rw[hD]
  simp only[ycq]at hk ⊢
  exact hk.imp (R.sub k) id
 ·intro k u hu hk j hj
  simp only[ycq,beq_iff_eq]at hk ⊢
  rcases hk with hk | rfl
  ·exact .inl (R.closed k u hu hk j hj)
  ·rw[ho]at hu;cases hu
   exact .inl (hp j hj)
 ·intro k u hu hk j hj
  rw[hD]at hk ⊢
  simp only[ycq,beq_iff_eq]at hk ⊢
  rcases hk with hk | rfl
  ·exact .inl (R.dclosed k u hu hk j hj)
  ·rw[ho]at hu;cases hu
   exact .inl (R.sub j (hp j hj))
 ·intro k u d x hu hud hk hd hx
  rw[htm];by_cases e:o.dst=some d
  ·rw[yab ⟨e,hd⟩]
   rw[hput d e hd]at hx;cases hx;exact hv
  ·rw[yaa fun h=>e h.1]
   rw[hother d fun h=>absurd h e]at hx;refine R.now k u d x hu hud ?_ hd hx
   simp only[ycq,beq_iff_eq]at hk;rcases hk with hk | rfl
   ·exact hk
   ·rw[ho]at hu;cases hu;exact absurd hud e
 ·intro d x hd hw hx
  rw[htm];have e:o.dst≠some d:=fun e=>by
   have:=hw i o ho e
   simp at this
  rw[yaa fun h=>e h.1];refine R.past d x hd (fun k u hu hud=>?_) hx
  have:=hw k u hu hud
  simp only[yal]at this;exact this.1
 ·intro d hd hw
  have e:o.dst≠some d:=fun e=>by
   have:=hw i o ho e
   rw[hD]at this;simp at this
  rw[hother d fun h=>absurd h e];refine R.keep d hd fun k u hu hud=>?_
  have:=hw k u hu hud
  rw[hD]at this;simp only[yal]at this;exact this.1
 ·intro d x hd hx
  refine R.big d x hd ?_
  rw[hother d fun _=>hd]at hx;exact hx
end
end
end Go.Am
namespace Go.Am.HM
open Go Go.Am
def HLe (H H':xA):Prop:=∀b y,H.t.get b=some y->H'.t.get b=some y
section
variable {H HA:xA}{e:nC}{C:oA}{v:zA}
def cL(h:HLe H HA){b:Nat}{p:Tr zA × Nat × Option Lo}(hb:fC H b=some p):fC HA b=some p:=by
 unfold fC at hb ⊢;rw[uA]at hb ⊢;obtain⟨y,h1,h2⟩:=hb;exact⟨y,h _ _ h1,h2⟩
def mT(h:HLe H HA){b:Nat}{p:List (zA × zA)}(hb:bH H b=some p):bH HA b=some p:=by
 unfold bH at hb ⊢;rw[uA]at hb ⊢;obtain⟨y,h1,h2⟩:=hb;exact⟨y,h _ _ h1,h2⟩
def zax(h:HLe H HA){s d:uC}{a:zA}(hx:gL C s d a H=some v):gL C s d a HA=some v:=by
 unfold gL at hx ⊢
 split at hx
 ·rename_i k hk;exact hx
 ·rename_i hk
  rw[zB]at hx ⊢
  refine⟨hx.1,?_⟩
  have hx:=hx.2
  rw[iB]at hx ⊢
  split at hx
  ·rename_i e;rw[yab e];exact hx
  ·rename_i e
   rw[yaa e];simp only[uA,zB]at hx ⊢
   obtain⟨a1,h1,b1,h2,k1,h3,h4,h5⟩:=hx
   refine⟨a1,h1,b1,h2,k1,h3,h4,?_⟩
   unfold uT at h5 ⊢
   split at h5
   ·simp only[uA]at h5 ⊢
    obtain⟨c,g1,g2⟩:=h5
    exact⟨c,cL h g1,g2⟩
   ·exact h5
def zel(h:HLe H HA){b size cap l:Nat}{arr:Bool}(hx:sH H b size cap l arr=true):sH HA b size cap l arr=true:=by
 unfold sH at hx ⊢
 cases hc:fC H b with
 | none=>rw[hc]at hx;cases hx
 | some c=>rw[hc]at hx;rw[cL h hc];exact hx
def aY(h:HLe H HA){ty:uC}{a:zA}{l r:Option zA}(hx:iJ C H ty a l r=some v):iJ C HA ty a l r=some v:=by
 have row:∀ {arr e b off len cap},fK C H arr e b off len cap l r=some v->fK C HA arr e b off len cap l r=some v:=by
  intro arr e b off len cap hx;unfold fK at hx ⊢
  simp only[uA]at hx ⊢
  obtain⟨a1,h1,b1,h2,hx⟩:=hx
  refine⟨a1,h1,b1,h2,?_⟩
  cases hb:fC H b with
  | none=>
   have e1:rI H b a1.size cap b1.1 arr=false:=by unfold rI;rw[hb]
   have e2:sH H b a1.size cap b1.1 arr=false:=by unfold sH;rw[hb]
   rw[e1,e2,yay,yay]at hx
   cases hx
  | some c=>
   have e1:rI HA b a1.size cap b1.1 arr=rI H b a1.size cap b1.1 arr:=by unfold rI;rw[hb,cL h hb]
   have e2:sH HA b a1.size cap b1.1 arr=sH H b a1.size cap b1.1 arr:=by unfold sH;rw[hb,cL h hb]
   rw[e1,e2];exact hx
 unfold iJ at hx ⊢
 split at hx
 ·exact hx
 ·split at hx
  ·rw[uA]at hx ⊢;obtain⟨a1,h1,h2⟩:=hx;exact⟨a1,h1,row h2⟩
  ·split at hx
   ·rw[uA]at hx ⊢;obtain⟨a1,h1,h2⟩:=hx;exact⟨a1,h1,row h2⟩
   ·exact hx
def zas(h:HLe H HA){m:zA}{l:List (zA × zA)}(hx:zO H m=some l):zO HA m=some l:=by
 unfold zO at hx ⊢
 split at hx
 ·exact mT h hx
 ·exact hx
def zdd(h:HLe H HA){ty:uC}{a:zA}{n:Nat}(hx:zth H ty a=some n):zth HA ty a=some n:=by
 unfold zth at hx ⊢
 split at hx
 ·exact hx
 ·split at hx
  ·exact hx
  ·split at hx
   ·exact hx
   ·split at hx
    ·rw[zB,uA]at hx ⊢
     obtain⟨h1,l,h2,h3⟩:=hx
     exact⟨h1,l,mT h h2,h3⟩
    ·exact hx
def alight_mono(h:HLe H HA){o:Op}(hx:(mE o).f C e H=some v):(mE o).f C e HA=some v:=by
 cases o<;>first | exact hx | skip
 case makeFunc fn a b=>cases fn<;>exact hx
 case load t a=>
  change uO t a C e H=some v at hx
  show uO t a C e HA=some v
  unfold uO at hx ⊢
  simp only[uA]at hx ⊢
  obtain⟨a1,h1,p,h2,y,h3,c,h4,h5⟩:=hx
  exact⟨a1,h1,p,h2,y,h3,c,cL h h4,h5⟩
 case convert s d x=>
  change oK s d x C e H=some v at hx
  show oK s d x C e HA=some v
  unfold oK at hx ⊢
  simp only[uA]at hx ⊢
  obtain⟨a1,h1,b1,h2,c1,h3,h4⟩:=hx
  exact⟨a1,h1,b1,h2,c1,h3,zax h h4⟩
 case slice t x lo hi mx=>
  cases mx with
  | some m=>exact hx
  | none=>
   change nQ t x lo hi C e H=some v at hx
   show nQ t x lo hi C e HA=some v
   unfold nQ at hx ⊢
   simp only[uA]at hx ⊢
   obtain⟨a1,h1,b1,h2,c1,h3,d1,h4,h5⟩:=hx
   exact⟨a1,h1,b1,h2,c1,h3,d1,h4,aY h h5⟩
 case lookup t x i ok=>
  change vO t x i ok C e H=some v at hx
  show vO t x i ok C e HA=some v
  unfold vO at hx ⊢
  simp only[uA,zB]at hx ⊢
  obtain⟨a1,h1,b1,h2,c1,h3,h4,d1,h5,m,h6,es,h7,h8⟩:=hx
  exact⟨a1,h1,b1,h2,c1,h3,h4,d1,h5,m,h6,es,zas h h7,h8⟩
 case call c=>
  change (kM c c.callee).f C e H=some v at hx
  show(kM c c.callee).f C e HA=some v
  cases hc:c.callee with
  | builtin b=>
   rw[hc]at hx
   cases b<;>first | exact hx | skip
   case len=>
    change zmz c C e H=some v at hx
    show zmz c C e HA=some v
    unfold zmz at hx ⊢
    simp only[uA]at hx ⊢
    obtain⟨a1,h1,b1,h2,c1,h3,d1,h4,n,h5,h6⟩:=hx
    exact⟨a1,h1,b1,h2,c1,h3,d1,h4,n,zdd h h5,h6⟩
  | _=>rw[hc]at hx;exact hx
end
end Go.Am.HM
namespace Go.Am
open Go Go.RowKit
def zn1{o:Op}(h:xN o=true)(C:oA)(e:nC)(H H':xA):(mE o).f C e H=(mE o).f C e H':=by
 cases o<;>first | (simp[xN]at h;done) | rfl | skip
 case makeFunc fn a b=>cases fn<;>rfl
def zk4{e e':nC}(h:∀x,ev x e=ev x e')(o:Op)(C:oA)(H:xA):(mE o).f C e H=(mE o).f C e' H:=by
 have hs:∀l,evs l e=evs l e':=fun l=>by unfold evs;rw[funext h]
 have hp:∀l,evp l e=evp l e':=fun l=>by unfold evp;simp only[h]
 have ho:∀x,evo x e=evo x e':=fun x=>by cases x<;>simp[evo,h]
 cases o<;>first | rfl | skip
 case move x=>exact h x
 case assign x=>exact h x
 case pick c a b=>simp only[mE,zwq,h]
 case load t a=>simp only[mE,uO,h]
 case nilCheck x=>simp only[mE,z1i,h]
 case binOp op t x y z=>simp only[mE,zw2,h]
 case unOp op t x=>simp only[mE,lUn,h]
 case convert s d x=>simp only[mE,oK,h]
 case makeInterface t x=>simp only[mE,pR,h]
 case makeFunc fn a b=>cases fn<;>simp only[mE,oR,zwz,zhk,hs]
 case slice t x lo hi mx=>cases mx<;>simp only[mE,xW,nQ,zhk,h,ho]
 case fieldAddr s x f=>simp only[mE,rO,h]
 case field t x f=>simp only[mE,nR,h]
 case indexAddr t x i=>simp only[mE,tO,h]
 case index t x i=>simp only[mE,sO,h]
 case extract t i=>simp only[mE,qO,h]
 case build t ps=>simp only[mE,qP,hp]
 case typeAssert x a u ok=>simp only[mE,pO,h]
 case lookup t x i ok=>simp only[mE,vO,h]
 case call c=>
  have h2:two c e=two c e':=by unfold two;split<;>simp only[h]
  simp only[mE,z55]
  cases c.callee with
  | builtin b=>cases b<;>simp only[kM,zbt,zhk,zmz,zwv,zwt,h,h2]
  | _=>rfl
def zp6{e e':nC}(h:∀t,zzj t e=zzj t e')(x:Operand):ev x e=ev x e':=by
 cases x with
 | tmp t=>exact h t
 | _=>rfl
def zc5{tm tm' old:Tm}{olds:List (Nat × List Nat)}{i:Nat}{o:Oper}(h:∀t∈iF o.op,t∉kD i olds->tm'.get t=tm.get t)(C:oA)(H:xA) :
  (mE o.op).f C (qL tm' old olds i o) H=(mE o.op).f C (qL tm old olds i o) H:=by
 refine zk4 (zp6 fun t=>?_) _ _ _
 simp only[qL,zzj]
 cases hn:pF t (iF o.op)with
 | false=>rfl
 | true=>
  cases hm:pF t (kD i olds)with
  | true=>rfl
  | false=>exact h t ((aN _ _).1 hn) fun k=>by rw[(aN _ _).2 k]at hm;cases hm
section
variable {P:Program}{C:oA}{μ:Mu}{H H':xA}{all:Array Oper}{olds:List (Nat × List Nat)}{anc:Tr Nat}{n:Nat}{old tm tm':Tm}{D:Nat}{S:Nat->Bool}{order:List Nat}{tmps:Array Value}{ds:List Deferred}
structure nJ (C:oA) (H:xA) (all:Array Oper) (olds:List (Nat × List Nat)) (n:Nat) (old tm:Tm) (i:Nat) (o:Oper) (w:Bool) (v:zA):Prop where
 op:all[i]?=some o
 want:jE o.guard all tm=some w
 val:if w=true then(mE o.op).f C (qL tm old olds i o) H=some v else v=tD
 put:∀d,o.dst=some d->d<n->tm.get d=some v
def nJ.pure{i:Nat}{o:Oper}{w:Bool}{v:zA}(h:nJ C H all olds n old tm i o w v)(hp:xN o.op=true)(H':xA):nJ C H' all olds n old tm i o w v:=
 ⟨h.op,h.want,by have:=h.val;cases w with | false=>exact this | true=>rw[yab rfl]at this ⊢;rw[<- this];exact zn1 hp _ _ _ _,h.put⟩
def gV(R:fO all olds anc)(hD:aP all (tb D)){i k:Nat}{o u:Oper}(ho:all[i]?=some o)(hi:tb D i=true\/(i=k/\∀j,vI o j->tb D j=true))(hu:all[k]?=some u)(hk:tb D k=false) :
  (∀t∈iF o.op,t∉kD i olds->u.dst≠some t)/\(∀j w,o.guard=some (j,w)->∀g,all[j]?=some g->∀d,g.dst=some d->u.dst≠some d):=by
 have up:∀j,tb (xH anc i) j=true->tb D j=true:=fun j hj=>R.up hD ho (by
  rcases hi with hi | ⟨_,hi⟩
  ·exact fun j hj=>hD i o ho hi j hj
  ·exact hi) hj
 constructor
 ·intro t ht hto e
  have:=R.name i o k u t ho hu e ht
  rw[yaa hto]at this;have:=up k this
  rw[hk]at this;cases this
 ·intro j w hg g hgj d hd e
  have h1:=R.guard i o ho
  rw[hg]at h1;have h2:=up j h1
  have:=R.one j k g u d hgj hu hd e
  rw[this,hk]at h2;cases h2
def uV{o:Oper}(h:∀j w,o.guard=some (j,w)->∀g,all[j]?=some g->∀d,g.dst=some d->tm'.get d=tm.get d):jE o.guard all tm'=jE o.guard all tm:=by
 unfold jE zto
 cases hg:o.guard with
 | none=>rfl
 | some jw=>
  obtain⟨j,w⟩:=jw
  simp only[zij,oF]
  cases hj:all.toList[j]? with
  | none=>rfl
  | some g=>
   simp only[vA]
   cases hd:g.dst with
   | none=>rfl
   | some d=>simp only[vA];rw[h j w hg g (by simpa using hj) d hd]
def nJ.keep(R:fO all olds anc)(hD:aP all (tb D)){i k:Nat}{o u:Oper}{w:Bool}{v x:zA}(h:nJ C H all olds n old tm i o w v)(hi:tb D i=true)(hu:all[k]?=some u)(hk:tb D k=false) :
  nJ C H all olds n old (putA n tm u.dst x) i o w v:=by
 obtain⟨r1,r2⟩:=gV R hD h.op (.inl hi) hu hk
 refine⟨h.op,?_,?_,?_⟩
 ·rw[uV (tm:=tm) fun j w hg g hj d hd=>by rw[yH,yaa fun e=>r2 j w hg g hj d hd e.1]]
  exact h.want
 ·have:=h.val
  cases w with
  | false=>exact this
  | true=>
   rw[yab rfl]at this ⊢
   rw[zc5 (tm:=tm) fun t ht hto=>by rw[yH,yaa fun e=>r1 t ht hto e.1]]
   exact this
 ·intro d hd hn
  rw[yH,yaa]
  ·exact h.put d hd hn
  ·rintro⟨e,_⟩
   have:=R.one i k o u d h.op hu hd e
   rw[this,hk]at hi;cases hi
def nJ.grow{i:Nat}{o:Oper}{w:Bool}{v:zA}(h:nJ C H all olds n old tm i o w v)(hle:HM.HLe H H'):nJ C H' all olds n old tm i o w v:=
 ⟨h.op,h.want,by have:=h.val;cases w with | false=>exact this | true=>rw[yab rfl]at this ⊢;exact HM.alight_mono hle this,h.put⟩
structure eO (C:oA) (μ:Mu) (dp:Nat) (all:Array Oper) (olds:List (Nat × List Nat)) (n:Nat) (old tm:Tm) (i:Nat) (o:Oper) (v:zA):Prop where
 op:all[i]?=some o
 flo:wI o.op=true
 want:jE o.guard all tm=some true
 val:∃H0 l,(aE o.op).f C (qL tm old olds i o) H0=.val v (bD H0 l none)/\μ.pd H0.next=some (.cells (Tr.ofList l) (aA l) none,dp,i)
 put:∀d,o.dst=some d->d<n->tm.get d=some v
 lo:z06 C o.op=none
structure Mu.ln (dp:Nat) (μ ν:Mu):Prop where
 f:∀a i,μ a=some i->ν a=some i
 pd:∀a x j,μ.pd a=some (x,dp,j)->ν.pd a=some (x,dp,j)
instance {dp:Nat} {μ ν:Mu}:CoeOut (μ.ln dp ν) (μ.lw ν):=⟨Mu.ln.f⟩
def Mu.le.ln{μ ν:Mu}(h:μ.le ν)(dp:Nat):μ.ln dp ν:=⟨h.f,fun a x j k=>by rw[h.pd];exact k⟩
instance {dp:Nat} {μ ν:Mu}:Coe (μ.le ν) (μ.ln dp ν):=⟨fun h=>h.ln dp⟩
def Mu.ln_refl(μ:Mu)(dp:Nat):μ.ln dp μ:=⟨fun _ _ h=>h,fun _ _ _ h=>h⟩
def Mu.ln_trans{dp:Nat}{a b c:Mu}(h:a.ln dp b)(k:b.ln dp c):a.ln dp c:=⟨fun x i hx=>k.f x i (h.f x i hx),fun x y j hx=>k.pd x y j (h.pd x y j hx)⟩
def eO.mono{ν:Mu}{dp:Nat}(h:μ.ln dp ν){i:Nat}{o:Oper}{v:zA}(p:eO C μ dp all olds n old tm i o v):eO C ν dp all olds n old tm i o v:=by
 obtain⟨H0,l,h1,h2⟩:=p.val
 exact⟨p.op,p.flo,p.want,⟨H0,l,h1,h.pd _ _ _ h2⟩,p.put,p.lo⟩
def dZ{tm tm' old:Tm}{i:Nat}{o:Oper}(hf:wI o.op=true)(h:∀t∈iF o.op,t∉kD i olds->tm'.get t=tm.get t)(C:oA)(H:xA) :
  (aE o.op).f C (qL tm' old olds i o) H=(aE o.op).f C (qL tm old olds i o) H:=by
 refine zm7 (zp6 fun t=>?_) hf _
 simp only[qL,zzj]
 cases hn:pF t (iF o.op)with
 | false=>rfl
 | true=>
  cases hm:pF t (kD i olds)with
  | true=>rfl
  | false=>exact h t ((aN _ _).1 hn) fun k=>by rw[(aN _ _).2 k]at hm;cases hm
def eO.keep{dp:Nat}(R:fO all olds anc)(hD:aP all (tb D)){i k:Nat}{o u:Oper}{v x:zA}(h:eO C μ dp all olds n old tm i o v)(hi:tb D i=true)(hu:all[k]?=some u)(hk:tb D k=false) :
  eO C μ dp all olds n old (putA n tm u.dst x) i o v:=by
 obtain⟨r1,r2⟩:=gV R hD h.op (.inl hi) hu hk
 obtain⟨H0,l,h1,h2⟩:=h.val
 refine⟨h.op,h.flo,?_,⟨H0,l,?_,h2⟩,?_,h.lo⟩
 ·rw[uV (tm:=tm) fun j w hg g hj d hd=>by rw[yH,yaa fun e=>r2 j w hg g hj d hd e.1]]
  exact h.want
 ·rw[dZ (tm:=tm) h.flo fun t ht hto=>by rw[yH,yaa fun e=>r1 t ht hto e.1]]
  exact h1
 ·intro d hd hn
  rw[yH,yaa]
  ·exact h.put d hd hn
  ·rintro⟨e,_⟩
   have:=R.one i k o u d h.op hu hd e
   rw[this,hk]at hi;cases hi
def eO.fresh{dp:Nat}(R:fO all olds anc)(hD:aP all (tb D)){i:Nat}{o:Oper}{v:zA}(ho:all[i]?=some o)(hp:∀j,vI o j->tb D j=true)(hi:tb D i=false)
  (hf:wI o.op=true) (hlo:z06 C o.op=none) (hw:jE o.guard all tm=some true) (hv:∃H0 l,(aE o.op).f C (qL tm old olds i o) H0=.val v (bD H0 l none)/\μ.pd H0.next=some (.cells (Tr.ofList l) (aA l) none,dp,i)) :
  eO C μ dp all olds n old (putA n tm o.dst v) i o v:=by
 obtain⟨r1,r2⟩:=gV R hD ho (.inr ⟨rfl,hp⟩) ho hi
 obtain⟨H0,l,h1,h2⟩:=hv
 refine⟨ho,hf,?_,⟨H0,l,?_,h2⟩,?_,hlo⟩
 ·rw[uV (tm:=tm) fun j w hg g hj d hd=>by rw[yH,yaa fun e=>r2 j w hg g hj d hd e.1]]
  exact hw
 ·rw[dZ (tm:=tm) hf fun t ht hto=>by rw[yH,yaa fun e=>r1 t ht hto e.1]]
  exact h1
 ·intro d hd hn
  rw[yH,yab ⟨hd,hn⟩]
def nJ.fresh(R:fO all olds anc)(hD:aP all (tb D)){i:Nat}{o:Oper}{w:Bool}{v:zA}(ho:all[i]?=some o)(hp:∀j,vI o j->tb D j=true)(hi:tb D i=false)
  (hw:jE o.guard all tm=some w) (hv:if w=true then(mE o.op).f C (qL tm old olds i o) H=some v else v=tD) :
  nJ C H all olds n old (putA n tm o.dst v) i o w v:=by
 obtain⟨r1,r2⟩:=gV R hD ho (.inr ⟨rfl,hp⟩) ho hi
 refine⟨ho,?_,?_,?_⟩
 ·rw[uV (tm:=tm) fun j w hg g hj d hd=>by rw[yH,yaa fun e=>r2 j w hg g hj d hd e.1]]
  exact hw
 ·cases w with
  | false=>exact hv
  | true=>
   rw[yab rfl]at hv ⊢
   rw[zc5 (tm:=tm) fun t ht hto=>by rw[yH,yaa fun e=>r1 t ht hto e.1]]
   exact hv
 ·intro d hd hn
  rw[yH,yab ⟨hd,hn⟩]
def eE.light{i:Nat}{o:Oper}{v:zA}{D':Nat}(R:eE μ all olds anc n old tm D S order tmps)(ho:all[i]?=some o)(hi:tb D i=false)(hp:∀j,vI o j->tb D j=true)(hD:∀k,tb D' k=(tb D k||k == i)) :
  eE μ all olds anc n old (putA n tm o.dst v) D' S order tmps:=by
 refine⟨R.reg,R.sched,fun k hk=>by rw[hD,R.sub k hk];rfl,R.closed,?_,R.size,?_,R.past,?_,?_⟩
 ·intro k u hu hk j hj
  rw[hD]at hk ⊢
  simp only[ycq,beq_iff_eq]at hk ⊢
  rcases hk with hk | rfl
  ·exact .inl (R.dclosed k u hu hk j hj)
  ·rw[ho]at hu;cases hu
   exact .inl (hp j hj)
 ·intro k u d x hu hud hk hd hx
  rw[yH,yaa]at hx
  ·exact R.now k u d x hu hud hk hd hx
  ·rintro⟨e,_⟩
   have:=R.reg.one k i u o d hu ho hud e
   have hk':=R.sub k hk
   rw[this,hi]at hk';cases hk'
 ·intro d hd hw
  rw[yH,yaa]
  ·refine R.keep d hd fun k u hu hud=>?_
   have:=hw k u hu hud
   rw[hD]at this;simp only[yal]at this;exact this.1
  ·rintro⟨e,_⟩
   have:=hw i o ho e
   rw[hD]at this;simp at this
 ·intro d x hd hx
  refine R.big d x hd ?_
  rw[yH,yaa fun e=>absurd e.2 (by omega)]at hx
  exact hx
def eE.mono{ν:Mu}(hm:μ.lw ν)(R:eE μ all olds anc n old tm D S order tmps):eE ν all olds anc n old tm D S order tmps:=
 ⟨R.reg,R.sched,R.sub,R.closed,R.dclosed,R.size,fun i o d v a b c e f=>(R.now i o d v a b c e f).mono hm _ _,fun d v a b c=>(R.past d v a b c).mono hm _ _,R.keep,fun d v a b=>(R.big d v a b).mono hm _ _⟩
end
end Go.Am
namespace Go.Am
open Go Go.RowKit
section
section steps
variable {P:Program}{fr b:Frame}{a:Act}{k:List Item}{cs:List Frame}{w w':World}{s:Sem Next}{ops:Array Oper}
def znx{v:Value}(hr:s.run P w=.ok (.value v) w') :
  (stepG.apply P true fr cs none s w).bare=.go { frame:=fr.finish v,callers:=cs,status:=.running,dying:=none } w':=by
 simp[stepG.apply,Sem.runT_eq,hr]
def zs4(hr:s.run P w=.ok .skip w') :
  (stepG.apply P true fr cs none s w).bare=.go { frame:=fr.finish undef,callers:=cs,status:=.running,dying:=none } w':=by
 simp[stepG.apply,Sem.runT_eq,hr]
def dY{i:Nat}{rest:List Nat}{o:Oper}{v:Value}(ho:ops[i]?=some o)(hw:Region.wanted o (yielded ops a.tmps)=true)
  (hr:(o.semAt b.roundOf a.eval).run P w=.ok (.value v) w') :
  step P (lone (b.atR a (.inRegion ops (i::rest)::k)) cs w)=.next (lone (b.atR (a.put o.dst v) (.inRegion ops rest::k)) cs w'):=by
 have:=Frame.finish_atR b a ops i rest k v
 rw[ho]at this;simp only[yai]at this;rw[<- this];exact step_lone_go (by rw[stepGR_op ho hw];exact znx hr)
def zgy{i:Nat}{rest:List Nat}{o:Oper}(ho:ops[i]?=some o)(hw:Region.wanted o (yielded ops a.tmps)=true)
  (hr:(o.semAt b.roundOf a.eval).run P w=.ok .skip w') :
  step P (lone (b.atR a (.inRegion ops (i::rest)::k)) cs w)=.next (lone (b.atR (a.put o.dst undef) (.inRegion ops rest::k)) cs w'):=by
 have:=Frame.finish_atR b a ops i rest k undef
 rw[ho]at this;simp only[yai]at this;rw[<- this];exact step_lone_go (by rw[stepGR_op ho hw];exact zs4 hr)
def cY{i:Nat}{rest:List Nat}{o:Oper}(ho:ops[i]?=some o)(hw:Region.wanted o (yielded ops a.tmps)=false) :
  step P (lone (b.atR a (.inRegion ops (i::rest)::k)) cs w)=.next (lone (b.atR (a.put o.dst undef) (.inRegion ops rest::k)) cs w):=by
 have:=stepR_op_skip (P:=P) (b:=b) (a:=a) (k:=k) (cs:=cs) (w:=w) (ops:=ops) (i:=i) (rest:=rest) (by rw[ho];simpa using hw)
 rw[this,ho];rfl
end steps
mutual
def zl4:∀(d:Nat) (a b:zA),same d a b=true->a=b
 | d,a,b,h=>by
  cases a<;>cases b<;>cases d<;>simp[same,fQ,nI,lP,mK,Nat.beq_eq]at h ⊢
  all_goals first
   | exact h
   | (obtain⟨h1,h2⟩:=h;exact⟨h1,h2⟩)
   | exact zg6 _ _ _ h
   | (obtain⟨⟨⟨h1,h2⟩,h3⟩,h4⟩:=h;exact⟨h1,h2,h3,h4⟩)
def zg6:∀(d:Nat) (a b:List zA),same.sames d a b=true->a=b
 | d,[],[],_=>rfl
 | d,a::x,b::y,h=>by
  simp only[same.sames,ybb]at h;rw[zl4 d a b h.1,zg6 d x y h.2]
 | d,[],b::y,h=>by simp[same.sames]at h
 | d,a::x,[],h=>by simp[same.sames]at h
end
section
variable {P:Program}{C:oA}{B N:Nat}{μ:Mu}{H H':xA}{w:World}{all:Array Oper}{olds:List (Nat × List Nat)}{anc:Tr Nat}{n:Nat}{old tm tm':Tm}{D D':Nat}{S:Nat->Bool}{order:List Nat}{tmps:Array Value}{ds:List Deferred}{dp:Nat}
def cF(C:oA)(μ:Mu)(dp:Nat)(H:xA)(all:Array Oper)(olds:List (Nat × List Nat))(n:Nat)(old tm:Tm)(D:Nat)(S:Nat->Bool):Prop:=
 ∀i,tb D i=true->S i=false->(∃o w v,nJ C H all olds n old tm i o w v)\/∃o v,eO C μ dp all olds n old tm i o v
def eX:∀(l:List Nat) (tm:Tm) (D:Nat),oL C H all n old olds l tm=some tm'->sK all.toList l D=some D'->eE μ all olds anc n old tm D S order tmps->cF C μ dp H all olds n old tm D S →
  eE μ all olds anc n old tm' D' S order tmps/\cF C μ dp H all olds n old tm' D' S:=by
 intro l;induction l with
 | nil=>intro tm D h hD R hp;cases h;cases hD;exact⟨R,hp⟩
 | cons i l ih=>
  intro tm D h hD R hp;unfold oL at h;unfold sK at hD;rw[uA]at hD;obtain⟨D1,h1,hD⟩:=hD
  simp only[uA,oF]at h;obtain⟨o,ho,wn,hw,v,hv,h⟩:=h
  obtain⟨o',ho',hi,hb,hD1⟩:=cV h1
  have ho2:all[i]?=some o:=by simpa using ho
  rw[ho2]at ho';cases ho'
  have hval:if wn=true then(mE o.op).f C (qL tm old olds i o) H=some v else v=tD:=by
   cases wn with
   | true=>rw[yab rfl];exact hv
   | false=>rw[yaa (by simp)];exact(yci hv).symm
  refine ih _ _ h hD (R.light ho2 hi hb hD1) fun j hj hSj=>?_
  rw[hD1]at hj;simp only[ycq,beq_iff_eq]at hj;rcases hj with hj | rfl
  ·rcases hp j hj hSj with⟨u,wu,vu,pu⟩ | ⟨u,vu,pu⟩
   ·exact .inl ⟨u,wu,vu,pu.keep R.reg R.dclosed hj ho2 hi⟩
   ·exact .inr ⟨u,vu,pu.keep R.reg R.dclosed hj ho2 hi⟩
  ·exact .inl ⟨o,wn,v,nJ.fresh R.reg R.dclosed ho2 hb hi hw hval⟩
structure Weak (all:Array Oper) (n:Nat) (tm:Tm) (i:Nat) (o:Oper) (w:Bool) (v:zA):Prop where
 op:all[i]?=some o
 want:jE o.guard all tm=some w
 val:w=false->v=tD
 put:∀d,o.dst=some d->d<n->tm.get d=some v
def zy7:∀(l:List Nat),wS C H all old olds tm l=true->∀i∈l,∀o w v,Weak all n tm i o w v->∃v,nJ C H all olds n old tm i o w v:=by
 intro l;induction l with
 | nil=>intro _ i hi;cases hi
 | cons j l ih=>
  intro h i hi o w v W;unfold wS at h;split at h
  case h_2=>cases h
  rename_i hx;rcases ybs.1 hi with rfl | hi
  ·simp only[uA,oF]at hx
   obtain⟨o',ho',d,hd,wn,hw,hx⟩:=hx
   have ho2:all[i]?=some o':=by simpa using ho'
   rw[W.op]at ho2;cases ho2;rw[W.want]at hw;cases hw
   cases w with
   | false=>exact⟨v,W.op,W.want,by rw[yaa (by simp)];exact W.val rfl,W.put⟩
   | true=>
    simp only[cond_true,uA]at hx;obtain⟨v1,hv1,u,hu,hs⟩:=hx
    have e:=zl4 _ _ _ (yci hs)
    refine⟨v1,W.op,W.want,by rw[yab rfl];exact hv1,fun d' hd' hn=>?_⟩
    rw[hd]at hd';cases hd'
    rw[hu,e]
  ·exact ih h i hi o w v W
end
end
section
section
variable {P:Program}{C:oA}{B N:Nat}{μ:Mu}{H H':xA}{w:World}{all:Array Oper}{olds:List (Nat × List Nat)}{anc:Tr Nat}{n:Nat}{old tm tm':Tm}{D D':Nat}{S:Nat->Bool}{order:List Nat}{tmps:Array Value}{ds:List Deferred}{dp:Nat}
variable {b:Frame}{k:List Item}{cs:List Frame}
structure zex (B N dp:Nat) (μ:Mu) (H:xA) (w:World) (μ':Mu) (w':World):Prop where
 heap:cA B N μ' H w'
 le:μ.lw μ'
 pd:∀d,d≠dp->μ.ln d μ'
 below:Below N w w'
def zex.refl(hH:cA B N μ H w):zex B N dp μ H w μ w:=⟨hH,fun _ _ h=>h,fun d _=>μ.ln_refl d,Below.refl _ _⟩
def zex.trans{μ1 μ2:Mu}{w1 w2:World}(h:zex B N dp μ H w μ1 w1)(k:zex B N dp μ1 H w1 μ2 w2):zex B N dp μ H w μ2 w2:=
 ⟨k.heap,fun a i e=>k.le a i (h.le a i e),fun d hd=>Mu.ln_trans (h.pd d hd) (k.pd d hd),h.below.trans k.below⟩
def zjj(hT:rE P C)(hH:cA B N μ H w){i:Nat}(R:eE μ all olds anc n old tm D S (i::order) tmps)(hp:cF C μ dp H all olds n old tm D S)(hi:tb D i=true) :
  ∃S' tmps' μ' w',step P (lone (b.atR ⟨tmps,ds⟩ (.inRegion all (i::order)::k)) cs w)=.next (lone (b.atR ⟨tmps',ds⟩ (.inRegion all order::k)) cs w')/\zex B N dp μ H w μ' w' ∧
   eE μ' all olds anc n old tm D S' order tmps'/\cF C μ' dp H all olds n old tm D S'/\∀k,S k=true->S' k=true:=by
 obtain⟨o,ho,hS,hb,_⟩:=R.sched
 have hDD:∀k,tb D k=(tb D k||k == i):=by
  intro k;by_cases e:k=i
  ·subst e;rw[hi];rfl
  ·have:(k == i)=false:=by simpa using e
   rw[this,Bool.or_false]
 have ds':∀v',Act.put ⟨tmps,ds⟩ o.dst v'=⟨(Act.put ⟨tmps,ds⟩ o.dst v').tmps,ds⟩:=by intro v';unfold Act.put;cases o.dst<;>rfl
 rcases hp i hi hS with⟨o',wn,v,pd⟩ | ⟨o',v,pd⟩
 ·have:=pd.op
  rw[ho]at this;cases this
  have hw:=R.wanted ho hb pd.want
  have rest:∀v',wA μ v v'->eE μ all olds anc n old tm D (fun k=>S k||k == i) order (Act.put ⟨tmps,ds⟩ o.dst v').tmps/\cF C μ dp H all olds n old tm D (fun k=>S k||k == i):=by
   intro v' hv;refine⟨R.did ho hDD pd.put (fun _ _=>rfl) hv,fun j hj hSj=>hp j hj ?_⟩
   simp only[yal]at hSj;exact hSj.1
  cases wn with
  | false=>
   have hv:=pd.val
   rw[yaa (by simp)]at hv
   subst hv;obtain⟨r1,r2⟩:=rest undef fW
   refine⟨_,_,μ,w,?_,.refl hH,r1,r2,fun k hk=>by simp only[hk,Bool.true_or]⟩
   rw[<- ds'];exact cY (a:=⟨tmps,ds⟩) ho hw
  | true=>
   have hv:=pd.val
   rw[yab rfl]at hv;obtain⟨v',h1,h2⟩:=zy6 hT hH (R.erel (ds:=ds) hH.glob ho hS hb) hv
   obtain⟨r1,r2⟩:=rest v' h2
   refine⟨_,_,μ,w,?_,.refl hH,r1,r2,fun k hk=>by simp only[hk,Bool.true_or]⟩
   rw[<- ds'];refine dY (a:=⟨tmps,ds⟩) ho hw ?_
   rw[Oper.semAt_eq]
   ·exact h1
   ·intro c e
    rw[e]at hv
    cases hv
 ·have:=pd.op
  rw[ho]at this;cases this
  have hw:=R.wanted ho hb pd.want
  obtain⟨H0,l,h1,h2⟩:=pd.val
  obtain⟨l',vs,v',elem,e1,run,hl,hv⟩:=z14 (P:=P) (w:=w) hT (R.erel (ds:=ds) hH.glob ho hS hb) o pd.flo pd.lo h1
  have e2:bD H0 l none=bD H0 l' none:=e1
  have p1:=(hH.pnd _ _ _ h2).1
  have lg:∀c,(μ.land H0.next ⟨w.heap.size,true,0,0,false⟩) c=if c=H0.next then some ⟨w.heap.size,true,0,0,false⟩else μ c:=fun _=>rfl
  have hle:μ.lw (μ.land H0.next ⟨w.heap.size,true,0,0,false⟩):=fun c j hj=>by
   rw[lg,yaa fun e=>by rw[e,p1]at hj;cases hj];exact hj
  have hlp:∀c x d j,(d≠dp\/j≠i)->μ.pd c=some (x,d,j)->(μ.land H0.next ⟨w.heap.size,true,0,0,false⟩).pd c=some (x,d,j):=by
   intro c x d j hne hc;show(if c=H0.next then none else μ.pd c)=_
   rw[yaa]
   ·exact hc
   ·intro e
    rw[e,h2]at hc
    cases hc;rcases hne with h | h<;>exact h rfl
  have hblk:(qA.cells (Tr.ofList l) (aA l) none)=.cells (Tr.ofList l') (aA l') none:=by
   have h3:(bD H0 l none).t.get H0.next=(bD H0 l' none).t.get H0.next:=by rw[e2]
   have hg:∀m,(bD H0 m none).t.get H0.next=some (.cells (Tr.ofList m) (aA m) none):=fun m=>by
    show(H0.t.set H0.next _).get H0.next=_
    rw[Tr.get_set,yab rfl]
   rw[hg,hg]at h3;exact yci h3
  have hH':cA B N (μ.land H0.next ⟨w.heap.size,true,0,0,false⟩) H (w.alloc (.cells vs elem)):=by
   refine hH.late h2 rfl rfl ?_
   rw[hblk];have:=(yB.mono hle _ _ hl).rel_one (i:=⟨w.heap.size,true,0,0,false⟩) rfl (elem:=elem)
   rwa [Array.toArray_toList]at this
  have hvr:=hv (μ.land H0.next ⟨w.heap.size,true,0,0,false⟩) ⟨w.heap.size,true,0,0,false⟩ (by rw[lg,yab rfl]) rfl rfl
  refine⟨fun k=>S k||k == i,(Act.put ⟨tmps,ds⟩ o.dst v').tmps,μ.land H0.next ⟨w.heap.size,true,0,0,false⟩,w.alloc (.cells vs elem),?_,⟨hH',hle,fun d hd=>⟨hle,fun c x j hc=>hlp c x d j (.inl hd) hc⟩,bL hH.size _⟩,
   (R.mono hle).did ho hDD pd.put (fun _ _=>rfl) hvr,fun j hj hSj=>?_,fun k hk=>by simp only[hk,Bool.true_or]⟩
  ·rw[<- ds']
   refine dY (a:=⟨tmps,ds⟩) ho hw ?_
   rw[Oper.semAt_eq]
   ·exact run
   ·intro c e
    have:=pd.flo
    rw[e]at this
    cases this
  ·simp only[yal,beq_eq_false_iff_ne]at hSj
   rcases hp j hj hSj.1 with h | ⟨u,vu,pu⟩
   ·exact .inl h
   ·refine .inr ⟨u,vu,pu.op,pu.flo,pu.want,?_,pu.put,pu.lo⟩
    obtain⟨H1,m,g1,g2⟩:=pu.val
    exact⟨H1,m,g1,hlp _ _ _ _ (.inr hSj.2) g2⟩
def zo4(hT:rE P C)(hH:cA B N μ H w){i:Nat}(R:eE μ all olds anc n old tm D S (i::order) tmps)(hp:cF C μ dp H all olds n old tm D S)(hi:tb D i=true) :
  ∃S' tmps' μ' w',step P (lone (b.atR ⟨tmps,ds⟩ (.inRegion all (i::order)::k)) cs w)=.next (lone (b.atR ⟨tmps',ds⟩ (.inRegion all order::k)) cs w')/\zex B N dp μ H w μ' w' ∧
   eE μ' all olds anc n old tm D S' order tmps'/\cF C μ' dp H all olds n old tm D S':=by
 obtain⟨S',tmps',μ',w',h1,h2,h3,h4,_⟩:=zjj (b:=b) (k:=k) (cs:=cs) (ds:=ds) hT hH R hp hi
 exact⟨S',tmps',μ',w',h1,h2,h3,h4⟩
def reach(hT:rE P C){st:xE}{r:List xE}(hst:rH all.toList anc (st::r) D=true)(hlt:st.heavy<=all.size):∀(order:List Nat) (S:Nat->Bool) (tmps:Array Value) (μ:Mu) (w:World),cA B N μ H w →
  eE μ all olds anc n old tm D S order tmps->cF C μ dp H all olds n old tm D S →
  ∃S' order' tmps' μ' w',Steps P (lone (b.atR ⟨tmps,ds⟩ (.inRegion all order::k)) cs w) (lone (b.atR ⟨tmps',ds⟩ (.inRegion all (st.heavy::order')::k)) cs w')/\zex B N dp μ H w μ' w' ∧
   eE μ' all olds anc n old tm D S' (st.heavy::order') tmps'/\cF C μ' dp H all olds n old tm D S':=by
 obtain⟨only,_,D1,D2,h1,_⟩:=pX hst hlt
 obtain⟨oh,hoh,hh,hbh,_⟩:=cV h1
 intro order;induction order with
 | nil=>
  intro S tmps μ w _ R hp;have:=R.sub _ (R.sched st.heavy (ybe.1 hoh).1)
  rw[hh]at this;cases this
 | cons i order ih=>
  intro S tmps μ w hH R hp
  cases hi:tb D i with
  | true=>
   obtain⟨S',tmps',μ1,w1,s1,g1,r1,p1⟩:=zo4 (b:=b) (k:=k) (cs:=cs) (ds:=ds) hT hH R hp hi
   obtain⟨S2,order',tmps2,μ2,w2,s2,g2,r2⟩:=ih S' tmps' μ1 w1 g1.heap r1 p1
   exact⟨S2,order',tmps2,μ2,w2,.head s1 s2,g1.trans g2,r2⟩
  | false=>
   obtain⟨o,ho,hS,hb,_⟩:=R.sched
   have:=only i o ho hi fun j hj=>R.sub j (hb j hj)
   subst this;exact⟨S,order,tmps,μ,w,.refl _ _,.refl hH,R,hp⟩
def regEnd(hT:rE P C)(hst:rH all.toList anc [] D=true):∀(order:List Nat) (S:Nat->Bool) (tmps:Array Value) (μ:Mu) (w:World),cA B N μ H w →
  eE μ all olds anc n old tm D S order tmps->cF C μ dp H all olds n old tm D S →
  ∃tmps' μ' w',Steps P (lone (b.atR ⟨tmps,ds⟩ (.inRegion all order::k)) cs w) (lone (b.atR ⟨tmps',ds⟩ k) cs w')/\zex B N dp μ H w μ' w'/\fD μ' n tm tmps':=by
 have full:=zjo hst
 intro order;induction order with
 | nil=>
  intro S tmps μ w hH R hp;refine⟨tmps,μ,w,.one stepR_region_end,.refl hH,R.size,fun t v hv=>?_⟩
  by_cases hn:t<n
  ·by_cases hw:∃(j:Nat) (u:Oper),all[j]?=some u/\u.dst=some t
   ·obtain⟨j,u,hu,hud⟩:=hw
    exact R.now j u t v hu hud (R.sched j (ybe.1 hu).1) hn hv
   ·have k:=R.keep t hn fun i o h1 h2=>absurd ⟨i,o,h1,h2⟩ hw
    exact R.past t v hn (fun i o h1 h2=>absurd ⟨i,o,h1,h2⟩ hw) (by rw[<- k];exact hv)
  ·rw[iU (by rw[R.size];omega)]
   exact R.big t v (by omega) (.inl hv)
 | cons i order ih=>
  intro S tmps μ w hH R hp;obtain⟨o,ho,_⟩:=R.sched
  obtain⟨S',tmps',μ1,w1,s1,g1,r1,p1⟩:=zo4 (b:=b) (k:=k) (cs:=cs) (ds:=ds) hT hH R hp (full i (ybe.1 ho).1)
  obtain⟨tmps2,μ2,w2,s2,g2,r2⟩:=ih S' tmps' μ1 w1 g1.heap r1 p1
  exact⟨tmps2,μ2,w2,.head s1 s2,g1.trans g2,r2⟩
def z0m(hM:P.follows .mixedOrders=true){anc:Tr Nat}(hR:fO all olds anc)(ht:fD μ n old tmps)(t:Nat) :
  eE μ all olds anc n old old 0 (fun _=>false) (Region.schedule (P.follows .mixedOrders) all t) tmps/\cF C μ dp H all olds n old old 0 (fun _=>false):=by
 refine⟨⟨hR,?_,fun i h=>(by cases h),fun i o _ h=>(by cases h),fun i o _ h=>(by rw[zgw]at h;cases h),ht.1,fun i o d v _ _ h=>(by cases h),fun d v _ _ h=>ht.2 d v h,fun _ _ _=>rfl,fun d v hd h=>?_⟩,fun i h=>(by rw[zgw]at h;cases h)⟩
 ·rw[hM]
  unfold Region.schedule;simp only[Bool.true_or,if_true];have:=z0h hR.back all.size t (Array.replicate all.size false) (by simp) (by
   refine Nat.le_trans (List.countP_le_length) ?_
   simp)
  have e:(fun i=>(Array.replicate all.size false).getD i false)=fun _=>false:=by
   funext i
   simp only[ycx,Array.getElem?_replicate];split<;>rfl
  rw[e]at this;exact this
 ·have h':old.get d=some v:=h.elim id id
  have:=ht.2 d v h'
  rw[iU (by rw[ht.1];exact hd)]at this
  exact this
def cP(C:oA)(μ:Mu)(dp:Nat)(all:Array Oper)(olds:List (Nat × List Nat))(n:Nat)(old tm:Tm)(D:Nat)(S:Nat->Bool)(again:List Nat):Prop:=
 ∀i,tb D i=true->S i=false->(∃o w v,(∀H,nJ C H all olds n old tm i o w v)\/(i∈again/\Weak all n tm i o w v))\/∃o v,eO C μ dp all olds n old tm i o v
def nJ.float{i:Nat}{o:Oper}{w:Bool}{v:zA}(h:nJ C H all olds n old tm i o w v)(hf:wI o.op=true)(H':xA):nJ C H' all olds n old tm i o w v:=by
 refine⟨h.op,h.want,?_,h.put⟩
 have:=h.val
 cases w with
 | false=>exact this
 | true=>
  rw[yab rfl]at this;exfalso
  obtain⟨dst,op,type,pos,after,guard⟩:=o
  cases op<;>first | (simp[wI]at hf;done) | cases this
def ztn{again:List Nat}(hw:cP C μ dp all olds n old tm D S again)(ha:wS C H all old olds tm again=true):cF C μ dp H all olds n old tm D S:=by
 intro i hi hS;rcases hw i hi hS with⟨o,w,v,h | ⟨h1,h2⟩⟩ | h
 ·exact .inl ⟨o,w,v,h H⟩
 ·obtain⟨v,h⟩:=zy7 (C:=C) (H:=H) (olds:=olds) (old:=old) again ha i h1 o w v h2
  exact .inl ⟨o,w,v,h⟩
 ·exact .inr h
end
end
section
section
variable {P:Program}{C:oA}{B N:Nat}{μ:Mu}{H H':xA}{w:World}{all:Array Oper}{olds:List (Nat × List Nat)}{anc:Tr Nat}{n:Nat}{old tm tm':Tm}{D D':Nat}{S:Nat->Bool}{order:List Nat}{tmps:Array Value}{ds:List Deferred}{dp:Nat}
def Weak.keep(R:fO all olds anc)(hD:aP all (tb D)){i k:Nat}{o u:Oper}{w:Bool}{v x:zA}(h:Weak all n tm i o w v)(hi:tb D i=true)(hu:all[k]?=some u)(hk:tb D k=false) :
  Weak all n (putA n tm u.dst x) i o w v:=by
 obtain⟨_,r2⟩:=gV R hD h.op (.inl hi) hu hk
 refine⟨h.op,?_,h.val,?_⟩
 ·rw[uV (tm:=tm) fun j w hg g hj d hd=>by rw[yH,yaa fun e=>r2 j w hg g hj d hd e.1]]
  exact h.want
 ·intro d hd hn
  rw[yH,yaa]
  ·exact h.put d hd hn
  ·rintro⟨e,_⟩
   have:=R.one i k o u d h.op hu hd e
   rw[this,hk]at hi;cases hi
def toWeak{st:xE}{r:List xE}(hst:rH all.toList anc (st::r) D=true)(hlt:st.heavy<=all.size)(R:eE μ all olds anc n old tm D S (st.heavy::order) tmps)(hp:cF C μ dp H all olds n old tm D S) :
  cP C μ dp all olds n old tm D S st.again:=by
 obtain⟨_,ag,_⟩:=pX hst hlt
 intro i hDi hSi;rcases hp i hDi hSi with⟨u,wu,vu,pu⟩ | h
 rotate_left
 ·exact .inr h
 refine .inl ⟨u,wu,vu,?_⟩
 rcases ag i u pu.op hDi with h | h | h | h
 ·obtain⟨o,ho,_,hb,_⟩:=R.sched
  have:=R.reg.up R.closed ho hb h
  rw[hSi]at this;cases this
 ·exact .inl fun H=>pu.pure h H
 ·exact .inl fun H=>pu.float h H
 ·exact .inr ⟨h,pu.op,pu.want,fun e=>by have:=pu.val;rw[e]at this;simpa using this,pu.put⟩
def zzu{h:Nat}{again:List Nat}{D1:Nat}{o:Oper}{v:zA}{v':Value}(h1:wP all.toList h D=some D1)(ho:all[h]?=some o)
  (R:eE μ all olds anc n old tm D S (h::order) tmps) (hp:cP C μ dp all olds n old tm D S again) (hv:wA μ v v') :
  eE μ all olds anc n old (putA n tm o.dst v) D1 (fun k=>S k||k == h) order (Act.put ⟨tmps,ds⟩ o.dst v').tmps/\cP C μ dp all olds n old (putA n tm o.dst v) D1 (fun k=>S k||k == h) again:=by
 obtain⟨o',ho',hi,hb,hD1⟩:=cV h1
 rw[ho]at ho';cases ho'
 refine⟨R.did ho hD1 (fun d hd hn=>by rw[yH,yab ⟨hd,hn⟩]) (fun d hd=>by rw[yH,yaa fun e=>absurd (hd e.1) (by omega)]) hv,fun i hDi hSi=>?_⟩
 simp only[yal,beq_eq_false_iff_ne]at hSi;rw[hD1]at hDi;simp only[ycq,beq_iff_eq]at hDi;have hDi:=hDi.resolve_right hSi.2
 rcases hp i hDi hSi.1 with⟨u,wu,vu,pu⟩ | ⟨u,vu,pu⟩
 ·exact .inl ⟨u,wu,vu,pu.imp (fun pu H=>(pu H).keep R.reg R.dclosed hDi ho hi) (fun pu=>⟨pu.1,pu.2.keep R.reg R.dclosed hDi ho hi⟩)⟩
 ·exact .inr ⟨u,vu,pu.keep R.reg R.dclosed hDi ho hi⟩
inductive tJ (C:oA) (μ:Mu) (dp:Nat) (n:Nat):Option xA->List oD->Tm->List Item->Array Value->Prop
 | plain {cur:Option xA} {todo:List oD} {tm:Tm} {btodo:List Item} {tmps:Array Value}:rC (wF μ) todo btodo->fD μ n tm tmps->tJ C μ dp n cur todo tm btodo tmps
 | reg {H:xA} {all:Array Oper} {old tm:Tm} {olds:List (Nat × List Nat)} {stages:List xE} {k:List oD} {order:List Nat} {k':List Item} {tmps:Array Value} {anc:Tr Nat} {D:Nat} {S:Nat->Bool} :
   eE μ all olds anc n old tm D S order tmps->rH all.toList anc stages D=true->cF C μ dp H all olds n old tm D S->rC (wF μ) k k' →
   tJ C μ dp n (some H) (.reg all old olds stages::k) tm (.inRegion all order::k') tmps
 | mid {cur:Option xA} {all:Array Oper} {old tm:Tm} {olds:List (Nat × List Nat)} {lights again:List Nat} {stages:List xE} {k:List oD} {order:List Nat} {k':List Item} {tmps:Array Value} {anc:Tr Nat} {D D2:Nat} {S:Nat->Bool} :
   eE μ all olds anc n old tm D S order tmps->sK all.toList lights D=some D2->rH all.toList anc stages D2=true->cP C μ dp all olds n old tm D S again->rC (wF μ) k k' →
   tJ C μ dp n cur (.reg all old olds (⟨all.size,lights,again⟩::stages)::k) tm (.inRegion all order::k') tmps
 | wait {all:Array Oper} {old tm:Tm} {olds:List (Nat × List Nat)} {st:xE} {stages:List xE} {k:List oD} {order:List Nat} {k':List Item} {tmps:Array Value} {anc:Tr Nat} {D:Nat} {S:Nat->Bool} :
   eE μ all olds anc n old tm D S (st.heavy::order) tmps->rH all.toList anc (st::stages) D=true->st.heavy<=all.size->cP C μ dp all olds n old tm D S st.again->rC (wF μ) k k' →
   tJ C μ dp n none (.reg all old olds (st::stages)::k) tm (.inRegion all (st.heavy::order)::k') tmps
def cF.mono{ν:Mu}(h:μ.ln dp ν)(p:cF C μ dp H all olds n old tm D S):cF C ν dp H all olds n old tm D S:=
 fun i h1 h2=>(p i h1 h2).imp id fun⟨o,v,q⟩=>⟨o,v,q.mono h⟩
def cP.mono{ν:Mu}{again:List Nat}(h:μ.ln dp ν)(p:cP C μ dp all olds n old tm D S again):cP C ν dp all olds n old tm D S again:=
 fun i h1 h2=>(p i h1 h2).imp id fun⟨o,v,q⟩=>⟨o,v,q.mono h⟩
def tJ.mono{ν:Mu}(h:μ.ln dp ν){cur:Option xA}{todo:List oD}{btodo:List Item}(R:tJ C μ dp n cur todo tm btodo tmps):tJ C ν dp n cur todo tm btodo tmps:=by
 have mk:∀ {k:List oD} {k':List Item},rC (wF μ) k k'->rC (wF ν) k k':=fun k=>rC.mono (fun _ _ r=>wF.mono h r) k
 cases R with
 | plain a b=>exact .plain (mk a) (b.mono h)
 | reg a b c d=>exact .reg (a.mono h) b (c.mono h) (mk d)
 | mid a b c d e=>exact .mid (a.mono h) b c (d.mono h) (mk e)
 | wait a b b' c d=>exact .wait (a.mono h) b b' (c.mono h) (mk d)
end
end
section
section
variable {P:Program}{C:oA}{B N:Nat}{μ ν:Mu}{H H':xA}{w:World}{n:Nat}{tm:Tm}{tmps:Array Value}{ds:List Deferred}{dp:Nat}
def fD.put{v:zA}{v':Value}{dst:Option Nat}(h:fD μ n tm tmps)(hv:wA μ v v'):fD μ n (putA n tm dst v) (Act.put ⟨tmps,ds⟩ dst v').tmps:=by
 cases dst with
 | none=>exact h
 | some d=>
  refine⟨by simp[Act.put,h.1],fun t x hx=>?_⟩
  rw[yH]at hx;simp only[Act.put,ycx,ycs];by_cases e:d=t
  ·subst e
   by_cases hn:d<n
   ·rw[yab ⟨rfl,hn⟩]at hx
    cases hx;simp[h.1,hn,hv]
   ·rw[yaa fun k=>hn k.2]at hx
    have:=h.2 d x hx
    rw[iU (by rw[h.1];omega)]at this
    simp[h.1,hn,this]
  ·rw[yaa fun k=>e (yci k.1)]at hx
   have:=h.2 t x hx
   rw[ycx]at this;simpa[e]using this
structure nH (C:oA) (μ:Mu) (dp:Nat) (cur:Option xA) (fr:fB) (b:Frame):Prop where
 rest:kF μ fr.R b
 body:if fr.R.mode.running=true then tJ C μ dp fr.R.n cur fr.todo fr.tm b.todo b.tmps else fD μ fr.R.n fr.tm b.tmps
def nH.mono(h:μ.ln dp ν){cur:Option xA}{fr:fB}{b:Frame}(r:nH C μ dp cur fr b):nH C ν dp cur fr b:=by
 refine⟨r.rest.mono h,?_⟩
 have:=r.body
 split at this
 ·rename_i e;rw[yab e];exact this.mono h
 ·rename_i e;rw[yaa e];exact this.mono h
inductive xF (C:oA) (μ:Mu):List fB->List Frame->Prop
 | nil:xF C μ [] []
 | cons {a:fB} {b:Frame} {l:List fB} {m:List Frame}:nH C μ l.length none a b->xF C μ l m->xF C μ (a::l) (b::m)
def xF.monoD{l:List fB}{m:List Frame}(r:xF C μ l m)(h:∀d,d<l.length->μ.ln d ν):xF C ν l m:=by
 induction r with
 | nil=>exact .nil
 | @cons a b l m h1 h2 ih=>exact .cons (h1.mono (h _ (by simp))) (ih fun d hd=>h d (by simp;omega))
def xF.mono{l:List fB}{m:List Frame}(r:xF C μ l m)(h:μ.le ν):xF C ν l m:=r.monoD fun d _=>h.ln d
def yT{fr fr':fB}{b:Frame}{v:zA}{v':Value}{cur:Option xA}(r:nH C μ dp none fr b)(h:tG fr v=some fr')(hv:wA μ v v'):nH C μ dp cur fr' (b.finish v'):=by
 obtain⟨todo,tm,R⟩:=fr
 unfold tG at h
 cases todo with
 | nil=>cases h
 | cons x k=>
  simp only[iB]at h;split at h
  case isFalse=>cases h
  rename_i hm;have body:=r.body
  rw[yab hm]at body;have rest:=r.rest
  obtain⟨fn,btmps,btodo,bdefers,bmode,bkind,bround⟩:=b
  simp only at body rest
  cases body with
  | plain a t=>
   cases a with
   | cons i l=>
    cases i with
    | ops all i hi=>
     simp only[zhy]at h;unfold z4n at h;split at h
     case h_2=>cases h
     rename_i o rest' ho
     cases h;obtain⟨h1,h2⟩:=kO ho.symm
     have hlt:i<all.size:=by have:=(ybc.1 h1).1;simpa using this
     have hr:(List.range all.size).drop i=i::(List.range all.size).drop (i+1):=by
      rw[ybl (by simpa using hlt)];simp
     have ho2:all[i]?=some o:=by simpa using h1
     have e:∀k',Frame.finish ⟨fn,btmps,.inRegion all ((List.range all.size).drop i)::k',bdefers,bmode,bkind,bround⟩ v'=⟨fn,(Act.put ⟨btmps,bdefers⟩ o.dst v').tmps,.inRegion all ((List.range all.size).drop (i+1))::k',bdefers,bmode,bkind,bround⟩:=by
      intro k';simp only[Frame.finish,hr,ho2,yai];unfold Act.put
      cases o.dst<;>rfl
     rw[e];refine⟨⟨rest.fn,?_,rest.defers,rest.mode,rest.kind,rest.round⟩,?_⟩
     ·exact(t.put (ds:=bdefers) (dst:=o.dst) hv).1
     ·rw[yab hm]
      rw[h2];exact .plain (.cons (.ops all (i+1) hlt) l) (t.put hv)
    | inRange l' i hl=>
     cases h;refine⟨⟨rest.fn,rest.size,rest.defers,rest.mode,rest.kind,rest.round⟩,?_⟩
     simp only[Frame.finish];rw[yab hm];exact .plain (.cons (.endRange l' i hl) l) t
    | beginRound=>
     cases h;refine⟨⟨rest.fn,rest.size,rest.defers,rest.mode,rest.kind,rest.round⟩,?_⟩
     simp only[Frame.finish];rw[yab hm];exact .plain l t
    | _=>cases h
  | mid a b c d e=>
   exfalso
   simp only[zhy]at h;unfold zx0 at h;simp only[uA,oF]at h;obtain⟨o,ho,_⟩:=h
   have:=(ybc.1 ho).1
   simp at this
  | @wait all old _ olds st stages _ order _ _ anc D S a b b2 c d=>
   simp only[zhy]at h;unfold zx0 at h;simp only[uA,oF]at h;obtain⟨o,ho,h⟩:=h
   cases h;have ho2:all[st.heavy]?=some o:=by simpa using ho
   obtain⟨_,_,D1,D2,h1,h2,h3⟩:=pX b b2
   obtain⟨r1,r2⟩:=zzu (ds:=bdefers) h1 ho2 a c hv
   have e:∀k',Frame.finish ⟨fn,btmps,.inRegion all (st.heavy::order)::k',bdefers,bmode,bkind,bround⟩ v'=⟨fn,(Act.put ⟨btmps,bdefers⟩ o.dst v').tmps,.inRegion all order::k',bdefers,bmode,bkind,bround⟩:=by
    intro k';simp only[Frame.finish,ho2,yai];unfold Act.put
    cases o.dst<;>rfl
   rw[e];refine⟨⟨rest.fn,r1.size,rest.defers,rest.mode,rest.kind,rest.round⟩,?_⟩
   rw[yab hm];exact .mid r1 h2 h3 r2 d
def cC(P:Program)(C:oA)(B N:Nat)(μ:Mu)(base:List Frame)(m:Machine)(w:World):qE->Prop
 | .next s=>∃ μ' b cs w',Steps P m (lone b (cs++base) w')/\μ.lw μ'/\Below N w w'/\cA B N μ' s.H w'/\nH C μ' s.cs.length (some s.H) s.fr b/\xF C μ' s.cs cs
 | .done v H=>∃ μ' b w' v',Steps P m (lone b base w')/\μ.lw μ'/\Below N w w'/\cA B N μ' H w'/\wA μ' v v'/\b.fn=C.root/\b.leaving P w' (.returned v')
 | .fail _=>True
def cC.of_steps{base:List Frame}{m m1:Machine}{o:qE}{w w1:World}(hs:Steps P m m1)(hm:μ.lw ν)(hb:Below N w w1)(h:cC P C B N ν base m1 w1 o):cC P C B N μ base m w o:=by
 cases o with
 | fail=>exact trivial
 | next s=>
  obtain⟨μ',b,cs,w',h1,h2,h3,h4⟩:=h
  exact⟨μ',b,cs,w',hs.trans h1,fun a i k=>h2 a i (hm a i k),hb.trans h3,h4⟩
 | done v H=>
  obtain⟨μ',b,w',v',h1,h2,h3,h4⟩:=h
  exact⟨μ',b,w',v',hs.trans h1,fun a i k=>h2 a i (hm a i k),hb.trans h3,h4⟩
def z2w{b:Frame}(h:b.mode=.run):b.atR ⟨b.tmps,b.defers⟩ b.todo=b:=by
 obtain⟨fn,tmps,todo,defers,mode,kind,round⟩:=b
 simp only at h
 subst h;rfl
end
end
section
structure Sim (P:Program) (C:oA) (B N:Nat) (I:World->Prop):Prop where
 tys:rE P C
 fns:zk8 P C
 prims:yV P C B N I
 base:B<=C.base
 mixed:P.follows .mixedOrders=true
 inv:∀w w',Below N w w'->I w->I w'
section
variable {P:Program}{C:oA}{B N:Nat}{I:World->Prop}{μ ν:Mu}{H H':xA}{w:World}{tm:Tm}{R:fH}{acs:List fB}{base cs:List Frame}
variable {b:Frame}{tmps:Array Value}{ds:List Deferred}{k:List oD}{k':List Item}
def kF.todo{todo:List Item}(h:kF μ R (b.atR ⟨tmps,ds⟩ [])):kF μ R (b.atR ⟨tmps,ds⟩ todo):=⟨h.fn,h.size,h.defers,h.mode,h.kind,h.round⟩
def kF.running{todo:List Item}(h:kF μ R (b.atR ⟨tmps,ds⟩ todo)):R.mode.running=true:=by
 have:=h.mode
 cases hm:R.mode with
 | run=>rfl
 | _=>rw[hm]at this;exact this.elim
def pQ{m:Machine}{todo:List oD}{btodo:List Item}(hH:cA B N μ H w)(hcs:xF C μ acs cs)(hR:kF μ R (b.atR ⟨tmps,ds⟩ []))(ht:fD μ R.n tm tmps)
  (hk:rC (wF μ) todo btodo) (hs:Steps P m (lone (b.atR ⟨tmps,ds⟩ btodo) (cs++base) w)):cC P C B N μ base m w (xGo todo tm R acs H):=
 ⟨μ,_,cs,w,hs,fun _ _ h=>h,Below.refl _ _,hH,⟨hR.todo,by rw[yab hR.running];exact .plain hk ht⟩,hcs⟩
def zhc(hH:cA B N μ H w)(hcs:xF C μ acs cs)(hR:kF μ R (b.atR ⟨tmps,ds⟩ []))(ht:fD μ R.n tm tmps)(hk:rC (wF μ) k k'){m:Machine}
  (hs:step P m=.next (lone (b.atR ⟨tmps,ds⟩ k') (cs++base) w)):cC P C B N μ base m w (zla C k tm R acs H):=
 pQ hH hcs hR ht hk (.one hs)
def z66(hH:cA B N μ H w)(hcs:xF C μ acs cs)(hR:kF μ R (b.atR ⟨tmps,ds⟩ []))(ht:fD μ R.n tm tmps)(hk:rC (wF μ) k k'){c:Operand}{x y:Code} :
  cC P C B N μ base (lone (b.atR ⟨tmps,ds⟩ (.code (.cond c x y)::k')) (cs++base) w) w (ztk c x y C k tm R acs H):=by
 unfold ztk
 cases hc:ob (ev c (.now tm)) zA.asBool with
 | none=>exact trivial
 | some t=>
  rw[uA]at hc;obtain⟨v,hv,ht'⟩:=hc
  have:v=.bool t:=by cases v<;>simp[zA.asBool]at ht';rw[ht']
  subst this;have hr:=ht.erel (ds:=ds) hH.glob c _ hv
  rw[wA]at hr;refine pQ hH hcs hR ht (.cons (.code _) hk) (.one ?_)
  rw[stepR_cond hr]
  cases t<;>rfl
def z2s(hH:cA B N μ H w)(hcs:xF C μ acs cs)(hR:kF μ R (b.atR ⟨tmps,ds⟩ []))(ht:fD μ R.n tm tmps)(hk:rC (wF μ) k k'){id:Nat}{c:Code} :
  cC P C B N μ base (lone (b.atR ⟨tmps,ds⟩ (.code (.block id c)::k')) (cs++base) w) w (z3a id c C k tm R acs H):=
 pQ hH hcs hR ht (.cons (.code _) (.cons (.inBlock _) hk)) (.one stepR_block)
def z5x(hH:cA B N μ H w)(hcs:xF C μ acs cs)(hR:kF μ R (b.atR ⟨tmps,ds⟩ []))(ht:fD μ R.n tm tmps)(hk:rC (wF μ) k k'){c:Code} :
  cC P C B N μ base (lone (b.atR ⟨tmps,ds⟩ (.code (.loop c)::k')) (cs++base) w) w (z4x c C k tm R acs H):=
 pQ hH hcs hR ht (.cons (.code _) (.cons (.inLoop _) hk)) (.one stepR_loop)
def zx2{id:Nat}:∀ {k:List oD} {k':List Item} {r:List oD},rC (wF μ) k k'->bJ id k=some r->∃r',exitTo id k'=some r'/\rC (wF μ) r r':=by
 intro k k' r h;induction h with
 | nil=>intro e;cases e
 | cons a l ih=>
  intro e
  cases a with
  | inBlock i=>
   unfold bJ at e;simp only[oD.blockId]at e;rw[iB]at e;unfold exitTo;by_cases hi:i=id
   ·subst hi
    rw[yab (pB.2 rfl)]at e
    cases e
    exact⟨_,by simp,l⟩
   ·rw[yaa fun h=>hi (pB.1 h)]at e
    obtain⟨r',h1,h2⟩:=ih e
    exact⟨r',by simp[hi,h1],h2⟩
  | _=>
   unfold bJ at e;obtain⟨r',h1,h2⟩:=ih e
   exact⟨r',by unfold exitTo;exact h1,h2⟩
end
end
end Go.Am
