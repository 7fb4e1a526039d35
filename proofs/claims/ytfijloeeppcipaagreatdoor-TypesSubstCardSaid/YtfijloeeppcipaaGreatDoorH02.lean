/- Arithmetic, comparisons, conversions, slices. -/
import Derived.Below
import Derived.Laws.BytesString
import Derived.Lib.Strings
import Derived.Test.YtfijloeeppcipaaGreatDoorH01
set_option linter.all false
noncomputable section
namespace Go.Am
open Go
section
variable {P:Program}{C:oA}{B N:Nat}{μ:Mu}{H:xA}{w:World}
variable {e:mC}{ρ:Operand->Value}{dst:Option Tmp}{type:TypeId}{pos:String}{after:Array Edge}{guard:Option (Nat × Bool)}{v:zA}
def zT{k:IntKind}{n:Nat}(h:n<fF k):k.wrap (n:Int)=n:=by
 rw[<- iK];show(bif Nat.blt n (fF k)then Int.ofNat n else _)=_
 rw[iB,yab (kB.2 h)];rfl
def zoi(k:IntKind):∃m,fF k=2^m/\m<=k.bits:=by
 cases k
 ·exact⟨7,rfl,by decide⟩
 ·exact⟨15,rfl,by decide⟩
 ·exact⟨31,rfl,by decide⟩
 ·exact⟨63,rfl,by decide⟩
 ·exact⟨8,rfl,by decide⟩
 ·exact⟨16,rfl,by decide⟩
 ·exact⟨32,rfl,by decide⟩
 ·exact⟨64,rfl,by decide⟩
def yR{k:IntKind}{n:Nat}(h:n<fF k):(BitVec.ofInt k.bits (n:Int)).toNat=n:=by
 obtain⟨m,hm,hle⟩:=zoi k
 rw[BitVec.toNat_ofInt];have:n<2^k.bits:=Nat.lt_of_lt_of_le (hm ▸ h) (yao (by omega) hle)
 rw[<- Int.natCast_emod,Int.toNat_natCast,Nat.mod_eq_of_lt this]
def sY{f:Nat->Nat->Nat}{k:IntKind}{a b:Int}{v:zA}(h:qH f k a b=some v):∃x y:Nat,a=x/\b=y/\x<fF k/\y<fF k/\v=.int k (f x y:Nat):=by
 unfold qH at h;simp only[sA,nW,xB,ybb,kB]at h;obtain⟨x,rfl,y,rfl,⟨h1,h2⟩,h⟩:=h
 cases h;exact⟨x,y,rfl,rfl,h1,h2,rfl⟩
def z1j{op:BinOp}{k:IntKind}{a b:Int}(h:(z1k op).f k a b=some v):op≠.shl/\op≠.shr/\∀t,∃v',(binOp op t (.int k a) (.int k b)).run P w=.ok v' w/\vA μ v v':=by
 cases op<;>simp only[z1k]at h
 case add=>cases h;exact⟨by simp,by simp,fun t=>⟨.int k (k.wrap (a+b)),by simp[binOp,Op.intArith],by rw[vA,iK]⟩⟩
 case sub=>cases h;exact⟨by simp,by simp,fun t=>⟨.int k (k.wrap (a-b)),by simp[binOp,Op.intArith],by rw[vA,iK]⟩⟩
 case mul=>cases h;exact⟨by simp,by simp,fun t=>⟨.int k (k.wrap (a*b)),by simp[binOp,Op.intArith],by rw[vA,iK]⟩⟩
 case quo=>
  unfold z4h at h;simp only[iB,bP]at h;split at h
  ·cases h
  ·rename_i hb;cases h
   refine⟨by simp,by simp,fun t=>⟨.int k (k.wrap (a.tdiv b)),?_,by rw[vA,iK]⟩⟩
   simp[binOp,Op.intDiv,hb]
 case rem=>
  unfold z2b at h;simp only[iB,bP]at h;split at h
  ·cases h
  ·rename_i hb;cases h
   refine⟨by simp,by simp,fun t=>⟨.int k (a.tmod b),?_,by rw[vA]⟩⟩
   simp[binOp,Op.intDiv,hb]
 case and=>
  unfold iAnd at h;split at h
  ·obtain⟨x,y,rfl,rfl,hx,hy,rfl⟩:=sY h
   refine⟨by simp,by simp,fun t=>⟨.int k ((x &&& y:Nat):Int),?_,by rw[vA];rfl⟩⟩
   have h1:x &&& y<fF k:=yam Nat.and_le_left hx
   simp only[binOp,Op.intBits,BitVec.toNat_and,yR hx,yR hy,zT h1];simp
  ·simp only[sA,nW,xB,kB]at h
   obtain⟨y,rfl,hy,h⟩:=h
   cases h;have e:(BitVec.ofInt k.bits a).toNat=Int.toNat (Int.emod a (.ofNat (kW k))):=by
    rw[BitVec.toNat_ofInt]
    cases k<;>rfl
   generalize Int.toNat (Int.emod a (.ofNat (kW k)))=x at e ⊢
   refine⟨by simp,by simp,fun t=>⟨.int k ((x &&& y:Nat):Int),?_,by rw[vA];rfl⟩⟩
   have h1:x &&& y<fF k:=yam Nat.and_le_right hy
   simp only[binOp,Op.intBits,BitVec.toNat_and,e,yR hy,zT h1];simp
 case or=>
  obtain⟨x,y,rfl,rfl,hx,hy,rfl⟩:=sY h
  obtain⟨m,hm,_⟩:=zoi k
  refine⟨by simp,by simp,fun t=>⟨.int k ((x ||| y:Nat):Int),?_,by rw[vA];rfl⟩⟩
  have h1:x ||| y<fF k:=by rw[hm];exact Nat.or_lt_two_pow (hm ▸ hx) (hm ▸ hy)
  simp only[binOp,Op.intBits,BitVec.toNat_or,yR hx,yR hy,zT h1];simp
 case xor=>
  obtain⟨x,y,rfl,rfl,hx,hy,rfl⟩:=sY h
  obtain⟨m,hm,_⟩:=zoi k
  refine⟨by simp,by simp,fun t=>⟨.int k ((x ^^^ y:Nat):Int),?_,by rw[vA];rfl⟩⟩
  have h1:x ^^^ y<fF k:=by rw[hm];exact Nat.xor_lt_two_pow (hm ▸ hx) (hm ▸ hy)
  simp only[binOp,Op.intBits,BitVec.toNat_xor,yR hx,yR hy,zT h1];simp
 case eql=>cases h;exact⟨by simp,by simp,fun t=>⟨.bool (a == b),by simp[binOp,Op.intCmp],by rw[vA,aP]⟩⟩
 case neq=>cases h;exact⟨by simp,by simp,fun t=>⟨.bool (a != b),by simp[binOp,Op.intCmp],by rw[vA,aP];rfl⟩⟩
 case lss=>cases h;exact⟨by simp,by simp,fun t=>⟨.bool (a<b),by simp[binOp,Op.intCmp],by rw[vA,z7i]⟩⟩
 case leq=>cases h;exact⟨by simp,by simp,fun t=>⟨.bool (a<=b),by simp[binOp,Op.intCmp],by rw[vA,z7j]⟩⟩
 case gtr=>cases h;exact⟨by simp,by simp,fun t=>⟨.bool (a > b),by simp[binOp,Op.intCmp],by rw[vA,z7i]⟩⟩
 case geq=>cases h;exact⟨by simp,by simp,fun t=>⟨.bool (a>=b),by simp[binOp,Op.intCmp],by rw[vA,z7j]⟩⟩
 all_goals cases h
def wU(s:ByteArray):(vE s).length=s.size:=by simp[vE]
def zi2(a b:ByteArray):vE (a++b)=vE a++vE b:=by simp[vE]
def zuu(s:ByteArray)(i:Nat):(vE s)[i]?=(s[i]?).map UInt8.toNat:=by
 unfold vE;rw[ybu];congr 1
 by_cases h:i<s.size
 ·rw[getElem?_pos s i h]
  simp[ByteArray.getElem_eq_getElem_data]
 ·rw[getElem?_neg s i h]
  simp;exact Nat.le_of_not_lt h
def bZ(s:ByteArray)(l h:Nat):vE (s.extract l h)=((vE s).take h).drop l:=by
 unfold vE;rw[ByteArray.data_extract,Array.toList_extract,List.extract_eq_take_drop,<- List.map_take,<- List.map_drop,List.drop_take]
def zl5{a b:ByteArray}:(a.toList == b.toList)=(cF (vE a) (vE b)):=by
 rw[Lib.toList_data,Lib.toList_data,Bool.eq_iff_iff,rM];constructor
 ·intro h;simp at h;unfold vE;rw[h]
 ·intro h;rw[eY h];simp
def ztw(a:List UInt8):∀b:List UInt8,Op.bytesLess a b=zoe (a.map UInt8.toNat) (b.map UInt8.toNat):=by
 induction a with
 | nil=>intro b;cases b<;>rfl
 | cons x a ih=>
  intro b
  cases b with
  | nil=>rfl
  | cons y b=>
   show _=(bif Nat.blt x.toNat y.toNat then true else bif Nat.beq x.toNat y.toNat then zoe (a.map UInt8.toNat) (b.map UInt8.toNat)else false)
   rw[Op.bytesLess,ih,iB,iB];by_cases h:x<y
   ·have:Nat.blt x.toNat y.toNat=true:=kB.2 (by exact UInt8.lt_iff_toNat_lt.1 h)
    rw[yab this];simp[h]
   ·have h1:¬ Nat.blt x.toNat y.toNat=true:=fun k=>h (UInt8.lt_iff_toNat_lt.2 (kB.1 k))
    rw[yaa h1];by_cases he:x=y
    ·subst he;rw[yab (Nat.beq_refl _)];simp[h]
    ·have h2:¬ Nat.beq x.toNat y.toNat=true:=fun k=>he (UInt8.toNat_inj.1 (oB.1 k))
     rw[yaa h2];simp[h,he]
def z1g{op:BinOp}{a b:ByteArray}(h:(z1h op).f (vE a) (vE b)=some v):op≠.shl/\op≠.shr/\∀t,∃v',(binOp op t (.string a) (.string b)).run P w=.ok v' w/\vA μ v v':=by
 cases op<;>simp only[z1h]at h
 case add=>
  simp only[nJ,xB,kB,gC,nG,wU]at h;obtain⟨h1,h⟩:=h
  cases h;refine⟨by simp,by simp,fun t=>⟨.string (a++b),?_,by rw[vA];exact⟨_,rfl,zi2 a b⟩⟩⟩
  have h2:¬ (((a.size+b.size:Nat):Int) > IntKind.i64.max):=by
   have:IntKind.i64.max=9223372036854775807:=by decide
   rw[this];omega
  simp only[binOp,Op.stringOp,yaa h2];rfl
 case eql=>cases h;exact⟨by simp,by simp,fun t=>⟨.bool (a.toList == b.toList),rfl,by rw[vA,zl5]⟩⟩
 case neq=>cases h;exact⟨by simp,by simp,fun t=>⟨.bool !(a.toList == b.toList),rfl,by rw[vA,zl5]⟩⟩
 case lss=>cases h;exact⟨by simp,by simp,fun t=>⟨.bool (Op.bytesLess a.toList b.toList),rfl,by rw[vA,Lib.toList_data,Lib.toList_data,ztw];rfl⟩⟩
 all_goals cases h
def bW{op:BinOp}{t:TypeId}{x y:Operand}{a b:Value}(h1:¬ (a=.nilIface/\b=.nilIface)\/(fW x||fW y)=true)(h2:∀l m,¬ (a=.agg l/\b=.agg m)):(eqGuard op t x y a b).run P w=.ok () w:=by
 unfold eqGuard
 cases op
 case eql | neq=>
  rw[yaa (by simp)]
  split
  ·rcases h1 with h1 | h1
   ·exact absurd ⟨rfl,rfl⟩ h1
   ·cases x<;>cases y<;>simp[fW]at h1 ⊢
  ·exact absurd ⟨rfl,rfl⟩ (h2 _ _)
  ·rfl
 all_goals rfl
def zoz{op:BinOp}{t:TypeId}{x y:Operand}{l m:Array Value}(h:P.eqGuardType P.depth t=false):(eqGuard op t x y (.agg l) (.agg m)).run P w=.ok () w:=by
 unfold eqGuard
 cases op
 case eql | neq=>rw[yaa (by simp)];simp[h]
 all_goals rfl
def fU{op:BinOp}{t yt:TypeId}{x y:Operand}{v':Value}(h1:(eqGuard op t x y (ρ x) (ρ y)).run P w=.ok () w)(h2:(binOp op t (ρ x) (ρ y)).run P w=.ok v' w) :
  (execOp ρ ⟨dst,.binOp op t x y yt,type,pos,after,guard⟩).run P w=.ok (.value v') w:=by
 simp only[execOp,yad,h1,yac,h2,yae]
def zc6{k:IntKind}{b:Int}{n:Nat}(h:zc7 k b=some n):¬ b<0/\n=min b.toNat k.bits:=by
 unfold zc7 at h;simp only[sA,nW]at h;obtain⟨m,rfl,h⟩:=h
 cases h;exact⟨by omega,by simp⟩
def zet{op:BinOp}{t yt:TypeId}{x y:Operand}{a b:zA}(hx:vA μ a (ρ x))(hy:vA μ b (ρ y))
  (h:(op=.shl/\zX zzw a b=some v)\/(op=.shr/\zX z9q a b=some v)):LOk P μ w ρ ⟨dst,.binOp op t x y yt,type,pos,after,guard⟩ v:=by
 rcases h with⟨rfl,h⟩ | ⟨rfl,h⟩
 all_goals
  unfold zX at h;simp only[sA,xP,zbe]at h;obtain⟨p,rfl,n,⟨k',rfl⟩,h⟩:=h
  rw[vA]at hx hy
 ·unfold zzw at h
  rw[sA]at h;obtain⟨m,hm,h⟩:=h
  cases h;obtain⟨h1,rfl⟩:=zc6 hm
  refine⟨.int p.1 (p.1.wrap (p.2*2^(min n.toNat p.1.bits))),fU (bW (.inl (by rw[hx];simp)) (by rw[hx];simp)) ?_,by rw[vA,iK];simp⟩
  rw[hx,hy];simp[binOp,Op.shift,h1]
 ·unfold z9q at h
  rw[sA]at h;obtain⟨m,hm,h⟩:=h
  cases h;obtain⟨h1,rfl⟩:=zc6 hm
  refine⟨.int p.1 (p.2.fdiv (2^(min n.toNat p.1.bits))),fU (bW (.inl (by rw[hx];simp)) (by rw[hx];simp)) ?_,by rw[vA];simp⟩
  rw[hx,hy];simp[binOp,Op.shift,h1]
def cW{n m:Nat}{a b:zA}{r:Bool}(h:zln n m a b=some r):(a.tag=n/\b.tag=n/\r=true)\/(a.tag=n/\b.tag=m/\r=false)\/(a.tag=m/\b.tag=n/\r=false):=by
 unfold zln at h;simp only[iB,oB]at h;split at h
 ·split at h
  ·cases h;rename_i h1 h2;exact .inl ⟨h1,h2,rfl⟩
  ·rw[xB,oB]at h;obtain⟨h1,h⟩:=h;cases h;rename_i h2 _;exact .inr (.inl ⟨h2,h1,rfl⟩)
 ·rw[xB,ybb,oB,oB]at h;obtain⟨⟨h1,h2⟩,h⟩:=h;cases h;exact .inr (.inr ⟨h1,h2,rfl⟩)
def z0j{t:Nat}{ty:uC}(hF:uJ P t ty){a b:zA}{va vb:Value}(ha:vA μ a va)(hb:vA μ b vb){r:Bool}{d:Nat}(h:zlo ty.desc a b=some r) :
  (Op.equalIn (d+1) t va vb).run P w=.ok r w:=by
 obtain⟨D,hD⟩:=hF.und
 have h0:=hF.desc
 unfold yL at h0;rw[hD]at h0;unfold Op.equalIn;rw[yad,tE hD,yac];rw[<- h0]at h
 cases D<;>simp only[zlo]at h<;>try (cases h;done)
 case bool=>
  simp only[zgs,sA,tR]at h;obtain⟨x,rfl,y,rfl,h⟩:=h
  cases h;rw[vA]at ha hb;rw[ha,hb,uR];rfl
 case int k=>
  simp only[z95,sA,xP,xB,jI]at h;obtain⟨x,rfl,y,rfl,hk,h⟩:=h
  cases h;rw[vA]at ha hb;rw[ha,hb,aP];simp[hk]
 case string=>
  simp only[ziw,sA,yP]at h;obtain⟨x,rfl,y,rfl,h⟩:=h
  cases h;rw[vA]at ha hb;obtain⟨s,rfl,rfl⟩:=ha
  obtain⟨u,rfl,rfl⟩:=hb
  have:(s == u)=cF (vE s) (vE u):=by
   rw[Bool.eq_iff_iff,rM];have h1:(s == u)=(s.data == u.data):=rfl
   rw[h1];exact⟨fun h=>(by unfold vE;rw[eq_of_beq h]),fun h=>(by rw[eY h];exact beq_self_eq_true u.data)⟩
  rw[<- this];rfl
 case pointer el=>
  rcases cW h with⟨h1,h2,rfl⟩ | ⟨h1,h2,rfl⟩ | ⟨h1,h2,rfl⟩<;>cases a<;>simp[zA.tag]at h1<;>cases b<;>simp[zA.tag]at h2<;>rw[vA]at ha<;>rw[vA]at hb
  ·rw[ha,hb];rfl
  ·obtain⟨i,_,hb⟩:=hb;rw[ha,hb];rfl
  ·obtain⟨i,_,ha⟩:=ha;rw[ha,hb];rfl
 case slice el=>
  rcases cW h with⟨h1,h2,rfl⟩ | ⟨h1,h2,rfl⟩ | ⟨h1,h2,rfl⟩<;>cases a<;>simp[zA.tag]at h1<;>cases b<;>simp[zA.tag]at h2<;>rw[vA]at ha<;>rw[vA]at hb
  ·rw[ha,hb];rfl
  ·rcases hb with⟨i,_,_,hb,_⟩ | ⟨_,_,_,_,_,hb,_⟩ <;> (rw[ha,hb];rfl)
  ·rcases ha with⟨i,_,_,ha,_⟩ | ⟨_,_,_,_,_,ha,_⟩ <;> (rw[ha,hb];rfl)
 case map k el=>
  rcases cW h with⟨h1,h2,rfl⟩ | ⟨h1,h2,rfl⟩ | ⟨h1,h2,rfl⟩<;>cases a<;>simp[zA.tag]at h1<;>cases b<;>simp[zA.tag]at h2<;>rw[vA]at ha<;>rw[vA]at hb
  ·rw[ha,hb];rfl
  ·obtain⟨i,_,hb⟩:=hb;rw[ha,hb];rfl
  ·obtain⟨i,_,ha⟩:=ha;rw[ha,hb];rfl
 case func ps rs vd=>
  rcases cW h with⟨h1,h2,rfl⟩ | ⟨h1,h2,rfl⟩ | ⟨h1,h2,rfl⟩<;>cases a<;>simp[zA.tag]at h1<;>cases b<;>simp[zA.tag]at h2<;>rw[vA]at ha<;>rw[vA]at hb
  ·rw[ha,hb];rfl
  ·obtain⟨i,_,_,hb,_⟩:=hb;rw[ha,hb];rfl
  ·obtain⟨i,_,_,ha,_⟩:=ha;rw[ha,hb];rfl
 case interface ms=>
  rcases cW h with⟨h1,h2,rfl⟩ | ⟨h1,h2,rfl⟩ | ⟨h1,h2,rfl⟩<;>cases a<;>simp[zA.tag]at h1<;>cases b<;>simp[zA.tag]at h2<;>rw[vA]at ha<;>rw[vA]at hb
  ·rw[ha,hb];rfl
  ·obtain⟨i,hb,_⟩:=hb;rw[ha,hb];rfl
  ·obtain⟨i,ha,_⟩:=ha;rw[ha,hb];rfl
def zei{t:Nat}{g:Array Field}(h:P.underlying t=some (.struct g)):P.fieldsOf t=g:=by unfold Program.fieldsOf;rw[h]
def z5r(hT:pE P C){D:Nat}{eq:Nat->zA->zA->Option Bool}(heq:∀t a b va vb r,vA μ a va->vA μ b vb->eq t a b=some r->(Op.equalIn D t va vb).run P w=.ok r w)
  {xs ys : List zA} {vx vy : Array Value} (hx : yB μ xs vx.toList) (hy : yB μ ys vy.toList) : ∀ (g : List Field) (r : Bool), (∀ f ∈ g, f.name ≠ "_") -> zu2 C eq xs ys (g.map fun f => (f.offset, f.type, P.cellsOf f.type)) = some r →
   (Op.eqFields D vx vy g).run P w=.ok r w:=by
 intro g;induction g with
 | nil=>intro r _ h;cases h;rfl
 | cons f g ih=>
  intro r hn h;rw[ycm,zu2]at h;simp only[sA]at h;obtain⟨a,ha,b,hb,q,hq,h⟩:=h
  obtain⟨va,h1,h2⟩:=qW (P:=P) (w:=w) hT hx ha
  obtain⟨vb,h3,h4⟩:=qW (P:=P) (w:=w) hT hy hb
  have h5:=heq _ _ _ _ _ _ h2 h4 hq
  rw[Op.eqFields,yab (hn f (by simp))]
  simp only[yad,h1,yac,h3,h5]
  cases q with
  | true=>rw[cond_true]at h;simpa using ih r (fun f hf=>hn f (by simp[hf])) h
  | false=>rw[cond_false]at h;cases h;simp
def z7q(hT:pE P C):∀(d D t:Nat) (a b:zA) (va vb:Value) (r:Bool),d<=D->vA μ a va->vA μ b vb->aeq C d t a b=some r->(Op.equalIn D t va vb).run P w=.ok r w:=by
 intro d;induction d with
 | zero=>intro D t a b va vb r _ _ _ h;cases h
 | succ d ih=>
  intro D t a b va vb r hD ha hb h
  cases D with
  | zero=>omega
  | succ D=>
   rw[aeq,sA]at h;obtain⟨ty,hty,h⟩:=h
   have hF:=hT.facts hty
   split at h
   ·rename_i fs hfs
    simp only[xB,sA,lV]at h;obtain⟨hok,xs,rfl,ys,rfl,h⟩:=h
    obtain⟨g,hg,rfl⟩:=bT hF hfs
    obtain⟨h1,_,h3⟩:=hF.eqOk hok
    rw[vA]at ha;rw[vA]at hb;obtain⟨cx,rfl,hx⟩:=ha
    obtain⟨cy,rfl,hy⟩:=hb
    have hfo:=zei hg
    rw[run_equalIn_struct w D t cx cy (by rw[hfo];exact hg) h1,hfo]
    exact z5r hT (fun t a b va vb r h1 h2 h3=>ih D t a b va vb r (by omega) h1 h2 h3) hx hy g.toList r (hfo ▸ h3) h
   ·exact z0j hF ha hb h
def zzan(hT:pE P C){d t:Nat}{a b:zA}{l m:Array Value}{r:Bool}(ha:vA μ a (.agg l))(hb:vA μ b (.agg m))(h:aeq C d t a b=some r):P.eqGuardType P.depth t=false:=by
 cases d with
 | zero=>cases h
 | succ d=>
  rw[aeq,sA]at h;obtain⟨ty,hty,h⟩:=h
  split at h
  ·rw[xB]at h;exact((hT.facts hty).eqOk h.1).2.1
  ·exfalso
   have hag:∀(a:zA) (l:Array Value),vA μ a (.agg l)->a.tag=13:=by
    intro a l ha
    cases a<;>rw[vA]at ha<;>first | rfl | (exfalso;revert ha;simp)
   have h1:=hag _ _ ha
   have h2:=hag _ _ hb
   cases a<;>simp[zA.tag]at h1
   cases b<;>simp[zA.tag]at h2
   revert h
   cases ty.desc<;>simp[zlo,zgs,zA.asBool,z95,zA.asIntK,ziw,zA.asStr,zln,zr6,zA.tag,cA,Nat.beq]
def zbj{a:zA}{v:Value}(h:vA μ a v):v=.nilIface->a.tag=12:=by
 intro hv;subst hv
 cases a<;>rw[vA]at h<;>first | rfl | (exfalso;revert h;simp)
def zeu(hT:pE P C){op:BinOp}{t yt:TypeId}{x y:Operand}{a b:zA}{neg:Bool}(hx:vA μ a (ρ x))(hy:vA μ b (ρ y))(ha:a.asIntK=none)(hs:a.asStr=none)
  (hop:(neg=false/\op=.eql)\/(neg=true/\op=.neq)) (h:zck neg C t x y a b=some v):LOk P μ w ρ ⟨dst,.binOp op t x y yt,type,pos,after,guard⟩ v:=by
 unfold zck at h;simp only[xB,sA]at h;obtain⟨hg,r,hr,h⟩:=h
 cases h;have h1:(Op.equal t (ρ x) (ρ y)).run P w=.ok r w:=z7q hT 20 10000 t a b _ _ r (by decide) hx hy hr
 have hG:(eqGuard op t x y (ρ x) (ρ y)).run P w=.ok () w:=by
  by_cases hag:∃l m,ρ x=.agg l/\ρ y=.agg m
  ·obtain⟨l,m,h2,h3⟩:=hag
   rw[h2]at hx;rw[h3]at hy;rw[h2,h3];exact zoz (zzan hT hx hy hr)
  ·refine bW ?_ fun l m hlm=>hag ⟨l,m,hlm⟩
   by_cases hn:ρ x=.nilIface/\ρ y=.nilIface
   ·right
    have h2:=zbj hx hn.1
    have h3:=zbj hy hn.2
    unfold zr5 at hg;rw[h2,h3]at hg;simpa[Nat.beq]using hg
   ·exact .inl hn
 have hnx:∀k n,ρ x≠.int k n:=by
  intro k n hv;rw[hv]at hx
  cases a<;>rw[vA]at hx<;>first | (simp[zA.asIntK]at ha;done) | (revert hx;simp)
 have hsx:∀s,ρ x≠.string s:=by
  intro s hv;rw[hv]at hx
  cases a<;>rw[vA]at hx<;>first | (simp[zA.asStr]at hs;done) | (revert hx;simp)
 have hfx:∀k n,ρ x≠.float k n:=by
  intro k n hv;rw[hv]at hx
  cases a<;>rw[vA]at hx<;>revert hx<;>simp
 have hcx:∀k n m,ρ x≠.complex k n m:=by
  intro k n m hv;rw[hv]at hx
  cases a<;>rw[vA]at hx<;>revert hx<;>simp
 rcases hop with⟨rfl,rfl⟩ | ⟨rfl,rfl⟩
 ·refine⟨.bool r,fU hG ?_,by rw[vA];rfl⟩
  revert h1 hnx hsx hfx hcx
  generalize ρ x=vx
  generalize ρ y=vy
  intro h1 hnx hsx hfx hcx
  cases vx<;>first
   | exact absurd rfl (hnx _ _)
   | exact absurd rfl (hsx _)
   | exact absurd rfl (hfx _ _)
   | exact absurd rfl (hcx _ _ _)
   | simp[binOp,h1]
 ·refine⟨.bool (!r),fU hG ?_,by rw[vA];rfl⟩
  revert h1 hnx hsx hfx hcx
  generalize ρ x=vx
  generalize ρ y=vy
  intro h1 hnx hsx hfx hcx
  cases vx<;>first
   | exact absurd rfl (hnx _ _)
   | exact absurd rfl (hsx _)
   | exact absurd rfl (hfx _ _)
   | exact absurd rfl (hcx _ _ _)
   | simp[binOp,h1]
def zza(hT:pE P C)(hE:kE μ e ρ){op:BinOp}{t yt:Nat}{x y:Operand}(h:zzb op t x y C e H=some v):LOk P μ w ρ ⟨dst,.binOp op t x y yt,type,pos,after,guard⟩ v:=by
 unfold zzb at h;simp only[sA]at h;obtain⟨a,ha,b,hb,h⟩:=h
 have hx:=hE _ _ ha
 have hy:=hE _ _ hb
 clear ha hb
 revert h
 have plain:∀op,op≠.shl->op≠.shr->zi4 op C t x y a b=some v->LOk P μ w ρ ⟨dst,.binOp op t x y yt,type,pos,after,guard⟩ v:=by
  intro op _ _ h;unfold zi4 at h;split at h
  ·rename_i i hi
   simp only[sA,xP,xB,jI]at h;obtain⟨j,rfl,hk,h⟩:=h
   rw[xP]at hi;subst hi;rw[vA]at hx;rw[vA]at hy;obtain⟨_,_,h2⟩:=z1j (P:=P) (μ:=μ) (w:=w) h
   obtain⟨v',h3,h4⟩:=h2 t
   refine⟨v',fU (bW (.inl (by rw[hx];simp)) (by rw[hx];simp)) ?_,h4⟩
   rw[hx,hy,<- hk];exact h3
  ·rename_i hi
   split at h
   ·rename_i s hs
    simp only[sA,yP]at h;obtain⟨u,rfl,h⟩:=h
    rw[yP]at hs;subst hs;rw[vA]at hx;rw[vA]at hy;obtain⟨sx,hx,rfl⟩:=hx
    obtain⟨sy,hy,rfl⟩:=hy
    obtain⟨_,_,h2⟩:=z1g (P:=P) (μ:=μ) (w:=w) h
    obtain⟨v',h3,h4⟩:=h2 t
    refine⟨v',fU (bW (.inl (by rw[hx];simp)) (by rw[hx];simp)) ?_,h4⟩
    rw[hx,hy];exact h3
   ·rename_i hs
    cases op<;>simp only[z1i]at h<;>first
     | exact zeu hT hx hy hi hs (.inl ⟨rfl,rfl⟩) h
     | exact zeu hT hx hy hi hs (.inr ⟨rfl,rfl⟩) h
     | (cases h;done)
 intro h
 cases op<;>simp only[binA]at h<;>first
  | exact zet hx hy (.inl ⟨rfl,h⟩)
  | exact zet hx hy (.inr ⟨rfl,h⟩)
  | exact plain _ (by simp) (by simp) h
def zzi{k:IntKind}(h:kLo k=0):fF k=2^k.bits:=by
 cases k<;>first
  | (cases h;done)
  | rfl
def z6v(hE:kE μ e ρ){op:UnOp}{t:Nat}{x:Operand}(h:lUn op x C e H=some v):LOk P μ w ρ ⟨dst,.unOp op t x,type,pos,after,guard⟩ v:=by
 unfold lUn at h;simp only[sA]at h;obtain⟨a,ha,h⟩:=h
 have hx:=hE _ _ ha
 cases op<;>simp only[unA]at h<;>try (cases h;done)
 case neg=>
  simp only[unNeg,sA,xP]at h;obtain⟨p,rfl,h⟩:=h
  cases h;rw[vA]at hx;refine⟨.int p.1 (p.1.wrap (0-p.2)),?_,by rw[vA,iK]⟩
  simp[execOp,hx,Op.unary,Op.intArith]
 case xor=>
  simp only[zm4,sA,xP,xB,oB]at h;obtain⟨p,rfl,hk,h⟩:=h
  obtain⟨a,b,ha1,hb,hx1,hy,rfl⟩:=sY h
  rw[vA]at hx;have h1:Nat.xor a b<fF p.1:=by
   have:Nat.xor a b<2^p.1.bits:=Nat.xor_lt_two_pow (by rw[<- zzi hk];exact hx1) (by rw[<- zzi hk];exact hy)
   rw[zzi hk];exact this
  refine⟨.int p.1 (Nat.xor a b:Nat),?_,by rw[vA]⟩
  have hm:(if p.1.signed then(-1:Int)else p.1.max)=(a:Int):=by
   rw[<- ha1];revert hk
   cases p.1<;>intro hk<;>first
    | (cases hk;done)
    | rfl
  have e2:(Op.intBits .xor p.1 (if p.1.signed then -1 else p.1.max) p.2).run P w=.ok (.int p.1 (Nat.xor a b:Nat)) w:=by
   rw[hm,hb];simp only[Op.intBits,BitVec.toNat_xor,yR hx1,yR hy];rw[show(a ^^^ b:Nat)=Nat.xor a b from rfl,zT h1]
   rfl
  simp[execOp,hx,Op.unary]
  rw[e2];rfl
 case not=>
  simp only[unNot,sA,tR]at h;obtain⟨b,rfl,h⟩:=h
  cases h;rw[vA]at hx;refine⟨.bool (!b),?_,by rw[vA]⟩
  simp[execOp,hx,Op.unary]
end
end Go.Am
namespace Go.Am
open Go
section
variable {P:Program}{C:oA}{B N:Nat}{μ:Mu}{H:xA}{w:World}
variable {e:mC}{ρ:Operand->Value}{dst:Option Tmp}{type:TypeId}{pos:String}{after:Array Edge}{guard:Option (Nat × Bool)}{v:zA}
def zl6{a:zA}{n:Nat}(h:zO a=some n):a=.int .u8 (n:Int)/\n<256:=by
 unfold zO at h;simp only[sA,xP,xB,jI,nW,kB]at h;obtain⟨p,rfl,hk,m,hm,hlt,h⟩:=h
 cases h;rw[hk,hm];exact⟨rfl,hlt⟩
def zpd(l:List Nat):∀s:ByteArray,(∀n∈l,n<256)->vE ((l.map fun n:Nat=>(n:Int)).foldl (fun r n=>r.push (UInt8.ofNat n.toNat)) s)=vE s++l:=by
 induction l with
 | nil=>intro s _;simp
 | cons n l ih=>
  intro s h;rw[ycm,List.foldl_cons,ih _ fun m hm=>h m (by simp[hm])]
  have:vE (s.push (UInt8.ofNat (n:Int).toNat))=vE s++[n]:=by
   have hn:=h n (by simp)
   simp[vE,Nat.mod_eq_of_lt hn]
  rw[this];simp
def zut{μ:Mu}:∀ {l:List zA} {r:List Nat} {vs:List Value},jF zO l=some r->yB μ l vs->vs=r.map (fun n:Nat=>Value.int .u8 (n:Int))/\∀n∈r,n<256:=by
 intro l;induction l with
 | nil=>intro r vs h k;rw[kT]at h;cases h;rw[yB]at k;subst k;exact⟨rfl,by simp⟩
 | cons a l ih=>
  intro r vs h k;rw[oK,sA]at h;obtain⟨n,hn,h⟩:=h
  rw[sA]at h;obtain⟨r',hr,h⟩:=h
  cases h;rw[yB]at k;obtain⟨v,m,rfl,h1,h2⟩:=k
  obtain⟨rfl,hlt⟩:=zl6 hn
  rw[vA]at h1;obtain⟨h3,h4⟩:=ih hr h2
  subst h1 h3
  exact⟨rfl,fun m hm=>(ybs.1 hm).elim (fun e=>e ▸ hlt) (h4 m)⟩
def zlx(hH:zB B N μ H w){a:zA}{x:Value}(hx:vA μ a x)(h:zU H a=some v):∃v',(Conv.bytesToString x).run P w=.ok v' w/\vA μ v v'/\∃A l c,x=.slice A l c:=by
 unfold zU at h;split at h
 ·rename_i s hs
  rw[kS]at hs;subst hs;simp only[sA]at h;obtain⟨c,hc,l,hl,r,hr,h⟩:=h
  cases h;rw[vA]at hx;rcases hx with⟨i,cap',hi,rfl,_⟩ | ⟨_,h0,_,A,_,rfl,_⟩
  rotate_left
  ·rw[h0]at hl
   cases hl
   cases hr;refine⟨_,run_bytesToString w _ _ _ [] rfl,?_,_,_,_,rfl⟩
   rw[vA];exact⟨_,rfl,rfl⟩
  obtain⟨vs,_,h2,h3,_⟩:=hH.manyAt (P:=P) hc hi hl
  obtain⟨h4,h5⟩:=zut hr h2
  refine⟨_,run_bytesToString w _ _ _ (r.map fun n:Nat=>(n:Int)) (by rw[h3,h4];simp),?_,_,_,_,rfl⟩
  rw[vA];exact⟨_,rfl,by rw[zpd _ _ h5];simp[vE]⟩
 ·simp only[xB,oB]at h
  obtain⟨h1,h⟩:=h
  cases h;rw[lP.2.1]at h1;subst h1;rw[vA]at hx;subst hx;exact⟨.string .empty,rfl,by rw[vA];exact⟨_,rfl,rfl⟩,_,_,_,rfl⟩
def z5f(hT:pE P C)(hH:zB B N μ H w){s d:Nat}{sty dty:uC}(hs:C.tys.get s=some sty)(hd:C.tys.get d=some dty){a:zA}{x:Value}(hx:vA μ a x)(h:qM C sty dty a H=some v) :
  ∃v',(convert s d x).run P w=.ok v' w/\vA μ v v':=by
 have hS:=hT.facts hs
 have hD:=hT.facts hd
 obtain⟨su,hsu⟩:=hS.und
 unfold qM at h;split at h
 ·rename_i k hk
  simp only[sA,zbe]at h;obtain⟨n,⟨k',rfl⟩,h⟩:=h
  cases h;rw[vA]at hx;subst hx;refine⟨.int k (k.wrap n),?_,by rw[vA,iK]⟩
  simp only[convert,yad,tE hsu,tE (ziy hD hk),yac]
  rfl
 ·simp only[xB]at h
  obtain⟨hstr,h⟩:=h
  rw[iB]at h;split at h
  ·rename_i ht
   cases h
   cases v<;>simp[zA.tag,Nat.beq]at ht
   have hx':=hx
   rw[vA]at hx;obtain⟨str,rfl,_⟩:=hx
   refine⟨.string str,?_,hx'⟩
   simp only[convert,yad,tE hsu,tE (kY hD hstr),yac]
   cases su<;>rfl
  ·simp only[sA,xB,jI]at h
   obtain⟨el,hel,et,het,k,hk,rfl,h⟩:=h
   obtain⟨v',h1,h2,A,l,c,rfl⟩:=zlx (P:=P) hH hx h
   exact⟨v',by rw[run_convert_bytes_string w s d el A l c (qN hS hel) (ziy (hT.facts het) hk) (kY hD hstr)];exact h1,h2⟩
def zrk(hT:pE P C)(hH:zB B N μ H w)(hE:kE μ e ρ){s d:Nat}{x:Operand}(h:bK s d x C e H=some v):LOk P μ w ρ ⟨dst,.convert s d x,type,pos,after,guard⟩ v:=by
 unfold bK at h;simp only[sA]at h;obtain⟨a,ha,sty,hs,dty,hd,h⟩:=h
 obtain⟨v',h1,h2⟩:=z5f hT hH hs hd (hE _ _ ha) h
 exact⟨v',by simp only[execOp,yad,h1,yac,yae],h2⟩
def dY{y:Nat}{a:zA}{n:Nat}(h:xR y a=some n):(∃k,a=.int k (n:Int))/\n<=y:=by
 unfold xR at h;simp only[sA,bY,xB,dD]at h;obtain⟨m,⟨k,rfl⟩,hle,h⟩:=h
 cases h;exact⟨⟨k,rfl⟩,hle⟩
def pX{y y':Nat}{a:zA}{x:Value}(hx:vA μ a x){n:Nat}(h:xR y a=some n)(hy:y<=y')(code:BoundsCode):(Instr.sliceBound x y' code).run P w=.ok n w:=by
 obtain⟨⟨k,rfl⟩,hle⟩:=dY h
 rw[vA]at hx;subst hx;have h1:(0:Int)<=n/\(n:Int)<=y':=⟨by omega,by omega⟩
 simp only[Instr.sliceBound,asIntOf,yad,yae,yac,Sem.run_ite,yab h1];simp
def zW{isSlice:Bool}{len cap cap':Nat}(hc:cap<=cap'){lo hi:Option zA}{lo' hi':Option Value}
  (h1:z1w μ lo lo') (h2:z1w μ hi hi')
  {p:Nat × Nat} (h:nM len cap lo hi=some p):(Instr.sliceBounds isSlice len cap' lo' hi' none).run P w=.ok (p.1,p.2,cap') w/\p.1<=p.2/\(p.2<=cap\/p.2=len):=by
 unfold nM at h;simp only[sA]at h;obtain⟨hb,hhi,l,hlo,h⟩:=h
 cases h;have hH:hb<=cap\/hb=len:=by
  cases hi with
  | none=>right;cases hhi;rfl
  | some a=>left;exact(dY hhi).2
 have hL:l<=hb:=by
  cases lo with
  | none=>cases hlo;omega
  | some a=>exact(dY hlo).2
 refine⟨?_,hL,hH⟩
 unfold Instr.sliceBounds
 cases hi with
 | none=>
  cases hi' with
  | some v=>exact h2.elim
  | none=>
   cases hhi
   cases lo with
   | none=>
    cases lo' with
    | some v=>exact h1.elim
    | none=>cases hlo;simp
   | some a=>
    cases lo' with
    | none=>exact h1.elim
    | some v=>simp[pX (P:=P) (w:=w) h1 hlo (ybk _)]
 | some b=>
  cases hi' with
  | none=>exact h2.elim
  | some u=>
   cases lo with
   | none=>
    cases lo' with
    | some v=>exact h1.elim
    | none=>cases hlo;simp[pX (P:=P) (w:=w) h2 hhi hc]
   | some a=>
    cases lo' with
    | none=>exact h1.elim
    | some v=>simp[pX (P:=P) (w:=w) h2 hhi hc,pX (P:=P) (w:=w) h1 hlo (ybk _)]
def hZ{b size cap l:Nat}{arr:Bool}(hH:zB B N μ H w){i:BI}(hi:μ b=some i)(h:jH H b size cap l arr=true) :
  i.tight=true\/(i.tight=false/\arr=false/\i.es=size/\(cap≠l\/l=0)):=by
 unfold jH at h;split at h
 ·rename_i c hc
  obtain⟨o,h2,h3⟩:=hH.blk _ _ _ (mS hc) hi
  obtain⟨cs,elem,fr,_,_,_,_,h4⟩:=h3
  split at h
  ·rename_i hn;rw[hn]at h4;exact .inl h4
  ·rename_i es hes
   rw[hes]at h4;simp only[ybb,ycq,ycp,oB,beqf]at h;exact .inr ⟨h4.1,h.1.1,h4.2.1.trans h.1.2,h.2⟩
 ·cases h
def zuv{len cap:Nat}{lo hi:Option zA}{p:Nat × Nat}(h:nM len cap lo hi=some p):p.1<=p.2:=by
 unfold nM at h;simp only[sA]at h;obtain⟨hb,hhi,l,hlo,h⟩:=h
 cases h
 cases lo with
 | none=>cases hlo;exact yaw _
 | some a=>exact(dY hlo).2
def zc5(hT:pE P C)(hH:zB B N μ H w){arr:Bool}{el b off len cap cap':Nat}{lo hi:Option zA}{i:BI}(hi':μ b=some i)
  (hcap:cap<=cap') (ht:i.tight=true->cap'=cap) (hr:i.tight=false->arr=false->off+cap'*i.es<=i.room) (h:vL C H arr el b off len cap lo hi=some v) :
  ∃p size,nM len cap lo hi=some p/\(sizeOf el).run P w=.ok size w ∧
   vA μ v (.slice (some (if cap'=p.1 then⟨i.b,off,none⟩else Addr.add ⟨i.b,off,none⟩ (p.1*size))) (p.2-p.1) (cap'-p.1)):=by
 unfold vL at h;simp only[sA]at h;obtain⟨et,het,p,hp,h⟩:=h
 rw[iB]at h;split at h
 ·rename_i hend
  cases h;simp only[ybb,dD]at hend;obtain⟨⟨hle,hle2⟩,hend⟩:=hend
  have hcp:cap=p.1:=by
   unfold aI at hend;split at hend
   ·split at hend
    ·cases hend
    ·simp only[ybb,oB]at hend;exact hend.1.2
   ·cases hend
  refine⟨p,et.size,hp,(hT.facts het).size,?_⟩
  rw[vA];rw[show p.2-p.1=0 by omega];exact .inr ⟨rfl,rfl,rfl,_,_,rfl,.inr rfl⟩
 simp only[xB,ybb,dD]at h;obtain⟨⟨hle,hf⟩,h⟩:=h
 cases h;have hle':=zuv hp
 refine⟨p,et.size,hp,(hT.facts het).size,?_⟩
 rw[vA];have hoff:(if cap'=p.1 then(⟨i.b,off,none⟩:Addr)else Addr.add ⟨i.b,off,none⟩ (p.1*et.size))=⟨i.b,(bif Nat.beq cap p.1 then off else off+p.1*et.size),none⟩:=by
  rw[rQ,iB];simp only[oB];rcases hZ hH hi' hf with h1 | ⟨_,_,_,h1⟩
  ·rw[ht h1];split<;>rfl
  ·by_cases hc:cap=p.1
   ·have h2:p.1=0:=h1.resolve_left fun k=>k hc
    rw[yab hc,h2];split<;>simp
   ·rw[yaa hc,yaa (by omega)]
 refine .inl ⟨i,cap'-p.1,hi',by rw[hoff],by omega,fun h1=>by rw[ht h1],fun h1=>?_⟩
 rcases hZ hH hi' hf with h2 | ⟨_,h3,h4,h5⟩
 ·rw[h1]at h2;cases h2
 ·have h6:=hr h1 h3
  rw[iB];simp only[oB];rw[h4]at h6 ⊢
  have h8:p.1*et.size+(cap'-p.1)*et.size=cap'*et.size:=by rw[<- ybo];congr 1;omega
  split
  ·omega
  ·omega
def zk0(hT:pE P C)(hH:zB B N μ H w)(hE:kE μ e ρ){t:Nat}{x:Operand}{lo hi mx:Option Operand}(h:(jW t x lo hi mx).f C e H=some v) :
  LOk P μ w ρ ⟨dst,.slice t x lo hi mx,type,pos,after,guard⟩ v:=by
 unfold jW at h;split at h
 ·simp only[cQ,sA]at h
  obtain⟨a,ha,l,hl,u,hu,ty,hty,h⟩:=h
  have hx:=hE _ _ ha
  have h1:=hE.opt hl
  have h2:=hE.opt hu
  have hF:=hT.facts hty
  have run:∀ {v'},(Instr.sliceAt t (ρ x) (lo.map ρ) (hi.map ρ) none).run P w=.ok v' w->(execOp ρ ⟨dst,.slice t x lo hi none,type,pos,after,guard⟩).run P w=.ok (.value v') w:=by
   intro v' hr;simp only[execOp,Option.map_none,yad,hr,yac,yae]
  unfold rK at h;split at h
  ·rename_i s hs
   rw[yP]at hs;subst hs;rw[xB]at h;obtain⟨hstr,h⟩:=h
   unfold zb6 at h;simp only[sA,gC,dP,qO]at h;obtain⟨p,hp,h⟩:=h
   cases h;rw[vA]at hx;obtain⟨str,hxv,rfl⟩:=hx
   rw[wU]at hp;obtain⟨h3,_⟩:=zW (P:=P) (w:=w) (isSlice:=false) (ybk _) h1 h2 hp
   refine⟨.string (str.extract p.1 p.2),run ?_,by rw[vA];exact⟨_,rfl,bZ _ _ _⟩⟩
   have hu':=kY hF hstr
   simp only[Instr.sliceAt,yad,tE hu',yac,Instr.slice,hxv];simp[h3]
  ·split at h
   ·rename_i r hr
    rw[kS]at hr;subst hr;simp only[sA]at h;obtain⟨el,hel,h⟩:=h
    rw[vA]at hx;rcases hx with⟨i,cap',hi',hxv,hc,ht,hrm⟩ | ⟨k1,k3,k4,A,c,hxv,k2⟩
    rotate_left
    ·unfold vL at h
     simp only[sA]at h;obtain⟨et,het,p,hp,h⟩:=h
     rw[iB]at h;obtain⟨h3,h6,h7⟩:=zW (P:=P) (w:=w) (isSlice:=true) (cap':=c) (by omega) h1 h2 hp
     have hp2:p.2=0:=by rcases h7 with h7 | h7<;>omega
     have hp1:p.1=0:=by omega
     have hend:¬ (Nat.ble p.2 r.2.2.2&&Nat.ble p.1 p.2&&aI H r.1 et.size r.2.2.2 p.1 false)=true:=by
      intro e;simp only[ybb]at e;have e2:=e.2
      unfold aI at e2;split at e2
      ·split at e2
       ·cases e2
       ·simp only[ybb,ycp]at e2
        have e3:=e2.2
        rw[hp1]at e3
        cases e3
      ·cases e2
     rw[yaa hend]at h;simp only[xB,ybb,dD]at h;obtain⟨_,h⟩:=h
     cases h;rw[k3]at h3;refine⟨.slice (some A) 0 c,run ?_,?_⟩
     ·have hu':=qN hF hel
      simp only[Instr.sliceAt,yad,tE hu',yac,Instr.slice,hxv,h3,yae,(hT.facts het).size,hp1,hp2]
      simp[Addr.add]
     ·rw[vA]
      refine .inr ⟨k1,by rw[hp1,hp2],by rw[k4,hp1],A,c,rfl,?_⟩
      rw[k4,hp1];exact k2
    obtain⟨p,size,hp,h4,h5⟩:=zc5 (P:=P) (w:=w) hT hH hi' hc ht (fun a _=>hrm a) h
    obtain⟨h3,_⟩:=zW (P:=P) (w:=w) (isSlice:=true) hc h1 h2 hp
    refine⟨_,run ?_,h5⟩
    have hu':=qN hF hel
    simp only[Instr.sliceAt,yad,tE hu',yac,Instr.slice,hxv,h3,yae,h4];congr 2
    split<;>rfl
   ·split at h
    ·rename_i q hq
     rw[tU]at hq;subst hq;simp only[sA]at h;obtain⟨ar,har,h⟩:=h
     rw[vA]at hx;obtain⟨i,hi',hxv⟩:=hx
     obtain⟨p,size,hp,h4,h5⟩:=zc5 (P:=P) (w:=w) hT hH hi' (ybk _) (fun _=>rfl) (fun _ h=>by cases h) h
     obtain⟨h3,_⟩:=zW (P:=P) (w:=w) (isSlice:=false) (ybk _) h1 h2 hp
     refine⟨_,run ?_,h5⟩
     have hu':=zcj hF har
     simp only[Instr.sliceAt,yad,tE hu',yac,hxv,Instr.sureAddr,h3,yae,h4]
    ·simp only[xB,oB,sA]at h
     obtain⟨htag,el,hel,ety,hety,p,hp,h⟩:=h
     cases h;rw[lP.2.1]at htag;subst htag;rw[vA]at hx;obtain⟨h3,h6,h7⟩:=zW (P:=P) (w:=w) (isSlice:=true) (ybk 0) h1 h2 hp
     have hp2:p.2=0:=by omega
     have hp1:p.1=0:=by omega
     rw[hp1,hp2]at h3;refine⟨.slice none 0 0,run ?_,by rw[vA]⟩
     have hu':=qN hF hel
     simp only[Instr.sliceAt,yad,tE hu',yac,Instr.slice,hx,h3,yae,(hT.facts hety).size]
     simp
 ·cases h
end
end Go.Am
namespace Go.Am
open Go
section
variable {P:Program}{C:oA}{B N:Nat}{μ:Mu}{H:xA}{w:World}
variable {e:mC}{ρ:Operand->Value}{dst:Option Tmp}{type:TypeId}{pos:String}{after:Array Edge}{guard:Option (Nat × Bool)}{v:zA}
def zai(hT:pE P C)(hE:kE μ e ρ){t:Nat}{x i:Operand}(h:mO t x i C e H=some v):LOk P μ w ρ ⟨dst,.indexAddr t x i,type,pos,after,guard⟩ v:=by
 unfold mO at h;simp only[sA,bY]at h;obtain⟨ty,hty,a,ha,iv,hi,n,⟨k,rfl⟩,h⟩:=h
 have hF:=hT.facts hty
 have hx:=hE _ _ ha
 have hiv:=hE _ _ hi
 rw[vA]at hiv;split at h
 ·rename_i s hs
  rw[kS]at hs;subst hs;simp only[sA,xB,kB]at h;obtain⟨el,hel,et,het,hlt,h⟩:=h
  cases h;rw[vA]at hx;rcases hx with⟨j,cap',hj,hxv,_⟩ | ⟨_,k,_⟩
  rotate_left
  ·rw[k]at hlt;exact absurd hlt (Nat.not_lt_zero _)
  refine⟨.pointer (some ⟨j.b,s.2.1+n*et.size,none⟩),?_,by rw[vA];exact⟨j,hj,rfl⟩⟩
  have h1:(0:Int)<=(n:Int)/\(n:Int)<(s.2.2.1:Int):=⟨by omega,by omega⟩
  simp only[execOp,Instr.indexAt,hiv,hxv,asIntOf,yad,yae,yac,tE (qN hF hel),(hT.facts het).size,Sem.run_ite,yab h1,Int.toNat_natCast,rQ]
 ·simp only[sA,tU,xB,kB]at h
  obtain⟨p,rfl,ar,har,et,het,hlt,h⟩:=h
  cases h;rw[vA]at hx;obtain⟨j,hj,hxv⟩:=hx
  refine⟨.pointer (some ⟨j.b,p.2+n*et.size,none⟩),?_,by rw[vA];exact⟨j,hj,rfl⟩⟩
  have h1:(0:Int)<=(n:Int)/\(n:Int)<(ar.1:Int):=⟨by omega,by omega⟩
  simp only[execOp,Instr.indexAt,hiv,hxv,asIntOf,yad,yae,yac,tE (zcj hF har),Instr.sureAddr,(hT.facts het).size,Sem.run_ite,yab h1,Int.toNat_natCast,rQ]
def zk1(hT:pE P C)(hE:kE μ e ρ){t:Nat}{x i:Operand}(h:lO t x i C e H=some v):LOk P μ w ρ ⟨dst,.index t x i,type,pos,after,guard⟩ v:=by
 unfold lO at h;simp only[sA,bY]at h;obtain⟨ty,hty,a,ha,iv,hi,n,⟨k,rfl⟩,h⟩:=h
 have hF:=hT.facts hty
 have hx:=hE _ _ ha
 have hiv:=hE _ _ hi
 rw[vA]at hiv;split at h
 ·rename_i s hs
  rw[yP]at hs;subst hs;simp only[xB,sA,iF]at h;obtain⟨hstr,b,hb,h⟩:=h
  cases h;rw[vA]at hx;obtain⟨str,hxv,rfl⟩:=hx
  rw[zuu,yar]at hb;obtain⟨u,hu,rfl⟩:=hb
  refine⟨.int .u8 u.toNat,?_,by rw[vA];rfl⟩
  simp only[execOp,Instr.index,hiv,hxv,asIntOf,yad,yae,yac,tE (kY hF hstr),Int.natCast_nonneg,if_true,Int.toNat_natCast,hu]
 ·simp only[sA,lV,xB,kB]at h
  obtain⟨l,rfl,ar,har,et,het,hlt,h⟩:=h
  rw[vA]at hx;obtain⟨cs,hxv,hl⟩:=hx
  obtain⟨v',h2,h3⟩:=qW (P:=P) (w:=w) hT hl h
  refine⟨v',?_,h3⟩
  have h1:(0:Int)<=(n:Int)/\(n:Int)<(ar.1:Int):=⟨by omega,by omega⟩
  simp only[execOp,Instr.index,hiv,hxv,asIntOf,yad,yae,yac,tE (zcj hF har),(hT.facts het).size,Sem.run_ite,yab h1,Int.toNat_natCast,h2]
def zfa(l:List Value):∀(off k:Nat) (cs:Array Value),off+k+l.length<=cs.size →
  ((l.zipIdx k).foldl (fun cs (c,j)=>cs.setIfInBounds (off+j) c) cs).toList=cs.toList.take (off+k)++l++cs.toList.drop (off+k+l.length):=by
 induction l with
 | nil=>intro off k cs _;simp
 | cons a l ih=>
  intro off k cs h;rw[List.zipIdx_cons,List.foldl_cons,ih off (k+1) _ (by simp at h ⊢;omega)]
  have hk:off+k<cs.toList.length:=by simp at h ⊢;omega
  simp only[Array.toList_setIfInBounds];rw[List.take_set,List.drop_set_of_lt (by omega)]
  rw[show off+(k+1)=off+k+1 by omega,List.take_succ_eq_append_getElem hk,List.set_append_right _ _ (by simp;omega)]
  simp only[ybz,yda,ycz,ybn];rw[Nat.min_eq_left (by simpa using Nat.le_of_lt hk),Nat.sub_self]
  rw[show off+k+(l.length+1)=off+k+1+l.length by omega]
  rfl
def zcg{place:Nat->Option (Nat × Nat)}{ps:List (Nat × zA)}{qs:List (Nat × Value)}(hp:oC (fun p q=>p.1=q.1/\vA μ p.2 q.2) ps qs) :
  ∀ {cells r:List zA} {cs:Array Value},yB μ cells cs.toList->tM place ps cells=some r->∃out,Instr.fill place cs qs=some out/\yB μ r out.toList:=by
 induction hp with
 | nil=>intro cells r cs hc h;rw[tM]at h;cases h;exact⟨cs,rfl,hc⟩
 | @cons p q ps qs hpq _ ih=>
  intro cells r cs hc h;rw[tM]at h;simp only[sA]at h;obtain⟨pl,hpl,mid,hmid,h⟩:=h
  unfold cT at hmid;simp only[xB,ybb,oB,dD,gC,nG,qO,dP]at hmid;obtain⟨⟨h1,h2⟩,hmid⟩:=hmid
  cases hmid;obtain⟨i,vq⟩:=q
  obtain⟨rfl,hv⟩:=hpq
  have hvc:=zap hv
  have hlen:=hvc.length
  have hcl:=hc.length
  simp only[ycz]at hlen hcl;rw[Instr.fill,hpl];simp only[];have h3:¬ (vq.cells.size≠pl.2||decide (pl.1+vq.cells.size > cs.size))=true:=by
   simp;exact⟨by omega,by omega⟩
  have h4:¬ ((decide (vq.cells.size≠pl.2)||decide (pl.1+vq.cells.size > cs.size))=true):=by simpa using h3
  obtain⟨off,sz⟩:=pl
  rw[yaa h4];refine ih ?_ h
  have h5:=zfa vq.cells.toList off 0 cs (by simp;omega)
  rw[<- Array.foldl_toList,Array.toList_zipIdx,h5];simp only[yct,ycz];have:=((hc.take off).append hvc).append (hc.drop (off+p.2.cells.length))
  rw[ybz]at this;rw[hlen];simpa using this
def ztb{g:Array Field}(h:∀f∈g.toList,∃i,P.info? f.type=some i):(g.mapM fun f=>(do pure (f.offset,<- sizeOf f.type):Sem (Nat × Nat))).run P w=.ok (g.map fun f=>(f.offset,P.cellsOf f.type)) w:=by
 obtain⟨l⟩:=g
 rw[List.mapM_toArray];simp only[Sem.run_map,List.map_toArray];have key:∀l:List Field,(∀f∈l,∃i,P.info? f.type=some i)->(l.mapM fun f=>(do pure (f.offset,<- sizeOf f.type):Sem (Nat × Nat))).run P w=.ok (l.map fun f=>(f.offset,P.cellsOf f.type)) w:=by
  intro l;induction l with
  | nil=>intro _;rfl
  | cons f l ih=>
   intro h;obtain⟨i,hi⟩:=h f (by simp)
   have h1:(sizeOf f.type).run P w=.ok (P.cellsOf f.type) w:=by simp[sizeOf,qT hi,Program.cellsOf,hi]
   rw[List.mapM_cons];simp only[yad,h1,yac,yae,ih fun f hf=>h f (by simp[hf])]
   rfl
 rw[key l (by simpa using h)]
 rfl
def zk4(hT:pE P C)(hE:kE μ e ρ){t:Nat}{parts:Array (Nat × Operand)}(h:cP t parts C e H=some v):LOk P μ w ρ ⟨dst,.build t parts,type,pos,after,guard⟩ v:=by
 unfold cP at h;simp only[sA]at h;obtain⟨ty,hty,ps,hps,h⟩:=h
 have hF:=hT.facts hty
 have hq:=hE.parts hps
 obtain⟨z,hz,_,hzl⟩:=hF.zero (μ:=μ)
 split at h
 ·rename_i fs hfs
  simp only[sA,iF]at h;obtain⟨l,hl,h⟩:=h
  cases h;obtain⟨g,hg,rfl⟩:=bT hF hfs
  have hpl:(fun i:Nat=>ob ((g.toList.map fun f=>(f.offset,f.type,P.cellsOf f.type))[i]?) fun(x:Nat × Nat × Nat)=>some (x.1,x.2.2))=fun i=>(g.map fun f=>(f.offset,P.cellsOf f.type))[i]?:=by
   funext i
   rw[ybu];simp only[Array.getElem?_map];have:g.toList[i]?=g[i]?:=by simp
   rw[this]
   cases g[i]?<;>rfl
  rw[hpl]at hl;obtain⟨out,ho,hr⟩:=zcg hq hzl hl
  refine⟨.agg out,?_,by rw[vA];exact⟨_,rfl,hr⟩⟩
  have hpr:=ztb (P:=P) (w:=w) (g:=g) (by have:=hF.fields;rwa [zei hg]at this)
  simp only[execOp,Instr.build,yad,hz,yac,tE hg,hpr,Array.toList_map,ho,yae]
 ·simp only[sA]at h
  obtain⟨ar,har,et,het,l,hl,h⟩:=h
  cases h;obtain⟨out,ho,hr⟩:=zcg hq hzl hl
  refine⟨.agg out,?_,by rw[vA];exact⟨_,rfl,hr⟩⟩
  simp only[execOp,Instr.build,yad,hz,yac,tE (zcj hF har),(hT.facts het).size,Array.toList_map,ho,yae]
def zgi(hT:pE P C)(hE:kE μ e ρ){x:Operand}{xt asserted:Nat}{ok:Bool}(h:iO x asserted ok C e H=some v):LOk P μ w ρ ⟨dst,.typeAssert x xt asserted ok,type,pos,after,guard⟩ v:=by
 unfold iO at h;simp only[sA,xB]at h;obtain⟨ty,hty,hb,a,ha,h⟩:=h
 have hF:=hT.facts hty
 have hx:=hE _ _ ha
 obtain⟨d,hd,hn⟩:=zao hF hb
 obtain⟨z,hz,hzr,_⟩:=hF.zero (μ:=μ)
 split at h
 ·rename_i p hp
  rw[zbv]at hp;subst hp;rw[vA]at hx;obtain⟨x',hxv,hr⟩:=hx
  rw[iB]at h;split at h
  ·rename_i heq
   rw[oB]at heq
   cases h;refine⟨if ok then .tuple #[x',.bool true]else x',?_,?_⟩
   ·simp only[execOp,Instr.typeAssert,hxv,yad,tE hd,yac]
    cases d<;>first | exact absurd rfl (hn _) | simp[heq]
   ·cases ok
    ·exact hr
    ·rw[cond_true,yab rfl,vA];exact⟨_,rfl,.cons hr (.single (by rw[vA]))⟩
  ·rename_i hne
   rw[oB]at hne;rw[xB]at h;obtain⟨rfl,h⟩:=h
   cases h;refine⟨.tuple #[z,.bool false],?_,by rw[vA];exact⟨_,rfl,.cons hzr (.single (by rw[vA]))⟩⟩
   simp only[execOp,Instr.typeAssert,hxv,yad,tE hd,yac]
   cases d<;>first | exact absurd rfl (hn _) | simp[hne,hz]
 ·simp only[xB,ybb,oB]at h
  obtain⟨⟨htag,rfl⟩,h⟩:=h
  cases h;rw[lP.2.2.2.2]at htag;subst htag;rw[vA]at hx;refine⟨.tuple #[z,.bool false],?_,by rw[vA];exact⟨_,rfl,.cons hzr (.single (by rw[vA]))⟩⟩
  simp only[execOp,Instr.typeAssert,hx,yad,tE hd,yac]
  cases d<;>first | exact absurd rfl (hn _) | simp[hz]
def zbq{t:Nat}{ty:uC}(hF:uJ P t ty)(h:tN ty.desc=true):P.underlying t=some .bool\/P.underlying t=some .string\/∃k,P.underlying t=some (.int k):=by
 obtain⟨D,hD⟩:=hF.und
 have h0:=hF.desc
 unfold yL at h0;rw[hD]at h0;rw[<- h0]at h;have h1:=dD.1 h
 cases D<;>simp[nD.tag]at h1
 ·exact .inl hD
 ·exact .inr (.inr ⟨_,hD⟩)
 ·exact .inr (.inl hD)
def ze4(D:TypeDesc)(a:zA):Prop:=(∃k,D=.int k/\a.tag=1)\/(D=.string/\a.tag=2)\/(D=.bool/\a.tag=0)
def ze4.eq1{D:TypeDesc}{a b:zA}{r:Bool}(h:ze4 D a)(e:mG a b=some r):aK a b=some r:=by
 rcases gW e with⟨x,y,rfl,rfl,_⟩ | ⟨_,e⟩
 ·rcases h with⟨_,_,ht⟩ | ⟨_,ht⟩ | ⟨_,ht⟩<;>simp[zA.tag]at ht
 ·exact e
def zfz{D:TypeDesc}{a b:zA}{va vb:Value}(hD:ze4 D a)(ha:vA μ a va)(hb:vA μ b vb){r:Bool}(h:aK a b=some r):Instr.sameNow D va vb=some r:=by
 rcases tV h with⟨k,x,y,rfl,rfl,rfl⟩ | ⟨x,y,rfl,rfl,rfl⟩ | ⟨x,y,rfl,rfl,rfl⟩<;>rw[vA]at ha<;>rw[vA]at hb <;>
  rcases hD with⟨k',rfl,ht⟩ | ⟨rfl,ht⟩ | ⟨rfl,ht⟩<;>simp[zA.tag]at ht
 ·rw[ha,hb];simp[Instr.sameNow]
 ·obtain⟨s,rfl,rfl⟩:=ha
  obtain⟨u,rfl,rfl⟩:=hb
  have:(s == u)=cF (vE s) (vE u):=by
   rw[Bool.eq_iff_iff,rM];have h1:(s == u)=(s.data == u.data):=rfl
   rw[h1];exact⟨fun h=>(by unfold vE;rw[eq_of_beq h]),fun h=>(by rw[eY h];exact beq_self_eq_true u.data)⟩
  simp only[Instr.sameNow,this]
 ·rw[ha,hb];rfl
def zud{D:TypeDesc}{k:zA}{kv:Value}(hD:ze4 D k)(hk:vA μ k kv){l:List (zA × zA)}{es:List MapEntry}(hl:oC (fun p e=>vA μ p.1 e.key/\vA μ p.2 e.val) l es) :
  ∀ {i:Nat} {r:Option zA},fH k l=some r->match r with
   | none=>Instr.findNow D kv es i=some none
   | some v=>∃j v',Instr.findNow D kv es i=some (some (j,v'))/\vA μ v v':=by
 induction hl with
 | nil=>intro i r h;rw[fH]at h;cases h;rfl
 | @cons p e l es hpe _ ih=>
  intro i r h;rw[fH,sA]at h;obtain⟨q,hq,h⟩:=h
  have h1:=zfz hD hk hpe.1 (hD.eq1 hq)
  cases q with
  | true=>
   rw[cond_true]at h
   cases h;exact⟨i,e.val,by rw[Instr.findNow,h1],hpe.2⟩
  | false=>
   rw[cond_false]at h;have:=ih (i:=i+1) h
   rw[Instr.findNow,h1];exact this
def jY{D:TypeDesc}{t:Nat}{empty:Bool}{d:Nat}{kv:Value}(hu:P.underlying t=some D)(hD:(∃k,D=.int k)\/D=.string\/D=.bool):(Instr.checkKey empty (d+1) t kv).run P w=.ok () w:=by
 rw[Instr.checkKey,yad,tE hu,yac];rcases hD with⟨k,rfl⟩ | rfl | rfl<;>rfl
def cY{b:Nat}{l:List (zA × zA)}(h:gG H b=some l):H.t.get b=some (.map l):=by
 unfold gG at h;rw[sA]at h;obtain⟨x,hx,h⟩:=h
 cases x<;>simp[rA.asMap]at h
 subst h;exact hx
def zB.mapAt(hH:zB B N μ H w){b:Nat}{l:List (zA × zA)}(h:gG H b=some l){i:BI}(hi:μ b=some i) :
  ∃es clock l',w.heap[i.b]?=some (.map es clock)/\zbg l l'/\oC (fun p e=>vA μ p.1 e.key/\vA μ p.2 e.val) l' es.toList:=by
 obtain⟨o,h2,h3⟩:=hH.blk _ _ _ (cY h) hi
 obtain⟨es,clock,l',rfl,h4,h5⟩:=h3
 exact⟨es,clock,l',h2,h4,h5⟩
def vW{r:Nat}{o:Obj}(h:w.heap[r]?=some o)(hc:∀a b c,o≠.cells a b c):(getObj r).run P w=.ok o w:=by
 simp only[getObj,Sem.run,h]
def za4{t:Nat}{ty:uC}{D:TypeDesc}(hF:uJ P t ty)(hu:P.underlying t=some D)(hk:tN ty.desc=true){k:zA}(h:zd0 ty.desc k=true):ze4 D k:=by
 have h0:=hF.desc
 unfold yL at h0;rw[hu]at h0;rw[<- h0]at h;unfold zd0 at h;rw[oB]at h;rcases zbq hF hk with h1 | h1 | ⟨kk,h1⟩
 ·rw[hu]at h1;cases h1;exact .inr (.inr ⟨rfl,h.symm⟩)
 ·rw[hu]at h1;cases h1;exact .inr (.inl ⟨rfl,h.symm⟩)
 ·rw[hu]at h1;cases h1;exact .inl ⟨kk,rfl,h.symm⟩
def zac{α:Type}{g:α->PUnit->Sem (ForInStep PUnit)}:∀(l:List α),(∀a∈l,(g a ⟨⟩).run P w=.ok (.yield ⟨⟩) w)->(forIn l PUnit.unit g).run P w=.ok ⟨⟩ w
 | [],_=>rfl
 | a::l,h=>by
  rw[List.forIn_cons,yad,h a (.head _),yac]
  exact zac l fun x hx=>h x (.tail _ hx)
def z97{α:Type}{l r:List α}{a:α}{i:Nat}(h:a::r=l.drop i):l[i]?=some a/\r=l.drop (i+1):=by
 have h1:(l.drop i)[0]?=some a:=by rw[<- h];rfl
 rw[yde]at h1;refine⟨by simpa using h1,?_⟩
 have:r=(l.drop i).drop 1:=by rw[<- h];rfl
 rw[this,List.drop_drop]
def zee{f:Nat × Nat × Nat}{fs:List (Nat × Nat × Nat)}{i:Nat}(h:zR C (f::fs) i=true):f.1=i/\(∃ty,C.tys.get f.2.1=some ty/\tN ty.desc=true)/\zR C fs (i+1)=true:=by
 unfold zR at h;rw[iB]at h;split at h
 case isFalse=>cases h
 rename_i h1;split at h
 case h_2=>cases h
 rename_i ty hty;rw[iB]at h;split at h
 case isFalse=>cases h
 rename_i h2;exact⟨oB.1 h1,⟨ty,hty,h2⟩,h⟩
def zgq{f:Nat × Nat × Nat}{fs:List (Nat × Nat × Nat)}{l:List zA}(h:zir C (f::fs) l=true):∃v r ty,l=v::r/\C.tys.get f.2.1=some ty/\zd0 ty.desc v=true/\zir C fs r=true:=by
 cases l with
 | nil=>cases h
 | cons v r=>
  unfold zir at h;split at h
  case h_2=>cases h
  rename_i ty hty;rw[iB]at h;split at h
  case isFalse=>cases h
  rename_i h2;exact⟨v,r,ty,rfl,hty,h2,h⟩
def z0k{d:nD}{a b:zA}{r:Bool}(hd:tN d=true)(hf:zd0 d a=true)(h:aK a b=some r):zlo d a b=some r:=by
 have h1:=dD.1 hd
 have h2:d.tag=a.tag:=oB.1 hf
 rcases tV h with⟨k,x,y,rfl,rfl,hr⟩ | ⟨x,y,rfl,rfl,hr⟩ | ⟨x,y,rfl,rfl,hr⟩<;>cases d<;>simp[nD.tag,zA.tag]at h1 h2<;>exact h
def eZ{d:nD}(h:tN d=true):d.isAgg=false/\d.asStruct=none:=by
 have h1:=dD.1 h
 cases d<;>simp[nD.tag]at h1<;>exact⟨rfl,rfl⟩
def zrm{xs ys:List zA}:∀(fs:List (Nat × Nat × Nat)) (i:Nat) (r:Bool),zR C fs i=true->zir C fs (xs.drop i)=true->vN (xs.drop i) (ys.drop i)=some r->zu2 C (aeq C 1) xs ys fs=some r
 | [],i,r,_,hf,h=>by
  generalize xs.drop i=l at hf h
  generalize ys.drop i=m at h
  cases l with
  | cons v l=>cases hf
  | nil=>cases m with
   | cons v m=>cases h
   | nil=>cases h;rfl
 | f::fs,i,r,hfl,hf,h=>by
  obtain⟨e1,⟨ty,hty,hkd⟩,hfl⟩:=zee hfl
  obtain⟨v,l,ty',e2,hty',hfit,hf⟩:=zgq hf
  rw[hty]at hty';cases hty'
  obtain⟨gx,lx⟩:=z97 e2.symm
  rw[e2]at h
  cases e3:ys.drop i with
  | nil=>rw[e3]at h;cases h
  | cons b m=>
   obtain⟨gy,ly⟩:=z97 e3.symm
   rw[e3]at h;simp only[vN,sA]at h;obtain⟨q,hq,s,hs,h⟩:=h
   cases h;obtain⟨p1,p2⟩:=eZ hkd
   have px:∀ {l:List zA} {a:zA},l[i]?=some a->rL C f.2.1 l f.1=some a:=by
    intro l a hl;unfold rL;rw[hty,uA,p1,cond_false,e1,iF];exact hl
   have hq':aeq C 1 f.2.1 v b=some q:=by
    rw[aeq,hty,uA,p2];exact z0k hkd hfit hq
   rw[zu2,px gx,uA,px gy,uA,hq',uA];rw[lx]at hf hs;rw[ly]at hs
   cases q with
   | false=>rfl
   | true=>rw[cond_true,zrm fs (i+1) s hfl hf hs];rfl
def mZ{ty:uC}(h:dN C ty=true):tN ty.desc=true\/∃fs,tN ty.desc=false/\ty.desc.asStruct=some fs/\ty.eqOk=true/\zR C fs 0=true:=by
 unfold dN at h
 cases hk:tN ty.desc with
 | true=>exact .inl rfl
 | false=>
  rw[hk,cond_false]at h;split at h
  case h_2=>cases h
  rename_i fs hfs;rw[iB]at h;split at h
  case isFalse=>cases h
  rename_i h1;exact .inr ⟨fs,rfl,hfs,h1,h⟩
def oZ{ty:uC}{k:zA}(hk:tN ty.desc=true)(h:vM C ty k=true):zd0 ty.desc k=true:=by
 unfold vM at h;rw[hk,cond_true]at h;exact h
def pZ{ty:uC}{k:zA}{fs:List (Nat × Nat × Nat)}(hk:tN ty.desc=false)(hfs:ty.desc.asStruct=some fs)(h:vM C ty k=true):∃l,k=.agg l/\zir C fs l=true:=by
 unfold vM at h;rw[hk,cond_false,hfs]at h;simp only[]at h;split at h
 case h_2=>cases h
 rename_i l hl;exact⟨l,lV.1 hl,h⟩
def zd1(hT:pE P C){t:Nat}{ty:uC}(hty:C.tys.get t=some ty){fs:List (Nat × Nat × Nat)}(hfs:ty.desc.asStruct=some fs)(hok:ty.eqOk=true)(hfl:zR C fs 0=true){l:List zA}(hfit:zir C fs l=true){b:zA}{va vb:Value}(ha:vA μ (.agg l) va)(hb:vA μ b vb){r:Bool}(h:mG (.agg l) b=some r) :
  (Op.equal t va vb).run P w=.ok r w:=by
 refine z7q hT 2 10000 t (.agg l) b _ _ r (by decide) ha hb ?_
 rcases gW h with⟨x,y,e,rfl,h⟩ | ⟨hn,_⟩
 ·cases e
  rw[aeq,hty,uA,hfs];simp only[zA.asAgg,uA];rw[hok];exact zrm fs 0 r hfl hfit h
 ·cases hn
def zis{t:Nat}{k:zA}{kv:Value}(hq:∀(b:zA) (vb:Value) (r:Bool),vA μ b vb->mG k b=some r->(Op.equal t kv vb).run P w=.ok r w){l:List (zA × zA)}{es:List MapEntry}(hl:oC (fun p e=>vA μ p.1 e.key/\vA μ p.2 e.val) l es) :
  ∀ {i:Nat} {r:Option zA},fH k l=some r->match r with
   | none=>(Instr.findAsking t kv es i).run P w=.ok none w
   | some v=>∃j e0,(Instr.findAsking t kv es i).run P w=.ok (some (i+j,e0.val)) w/\es[j]?=some e0/\vA μ v e0.val:=by
 induction hl with
 | nil=>intro i r h;rw[fH]at h;cases h;rfl
 | @cons p e l es hpe _ ih=>
  intro i r h;rw[fH,sA]at h;obtain⟨q,hq',h⟩:=h
  have h1:=hq _ _ _ hpe.1 hq'
  cases q with
  | true=>
   rw[cond_true]at h
   cases h;exact⟨0,e,by rw[Instr.findAsking,yad,h1,yac];rfl,rfl,hpe.2⟩
  | false=>
   rw[cond_false]at h;have:=ih (i:=i+1) h
   rw[Instr.findAsking,yad,h1,yac];simp only[ybq,if_false]
   cases r with
   | none=>exact this
   | some v=>
    obtain⟨j,e0,g1,g2,g3⟩:=this
    exact⟨j+1,e0,by rw[g1,show i+1+j=i+(j+1) by omega],by simpa using g2,g3⟩
def cZ{t:Nat}{g:Array Field}(hu:P.underlying t=some (.struct g))(kv:Value)(es:List MapEntry):(Instr.findKey t kv es).run P w=(Instr.findAsking t kv es).run P w:=by
 unfold Instr.findKey;rw[yad,tE hu,yac]
 cases es with
 | nil=>simp only[Instr.findNow,Instr.findAsking]
 | cons e es=>simp only[Instr.findNow,Instr.sameNow]
def zue(hT:pE P C){t:Nat}{ty:uC}(hty:C.tys.get t=some ty)(hk:dN C ty=true){k:zA}{kv:Value}(hfit:vM C ty k=true)(hkv:vA μ k kv){l:List (zA × zA)}{es:List MapEntry}(hl:oC (fun p e=>vA μ p.1 e.key/\vA μ p.2 e.val) l es){r:Option zA}(hr:fH k l=some r) :
  match r with
  | none=>(Instr.findKey t kv es).run P w=.ok none w
  | some v=>∃j v',(Instr.findKey t kv es).run P w=.ok (some (j,v')) w/\vA μ v v':=by
 have hF:=hT.facts hty
 rcases mZ hk with hkd | ⟨fs,hkd,hfs,hok,hfl⟩
 ·obtain⟨D,hD⟩:=hF.und
  have hfits:=za4 hF hD hkd (oZ hkd hfit)
  have h3:=zud hfits hkv hl (i:=0) hr
  have hfk:∀(q:Option (Nat × Value)),Instr.findNow D kv es 0=some q->(Instr.findKey t kv es).run P w=.ok q w:=by
   intro q hq;unfold Instr.findKey;simp only[yad,tE hD,yac,hq,yae]
  cases r with
  | none=>exact hfk _ h3
  | some v=>obtain⟨j,v',g1,g2⟩:=h3;exact⟨j,v',hfk _ g1,g2⟩
 ·obtain⟨x,rfl,hx⟩:=pZ hkd hfs hfit
  obtain⟨g,hg,rfl⟩:=bT hF hfs
  have h3:=zis (P:=P) (w:=w) (t:=t) (kv:=kv) (fun b vb r hb h=>zd1 hT hty hfs hok hfl hx hkv hb h) hl (i:=0) hr
  rw[cZ hg]
  cases r with
  | none=>exact h3
  | some v=>obtain⟨j,e0,g1,_,g2⟩:=h3;exact⟨0+j,_,g1,g2⟩
def zbs(hT:pE P C){t:Nat}{ty:uC}(hty:C.tys.get t=some ty)(hk:dN C ty=true){k:zA}{kv:Value}(hfit:vM C ty k=true)(hkv:vA μ k kv){empty:Bool}{d:Nat}:(Instr.checkKey empty (d+2) t kv).run P w=.ok () w:=by
 have hF:=hT.facts hty
 rcases mZ hk with hkd | ⟨fs,hkd,hfs,hok,hfl⟩
 ·obtain⟨D,hD⟩:=hF.und
  have hfits:=za4 hF hD hkd (oZ hkd hfit)
  have hD':(∃k,D=.int k)\/D=.string\/D=.bool:=by
   rcases hfits with⟨k,h,_⟩ | ⟨h,_⟩ | ⟨h,_⟩
   ·exact .inl ⟨k,h⟩
   ·exact .inr (.inl h)
   ·exact .inr (.inr h)
  exact jY hD hD'
 ·obtain⟨x,rfl,hx⟩:=pZ hkd hfs hfit
  obtain⟨g,hg,rfl⟩:=bT hF hfs
  rw[vA]at hkv;obtain⟨cs,rfl,hcs⟩:=hkv
  rw[Instr.checkKey,yad,tE hg,yac];simp only[];have key:∀(gl:List Field) (i:Nat),zR C (gl.map fun f=>(f.offset,f.type,P.cellsOf f.type)) i=true->zir C (gl.map fun f=>(f.offset,f.type,P.cellsOf f.type)) (x.drop i)=true →
    ∀f∈gl,∃v,(part f.type cs f.offset).run P w=.ok v w/\(Instr.checkKey empty (d+1) f.type v).run P w=.ok () w:=by
   intro gl;induction gl with
   | nil=>intro i _ _ f hf;cases hf
   | cons f0 gl ih=>
    intro i h1 h2 f hf;rw[ycm]at h1 h2;obtain⟨e1,⟨fty,hfty,hfkd⟩,h1⟩:=zee h1
    obtain⟨v,l,ty',e2,hty',hfit',h2⟩:=zgq h2
    obtain⟨gx,lx⟩:=z97 e2.symm
    simp only[]at e1 hfty hty'
    rw[hfty]at hty';cases hty'
    rcases ybs.1 hf with rfl | hf
    ·obtain⟨p1,_⟩:=eZ hfkd
     obtain⟨v',g1,_⟩:=qW (P:=P) (w:=w) hT hcs (t:=f.type) (off:=f.offset) (v:=v) (by unfold rL;rw[hfty,uA,p1,cond_false,e1,iF];exact gx)
     refine⟨v',g1,?_⟩
     rcases zbq (hT.facts hfty) hfkd with hu | hu | ⟨kk,hu⟩
     ·exact jY hu (.inr (.inr rfl))
     ·exact jY hu (.inr (.inl rfl))
     ·exact jY hu (.inl ⟨kk,rfl⟩)
    ·rw[lx]at h2
     exact ih (i+1) h1 h2 f hf
  rw[yad,<- Array.forIn_toList,zac]
  ·rfl
  ·intro f hf
   obtain⟨v,g1,g2⟩:=key g.toList 0 hfl hx f (by simpa using hf)
   split
   ·simp only[yad,g1,yac,g2,yae]
   ·rfl
def zgg(hT:pE P C)(hH:zB B N μ H w)(hE:kE μ e ρ){t:Nat}{x i:Operand}{ok:Bool}(h:oO t x i ok C e H=some v):LOk P μ w ρ ⟨dst,.lookup t x i ok,type,pos,after,guard⟩ v:=by
 unfold oO at h;simp only[sA,xB]at h;obtain⟨ty,hty,ke,hke,kty,hkty,hkd,ety,hety,m,hm,es,hes,k,hk,hfit,r,hr,h⟩:=h
 have hF:=hT.facts hty
 have hKF:=hT.facts hkty
 have hEF:=hT.facts hety
 have hx:=hE _ _ hm
 have hkv:=hE _ _ hk
 have hmap:∃(rs:Array MapEntry) (es':List (zA × zA)),zbg es es'/\oC (fun p e=>vA μ p.1 e.key/\vA μ p.2 e.val) es' rs.toList/\((ρ x=.map none/\rs = #[])\/∃b clock,ρ x=.map (some b)/\w.heap[b]?=some (.map rs clock)):=by
  unfold aM at hes;split at hes
  ·rename_i b hb
   rw[aY]at hb;subst hb;rw[vA]at hx;obtain⟨j,hj,hxv⟩:=hx
   obtain⟨rs,clock,l',h1,h0,h2⟩:=hH.mapAt hes hj
   exact⟨rs,l',h0,h2,.inr ⟨_,_,hxv,h1⟩⟩
  ·simp only[xB,oB]at hes
   obtain⟨htag,hes⟩:=hes
   cases hes;rw[lP.2.2.1]at htag;subst htag;rw[vA]at hx;exact⟨#[],[],.inl rfl,.nil,.inl ⟨hx,rfl⟩⟩
 obtain⟨rs,es',hperm,h1,h2⟩:=hmap
 have h3:=zue (P:=P) (w:=w) hT hkty hkd hfit hkv h1 (zug hperm hr)
 have hu:=zr8 hF hke
 obtain⟨z,hz,hzr,_⟩:=hEF.zero (μ:=μ)
 have hck:=fun b=>zbs (P:=P) (w:=w) (empty:=b) (d:=9998) (kv:=ρ i) hT hkty hkd hfit hkv
 cases r with
 | none=>
  cases h;refine⟨if ok then .tuple #[z,.bool false]else z,?_,?_⟩
  ·have h4:=h3
   simp only[execOp,Instr.lookup];rcases h2 with⟨h5,rfl⟩ | ⟨b,clock,h5,h6⟩
   ·simp only[yad,tE hu,yac,h5,yae,hck,h4,hz]
   ·simp only[yad,tE hu,yac,h5,vW h6 (by simp),yae,hck,h4,hz]
  ·cases ok
   ·exact hzr
   ·rw[cond_true,yab rfl,vA];exact⟨_,rfl,.cons hzr (.single (by rw[vA]))⟩
 | some u=>
  obtain⟨j,v',h6,h5⟩:=h3
  cases h;refine⟨if ok then .tuple #[v',.bool true]else v',?_,?_⟩
  ·simp only[execOp,Instr.lookup]
   rcases h2 with⟨h7,rfl⟩ | ⟨b,clock,h7,h8⟩
   ·simp only[yad,tE hu,yac,h7,yae,hck,h6]
   ·simp only[yad,tE hu,yac,h7,vW h8 (by simp),yae,hck,h6]
  ·cases ok
   ·exact h5
   ·rw[cond_true,yab rfl,vA];exact⟨_,rfl,.cons h5 (.single (by rw[vA]))⟩
def zdb{s:Sem Value}{v':Value}(h:s.run P w=.ok v' w):(do pure (Next.value (<- s)):Sem Next).run P w=.ok (.value v') w:=by
 simp only[yad,h,yac,yae]
def tW{b:Builtin}{c:Call}(hc:c.callee=.builtin b):(execOp ρ ⟨dst,.call c,type,pos,after,guard⟩).run P w=(builtin b c.argTypes type (c.args.map fun | .const _=>true | _=>false) (c.args.map ρ)).run P w:=by
 simp only[execOp,resolve,hc,yad,yae,yac,invoke];rfl
def oC.length{α β:Type}{R:α->β->Prop}{l:List α}{m:List β}(h:oC R l m):m.length=l.length:=by
 induction h with
 | nil=>rfl
 | cons _ _ ih=>simp[ih]
def zy7(hT:pE P C)(hH:zB B N μ H w)(hE:kE μ e ρ){c:Call}(hc:c.callee=.builtin .len)(h:zoh c C e H=some v):LOk P μ w ρ ⟨dst,.call c,type,pos,after,guard⟩ v:=by
 unfold zoh at h;simp only[sA,iF]at h;obtain⟨t,ht,x,hx,ty,hty,a,ha,n,hn,h⟩:=h
 cases h;have hF:=hT.facts hty
 have hv:=hE _ _ ha
 obtain⟨D,hD⟩:=hF.und
 have h0:=hF.desc
 unfold yL at h0;rw[hD]at h0;have ht':c.argTypes[0]?=some t:=by simpa using ht
 have hx':(c.args.map ρ)[0]?=some (ρ x):=by
  have:c.args[0]?=some x:=by simpa using hx
  simp[this]
 refine⟨.int .i64 n,?_,by rw[vA];rfl⟩
 rw[tW hc];refine zdb ?_
 simp only[Builtin.len_,ht',hx',yad,tE hD,yac];unfold zvc at hn;rw[<- h0]at hn;split at hn
 ·rename_i s hs
  rw[yP]at hs;subst hs;simp only[xB,gC]at hn;obtain⟨hb,hn⟩:=hn
  cases hn;rw[vA]at hv;obtain⟨str,hxv,rfl⟩:=hv
  rw[hxv,wU]
  cases D<;>simp[nD.isString,nD.tag,Nat.beq]at hb
  rfl
 ·split at hn
  ·rename_i s hs
   rw[kS]at hs;subst hs;simp only[xB,oB]at hn;obtain⟨hb,hn⟩:=hn
   cases hn;rw[vA]at hv;rcases hv with⟨j,cap',hj,hxv,_⟩ | ⟨_,k,_,A,_,hxv,_⟩
   rotate_left
   ·rw[hxv,k]
    cases D<;>simp[nD.tag]at hb
    rfl
   rw[hxv]
   cases D<;>simp[nD.tag]at hb
   rfl
  ·split at hn
   ·rename_i ar har
    cases hn
    cases D<;>simp[nD.asArr]at har
    subst har;rfl
   ·split at hn
    ·rename_i b hb
     rw[aY]at hb;subst hb;simp only[xB,oB,sA,gC]at hn;obtain⟨hb,l,hl,hn⟩:=hn
     cases hn;rw[vA]at hv;obtain⟨j,hj,hxv⟩:=hv
     obtain⟨rs,clock,l',h1,h0,h2⟩:=hH.mapAt hl hj
     rw[hxv];have h3:=h2.length
     have hlen:l'.length=l.length:=by
      rcases h0 with rfl | ⟨p,_⟩
      ·rfl
      ·exact p.length_eq.symm
     rw[hlen]at h3;simp only[ycz]at h3
     cases D<;>simp[nD.tag]at hb
     simp only[yad,vW h1 (by simp),yac,h3]
     rfl
    ·simp only[xB,ycq,ybb,oB]at hn
     obtain⟨hb,hn⟩:=hn
     cases hn;rcases hb with⟨hb,htag⟩ | ⟨hb,htag⟩
     ·rw[lP.2.1]at htag
      subst htag;rw[vA]at hv;rw[hv]
      cases D<;>simp[nD.tag]at hb
      rfl
     ·rw[lP.2.2.1]at htag
      subst htag;rw[vA]at hv;rw[hv]
      cases D<;>simp[nD.tag]at hb
      rfl
def zhh{c:Call}{p:zA × zA}(hE:kE μ e ρ)(h:two c e=some p):∃x y,c.args = #[x,y]/\vA μ p.1 (ρ x)/\vA μ p.2 (ρ y):=by
 unfold two at h;split at h
 ·rename_i x y hxy
  simp only[sA]at h;obtain⟨a,ha,b,hb,h⟩:=h
  cases h;refine⟨x,y,?_,hE _ _ ha,hE _ _ hb⟩
  rw[<- yax,hxy]
 ·cases h
def zy3(hE:kE μ e ρ){c:Call}(hc:c.callee=.builtin .max)(h:zy4 c C e H=some v):LOk P μ w ρ ⟨dst,.call c,type,pos,after,guard⟩ v:=by
 unfold zy4 at h;simp only[sA,xP]at h;obtain⟨p,hp,a,ha,b,hb,h⟩:=h
 cases h;obtain⟨x,y,hxy,h1,h2⟩:=zhh hE hp
 rw[ha,vA]at h1;rw[hb,vA]at h2;refine⟨.int a.1 (if b.2 > a.2 then b.2 else a.2),?_,?_⟩
 ·rw[tW hc,hxy]
  refine zdb ?_
  simp[Builtin.max_,h1,h2,Builtin.max2]
 ·rw[vA,iB];simp only[za5]
def zy1(hE:kE μ e ρ){c:Call}(hc:c.callee=.builtin .min)(h:zy2 c C e H=some v):LOk P μ w ρ ⟨dst,.call c,type,pos,after,guard⟩ v:=by
 unfold zy2 at h;simp only[sA,xP]at h;obtain⟨p,hp,a,ha,b,hb,h⟩:=h
 cases h;obtain⟨x,y,hxy,h1,h2⟩:=zhh hE hp
 rw[ha,vA]at h1;rw[hb,vA]at h2;refine⟨.int a.1 (if b.2<a.2 then b.2 else a.2),?_,?_⟩
 ·rw[tW hc,hxy]
  refine zdb ?_
  simp[Builtin.min_,h1,h2,Builtin.min2]
 ·rw[vA,iB];simp only[za5]
def z1q(hT:pE P C)(hH:zB B N μ H w)(hE:kE μ e ρ){o:Oper}(h:(lE o.op).f C e H=some v):LOk P μ w ρ o v:=by
 obtain⟨dst,op,type,pos,after,guard⟩:=o
 cases op
 case move=>exact zrh (C:=C) (H:=H) hE h
 case assign=>exact zgh (C:=C) (H:=H) hE h
 case pick=>exact zrg (C:=C) (H:=H) hE h
 case load=>exact zri (C:=C) (H:=H) hT hH hE h
 case nilCheck=>exact zy0 (C:=C) (H:=H) hE h
 case binOp=>exact zza (C:=C) (H:=H) hT hE h
 case unOp=>exact z6v (C:=C) (H:=H) hE h
 case convert=>exact zrk (C:=C) (H:=H) hT hH hE h
 case makeInterface=>exact zk2 (C:=C) (H:=H) hT hE h
 case makeFunc=>exact zrj (C:=C) (H:=H) hE h
 case slice=>exact zk0 (C:=C) (H:=H) hT hH hE h
 case fieldAddr=>exact zaj (C:=C) (H:=H) hT hE h
 case field=>exact zk3 (C:=C) (H:=H) hT hE h
 case indexAddr=>exact zai (C:=C) (H:=H) hT hE h
 case index=>exact zk1 (C:=C) (H:=H) hT hE h
 case extract=>exact zdw (C:=C) (H:=H) hE h
 case build=>exact zk4 (C:=C) (H:=H) hT hE h
 case typeAssert=>exact zgi (C:=C) (H:=H) hT hE h
 case lookup=>exact zgg (C:=C) (H:=H) hT hH hE h
 case call c=>
  have h:(wN c c.callee).f C e H=some v:=h
  unfold wN at h;split at h
  ·rename_i b hb
   cases b<;>simp only[zcb]at h
   case len=>exact zy7 (C:=C) (H:=H) hT hH hE hb h
   case max=>exact zy3 (C:=C) (H:=H) hE hb h
   case min=>exact zy1 (C:=C) (H:=H) hE hb h
   all_goals cases h
  ·cases h
 all_goals
  have h:zif C e H=some v:=h
  cases h
end
end Go.Am
namespace Go.Am
open Go Go.RowKit
section
def Mu.ext(μ:Mu)(a:Nat)(i:BI):Mu:=⟨fun b=>if b=a then some i else μ b,μ.pd⟩
def Mu.ext_get{μ:Mu}{a b:Nat}{i:BI}:(μ.ext a i) b=if b=a then some i else μ b:=rfl
def Mu.ext_le{μ:Mu}{a:Nat}{i:BI}(h:μ a=none):μ.le (μ.ext a i):=by
 refine⟨?_,rfl⟩
 intro b j hj;rw[Mu.ext_get];split
 ·rename_i e;subst e;rw[h]at hj;cases hj
 ·exact hj
def Mu.ext_same{μ:Mu}{a:Nat}{i:BI}:μ.ext a i a=some i:=by simp[Mu.ext]
def bD.mono{μ ν:Mu}(h:μ.lw ν){n:Nat}{tm:Tm}{tmps:Array Value}(k:bD μ n tm tmps):bD ν n tm tmps:=⟨k.1,fun i v hv=>(k.2 i v hv).mono h _ _⟩
def ze3.mono{μ ν:Mu}(h:μ.lw ν){l:gL}{r:Loop}(k:ze3 μ l r):ze3 ν l r:=
 ⟨k.state,k.pending,k.fn,k.tm.mono h,k.params,k.assign,k.body,by obtain⟨i,h1,h2⟩:=k.defers;exact⟨i,h _ _ h1,h2⟩⟩
def oC.mono{α β:Type}{R S:α->β->Prop}(h:∀a b,R a b->S a b){l:List α}{m:List β}(k:oC R l m):oC S l m:=by
 induction k with
 | nil=>exact .nil
 | cons a _ ih=>exact .cons (h _ _ a) ih
def oR.mono{μ ν:Mu}(h:μ.lw ν){d:vI}{e:Deferred}(k:oR μ d e):oR ν d e:=by
 refine⟨?_⟩
 have:=k.rel
 revert this
 cases d.fn with
 | none=>rintro⟨i,h1,h2⟩;exact⟨i,h _ _ h1,h2⟩
 | some f=>rintro⟨fn,cap,as,h1,h2,h3⟩;exact⟨fn,cap,as,h1,h2.mono h,yB.mono h _ _ h3⟩
def vH.mono{μ ν:Mu}(h:μ.lw ν){i:BI}{x:rA}{o:Obj}(k:vH μ i x o):vH ν i x o:=by
 cases x with
 | cells c n loose=>
  obtain⟨cs,elem,fr,h1,h2,h3,h4,h5⟩:=k
  refine⟨cs,elem,fr,h1,h2,h3,fun j v hv=>?_,h5⟩
  obtain⟨a,v',c,d⟩:=h4 j v hv
  exact⟨a,v',c,d.mono h _ _⟩
 | map l=>obtain⟨es,clock,l',h1,h0,h2⟩:=k;exact⟨es,clock,l',h1,h0,h2.mono fun a b r=>⟨r.1.mono h _ _,r.2.mono h _ _⟩⟩
 | loop l=>obtain⟨r,h1,h2⟩:=k;exact⟨r,h1,h2.mono h⟩
 | deferred l=>
  obtain⟨l',h1,h2⟩:=k
  refine⟨l',h1,?_⟩
  revert h2
  cases l<;>cases l'<;>intro h2<;>first | trivial | exact h2.elim | exact oC.mono (fun a b r=>oR.mono h r) h2
 | siter s p=>exact k
section
variable {P:Program}{C:oA}{B N:Nat}{μ:Mu}{H:xA}{w:World}
def zB.lt(hH:zB B N μ H w){a:Nat}{i:BI}(h:μ a=some i):a<H.next:=by
 refine Nat.lt_of_not_le fun hle=>?_
 rw[(hH.fresh a hle).1]at h;cases h
def zB.newBlk(hH:zB B N μ H w){x:rA}{o:Obj}{i:BI}(hib:i.b=w.heap.size)(hro:i.ro=false)(hx:vH (μ.ext H.next i) i x o):zB B N (μ.ext H.next i) (newBlk H x) (w.alloc o):=by
 have hle:μ.le (μ.ext H.next i):=Mu.ext_le (hH.fresh _ (ybk _)).1
 have hget:∀a,(Am.newBlk H x).t.get a=if a=H.next then some x else H.t.get a:=fun a=>Tr.get_set _ _ _ _
 refine⟨hH.base,?_,?_,?_,?_,?_,?_,?_,?_,fun a y t ha=>?_⟩
 ·intro g hg;rw[Mu.ext_get,yaa (by have:=hH.next;have:=hH.base;omega)];exact hH.glob g hg
 ·intro a y j ha hy hj
  rw[hget,yaa (by have:=hH.next;omega)]at hy
  rw[Mu.ext_get,yaa (by have:=hH.next;omega)]at hj
  exact hH.low a y j ha hy hj
 ·have:=hH.next;show B<=H.next+1;omega
 ·have:=hH.size;simp;omega
 ·intro a ha
  have ha':H.next+1<=a:=ha
  rw[hget,yaa (by omega)]
  rw[Mu.ext_get,yaa (by omega)]
  exact hH.fresh a (by omega)
 ·intro a y j hy hj
  rw[hget]at hy;rw[Mu.ext_get]at hj;split at hy
  ·rename_i e;subst e;cases hy
   rw[yab rfl]at hj
   cases hj;refine⟨o,?_,hx⟩
   rw[hib];show(w.heap.push o)[w.heap.size]?=some o;simp
  ·rename_i hne
   rw[yaa hne]at hj;obtain⟨q,h2,h3⟩:=hH.blk a y j hy hj
   refine⟨q,?_,h3.mono hle⟩
   rw[Below.heap_alloc];exact h2
   exact(ybe.1 h2).1
 ·intro a j ha hj
  rw[Mu.ext_get]at hj;split at hj
  ·cases hj;rw[hib];exact⟨hH.size,by simp,hro⟩
  ·have:=hH.own a j ha hj;exact⟨this.1,by simp;omega,this.2.2⟩
 ·intro a b y z j k hy hz hj hk ha hb hjk
  rw[hget]at hy hz;rw[Mu.ext_get]at hj hk;by_cases ea:a=H.next
  ·by_cases eb:b=H.next
   ·rw[ea,eb]
   ·exfalso
    rw[yab ea]at hj;rw[yaa eb]at hk
    cases hj;have:=(hH.own b k hb hk).2.1;omega
  ·by_cases eb:b=H.next
   ·exfalso
    rw[yaa ea]at hj;rw[yab eb]at hk
    cases hk;have:=(hH.own a j ha hj).2.1;omega
   ·rw[yaa ea]at hy hj;rw[yaa eb]at hz hk
    exact hH.inj a b y z j k hy hz hj hk ha hb hjk
 ·obtain⟨h1,h2,h3⟩:=hH.pnd a y t ha
  have hne:a≠H.next:=fun e=>by rw[e,(hH.fresh _ (ybk _)).2]at h2;cases h2
  exact⟨by rw[Mu.ext_get,yaa hne];exact h1,by rw[hget,yaa hne];exact h2,h3⟩
def zB.drew(hH:zB B N μ H w):zB B N μ H w.drew:=⟨hH.base,hH.glob,hH.low,hH.next,hH.size,hH.fresh,hH.blk,hH.own,hH.inj,hH.pnd⟩
def World.setBlk(w:World)(g:Nat)(o:Obj):World:={ w with heap:=w.heap.setIfInBounds g o }
def zht(w:World)(g:Nat)(a b:Obj):World.setBlk (World.setBlk w g a) g b=World.setBlk w g b:=by
 unfold World.setBlk;simp
def rT(w:World)(g k:Nat)(o:Obj):(World.setBlk w g o).heap[k]?=if k=g/\g<w.heap.size then some o else w.heap[k]?:=by
 unfold World.setBlk;simp only[ycs];by_cases h:g=k
 ·subst h
  by_cases h2:g<w.heap.size
  ·simp[h2]
  ·rw[yab rfl,yaa h2,yaa (fun h=>h2 h.2)];exact(Array.getElem?_eq_none (by omega)).symm
 ·rw[yaa h,yaa (fun e=>h e.1.symm)]
def gZ{g j:Nat}{cur:Array Value}{t:TypeId}{fz:Nat × Nat}{v:Value}(h:w.heap[g]?=some (.cells cur t fz)):w.setCell ⟨g,j,none⟩ v=World.setBlk w g (.cells (cur.setIfInBounds j v) t fz):=by
 unfold World.setCell World.setBlk;congr 1
 apply Array.ext_getElem?
 intro k;rw[Array.getElem?_modify,ycs];by_cases e:g=k
 ·subst e
  have hg:=(ybe.1 h).1
  rw[yab rfl,yab rfl,yab hg,h];rfl
 ·rw[yaa e,yaa e]
def fZ{g o:Nat}{t:TypeId}{fz:Nat × Nat}:∀(vs:List Value) (i:Nat) (cur:Array Value) (w:World),w.heap[g]?=some (.cells cur t fz)->(fz.2<=fz.1\/cur.size<=fz.1) →
  o+i+vs.length<=cur.size->(∀v∈vs,v.oneCell'=true) →
  ∃cur',cur'.size=cur.size/\(∀j:Nat,cur'[j]?=if o+i<=j/\j<o+i+vs.length then vs[j-(o+i)]? else cur[j]?) ∧
   (storeCells ⟨g,o,none⟩ vs i).run P w=.ok () (World.setBlk w g (.cells cur' t fz)):=by
 intro vs;induction vs with
 | nil=>
  intro i cur w h _ _ _;refine⟨cur,rfl,fun j=>by rw[yaa (by simp)],?_⟩
  have:World.setBlk w g (.cells cur t fz)=w:=by
   unfold World.setBlk;have:w.heap.setIfInBounds g (.cells cur t fz)=w.heap:=by
    apply Array.ext_getElem?
    intro k;rw[ycs];split
    ·rename_i e;subst e;rw[h];simp[(ybe.1 h).1]
    ·rfl
   rw[this]
  rw[this];rfl
 | cons v vs ih=>
  intro i cur w h hfz hlen h1;simp only[ybn]at hlen;have hg:g<w.heap.size:=(ybe.1 h).1
  have hc:w.cell? ⟨g,o+i,none⟩=some (cur[o+i]'(by omega)):=by simp[World.cell?,h]
  have hf:w.frozen? ⟨g,o+i,none⟩=false:=by
   simp only[World.frozen?,h];rcases hfz with hfz | hfz
   ·simp;omega
   ·simp;omega
  have hst:(store (Addr.add ⟨g,o,none⟩ i) v).run P w=.ok () (World.setBlk w g (.cells (cur.setIfInBounds (o+i) v) t fz)):=by
   rw[rQ,run_store P w _ _ _ (h1 v (by simp)),hc]
   simp only[hf];rw[<- gZ h];rfl
  obtain⟨cur',hs,hj,hr⟩:=ih (i+1) (cur.setIfInBounds (o+i) v) (World.setBlk w g (.cells (cur.setIfInBounds (o+i) v) t fz)) (by rw[rT,yab ⟨rfl,hg⟩]) (by simpa using hfz) (by simp;omega) (fun u hu=>h1 u (by simp[hu]))
  refine⟨cur',by simpa using hs,fun j=>?_,?_⟩
  ·rw[hj,ycs]
   by_cases e:j=o+i
   ·subst e
    rw[yaa (by omega),yab rfl,yab (by omega),yab (by simp)]
    simp
   ·by_cases e2:o+(i+1)<=j/\j<o+(i+1)+vs.length
    ·rw[yab e2,yab (by simp;omega)]
     rw[show j-(o+i)=(j-(o+(i+1)))+1 by omega];simp
    ·rw[yaa e2,yaa (by omega),yaa (by simp;omega)]
  ·rw[storeCells]
   simp only[yad,hst,yac,hr,zht]
def zB.upd(hH:zB B N μ H w){a:Nat}{x x':rA}{i:BI}{o':Obj}(hx:H.t.get a=some x)(hi:μ a=some i)(ha:B<=a)(hb:vH μ i x' o'):zB B N μ (setBlk H a x') (World.setBlk w i.b o'):=by
 have hget:∀b,(Am.setBlk H a x').t.get b=if b=a then some x' else H.t.get b:=fun b=>Tr.get_set _ _ _ _
 have hlt:=(hH.own a i ha hi).2.1
 refine⟨hH.base,hH.glob,?_,hH.next,?_,?_,?_,?_,?_,fun b y t hb=>?_⟩
 ·intro b y j hb hy hj;rw[hget,yaa (by omega)]at hy;exact hH.low b y j hb hy hj
 ·have:=hH.size;simpa[World.setBlk]using this
 ·intro b hb
  have hb':H.next<=b:=hb
  have:=hH.lt hi
  rw[hget,yaa (by omega)]
  exact hH.fresh b hb'
 ·intro b y j hy h1
  rw[hget]at hy;split at hy
  ·rename_i e;subst e;cases hy
   rw[hi]at h1;cases h1;exact⟨o',by rw[rT,yab ⟨rfl,hlt⟩],hb⟩
  ·rename_i hne
   obtain⟨q,h2,h3⟩:=hH.blk b y j hy h1
   refine⟨q,?_,h3⟩
   rw[rT,yaa]
   ·exact h2
   ·rintro⟨e,_⟩
    by_cases hb:B<=b
    ·exact hne (hH.inj b a y x j i hy hx h1 hi hb ha e)
    ·have h5:=(hH.low b y j (by omega) hy h1).1
     have h6:=(hH.own a i ha hi).1
     omega
 ·intro b j hb hj;have:=hH.own b j hb hj;exact⟨this.1,by simpa[World.setBlk]using this.2.1,this.2.2⟩
 ·intro b c y z j k hy hz hj hk hb hc hjk
  have key:∀b y,(Am.setBlk H a x').t.get b=some y->∃y',H.t.get b=some y':=by
   intro b y hy;rw[hget]at hy;split at hy
   ·rename_i e;subst e;exact⟨x,hx⟩
   ·exact⟨y,hy⟩
  obtain⟨y',hy'⟩:=key b y hy
  obtain⟨z',hz'⟩:=key c z hz
  exact hH.inj b c y' z' j k hy' hz' hj hk hb hc hjk
 ·obtain⟨h1,h2,h3⟩:=hH.pnd b y t hb
  have hne:b≠a:=fun e=>by rw[e,hi]at h1;cases h1
  exact⟨h1,by rw[hget,yaa hne];exact h2,h3⟩
def vQ{g:Nat}{o:Obj}(h:N<=g):Below N w (World.setBlk w g o):=
 ⟨rfl,rfl,rfl,by simp[World.setBlk],fun k hk=>by rw[rT,yaa (by omega)]⟩
def yB.one{l:List zA}:∀ {vs:List Value},yB μ l vs->(∀a∈l,a.one=true)->∀v∈vs,v.oneCell'=true:=by
 induction l with
 | nil=>intro vs h _ v hv;rw[yB]at h;subst h;cases hv
 | cons a l ih=>
  intro vs h k v hv;rw[yB]at h;obtain⟨u,r,rfl,h1,h2⟩:=h
  rcases ybs.1 hv with rfl | hv
  ·exact h1.one (k a (by simp))
  ·exact ih h2 (fun b hb=>k b (by simp[hb])) v hv
def vH.write{i:BI}{c:Tr zA}{n:Nat}{loose:Option Lo}{cs cs':Array Value}{elem:TypeId}{fr:Nat × Nat}(h:vH μ i (.cells c n loose) (.cells cs elem fr)){l:List zA}{vs:List Value}(hl:yB μ l vs)
  {off:Nat} (hoff:off+l.length<=n) (hs:cs'.size=cs.size) (hj:∀j:Nat,cs'[j]?=if off<=j/\j<off+vs.length then vs[j-off]? else cs[j]?):vH μ i (.cells (c.setMany l off) n loose) (.cells cs' elem fr):=by
 obtain⟨cs0,elem0,fr0,e,h2,h3,h4,h5⟩:=h
 cases e
 have hlen:=hl.length
 refine⟨cs',elem,fr,rfl,by omega,by rw[hs];exact h3,fun j v hv=>?_,by rw[hs];exact h5⟩
 rw[Tr.get_setMany]at hv;split at hv
 ·rename_i hjr
  obtain⟨u,hu,hr⟩:=hl.get hv
  refine⟨by omega,u,?_,hr⟩
  rw[hj,yab (by omega)];exact hu
 ·rename_i hjr
  obtain⟨a,v',d,f⟩:=h4 j v hv
  refine⟨a,v',?_,f⟩
  rw[hj,yaa (by omega)];exact d
def zjv(hbase:B<=C.base)(hH:zB B N μ H w){b off:Nat}{l:List zA}{H':xA}(h:pI C H b off l=some H'){i:BI}(hi:μ b=some i){vs:List Value}(hl:yB μ l vs) :
  ∃w',(storeCells ⟨i.b,off,none⟩ vs).run P w=.ok () w'/\zB B N μ H' w'/\Below N w w':=by
 unfold pI at h;simp only[xB,sA,ybb,dD,gC,iG,ycp]at h;obtain⟨hb,c,hc,⟨hle,hall⟩,h⟩:=h
 cases h;have hb':B<=b:=by
  have:¬ b<C.base:=fun k=>by rw[kB.2 k]at hb;cases hb
  omega
 have hx:=mS hc
 obtain⟨o,h2,h3⟩:=hH.blk _ _ _ hx hi
 have h3':=h3
 obtain⟨cs,elem,fr,rfl,h4,h5,_,_⟩:=h3
 have hone:∀a∈l,a.one=true:=fun a ha=>ycb.1 hall a ha
 have hlen:=hl.length
 have hown:=hH.own b i hb' hi
 have h5:=h5.resolve_left (by rw[hown.2.2];simp)
 obtain⟨cs',hs,hj,hr⟩:=fZ (P:=P) (o:=off) vs 0 cs w h2 h5 (by omega) (hl.one hone)
 exact⟨_,hr,hH.upd hx hi hb' (h3'.write hl hle hs (by simpa using hj)),vQ hown.1⟩
def yB.rel_one{l:List zA}{vs:List Value}(hl:yB μ l vs){i:BI}(ht:i.tight=true){elem:TypeId}:vH μ i (.cells (Tr.ofList l) (aA l) none) (.cells vs.toArray elem (0,0)):=by
 have hlen:=hl.length
 refine⟨vs.toArray,elem,(0,0),rfl,by rw[gC];simp[hlen],.inr (.inl (ybk _)),fun j v hv=>?_,ht⟩
 rw[Tr.get_ofList]at hv;obtain⟨u,hu,hr⟩:=hl.get hv
 refine⟨by rw[gC];exact(ybc.1 hv).1,u,by simpa using hu,hr⟩
def zB.newTight(hH:zB B N μ H w){l:List zA}{vs:List Value}(hl:yB μ l vs)(elem:TypeId) :
  zB B N (μ.ext H.next ⟨w.heap.size,true,0,0,false⟩) (zE H l none) (w.alloc (.cells vs.toArray elem)):=
 hH.newBlk rfl rfl ((yB.mono (Mu.ext_le (hH.fresh _ (ybk _)).1).f _ _ hl).rel_one rfl)
def zB.newTag(hH:zB B N μ H w){l:List zA}{vs:List Value}(hl:yB μ l vs)(elem:TypeId) :
  zB B N (μ.ext H.next ⟨w.heap.size,false,1,vs.length,false⟩) (zE H l (some (.ty elem))) (w.alloc (.cells vs.toArray elem)):=by
 have h:=(yB.mono (Mu.ext_le (hH.fresh _ (ybk _)).1 (i:=⟨w.heap.size,false,1,vs.length,false⟩)).f _ _ hl)
 have hn:=hl.length
 refine hH.newBlk rfl rfl ⟨vs.toArray,elem,(0,0),rfl,by rw[gC];simp[hn],.inr (.inl (ybk _)),fun j v hv=>?_,rfl,rfl,by simp,fun t e=>by cases e;rfl⟩
 rw[Tr.get_ofList]at hv;obtain⟨u,hu,hr⟩:=h.get hv
 exact⟨by rw[gC];exact(ybc.1 hv).1,u,by simpa using hu,hr⟩
def lM(h:N<=w.heap.size)(o:Obj):Below N w (w.alloc o):=(Below.refl N w).alloc h o
def Mu.wait(μ:Mu)(a:Nat)(x:rA × Nat × Nat):Mu:=⟨μ.m,fun b=>if b=a then some x else μ.pd b⟩
def Mu.land(μ:Mu)(a:Nat)(i:BI):Mu:=⟨fun b=>if b=a then some i else μ b,fun b=>if b=a then none else μ.pd b⟩
def zB.early(hH:zB B N μ H w){x:rA}{t:Nat × Nat}:zB B N (μ.wait H.next (x,t)) (Am.newBlk H x) w:=by
 have hget:∀a,(Am.newBlk H x).t.get a=if a=H.next then some x else H.t.get a:=fun a=>Tr.get_set _ _ _ _
 have hn:=hH.fresh _ (ybk _)
 have gone:∀a i,μ a=some i->a≠H.next:=fun a i h e=>by rw[e,hn.1]at h;cases h
 have bm:∀i y o,vH μ i y o->vH (μ.wait H.next (x,t)) i y o:=fun i y o h=>vH.mono (μ:=μ) (ν:=μ.wait H.next (x,t)) (fun _ _ h=>h) h
 refine⟨hH.base,hH.glob,fun a y i ha hy hi=>?_,by have:=hH.next;show B<=H.next+1;omega,hH.size,fun a ha=>?_,fun a y i hy hi=>?_,hH.own,fun a b y z i j hy hz hi hj=>?_,fun a y s ha=>?_⟩
 ·rw[hget,yaa (gone a i hi)]at hy;exact hH.low a y i ha hy hi
 ·have ha':H.next+1<=a:=ha
  have:=hH.fresh a (by omega)
  exact⟨this.1,by rw[hget,yaa (by omega)];exact this.2⟩
 ·rw[hget,yaa (gone a i hi)]at hy
  obtain⟨o,h1,h2⟩:=hH.blk a y i hy hi
  exact⟨o,h1,bm _ _ _ h2⟩
 ·rw[hget,yaa (gone a i hi)]at hy
  rw[hget,yaa (gone b j hj)]at hz
  exact hH.inj a b y z i j hy hz hi hj
 ·change (if a=H.next then some (x,t)else μ.pd a)=some (y,s)at ha
  split at ha
  ·rename_i e;cases ha;subst e
   exact⟨hn.1,by rw[hget,yab rfl],hH.next⟩
  ·rename_i e
   obtain⟨h1,h2,h3⟩:=hH.pnd a y s ha
   exact⟨h1,by rw[hget,yaa e];exact h2,h3⟩
def zB.late(hH:zB B N μ H w){a:Nat}{x:rA}{t:Nat × Nat}{o:Obj}{i:BI}(hp:μ.pd a=some (x,t))(hib:i.b=w.heap.size)(hro:i.ro=false)(hx:vH (μ.land a i) i x o):zB B N (μ.land a i) H (w.alloc o):=by
 obtain⟨p1,p2,p3⟩:=hH.pnd a x t hp
 have lg:∀b,(μ.land a i) b=if b=a then some i else μ b:=fun _=>rfl
 have hle:μ.lw (μ.land a i):=fun b j hj=>by
  rw[lg,yaa fun e=>by rw[e,p1]at hj;cases hj];exact hj
 have hbase:=hH.base
 refine⟨hH.base,fun g hg=>by rw[lg,yaa (by omega)];exact hH.glob g hg,fun b y j hb hy hj=>?_,hH.next,by have:=hH.size;simp;omega,fun b hb=>?_,fun b y j hy hj=>?_,fun b j hb hj=>?_,fun b c y z j k hy hz hj hk hb hc hjk=>?_,fun b y s hb=>?_⟩
 ·rw[lg,yaa (by omega)]at hj;exact hH.low b y j hb hy hj
 ·have:=hH.fresh b hb
  rw[lg,yaa fun e=>by rw[e,p2]at this;cases this.2]
  exact this
 ·rw[lg]at hj
  split at hj
  ·rename_i e;subst e;cases hj
   rw[p2]at hy;cases hy;exact⟨o,by rw[hib];show(w.heap.push o)[w.heap.size]?=some o;simp,hx⟩
  ·obtain⟨q,h2,h3⟩:=hH.blk b y j hy hj
   refine⟨q,?_,h3.mono hle⟩
   rw[Below.heap_alloc];exact h2
   exact(ybe.1 h2).1
 ·rw[lg]at hj
  split at hj
  ·cases hj;rw[hib];exact⟨hH.size,by simp,hro⟩
  ·have:=hH.own b j hb hj;exact⟨this.1,by simp;omega,this.2.2⟩
 ·rw[lg]at hj hk
  by_cases eb:b=a
  ·by_cases ec:c=a
   ·rw[eb,ec]
   ·exfalso
    rw[yab eb]at hj;rw[yaa ec]at hk
    cases hj;have:=(hH.own c k hc hk).2.1;omega
  ·by_cases ec:c=a
   ·exfalso
    rw[yaa eb]at hj;rw[yab ec]at hk
    cases hk;have:=(hH.own b j hb hj).2.1;omega
   ·rw[yaa eb]at hj;rw[yaa ec]at hk
    exact hH.inj b c y z j k hy hz hj hk hb hc hjk
 ·change (if b=a then none else μ.pd b)=some (y,s)at hb
  split at hb
  ·cases hb
  ·rename_i e
   obtain⟨h1,h2,h3⟩:=hH.pnd b y s hb
   exact⟨by rw[lg,yaa e];exact h1,h2,h3⟩
def zB.ext_le(hH:zB B N μ H w){i:BI}:μ.le (μ.ext H.next i):=Mu.ext_le (hH.fresh _ (ybk _)).1
end
end
section
section
variable {P:Program}{C:oA}{B N:Nat}{μ:Mu}{H H':xA}{w:World}
variable {e:mC}{ρ:Operand->Value}{dst:Option Tmp}{type:TypeId}{pos:String}{after:Array Edge}{guard:Option (Nat × Bool)}{v:zA}
def zpp (P:Program)(B N:Nat)(μ:Mu)(w:World)(ρ:Operand->Value)(o:Oper)(v:zA)(H':xA):Prop:=
 ∃v' w' μ',((execOp ρ o).run P w=.ok (.value v') w'\/((execOp ρ o).run P w=.ok .skip w'/\v'=undef))/\μ.le μ'/\zB B N μ' H' w'/\Below N w w'/\vA μ' v v'
def LOk.hv(hH:zB B N μ H w){o:Oper}(h:LOk P μ w ρ o v):zpp P B N μ w ρ o v H:=by
 obtain⟨v',h1,h2⟩:=h
 exact⟨v',w,μ,.inl h1,μ.le_refl,hH,Below.refl _ _,h2⟩
def eL{x:Option (zA × xA)}{v:zA}{H':xA}(h:mJ x=.val v H'):x=some (v,H'):=by
 unfold mJ at h;split at h
 ·injection h with h1 h2;rw[<- h1,<- h2]
 ·cases h
def iQ{elem:TypeId}{cs:Array Value}:(newRow elem cs).run P w=.ok ⟨w.heap.size,0,none⟩ (w.alloc (.cells cs elem)):=by
 simp[newRow]
def lX{elem:TypeId}{v:Value}:(newVar elem v).run P w=.ok ⟨w.heap.size,0,none⟩ (w.alloc (.cells v.cells elem)):=iQ
def zjm:vA μ pD undef:=by rw[pD,vA];exact⟨_,rfl,.nil⟩
def zs5{t:Nat}{e:Lo}(h:cI C t=some e):e=.ty t:=by
 unfold cI at h;rw[iB]at h;split at h
 ·cases h;rfl
 ·split at h<;>cases h;rfl
def zB.newVar(hH:zB B N μ H w){l:List zA}{vs:List Value}(hl:yB μ l vs){t:Nat} :
  ∃i:BI,i.b=w.heap.size/\zB B N (μ.ext H.next i) (zE H l (cI C t)) (w.alloc (.cells vs.toArray t)):=by
 cases ht:cI C t with
 | none=>exact⟨_,rfl,hH.newTight hl t⟩
 | some e=>
  have:=zs5 ht
  subst this;exact⟨_,rfl,hH.newTag hl t⟩
def zz2(hT:pE P C)(hH:zB B N μ H w){t:Nat}(h:sS t C e H=.val v H'):zpp P B N μ w ρ ⟨dst,.alloc t,type,pos,after,guard⟩ v H':=by
 have h:=eL h
 simp only[sA]at h;obtain⟨ty,hty,h⟩:=h
 cases h;obtain⟨z,hz,_,hzl⟩:=(hT.facts hty).zero (μ:=μ)
 obtain⟨i,hi,hn⟩:=hH.newVar (C:=C) (t:=t) hzl
 refine⟨.pointer (some ⟨w.heap.size,0,none⟩),w.alloc (.cells z.cells t),_,.inl ?_,hH.ext_le,by rwa [Array.toArray_toList]at hn,lM hH.size _,by rw[vA];exact⟨_,Mu.ext_same,by rw[hi]⟩⟩
 simp only[execOp,Instr.alloc,yad,hz,yac,lX,yae]
def z9u(hH:zB B N μ H w)(hE:kE μ e ρ){t:Nat}{x:Operand}(h:z4n t x C e H=.val v H'):zpp P B N μ w ρ ⟨dst,.box t x,type,pos,after,guard⟩ v H':=by
 have h:=eL h
 simp only[sA]at h;obtain⟨a,ha,h⟩:=h
 cases h;obtain⟨i,hi,hn⟩:=hH.newVar (C:=C) (t:=t) (zap (hE _ _ ha))
 refine⟨.pointer (some ⟨w.heap.size,0,none⟩),w.alloc (.cells (ρ x).cells t),_,.inl ?_,hH.ext_le,by rwa [Array.toArray_toList]at hn,lM hH.size _,by rw[vA];exact⟨_,Mu.ext_same,by rw[hi]⟩⟩
 simp only[execOp,Instr.box,yad,lX,yac,yae]
def zde(z:List zA):∀n,(lJ z n).length=n*z.length:=by
 intro n;induction n with
 | zero=>simp[lJ]
 | succ n ih=>rw[lJ,nG,ybg,ih,ybo];omega
def z3a(z:List zA):∀(n j:Nat),j<n*z.length->(lJ z n)[j]?=z[j%z.length]?:=by
 intro n;induction n with
 | zero=>intro j hj;simp at hj
 | succ n ih=>
  intro j hj;rw[lJ,nG];by_cases h:j<z.length
  ·rw[yco h,Nat.mod_eq_of_lt h]
  ·rw[ybp (by omega),ih _ (by rw[ybo]at hj;omega)]
   congr 1
   rw[Nat.mod_eq_sub_mod (by omega:z.length<=j)]
def zno{z:List zA}{zv:Array Value}(hz:yB μ z zv.toList)(n:Nat):yB μ (lJ z n) ((Array.range (n*z.length)).map (zv[· % zv.size]!)).toList:=by
 have hl:=hz.length
 simp only[ycz]at hl;refine yB.mk (by simp[zde]) fun j a v ha hv=>?_
 have hj:j<n*z.length:=by rw[<- zde];exact(ybc.1 ha).1
 rw[z3a z n j hj]at ha;obtain⟨u,hu,hr⟩:=hz.get ha
 have hpos:0<z.length:=by
  rcases yav z.length with h0 | h0
  ·rw[h0]at hj;simp at hj
  ·exact h0
 have hm:j%z.length<z.length:=ycy _ hpos
 simp only[Array.toList_map,ybu,Array.toList_range,List.getElem?_range hj,Option.map_some,Option.some.injEq]at hv;rw[<- hv,hl];have:zv[j%z.length]! = u:=by
  have h1:zv[j%z.length]?=some u:=by simpa using hu
  rw[getElem!_def,h1]
 rw[this];exact hr
def zff(hT:pE P C)(hH:zB B N μ H w)(hE:kE μ e ρ){t len:Nat}{parts:Array (Nat × Operand)}(h:tS t len parts C e H=.val v H'):zpp P B N μ w ρ ⟨dst,.buildSlice t len parts,type,pos,after,guard⟩ v H':=by
 have h:=eL h
 simp only[sA,xB,ybb,kB,oB,gC]at h;obtain⟨ty,hty,el,hel,et,het,⟨hlt,hzs⟩,ps,hps,l,hl,h⟩:=h
 cases h;have hF:=hT.facts het
 obtain⟨z,hz,_,hzl⟩:=hF.zero (μ:=μ)
 have hzlen:=hzl.length
 simp only[ycz]at hzlen;have hrel:=zno hzl len
 rw[hzs]at hrel;obtain⟨out,ho,hr⟩:=zcg (hE.parts hps) hrel hl
 have hol:out.size=l.length:=by simpa using hr.length
 refine⟨.slice (some ⟨w.heap.size,0,none⟩) len len,w.alloc (.cells out el),_,.inl ?_,hH.ext_le,by have:=hH.newTight hr el;rwa [Array.toArray_toList]at this,lM hH.size _,?_⟩
 ·have h1:¬ len*et.size > 2^24:=by omega
  by_cases h0:len*et.size=0
  ·have harr:((Array.range (len*et.size)).map ((#[]:Array Value)[· % (#[]:Array Value).size]!))=(Array.range (len*et.size)).map (z.cells[· % z.cells.size]!):=by rw[h0];simp
   simp only[execOp,Instr.buildSlice,yad,tE (qN (hT.facts hty) hel),yac,hF.size,yaa h1,yab h0,yae,harr,Array.toList_map,ho,iQ]
  ·simp only[execOp,Instr.buildSlice,yad,tE (qN (hT.facts hty) hel),yac,hF.size,yaa h1,yaa h0,yae,hz,Array.toList_map,ho,iQ]
 ·rw[vA];exact .inl ⟨_,len,Mu.ext_same,rfl,ybk _,fun _=>rfl,fun h=>by cases h⟩
def z4s(hT:pE P C)(hE:kE μ e ρ)(o:Oper)(hf:gI o.op=true)(hlo:z3u C o.op=none)(h:(wF o.op).f C e H=.val v H') :
  ∃l vs v' elem,H'=zE H l none/\(execOp ρ o).run P w=.ok (.value v') (w.alloc (.cells vs elem))/\yB μ l vs.toList/\∀(ν:Mu) (i:BI),ν H.next=some i->i.b=w.heap.size->i.tight=true->vA ν v v':=by
 obtain⟨dst,op,type,pos,after,guard⟩:=o
 cases op<;>first | (simp[gI]at hf;done) | skip
 case alloc t=>
  have h:=eL (show sS t C e H=.val v H' from h)
  rw[show cI C t=none from hlo]at h;simp only[sA]at h;obtain⟨ty,hty,h⟩:=h
  cases h;obtain⟨z,hz,_,hzl⟩:=(hT.facts hty).zero (μ:=μ)
  refine⟨_,z.cells,.pointer (some ⟨w.heap.size,0,none⟩),t,rfl,?_,hzl,fun ν i h1 h2 _=>by rw[vA];exact⟨i,h1,by rw[h2]⟩⟩
  simp only[execOp,Instr.alloc,yad,hz,yac,lX,yae]
 case box t x=>
  have h:=eL (show z4n t x C e H=.val v H' from h)
  rw[show cI C t=none from hlo]at h;simp only[sA]at h;obtain⟨a,ha,h⟩:=h
  cases h;refine⟨_,(ρ x).cells,.pointer (some ⟨w.heap.size,0,none⟩),t,rfl,?_,zap (hE _ _ ha),fun ν i h1 h2 _=>by rw[vA];exact⟨i,h1,by rw[h2]⟩⟩
  simp only[execOp,Instr.box,yad,lX,yac,yae]
 case buildSlice t len parts=>
  have h:=eL (show tS t len parts C e H=.val v H' from h)
  simp only[sA,xB,ybb,kB,oB,gC]at h;obtain⟨ty,hty,el,hel,et,het,⟨hlt,hzs⟩,ps,hps,l,hl,h⟩:=h
  cases h;have hF:=hT.facts het
  obtain⟨z,hz,_,hzl⟩:=hF.zero (μ:=μ)
  have hrel:=zno hzl len
  rw[hzs]at hrel;obtain⟨out,ho,hr⟩:=zcg (hE.parts hps) hrel hl
  refine⟨_,out,.slice (some ⟨w.heap.size,0,none⟩) len len,el,rfl,?_,hr,fun ν i h1 h2 h3=>by rw[vA];exact .inl ⟨i,len,h1,by rw[h2],ybk _,fun _=>rfl,fun h=>by rw[h3]at h;cases h⟩⟩
  have h1:¬ len*et.size > 2^24:=by omega
  by_cases h0:len*et.size=0
  ·have harr:((Array.range (len*et.size)).map ((#[]:Array Value)[· % (#[]:Array Value).size]!))=(Array.range (len*et.size)).map (z.cells[· % z.cells.size]!):=by rw[h0];simp
   simp only[execOp,Instr.buildSlice,yad,tE (qN (hT.facts hty) hel),yac,hF.size,yaa h1,yab h0,yae,harr,Array.toList_map,ho,iQ]
  ·simp only[execOp,Instr.buildSlice,yad,tE (qN (hT.facts hty) hel),yac,hF.size,yaa h1,yaa h0,yae,hz,Array.toList_map,ho,iQ]
def zub{o:Op}(hf:gI o=true)(hlo:z3u C o=none)(h:(wF o).f C e H=.val v H'):∃l,H'=zE H l none:=by
 cases o<;>first | (simp[gI]at hf;done) | skip
 case alloc t=>
  have h:=eL (show sS t C e H=.val v H' from h)
  rw[show cI C t=none from hlo]at h;simp only[sA]at h;obtain⟨ty,hty,h⟩:=h
  cases h;exact⟨_,rfl⟩
 case box t x=>
  have h:=eL (show z4n t x C e H=.val v H' from h)
  rw[show cI C t=none from hlo]at h;simp only[sA]at h;obtain⟨a,ha,h⟩:=h
  cases h;exact⟨_,rfl⟩
 case buildSlice t len parts=>
  have h:=eL (show tS t len parts C e H=.val v H' from h)
  simp only[sA,xB]at h;obtain⟨ty,hty,el,hel,et,het,_,ps,hps,l,hl,h⟩:=h
  cases h;exact⟨_,rfl⟩
def zop{e':mC}(h:∀x,ev x e=ev x e'){o:Op}(hf:gI o=true)(H:xA):(wF o).f C e H=(wF o).f C e' H:=by
 cases o<;>first | (simp[gI]at hf;done) | rfl | skip
 case box t x=>show z4n t x C e H=z4n t x C e' H;simp only[z4n,h]
 case buildSlice t len ps=>show tS t len ps C e H=tS t len ps C e' H;simp only[tS,evp,h]
def zld(hT:pE P C)(hbase:B<=C.base)(hH:zB B N μ H w)(hE:kE μ e ρ){t:Nat}{a x:Operand}(h:zle t a x C e H=.val v H'):zpp P B N μ w ρ ⟨dst,.store t a x,type,pos,after,guard⟩ v H':=by
 have h:=eL h
 simp only[sA,xB,oB,gC,tU]at h;obtain⟨ty,hty,av,ha,p,rfl,xv,hx,hs,H1,h1,h⟩:=h
 cases h;have hF:=hT.facts hty
 have hp:=hE _ _ ha
 rw[vA]at hp;obtain⟨i,hi,hpv⟩:=hp
 have hc:=zap (hE _ _ hx)
 obtain⟨w',h2,h3,h4⟩:=zjv (P:=P) hbase hH h1 hi hc
 have hcl:=hc.length
 simp only[ycz]at hcl;refine⟨undef,w',μ,.inr ⟨?_,rfl⟩,μ.le_refl,h3,h4,zjm⟩
 have h5:¬ (ρ x).cells.size≠ty.size:=by omega
 simp only[execOp,Instr.storeAt,hpv,Instr.sureAddr,yad,yae,yac,storeVar,hF.size,Sem.run_ite,yaa h5,h2]
def zon(hH:zB B N μ H w){t:Nat}{r:Option Operand}(h:dW r C e H=.val v H'):zpp P B N μ w ρ ⟨dst,.makeMap t r,type,pos,after,guard⟩ v H':=by
 unfold dW at h;split at h
 ·injection h with h1 h2
  subst h1 h2
  refine⟨.map (some w.heap.size),w.alloc (.map #[] 0),_,.inl ?_,hH.ext_le,hH.newBlk (i:=⟨w.heap.size,true,0,0,false⟩) rfl rfl ⟨#[],0,[],rfl,.inl rfl,.nil⟩,lM hH.size _,by rw[vA];exact⟨_,Mu.ext_same,rfl⟩⟩
  simp[execOp,Instr.makeMap]
 ·cases h
def zio(hT:pE P C)(hH:zB B N μ H w)(hE:kE μ e ρ){t:Nat}{l c:Operand}(h:za6 t l c C e H=.val v H'):zpp P B N μ w ρ ⟨dst,.makeSlice t l c,type,pos,after,guard⟩ v H':=by
 have h:=eL h
 simp only[sA,xB,ybb,dD,kB,oB,gC,bY]at h;obtain⟨ty,hty,el,hel,et,het,lv',hl,ln,⟨k1,rfl⟩,cv,hc,cn,⟨k2,rfl⟩,⟨⟨⟨h1,h2⟩,h3⟩,h4⟩,h⟩:=h
 cases h;have hF:=hT.facts het
 obtain⟨z,hz,_,hzl⟩:=hF.zero (μ:=μ)
 have hrel:=zno hzl cn
 rw[h4]at hrel;have hlv:=hE _ _ hl
 rw[vA]at hlv;have hcv:=hE _ _ hc
 rw[vA]at hcv;obtain⟨inf,hinf,hsz,hby,_⟩:=hF.info
 refine⟨.slice (some ⟨w.heap.size,0,none⟩) ln cn,w.alloc (.cells ((Array.range (cn*et.size)).map (z.cells[· % z.cells.size]!)) el),_,.inl ?_,hH.ext_le,by have:=hH.newTight hrel el;rwa [Array.toArray_toList]at this,lM hH.size _,?_⟩
 ·have hw1:IntKind.i64.wrap (ln:Int)=ln:=zT (by simp[fF];omega)
  have hw2:IntKind.i64.wrap (cn:Int)=cn:=zT (by simp[fF];omega)
  have hb:(et.bytes:Int)*(cn:Int)=((cn*et.bytes:Nat):Int):=by rw[Int.mul_comm];simp
  have hc1:(((cn:Int)<0||decide ((et.bytes:Int)*(cn:Int) > 2^48))||decide ((ln:Int)<0)||decide ((ln:Int) > (cn:Int)))=false:=by
   rw[hb];simp;omega
  have hnn:¬ ((((cn:Int)<0||decide ((et.bytes:Int)*(cn:Int) > 2^48))||decide ((ln:Int)<0)||decide ((ln:Int) > (cn:Int)))=true):=by rw[hc1];simp
  by_cases h0:cn*et.size=0
  ·have harr:((Array.range (cn*et.size)).map ((#[]:Array Value)[· % (#[]:Array Value).size]!))=(Array.range (cn*et.size)).map (z.cells[· % z.cells.size]!):=by rw[h0];simp
   simp only[execOp,Instr.makeSlice,yad,tE (qN (hT.facts hty) hel),yac,hlv,hcv,asInt,asIntOf,yae,qT hinf,hby,hw1,hw2,yaa hnn,run_askRoom,hF.size,Int.toNat_natCast,yab h0,harr,iQ]
  ·simp only[execOp,Instr.makeSlice,yad,tE (qN (hT.facts hty) hel),yac,hlv,hcv,asInt,asIntOf,yae,qT hinf,hby,hw1,hw2,yaa hnn,run_askRoom,hF.size,Int.toNat_natCast,yaa h0,hz,iQ]
 ·rw[vA];exact .inl ⟨_,cn,Mu.ext_same,rfl,ybk _,fun _=>rfl,fun h=>by cases h⟩
end
end
section
section
variable {P:Program}{C:oA}{B N:Nat}{μ:Mu}{H H':xA}{w:World}
variable {e:mC}{ρ:Operand->Value}{dst:Option Tmp}{type:TypeId}{pos:String}{after:Array Edge}{guard:Option (Nat × Bool)}{v:zA}
def zu8(μ:Mu)(p:zA × zA)(e:MapEntry):Prop:=vA μ p.1 e.key/\vA μ p.2 e.val
def zd4{n:Nat}{a b:zA}{va vb:Value}(ha:vA μ a va)(hb:vA μ b vb)(h:aK a b=some true):Instr.sameBits n vb va=true:=by
 rcases tV h with⟨k,x,y,rfl,rfl,hr⟩ | ⟨x,y,rfl,rfl,hr⟩ | ⟨x,y,rfl,rfl,hr⟩<;>rw[vA]at ha<;>rw[vA]at hb
 ·have:x=y:=by simpa using hr.symm
  rw[ha,hb,this];simp[Instr.sameBits]
 ·obtain⟨s,rfl,rfl⟩:=ha
  obtain⟨u,rfl,rfl⟩:=hb
  have h1:=eY ((rM _ _).1 hr.symm)
  rw[h1];have h2:(u == u)=true:=by
   show(u.data == u.data)=true
   simp
  simp only[Instr.sameBits,h2]
 ·have:x=y:=by simpa using hr.symm
  rw[ha,hb,this];simp[Instr.sameBits]
def zdz{n:Nat}:∀ {x y:List zA} {vx vy:List Value},yB μ x vx->yB μ y vy->vN x y=some true->vy.length=vx.length/\((vy.zip vx).all fun(a,b)=>Instr.sameBits n a b)=true
 | [],[],vx,vy,hx,hy,_=>by
  rw[yB]at hx hy;subst hx;subst hy;exact⟨rfl,rfl⟩
 | a::x,b::y,vx,vy,hx,hy,h=>by
  simp only[vN,sA]at h;obtain⟨r,hr,s,hs,h⟩:=h
  cases r<;>cases s<;>simp at h
  rw[yB]at hx hy;obtain⟨va,rx,rfl,h1,h2⟩:=hx
  obtain⟨vb,ry,rfl,h3,h4⟩:=hy
  obtain⟨g1,g2⟩:=zdz (n:=n) h2 h4 hs
  exact⟨by simp[g1],by rw[List.zip_cons_cons,ycg,g2];simp[zd4 h1 h3 hr]⟩
 | [],_::_,_,_,_,_,h=>by cases h
 | _::_,[],_,_,_,_,h=>by cases h
def zt1{a b:zA}{va vb:Value}(ha:vA μ a va)(hb:vA μ b vb)(h:mG a b=some true):Instr.sameBits 10000 vb va=true:=by
 rcases gW h with⟨x,y,rfl,rfl,h⟩ | ⟨_,h⟩
 ·rw[vA]at ha hb
  obtain⟨cx,rfl,hx⟩:=ha
  obtain⟨cy,rfl,hy⟩:=hb
  obtain⟨g1,g2⟩:=zdz (n:=9999) hx hy h
  rw[Instr.sameBits];simp only[ycz]at g1;rw[g2,Bool.and_true,beq_iff_eq];exact g1
 ·exact zd4 ha hb h
def zfy{k v:zA}{kv vv:Value}(hk:vA μ k kv)(hv:vA μ v vv){F:List MapEntry->Nat->Sem (Option (Nat × Value))}(hF0:∀i,(F [] i).run P w=.ok none w)
  (hF1:∀(p:zA) (e:MapEntry) (es:List MapEntry) (i:Nat) (q:Bool),vA μ p e.key->mG k p=some q->(F (e::es) i).run P w=if q then .ok (some (i,e.val)) w else(F es (i+1)).run P w) {l:List (zA × zA)} {es:List MapEntry} (hl:oC (zu8 μ) l es) :
  ∀ {i:Nat} {l':List (zA × zA)},cG k v l=some l' →
   (∃(j:Nat) (e0:MapEntry),(F es i).run P w=.ok (some (i+j,e0.val)) w/\es[j]?=some e0/\Instr.sameBits 10000 e0.key kv=true/\oC (zu8 μ) l' (es.set j { e0 with key:=kv,val:=vv })) ∨
   ((F es i).run P w=.ok none w/\∀born,oC (zu8 μ) l' (es++[⟨kv,vv,born⟩])):=by
 induction hl with
 | nil=>intro i l' h;rw[cG]at h;cases h;exact .inr ⟨hF0 i,fun born=>.cons ⟨hk,hv⟩ .nil⟩
 | @cons p e l es hpe hrest ih=>
  intro i l' h;rw[cG,sA]at h;obtain⟨q,hq,h⟩:=h
  have h1:=hF1 p.1 e es i q hpe.1 hq
  cases q with
  | true=>
   rw[cond_true]at h
   cases h;refine .inl ⟨0,e,by rw[h1];simp,by simp,zt1 hk hpe.1 hq,?_⟩
   exact .cons ⟨hk,hv⟩ hrest
  | false=>
   rw[cond_false,sA]at h;obtain⟨r,hr,h⟩:=h
   cases h;simp only[ybq,if_false]at h1;rcases ih (i:=i+1) hr with⟨j,e0,h2,h3,h4,h5⟩ | ⟨h2,h3⟩
   ·refine .inl ⟨j+1,e0,?_,by simpa using h3,h4,?_⟩
    ·rw[h1,h2,show i+1+j=i+(j+1) by omega]
    ·exact .cons hpe h5
   ·exact .inr ⟨by rw[h1];exact h2,fun born=>.cons hpe (h3 born)⟩
def zxd(hT:pE P C){t:Nat}{ty:uC}(hty:C.tys.get t=some ty)(hkt:dN C ty=true){k v:zA}{kv vv:Value}(hfit:vM C ty k=true)(hk:vA μ k kv)(hv:vA μ v vv){l l':List (zA × zA)}{es:List MapEntry}(hl:oC (zu8 μ) l es)(h:cG k v l=some l') :
  (∃(j:Nat) (e0:MapEntry),(Instr.findKey t kv es).run P w=.ok (some (j,e0.val)) w/\es[j]?=some e0/\Instr.sameBits 10000 e0.key kv=true/\oC (zu8 μ) l' (es.set j { e0 with key:=kv,val:=vv })) ∨
   ((Instr.findKey t kv es).run P w=.ok none w/\∀born,oC (zu8 μ) l' (es++[⟨kv,vv,born⟩])):=by
 have hF:=hT.facts hty
 rcases mZ hkt with hkd | ⟨fs,hkd,hfs,hok,hfl⟩
 ·obtain⟨D,hD⟩:=hF.und
  have hfits:=za4 hF hD hkd (oZ hkd hfit)
  have hfk:∀(q:Option (Nat × Value)),Instr.findNow D kv es 0=some q->(Instr.findKey t kv es).run P w=.ok q w:=by
   intro q hq;unfold Instr.findKey;simp only[yad,tE hD,yac,hq,yae]
  have back : ∀ (q : Option (Nat × Value)), ((fun es i => (match Instr.findNow D kv es i with | some r => pure r | none => stuck "" : Sem (Option (Nat × Value)))) es 0).run P w = .ok q w -> Instr.findNow D kv es 0 = some q := by
   intro q hq;simp only[]at hq
   cases hn:Instr.findNow D kv es 0 with
   | none=>rw[hn]at hq;simp[stuck]at hq
   | some r=>rw[hn]at hq;simp only[yae]at hq;injection hq with h1 _;rw[h1]
  have hF1 : ∀ (p : zA) (e : MapEntry) (es : List MapEntry) (i : Nat) (q : Bool), vA μ p e.key -> mG k p = some q -> ((fun es i => (match Instr.findNow D kv es i with | some r => pure r | none => stuck "" : Sem (Option (Nat × Value)))) (e :: es) i).run P w = if q then .ok (some (i, e.val)) w else ((fun es i => (match Instr.findNow D kv es i with | some r => pure r | none => stuck "" : Sem (Option (Nat × Value)))) es (i + 1)).run P w := by
   intro p e es i q hp hq;have h1:=zfz hfits hk hp (hfits.eq1 hq)
   simp only[Instr.findNow,h1]
   cases q<;>rfl
  rcases zfy (P := P) (w := w) (F := fun es i => match Instr.findNow D kv es i with | some r => pure r | none => stuck "") hk hv (fun i => rfl) hF1 hl (i := 0) h with ⟨j, e0, g1, g2, g3, g4⟩ | ⟨g1, g2⟩
  ·refine .inl ⟨j,e0,?_,g2,g3,g4⟩
   have:=hfk _ (back _ g1)
   simpa using this
  ·exact .inr ⟨hfk _ (back _ g1),g2⟩
 ·obtain⟨x,rfl,hx⟩:=pZ hkd hfs hfit
  obtain⟨g,hg,rfl⟩:=bT hF hfs
  rw[cZ hg];have hF1:∀(p:zA) (e:MapEntry) (es:List MapEntry) (i:Nat) (q:Bool),vA μ p e.key->mG (.agg x) p=some q->(Instr.findAsking t kv (e::es) i).run P w=if q then .ok (some (i,e.val)) w else(Instr.findAsking t kv es (i+1)).run P w:=by
   intro p e es i q hp hq;have h1:=zd1 (P:=P) (w:=w) hT hty hfs hok hfl hx hk hp hq
   simp only[Instr.findAsking,yad,h1,yac]
   cases q<;>rfl
  rcases zfy (P:=P) (w:=w) (F:=fun es i=>Instr.findAsking t kv es i) hk hv (fun i=>rfl) hF1 hl (i:=0) h with⟨j,e0,g1,g2,g3,g4⟩ | ⟨g1,g2⟩
  ·exact .inl ⟨j,e0,by simpa using g1,g2,g3,g4⟩
  ·exact .inr ⟨g1,g2⟩
def gU{r:Nat}{o o':Obj}(h:w.heap[r]?=some o)(hc:∀a b c,o≠.cells a b c):(setObj r o').run P w=.ok () (World.setBlk w r o'):=by
 simp only[setObj,Sem.run,h];rfl
def zkr(hT:pE P C)(hbase:B<=C.base)(hH:zB B N μ H w)(hE:kE μ e ρ){t:Nat}{m k x:Operand}(h:uS t m k x C e H=.val v H') :
  ∃w',(Instr.mapUpdate t (ρ m) (ρ k) (ρ x)).run P w=.ok () w'/\zB B N μ H' w'/\Below N w w'/\v=pD:=by
 have h:=eL h
 simp only[sA,xB,aY,ycp]at h;obtain⟨ty,hty,ke,hke,kty,hkty,hkd,mv,hm,b,rfl,hbb,l,hl,kv,hk,hfit,xv,hx,l',hl',h⟩:=h
 cases h;have hKF:=hT.facts hkty
 have hmv:=hE _ _ hm
 rw[vA]at hmv;obtain⟨i,hi,hmv⟩:=hmv
 obtain⟨es,clock,lp,h1,hperm,h2⟩:=hH.mapAt hl hi
 obtain⟨lp',hlp',hperm'⟩:=zj1 hperm hl'
 have hb:B<=b:=by
  have:¬ b<C.base:=fun k=>by rw[kB.2 k]at hbb;cases hbb
  omega
 have hown:=hH.own b i hb hi
 have hu:=zr8 (hT.facts hty) hke
 have hck:=zbs (P:=P) (w:=w) (empty:=false) (d:=9998) (kv:=ρ k) hT hkty hkd hfit (hE _ _ hk)
 rcases zxd (P:=P) (w:=w) hT hkty hkd hfit (hE _ _ hk) (hE _ _ hx) h2 hlp' with⟨j,e0,h3,h4,h5,h6⟩ | ⟨h3,h4⟩
 ·have h4':es[j]?=some e0:=by simpa using h4
  have hj:j<es.size:=(ybe.1 h4').1
  refine⟨World.setBlk w i.b (.map (es.modify j fun e=>{ e with key:=ρ k,val:=ρ x }) clock),?_,hH.upd (cY hl) hi hb ⟨_,clock,lp',rfl,hperm',?_⟩,vQ hown.1,rfl⟩
  ·have h7:=h3
   simp only[Instr.mapUpdate,yad,tE hu,yac,hmv,vW h1 (by simp),hck,h7,h4',Option.map_some,Option.getD_some,Instr.keyThatStays,h5,if_true,yae,gU h1 (by simp)]
  ·have:(es.modify j fun e=>{ e with key:=ρ k,val:=ρ x }).toList=es.toList.set j { e0 with key:=ρ k,val:=ρ x }:=by
    apply List.ext_getElem?
    intro n;rw[Array.getElem?_toList,Array.getElem?_modify,ycw];by_cases e:j=n
    ·subst e
     rw[yab rfl,yab rfl,h4',yab (by simpa using hj)];rfl
    ·rw[yaa e,yaa e];simp
   rw[this];exact h6
 ·refine⟨World.setBlk w i.b (.map (es.push { key:=ρ k,val:=ρ x,born:=clock }) (clock+1)),?_,hH.upd (cY hl) hi hb ⟨_,clock+1,lp',rfl,hperm',?_⟩,vQ hown.1,rfl⟩
  ·have h7:=h3
   simp only[Instr.mapUpdate,yad,tE hu,yac,hmv,vW h1 (by simp),hck,h7,gU h1 (by simp)]
  ·rw[Array.toList_push];exact h4 clock
def rY(hT:pE P C)(hbase:B<=C.base)(hH:zB B N μ H w)(hE:kE μ e ρ){t:Nat}{m k x:Operand}(h:uS t m k x C e H=.val v H') :
  zpp P B N μ w ρ ⟨dst,.mapUpdate t m k x,type,pos,after,guard⟩ v H'/\zpp P B N μ w ρ ⟨dst,.insert t m k x,type,pos,after,guard⟩ v H':=by
 obtain⟨w',h1,h2,h3,rfl⟩:=zkr (P:=P) hT hbase hH hE h
 constructor
 all_goals
  refine⟨undef,w',μ,.inr ⟨?_,rfl⟩,μ.le_refl,h2,h3,zjm⟩
  simp only[execOp,yad,h1,yac,yae]
def zbu(s:ByteArray):yB μ (zP (vE s)) (s.data.map fun b=>Value.int .u8 b.toNat).toList:=by
 refine yB.mk (by simp[zP,vE]) fun j a v ha hv=>?_
 unfold zP vE at ha;simp only[ybu,Array.toList_map]at ha hv
 cases h:s.data.toList[j]? with
 | none=>rw[h]at ha;cases ha
 | some b=>
  rw[h]at ha hv;simp at ha hv;rw[<- ha,<- hv,vA]
def aZ(l:List Nat):(zP l).length=l.length:=by simp[zP]
def zB.newLoose(hH:zB B N μ H w){l:List zA}{cs:Array Value}{lo:Lo}(hlen:l.length<=cs.size)(hl:∀(j:Nat) a,l[j]?=some a->∃v,cs[j]?=some v/\vA μ a v)(elem:TypeId)(fr:Nat × Nat)(hfr:fr.2<=fr.1\/cs.size<=fr.1)(hmod:∀t,lo=.ty t->elem=t) :
  zB B N (μ.ext H.next ⟨w.heap.size,false,lo.es,cs.size,false⟩) (zE H l (some lo)) (w.alloc (.cells cs elem fr)):=by
 refine hH.newBlk rfl rfl ⟨cs,elem,fr,rfl,by rw[gC];exact hlen,.inr hfr,fun j v hv=>?_,rfl,rfl,rfl,hmod⟩
 rw[Tr.get_ofList]at hv;obtain⟨u,hu,hr⟩:=hl j v hv
 exact⟨by rw[gC];exact(ybc.1 hv).1,u,hu,hr.mono hH.ext_le.f _ _⟩
def zzab(need old:Nat)(elem:TypeId)(t:Nat):need<=(Question.appendCap need old elem).cut t:=by simp[Question.cut]
def zad(need old:Nat)(elem:TypeId):∃c,need<=c/\(choose (.appendCap need old elem)).run P w=.ok c w.drew:=by
 refine⟨(Question.appendCap need old elem).cut (w.tape w.drawn (.appendCap need old elem)),zzab _ _ _ _,?_⟩
 rw[run_choose];simp[Question.forced]
def mV:Below N w w.drew:=(Below.refl N w).drew
def zbw(hH:zB B N μ H w){el:Nat}(s:ByteArray):∃w' cap,(Conv.stringToBytes el s).run P w=.ok (.slice (some ⟨w.heap.size,0,none⟩) s.size cap) w'/\s.size<=cap ∧
  zB B N (μ.ext H.next ⟨w.heap.size,false,1,cap,false⟩) (zE H (zP (vE s)) (some (.ty el))) w'/\Below N w w':=by
 obtain⟨cap,hcap,hc⟩:=zad (P:=P) (w:=w) s.size 0 el
 let cs:Array Value:=(s.data.map fun b=>Value.int .u8 b.toNat)++Array.replicate (cap-s.size) (.int .u8 0)
 have hsz:cs.size=cap:=by simp[cs];show s.data.size+(cap-s.size)=cap;have:s.data.size=s.size:=rfl;omega
 have hdat:(s.data.map fun b=>Value.int .u8 b.toNat).size=s.size:=by simp
 have hpush:∀X:Obj,(w.drew.heap.push X)[w.heap.size]?=some X:=fun X=>by show(w.heap.push X)[w.heap.size]?=_;simp
 refine⟨w.drew.alloc (.cells cs el (cap,cap+1)),cap,?_,hcap,?_,(mV).trans (lM (by simpa using hH.size) _)⟩
 ·unfold Conv.stringToBytes
  have hfz:(w.drew.alloc (.cells cs el)).freeze ⟨w.heap.size,cap,none⟩ 1=w.drew.alloc (.cells cs el (cap,cap+1)):=by
   unfold World.freeze;rw[yaa (by simp)]
   unfold World.alloc;congr 1
   apply Array.ext_getElem?
   intro k;rw[Array.getElem?_modify];by_cases e:k=w.heap.size
   ·subst e;rw[yab rfl,hpush,hpush];rfl
   ·rw[yaa (fun h=>e h.symm)]
    simp only[Array.getElem?_push];rw[yaa (by simpa using e),yaa (by simpa using e)]
  have hshape:(w.drew.alloc (.cells cs el)).shape? w.heap.size=some (el,cs.size):=by
   unfold World.shape? World.alloc
   simp only[hpush]
  simp only[yad,hc,yac,iQ,markStringish,run_shape];have h2:(w.drew.alloc (.cells cs el)).shape? w.drew.heap.size=some (el,cap):=by rw[<- hsz];exact hshape
  simp only[show((s.data.map fun b=>Value.int .u8 (b.toNat:Int))++Array.replicate (cap-s.size) (Value.int .u8 0))=cs from rfl,h2,run_freeze,yac,yae]
  rw[show(⟨w.drew.heap.size,cap,none⟩:Addr)=⟨w.heap.size,cap,none⟩ from rfl,hfz]
  rfl
 ·have:=(hH.drew).newLoose (l:=zP (vE s)) (cs:=cs) (lo:=.ty el) (by rw[aZ,wU,hsz];exact hcap) (fun j a ha=>?_) el (cap,cap+1) (.inr (by rw[hsz];exact ybk _)) (fun t e=>by cases e;rfl)
  ·rw[hsz]at this;exact this
  ·obtain⟨u,hu,hr⟩:=(zbu (μ:=μ) s).get ha
   refine⟨u,?_,hr⟩
   have hj:j<s.size:=by
    have:=(ybc.1 ha).1
    rw[aZ,wU]at this;exact this
   show((s.data.map fun b=>Value.int .u8 (b.toNat:Int))++_)[j]?=_
   rw[yaj (by rw[hdat];exact hj)]
   simpa using hu
def zoo(hT:pE P C)(hH:zB B N μ H w)(hE:kE μ e ρ){s d:Nat}{x:Operand}(h:zQ s d x C e H=.val v H'):zpp P B N μ w ρ ⟨dst,.convert s d x,type,pos,after,guard⟩ v H':=by
 unfold zQ at h;split at h
 ·rename_i u hu
  injection h with h1 h2
  subst h1 h2
  exact(zrk hT hH hE hu).hv hH
 ·have h:=eL h
  simp only[sA,xB,jI,yP,gC]at h;obtain⟨sy,hsy,ty,hty,el,hel,et,het,k,hk,rfl,a,ha,l,rfl,h⟩:=h
  cases h;have hv:=hE _ _ ha
  rw[vA]at hv;obtain⟨str,hxv,rfl⟩:=hv
  obtain⟨w',cap,h1,h2,h3,h4⟩:=zbw (P:=P) (el:=el) hH str
  obtain⟨su,hsu⟩:=(hT.facts hsy).und
  refine⟨.slice (some ⟨w.heap.size,0,none⟩) str.size cap,w',_,.inl ?_,hH.ext_le,h3,h4,?_⟩
  ·have h5:(convert s d (ρ x)).run P w=.ok (.slice (some ⟨w.heap.size,0,none⟩) str.size cap) w':=by
    rw[hxv];simp only[convert,yad,tE hsu,tE (qN (hT.facts hty) hel),yac]
    cases su<;>simp only[tE (ziy (hT.facts het) hk),yac,h1]
   simp only[execOp,yad,h5,yac,yae]
  ·rw[vA,wU]
   exact .inl ⟨_,cap,Mu.ext_same,rfl,h2,(fun h=>by cases h),(fun _=>by simp)⟩
end
end
end Go.Am
