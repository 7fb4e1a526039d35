/- Arithmetic, comparisons, conversions, slices. -/
import Derived.Below
import Derived.Laws.BytesString
import Derived.Lib.Strings
import Derived.Test.YtbgilkcahebbfaaGreatDoorF01
set_option linter.all false
noncomputable section
namespace Go.Am
open Go
section
variable {P:Program}{C:oA}{B N:Nat}{μ:Mu}{H:xA}{w:World}
variable {e:nC}{ρ:Operand->Value}{dst:Option Tmp}{type:TypeId}{pos:String}{after:Array Edge}{guard:Option (Nat × Bool)}{v:zA}
def pS{k:IntKind}{n:Nat}(h:n<nF k):k.wrap (n:Int)=n:=by
 rw[<- zK];show(bif Nat.blt n (nF k)then Int.ofNat n else _)=_
 rw[iB,yab (dB.2 h)];rfl
def zm0(k:IntKind):∃m,nF k=2^m/\m<=k.bits:=by
 cases k
 ·exact⟨7,rfl,by decide⟩
 ·exact⟨15,rfl,by decide⟩
 ·exact⟨31,rfl,by decide⟩
 ·exact⟨63,rfl,by decide⟩
 ·exact⟨8,rfl,by decide⟩
 ·exact⟨16,rfl,by decide⟩
 ·exact⟨32,rfl,by decide⟩
 ·exact⟨64,rfl,by decide⟩
def jQ{k:IntKind}{n:Nat}(h:n<nF k):(BitVec.ofInt k.bits (n:Int)).toNat=n:=by
 obtain⟨m,hm,hle⟩:=zm0 k
 rw[BitVec.toNat_ofInt];have:n<2^k.bits:=Nat.lt_of_lt_of_le (hm ▸ h) (yao (by omega) hle)
 rw[<- Int.natCast_emod,Int.toNat_natCast,Nat.mod_eq_of_lt this]
def cX{f:Nat->Nat->Nat}{k:IntKind}{a b:Int}{v:zA}(h:zH f k a b=some v):∃x y:Nat,a=x/\b=y/\x<nF k/\y<nF k/\v=.int k (f x y:Nat):=by
 unfold zH at h;simp only[uA,bV,zB,ybb,dB]at h;obtain⟨x,rfl,y,rfl,⟨h1,h2⟩,h⟩:=h
 cases h;exact⟨x,y,rfl,rfl,h1,h2,rfl⟩
def zy0{op:BinOp}{k:IntKind}{a b:Int}(h:(zy1 op).f k a b=some v):op≠.shl/\op≠.shr/\∀t,∃v',(binOp op t (.int k a) (.int k b)).run P w=.ok v' w/\wA μ v v':=by
 cases op<;>simp only[zy1]at h
 case add=>cases h;exact⟨by simp,by simp,fun t=>⟨.int k (k.wrap (a+b)),by simp[binOp,Op.intArith],by rw[wA,zK]⟩⟩
 case sub=>cases h;exact⟨by simp,by simp,fun t=>⟨.int k (k.wrap (a-b)),by simp[binOp,Op.intArith],by rw[wA,zK]⟩⟩
 case mul=>cases h;exact⟨by simp,by simp,fun t=>⟨.int k (k.wrap (a*b)),by simp[binOp,Op.intArith],by rw[wA,zK]⟩⟩
 case quo=>
  unfold z1r at h;simp only[iB,mP]at h;split at h
  ·cases h
  ·rename_i hb;cases h
   refine⟨by simp,by simp,fun t=>⟨.int k (k.wrap (a.tdiv b)),?_,by rw[wA,zK]⟩⟩
   simp[binOp,Op.intDiv,hb]
 case rem=>
  unfold zzo at h;simp only[iB,mP]at h;split at h
  ·cases h
  ·rename_i hb;cases h
   refine⟨by simp,by simp,fun t=>⟨.int k (a.tmod b),?_,by rw[wA]⟩⟩
   simp[binOp,Op.intDiv,hb]
 case and=>
  unfold iAnd at h;split at h
  ·obtain⟨x,y,rfl,rfl,hx,hy,rfl⟩:=cX h
   refine⟨by simp,by simp,fun t=>⟨.int k ((x &&& y:Nat):Int),?_,by rw[wA];rfl⟩⟩
   have h1:x &&& y<nF k:=yam Nat.and_le_left hx
   simp only[binOp,Op.intBits,BitVec.toNat_and,jQ hx,jQ hy,pS h1];simp
  ·simp only[uA,bV,zB,dB]at h
   obtain⟨y,rfl,hy,h⟩:=h
   cases h;have e:(BitVec.ofInt k.bits a).toNat=Int.toNat (Int.emod a (.ofNat (kW k))):=by
    rw[BitVec.toNat_ofInt]
    cases k<;>rfl
   generalize Int.toNat (Int.emod a (.ofNat (kW k)))=x at e ⊢
   refine⟨by simp,by simp,fun t=>⟨.int k ((x &&& y:Nat):Int),?_,by rw[wA];rfl⟩⟩
   have h1:x &&& y<nF k:=yam Nat.and_le_right hy
   simp only[binOp,Op.intBits,BitVec.toNat_and,e,jQ hy,pS h1];simp
 case or=>
  obtain⟨x,y,rfl,rfl,hx,hy,rfl⟩:=cX h
  obtain⟨m,hm,_⟩:=zm0 k
  refine⟨by simp,by simp,fun t=>⟨.int k ((x ||| y:Nat):Int),?_,by rw[wA];rfl⟩⟩
  have h1:x ||| y<nF k:=by rw[hm];exact Nat.or_lt_two_pow (hm ▸ hx) (hm ▸ hy)
  simp only[binOp,Op.intBits,BitVec.toNat_or,jQ hx,jQ hy,pS h1];simp
 case xor=>
  obtain⟨x,y,rfl,rfl,hx,hy,rfl⟩:=cX h
  obtain⟨m,hm,_⟩:=zm0 k
  refine⟨by simp,by simp,fun t=>⟨.int k ((x ^^^ y:Nat):Int),?_,by rw[wA];rfl⟩⟩
  have h1:x ^^^ y<nF k:=by rw[hm];exact Nat.xor_lt_two_pow (hm ▸ hx) (hm ▸ hy)
  simp only[binOp,Op.intBits,BitVec.toNat_xor,jQ hx,jQ hy,pS h1];simp
 case eql=>cases h;exact⟨by simp,by simp,fun t=>⟨.bool (a == b),by simp[binOp,Op.intCmp],by rw[wA,lP]⟩⟩
 case neq=>cases h;exact⟨by simp,by simp,fun t=>⟨.bool (a != b),by simp[binOp,Op.intCmp],by rw[wA,lP];rfl⟩⟩
 case lss=>cases h;exact⟨by simp,by simp,fun t=>⟨.bool (a<b),by simp[binOp,Op.intCmp],by rw[wA,z4k]⟩⟩
 case leq=>cases h;exact⟨by simp,by simp,fun t=>⟨.bool (a<=b),by simp[binOp,Op.intCmp],by rw[wA,z4l]⟩⟩
 case gtr=>cases h;exact⟨by simp,by simp,fun t=>⟨.bool (a > b),by simp[binOp,Op.intCmp],by rw[wA,z4k]⟩⟩
 case geq=>cases h;exact⟨by simp,by simp,fun t=>⟨.bool (a>=b),by simp[binOp,Op.intCmp],by rw[wA,z4l]⟩⟩
 all_goals cases h
def oT(s:ByteArray):(aD s).length=s.size:=by simp[aD]
def zh7(a b:ByteArray):aD (a++b)=aD a++aD b:=by simp[aD]
def zsz(s:ByteArray)(i:Nat):(aD s)[i]?=(s[i]?).map UInt8.toNat:=by
 unfold aD;rw[ybu];congr 1
 by_cases h:i<s.size
 ·rw[getElem?_pos s i h]
  simp[ByteArray.getElem_eq_getElem_data]
 ·rw[getElem?_neg s i h]
  simp;exact Nat.le_of_not_lt h
def bZ(s:ByteArray)(l h:Nat):aD (s.extract l h)=((aD s).take h).drop l:=by
 unfold aD;rw[ByteArray.data_extract,Array.toList_extract,List.extract_eq_take_drop,<- List.map_take,<- List.map_drop,List.drop_take]
def zku{a b:ByteArray}:(a.toList == b.toList)=(xG (aD a) (aD b)):=by
 rw[Lib.toList_data,Lib.toList_data,Bool.eq_iff_iff,mK];constructor
 ·intro h;simp at h;unfold aD;rw[h]
 ·intro h;rw[oY h];simp
def zr2(a:List UInt8):∀b:List UInt8,Op.bytesLess a b=zmw (a.map UInt8.toNat) (b.map UInt8.toNat):=by
 induction a with
 | nil=>intro b;cases b<;>rfl
 | cons x a ih=>
  intro b
  cases b with
  | nil=>rfl
  | cons y b=>
   show _=(bif Nat.blt x.toNat y.toNat then true else bif Nat.beq x.toNat y.toNat then zmw (a.map UInt8.toNat) (b.map UInt8.toNat)else false)
   rw[Op.bytesLess,ih,iB,iB];by_cases h:x<y
   ·have:Nat.blt x.toNat y.toNat=true:=dB.2 (by exact UInt8.lt_iff_toNat_lt.1 h)
    rw[yab this];simp[h]
   ·have h1:¬ Nat.blt x.toNat y.toNat=true:=fun k=>h (UInt8.lt_iff_toNat_lt.2 (dB.1 k))
    rw[yaa h1];by_cases he:x=y
    ·subst he;rw[yab (Nat.beq_refl _)];simp[h]
    ·have h2:¬ Nat.beq x.toNat y.toNat=true:=fun k=>he (UInt8.toNat_inj.1 (pB.1 k))
     rw[yaa h2];simp[h,he]
def zyx{op:BinOp}{a b:ByteArray}(h:(zyy op).f (aD a) (aD b)=some v):op≠.shl/\op≠.shr/\∀t,∃v',(binOp op t (.string a) (.string b)).run P w=.ok v' w/\wA μ v v':=by
 cases op<;>simp only[zyy]at h
 case add=>
  simp only[zI,zB,dB,gC,oG,oT]at h;obtain⟨h1,h⟩:=h
  cases h;refine⟨by simp,by simp,fun t=>⟨.string (a++b),?_,by rw[wA];exact⟨_,rfl,zh7 a b⟩⟩⟩
  have h2:¬ (((a.size+b.size:Nat):Int) > IntKind.i64.max):=by
   have:IntKind.i64.max=9223372036854775807:=by decide
   rw[this];omega
  simp only[binOp,Op.stringOp,yaa h2];rfl
 case eql=>cases h;exact⟨by simp,by simp,fun t=>⟨.bool (a.toList == b.toList),rfl,by rw[wA,zku]⟩⟩
 case neq=>cases h;exact⟨by simp,by simp,fun t=>⟨.bool !(a.toList == b.toList),rfl,by rw[wA,zku]⟩⟩
 case lss=>cases h;exact⟨by simp,by simp,fun t=>⟨.bool (Op.bytesLess a.toList b.toList),rfl,by rw[wA,Lib.toList_data,Lib.toList_data,zr2];rfl⟩⟩
 all_goals cases h
def oW{op:BinOp}{t:TypeId}{x y:Operand}{a b:Value}(h1:¬ (a=.nilIface/\b=.nilIface)\/(uW x||uW y)=true)(h2:∀l m,¬ (a=.agg l/\b=.agg m)):(eqGuard op t x y a b).run P w=.ok () w:=by
 unfold eqGuard
 cases op
 case eql | neq=>
  rw[yaa (by simp)]
  split
  ·rcases h1 with h1 | h1
   ·exact absurd ⟨rfl,rfl⟩ h1
   ·cases x<;>cases y<;>simp[uW]at h1 ⊢
  ·exact absurd ⟨rfl,rfl⟩ (h2 _ _)
  ·rfl
 all_goals rfl
def zne{op:BinOp}{t:TypeId}{x y:Operand}{l m:Array Value}(h:P.eqGuardType P.depth t=false):(eqGuard op t x y (.agg l) (.agg m)).run P w=.ok () w:=by
 unfold eqGuard
 cases op
 case eql | neq=>rw[yaa (by simp)];simp[h]
 all_goals rfl
def zU{op:BinOp}{t yt:TypeId}{x y:Operand}{v':Value}(h1:(eqGuard op t x y (ρ x) (ρ y)).run P w=.ok () w)(h2:(binOp op t (ρ x) (ρ y)).run P w=.ok v' w) :
  (execOp ρ ⟨dst,.binOp op t x y yt,type,pos,after,guard⟩).run P w=.ok (.value v') w:=by
 simp only[execOp,yad,h1,yac,h2,yae]
def zcq{k:IntKind}{b:Int}{n:Nat}(h:zcr k b=some n):¬ b<0/\n=min b.toNat k.bits:=by
 unfold zcr at h;simp only[uA,bV]at h;obtain⟨m,rfl,h⟩:=h
 cases h;exact⟨by omega,by simp⟩
def zd8{op:BinOp}{t yt:TypeId}{x y:Operand}{a b:zA}(hx:wA μ a (ρ x))(hy:wA μ b (ρ y))
  (h:(op=.shl/\mW zxi a b=some v)\/(op=.shr/\mW z6g a b=some v)):LOk P μ w ρ ⟨dst,.binOp op t x y yt,type,pos,after,guard⟩ v:=by
 rcases h with⟨rfl,h⟩ | ⟨rfl,h⟩
 all_goals
  unfold mW at h;simp only[uA,hO,zay]at h;obtain⟨p,rfl,n,⟨k',rfl⟩,h⟩:=h
  rw[wA]at hx hy
 ·unfold zxi at h
  rw[uA]at h;obtain⟨m,hm,h⟩:=h
  cases h;obtain⟨h1,rfl⟩:=zcq hm
  refine⟨.int p.1 (p.1.wrap (p.2*2^(min n.toNat p.1.bits))),zU (oW (.inl (by rw[hx];simp)) (by rw[hx];simp)) ?_,by rw[wA,zK];simp⟩
  rw[hx,hy];simp[binOp,Op.shift,h1]
 ·unfold z6g at h
  rw[uA]at h;obtain⟨m,hm,h⟩:=h
  cases h;obtain⟨h1,rfl⟩:=zcq hm
  refine⟨.int p.1 (p.2.fdiv (2^(min n.toNat p.1.bits))),zU (oW (.inl (by rw[hx];simp)) (by rw[hx];simp)) ?_,by rw[wA];simp⟩
  rw[hx,hy];simp[binOp,Op.shift,h1]
def pW{n m:Nat}{a b:zA}{r:Bool}(h:zkf n m a b=some r):(a.tag=n/\b.tag=n/\r=true)\/(a.tag=n/\b.tag=m/\r=false)\/(a.tag=m/\b.tag=n/\r=false):=by
 unfold zkf at h;simp only[iB,pB]at h;split at h
 ·split at h
  ·cases h;rename_i h1 h2;exact .inl ⟨h1,h2,rfl⟩
  ·rw[zB,pB]at h;obtain⟨h1,h⟩:=h;cases h;rename_i h2 _;exact .inr (.inl ⟨h2,h1,rfl⟩)
 ·rw[zB,ybb,pB,pB]at h;obtain⟨⟨h1,h2⟩,h⟩:=h;cases h;exact .inr (.inr ⟨h1,h2,rfl⟩)
def zx6{t:Nat}{ty:uC}(hF:mI P t ty){a b:zA}{va vb:Value}(ha:wA μ a va)(hb:wA μ b vb){r:Bool}{d:Nat}(h:zkg ty.desc a b=some r) :
  (Op.equalIn (d+1) t va vb).run P w=.ok r w:=by
 obtain⟨D,hD⟩:=hF.und
 have h0:=hF.desc
 unfold lK at h0;rw[hD]at h0;unfold Op.equalIn;rw[yad,wE hD,yac];rw[<- h0]at h
 cases D<;>simp only[zkg]at h<;>try (cases h;done)
 case bool=>
  simp only[zf6,uA,eQ]at h;obtain⟨x,rfl,y,rfl,h⟩:=h
  cases h;rw[wA]at ha hb;rw[ha,hb,fQ];rfl
 case int k=>
  simp only[z6v,uA,hO,zB,nI]at h;obtain⟨x,rfl,y,rfl,hk,h⟩:=h
  cases h;rw[wA]at ha hb;rw[ha,hb,lP];simp[hk]
 case string=>
  simp only[zh2,uA,iO]at h;obtain⟨x,rfl,y,rfl,h⟩:=h
  cases h;rw[wA]at ha hb;obtain⟨s,rfl,rfl⟩:=ha
  obtain⟨u,rfl,rfl⟩:=hb
  have:(s == u)=xG (aD s) (aD u):=by
   rw[Bool.eq_iff_iff,mK];have h1:(s == u)=(s.data == u.data):=rfl
   rw[h1];exact⟨fun h=>(by unfold aD;rw[eq_of_beq h]),fun h=>(by rw[oY h];exact beq_self_eq_true u.data)⟩
  rw[<- this];rfl
 case pointer el=>
  rcases pW h with⟨h1,h2,rfl⟩ | ⟨h1,h2,rfl⟩ | ⟨h1,h2,rfl⟩<;>cases a<;>simp[zA.tag]at h1<;>cases b<;>simp[zA.tag]at h2<;>rw[wA]at ha<;>rw[wA]at hb
  ·rw[ha,hb];rfl
  ·obtain⟨i,_,hb⟩:=hb;rw[ha,hb];rfl
  ·obtain⟨i,_,ha⟩:=ha;rw[ha,hb];rfl
 case slice el=>
  rcases pW h with⟨h1,h2,rfl⟩ | ⟨h1,h2,rfl⟩ | ⟨h1,h2,rfl⟩<;>cases a<;>simp[zA.tag]at h1<;>cases b<;>simp[zA.tag]at h2<;>rw[wA]at ha<;>rw[wA]at hb
  ·rw[ha,hb];rfl
  ·rcases hb with⟨i,_,_,hb,_⟩ | ⟨_,_,_,_,_,hb,_⟩ <;> (rw[ha,hb];rfl)
  ·rcases ha with⟨i,_,_,ha,_⟩ | ⟨_,_,_,_,_,ha,_⟩ <;> (rw[ha,hb];rfl)
 case map k el=>
  rcases pW h with⟨h1,h2,rfl⟩ | ⟨h1,h2,rfl⟩ | ⟨h1,h2,rfl⟩<;>cases a<;>simp[zA.tag]at h1<;>cases b<;>simp[zA.tag]at h2<;>rw[wA]at ha<;>rw[wA]at hb
  ·rw[ha,hb];rfl
  ·obtain⟨i,_,hb⟩:=hb;rw[ha,hb];rfl
  ·obtain⟨i,_,ha⟩:=ha;rw[ha,hb];rfl
 case func ps rs vd=>
  rcases pW h with⟨h1,h2,rfl⟩ | ⟨h1,h2,rfl⟩ | ⟨h1,h2,rfl⟩<;>cases a<;>simp[zA.tag]at h1<;>cases b<;>simp[zA.tag]at h2<;>rw[wA]at ha<;>rw[wA]at hb
  ·rw[ha,hb];rfl
  ·obtain⟨i,_,_,hb,_⟩:=hb;rw[ha,hb];rfl
  ·obtain⟨i,_,_,ha,_⟩:=ha;rw[ha,hb];rfl
 case interface ms=>
  rcases pW h with⟨h1,h2,rfl⟩ | ⟨h1,h2,rfl⟩ | ⟨h1,h2,rfl⟩<;>cases a<;>simp[zA.tag]at h1<;>cases b<;>simp[zA.tag]at h2<;>rw[wA]at ha<;>rw[wA]at hb
  ·rw[ha,hb];rfl
  ·obtain⟨i,hb,_⟩:=hb;rw[ha,hb];rfl
  ·obtain⟨i,ha,_⟩:=ha;rw[ha,hb];rfl
def zd0{t:Nat}{g:Array Field}(h:P.underlying t=some (.struct g)):P.fieldsOf t=g:=by unfold Program.fieldsOf;rw[h]
def z22(hT:rE P C){D:Nat}{eq:Nat->zA->zA->Option Bool}(heq:∀t a b va vb r,wA μ a va->wA μ b vb->eq t a b=some r->(Op.equalIn D t va vb).run P w=.ok r w)
  {xs ys : List zA} {vx vy : Array Value} (hx : yB μ xs vx.toList) (hy : yB μ ys vy.toList) : ∀ (g : List Field) (r : Bool), (∀ f ∈ g, f.name ≠ "_") -> zs8 C eq xs ys (g.map fun f => (f.offset, f.type, P.cellsOf f.type)) = some r →
   (Op.eqFields D vx vy g).run P w=.ok r w:=by
 intro g;induction g with
 | nil=>intro r _ h;cases h;rfl
 | cons f g ih=>
  intro r hn h;rw[ycm,zs8]at h;simp only[uA]at h;obtain⟨a,ha,b,hb,q,hq,h⟩:=h
  obtain⟨va,h1,h2⟩:=eV (P:=P) (w:=w) hT hx ha
  obtain⟨vb,h3,h4⟩:=eV (P:=P) (w:=w) hT hy hb
  have h5:=heq _ _ _ _ _ _ h2 h4 hq
  rw[Op.eqFields,yab (hn f (by simp))]
  simp only[yad,h1,yac,h3,h5]
  cases q with
  | true=>rw[cond_true]at h;simpa using ih r (fun f hf=>hn f (by simp[hf])) h
  | false=>rw[cond_false]at h;cases h;simp
def z4s(hT:rE P C):∀(d D t:Nat) (a b:zA) (va vb:Value) (r:Bool),d<=D->wA μ a va->wA μ b vb->aeq C d t a b=some r->(Op.equalIn D t va vb).run P w=.ok r w:=by
 intro d;induction d with
 | zero=>intro D t a b va vb r _ _ _ h;cases h
 | succ d ih=>
  intro D t a b va vb r hD ha hb h
  cases D with
  | zero=>omega
  | succ D=>
   rw[aeq,uA]at h;obtain⟨ty,hty,h⟩:=h
   have hF:=hT.facts hty
   split at h
   ·rename_i fs hfs
    simp only[zB,uA,bU]at h;obtain⟨hok,xs,rfl,ys,rfl,h⟩:=h
    obtain⟨g,hg,rfl⟩:=wT hF hfs
    obtain⟨h1,_,h3⟩:=hF.eqOk hok
    rw[wA]at ha;rw[wA]at hb;obtain⟨cx,rfl,hx⟩:=ha
    obtain⟨cy,rfl,hy⟩:=hb
    have hfo:=zd0 hg
    rw[run_equalIn_struct w D t cx cy (by rw[hfo];exact hg) h1,hfo]
    exact z22 hT (fun t a b va vb r h1 h2 h3=>ih D t a b va vb r (by omega) h1 h2 h3) hx hy g.toList r (hfo ▸ h3) h
   ·exact zx6 hF ha hb h
def z7g(hT:rE P C){d t:Nat}{a b:zA}{l m:Array Value}{r:Bool}(ha:wA μ a (.agg l))(hb:wA μ b (.agg m))(h:aeq C d t a b=some r):P.eqGuardType P.depth t=false:=by
 cases d with
 | zero=>cases h
 | succ d=>
  rw[aeq,uA]at h;obtain⟨ty,hty,h⟩:=h
  split at h
  ·rw[zB]at h;exact((hT.facts hty).eqOk h.1).2.1
  ·exfalso
   have hag:∀(a:zA) (l:Array Value),wA μ a (.agg l)->a.tag=13:=by
    intro a l ha
    cases a<;>rw[wA]at ha<;>first | rfl | (exfalso;revert ha;simp)
   have h1:=hag _ _ ha
   have h2:=hag _ _ hb
   cases a<;>simp[zA.tag]at h1
   cases b<;>simp[zA.tag]at h2
   revert h
   cases ty.desc<;>simp[zkg,zf6,zA.asBool,z6v,zA.asIntK,zh2,zA.asStr,zkf,zp8,zA.tag,jA,Nat.beq]
def za1{a:zA}{v:Value}(h:wA μ a v):v=.nilIface->a.tag=12:=by
 intro hv;subst hv
 cases a<;>rw[wA]at h<;>first | rfl | (exfalso;revert h;simp)
def zd9(hT:rE P C){op:BinOp}{t yt:TypeId}{x y:Operand}{a b:zA}{neg:Bool}(hx:wA μ a (ρ x))(hy:wA μ b (ρ y))(ha:a.asIntK=none)(hs:a.asStr=none)
  (hop:(neg=false/\op=.eql)\/(neg=true/\op=.neq)) (h:zb1 neg C t x y a b=some v):LOk P μ w ρ ⟨dst,.binOp op t x y yt,type,pos,after,guard⟩ v:=by
 unfold zb1 at h;simp only[zB,uA]at h;obtain⟨hg,r,hr,h⟩:=h
 cases h;have h1:(Op.equal t (ρ x) (ρ y)).run P w=.ok r w:=z4s hT 20 10000 t a b _ _ r (by decide) hx hy hr
 have hG:(eqGuard op t x y (ρ x) (ρ y)).run P w=.ok () w:=by
  by_cases hag:∃l m,ρ x=.agg l/\ρ y=.agg m
  ·obtain⟨l,m,h2,h3⟩:=hag
   rw[h2]at hx;rw[h3]at hy;rw[h2,h3];exact zne (z7g hT hx hy hr)
  ·refine oW ?_ fun l m hlm=>hag ⟨l,m,hlm⟩
   by_cases hn:ρ x=.nilIface/\ρ y=.nilIface
   ·right
    have h2:=za1 hx hn.1
    have h3:=za1 hy hn.2
    unfold zp7 at hg;rw[h2,h3]at hg;simpa[Nat.beq]using hg
   ·exact .inl hn
 have hnx:∀k n,ρ x≠.int k n:=by
  intro k n hv;rw[hv]at hx
  cases a<;>rw[wA]at hx<;>first | (simp[zA.asIntK]at ha;done) | (revert hx;simp)
 have hsx:∀s,ρ x≠.string s:=by
  intro s hv;rw[hv]at hx
  cases a<;>rw[wA]at hx<;>first | (simp[zA.asStr]at hs;done) | (revert hx;simp)
 have hfx:∀k n,ρ x≠.float k n:=by
  intro k n hv;rw[hv]at hx
  cases a<;>rw[wA]at hx<;>revert hx<;>simp
 have hcx:∀k n m,ρ x≠.complex k n m:=by
  intro k n m hv;rw[hv]at hx
  cases a<;>rw[wA]at hx<;>revert hx<;>simp
 rcases hop with⟨rfl,rfl⟩ | ⟨rfl,rfl⟩
 ·refine⟨.bool r,zU hG ?_,by rw[wA];rfl⟩
  revert h1 hnx hsx hfx hcx
  generalize ρ x=vx
  generalize ρ y=vy
  intro h1 hnx hsx hfx hcx
  cases vx<;>first
   | exact absurd rfl (hnx _ _)
   | exact absurd rfl (hsx _)
   | exact absurd rfl (hfx _ _)
   | exact absurd rfl (hcx _ _ _)
   | simp[binOp,h1]
 ·refine⟨.bool (!r),zU hG ?_,by rw[wA];rfl⟩
  revert h1 hnx hsx hfx hcx
  generalize ρ x=vx
  generalize ρ y=vy
  intro h1 hnx hsx hfx hcx
  cases vx<;>first
   | exact absurd rfl (hnx _ _)
   | exact absurd rfl (hsx _)
   | exact absurd rfl (hfx _ _)
   | exact absurd rfl (hcx _ _ _)
   | simp[binOp,h1]
def zw1(hT:rE P C)(hE:kE μ e ρ){op:BinOp}{t yt:Nat}{x y:Operand}(h:zw2 op t x y C e H=some v):LOk P μ w ρ ⟨dst,.binOp op t x y yt,type,pos,after,guard⟩ v:=by
 unfold zw2 at h;simp only[uA]at h;obtain⟨a,ha,b,hb,h⟩:=h
 have hx:=hE _ _ ha
 have hy:=hE _ _ hb
 clear ha hb
 revert h
 have plain:∀op,op≠.shl->op≠.shr->zh9 op C t x y a b=some v->LOk P μ w ρ ⟨dst,.binOp op t x y yt,type,pos,after,guard⟩ v:=by
  intro op _ _ h;unfold zh9 at h;split at h
  ·rename_i i hi
   simp only[uA,hO,zB,nI]at h;obtain⟨j,rfl,hk,h⟩:=h
   rw[hO]at hi;subst hi;rw[wA]at hx;rw[wA]at hy;obtain⟨_,_,h2⟩:=zy0 (P:=P) (μ:=μ) (w:=w) h
   obtain⟨v',h3,h4⟩:=h2 t
   refine⟨v',zU (oW (.inl (by rw[hx];simp)) (by rw[hx];simp)) ?_,h4⟩
   rw[hx,hy,<- hk];exact h3
  ·rename_i hi
   split at h
   ·rename_i s hs
    simp only[uA,iO]at h;obtain⟨u,rfl,h⟩:=h
    rw[iO]at hs;subst hs;rw[wA]at hx;rw[wA]at hy;obtain⟨sx,hx,rfl⟩:=hx
    obtain⟨sy,hy,rfl⟩:=hy
    obtain⟨_,_,h2⟩:=zyx (P:=P) (μ:=μ) (w:=w) h
    obtain⟨v',h3,h4⟩:=h2 t
    refine⟨v',zU (oW (.inl (by rw[hx];simp)) (by rw[hx];simp)) ?_,h4⟩
    rw[hx,hy];exact h3
   ·rename_i hs
    cases op<;>simp only[zyz]at h<;>first
     | exact zd9 hT hx hy hi hs (.inl ⟨rfl,rfl⟩) h
     | exact zd9 hT hx hy hi hs (.inr ⟨rfl,rfl⟩) h
     | (cases h;done)
 intro h
 cases op<;>simp only[binA]at h<;>first
  | exact zd8 hx hy (.inl ⟨rfl,h⟩)
  | exact zd8 hx hy (.inr ⟨rfl,h⟩)
  | exact plain _ (by simp) (by simp) h
def zw7{k:IntKind}(h:kLo k=0):nF k=2^k.bits:=by
 cases k<;>first
  | (cases h;done)
  | rfl
def z32(hE:kE μ e ρ){op:UnOp}{t:Nat}{x:Operand}(h:lUn op x C e H=some v):LOk P μ w ρ ⟨dst,.unOp op t x,type,pos,after,guard⟩ v:=by
 unfold lUn at h;simp only[uA]at h;obtain⟨a,ha,h⟩:=h
 have hx:=hE _ _ ha
 cases op<;>simp only[unA]at h<;>try (cases h;done)
 case neg=>
  simp only[unNeg,uA,hO]at h;obtain⟨p,rfl,h⟩:=h
  cases h;rw[wA]at hx;refine⟨.int p.1 (p.1.wrap (0-p.2)),?_,by rw[wA,zK]⟩
  simp[execOp,hx,Op.unary,Op.intArith]
 case xor=>
  simp only[zlp,uA,hO,zB,pB]at h;obtain⟨p,rfl,hk,h⟩:=h
  obtain⟨a,b,ha1,hb,hx1,hy,rfl⟩:=cX h
  rw[wA]at hx;have h1:Nat.xor a b<nF p.1:=by
   have:Nat.xor a b<2^p.1.bits:=Nat.xor_lt_two_pow (by rw[<- zw7 hk];exact hx1) (by rw[<- zw7 hk];exact hy)
   rw[zw7 hk];exact this
  refine⟨.int p.1 (Nat.xor a b:Nat),?_,by rw[wA]⟩
  have hm:(if p.1.signed then(-1:Int)else p.1.max)=(a:Int):=by
   rw[<- ha1];revert hk
   cases p.1<;>intro hk<;>first
    | (cases hk;done)
    | rfl
  have e2:(Op.intBits .xor p.1 (if p.1.signed then -1 else p.1.max) p.2).run P w=.ok (.int p.1 (Nat.xor a b:Nat)) w:=by
   rw[hm,hb];simp only[Op.intBits,BitVec.toNat_xor,jQ hx1,jQ hy];rw[show(a ^^^ b:Nat)=Nat.xor a b from rfl,pS h1]
   rfl
  simp[execOp,hx,Op.unary]
  rw[e2];rfl
 case not=>
  simp only[unNot,uA,eQ]at h;obtain⟨b,rfl,h⟩:=h
  cases h;rw[wA]at hx;refine⟨.bool (!b),?_,by rw[wA]⟩
  simp[execOp,hx,Op.unary]
end
end Go.Am
namespace Go.Am
open Go
section
variable {P:Program}{C:oA}{B N:Nat}{μ:Mu}{H:xA}{w:World}
variable {e:nC}{ρ:Operand->Value}{dst:Option Tmp}{type:TypeId}{pos:String}{after:Array Edge}{guard:Option (Nat × Bool)}{v:zA}
def zkv{a:zA}{n:Nat}(h:nN a=some n):a=.int .u8 (n:Int)/\n<256:=by
 unfold nN at h;simp only[uA,hO,zB,nI,bV,dB]at h;obtain⟨p,rfl,hk,m,hm,hlt,h⟩:=h
 cases h;rw[hk,hm];exact⟨rfl,hlt⟩
def znr(l:List Nat):∀s:ByteArray,(∀n∈l,n<256)->aD ((l.map fun n:Nat=>(n:Int)).foldl (fun r n=>r.push (UInt8.ofNat n.toNat)) s)=aD s++l:=by
 induction l with
 | nil=>intro s _;simp
 | cons n l ih=>
  intro s h;rw[ycm,List.foldl_cons,ih _ fun m hm=>h m (by simp[hm])]
  have:aD (s.push (UInt8.ofNat (n:Int).toNat))=aD s++[n]:=by
   have hn:=h n (by simp)
   simp[aD,Nat.mod_eq_of_lt hn]
  rw[this];simp
def zsy{μ:Mu}:∀ {l:List zA} {r:List Nat} {vs:List Value},tF nN l=some r->yB μ l vs->vs=r.map (fun n:Nat=>Value.int .u8 (n:Int))/\∀n∈r,n<256:=by
 intro l;induction l with
 | nil=>intro r vs h k;rw[dS]at h;cases h;rw[yB]at k;subst k;exact⟨rfl,by simp⟩
 | cons a l ih=>
  intro r vs h k;rw[pK,uA]at h;obtain⟨n,hn,h⟩:=h
  rw[uA]at h;obtain⟨r',hr,h⟩:=h
  cases h;rw[yB]at k;obtain⟨v,m,rfl,h1,h2⟩:=k
  obtain⟨rfl,hlt⟩:=zkv hn
  rw[wA]at h1;obtain⟨h3,h4⟩:=ih hr h2
  subst h1 h3
  exact⟨rfl,fun m hm=>(ybs.1 hm).elim (fun e=>e ▸ hlt) (h4 m)⟩
def zkn(hH:cA B N μ H w){a:zA}{x:Value}(hx:wA μ a x)(h:uT H a=some v):∃v',(Conv.bytesToString x).run P w=.ok v' w/\wA μ v v'/\∃A l c,x=.slice A l c:=by
 unfold uT at h;split at h
 ·rename_i s hs
  rw[aR]at hs;subst hs;simp only[uA]at h;obtain⟨c,hc,l,hl,r,hr,h⟩:=h
  cases h;rw[wA]at hx;rcases hx with⟨i,cap',hi,rfl,_⟩ | ⟨_,h0,_,A,_,rfl,_⟩
  rotate_left
  ·rw[h0]at hl
   cases hl
   cases hr;refine⟨_,run_bytesToString w _ _ _ [] rfl,?_,_,_,_,rfl⟩
   rw[wA];exact⟨_,rfl,rfl⟩
  obtain⟨vs,_,h2,h3,_⟩:=hH.manyAt (P:=P) hc hi hl
  obtain⟨h4,h5⟩:=zsy hr h2
  refine⟨_,run_bytesToString w _ _ _ (r.map fun n:Nat=>(n:Int)) (by rw[h3,h4];simp),?_,_,_,_,rfl⟩
  rw[wA];exact⟨_,rfl,by rw[znr _ _ h5];simp[aD]⟩
 ·simp only[zB,pB]at h
  obtain⟨h1,h⟩:=h
  cases h;rw[xP.2.1]at h1;subst h1;rw[wA]at hx;subst hx;exact⟨.string .empty,rfl,by rw[wA];exact⟨_,rfl,rfl⟩,_,_,_,rfl⟩
def z2o(hT:rE P C)(hH:cA B N μ H w){s d:Nat}{sty dty:uC}(hs:C.tys.get s=some sty)(hd:C.tys.get d=some dty){a:zA}{x:Value}(hx:wA μ a x)(h:gL C sty dty a H=some v) :
  ∃v',(convert s d x).run P w=.ok v' w/\wA μ v v':=by
 have hS:=hT.facts hs
 have hD:=hT.facts hd
 obtain⟨su,hsu⟩:=hS.und
 unfold gL at h;split at h
 ·rename_i k hk
  simp only[uA,zay]at h;obtain⟨n,⟨k',rfl⟩,h⟩:=h
  cases h;rw[wA]at hx;subst hx;refine⟨.int k (k.wrap n),?_,by rw[wA,zK]⟩
  simp only[convert,yad,wE hsu,wE (zh4 hD hk),yac]
  rfl
 ·simp only[zB]at h
  obtain⟨hstr,h⟩:=h
  rw[iB]at h;split at h
  ·rename_i ht
   cases h
   cases v<;>simp[zA.tag,Nat.beq]at ht
   have hx':=hx
   rw[wA]at hx;obtain⟨str,rfl,_⟩:=hx
   refine⟨.string str,?_,hx'⟩
   simp only[convert,yad,wE hsu,wE (uY hD hstr),yac]
   cases su<;>rfl
  ·simp only[uA,zB,nI]at h
   obtain⟨el,hel,et,het,k,hk,rfl,h⟩:=h
   obtain⟨v',h1,h2,A,l,c,rfl⟩:=zkn (P:=P) hH hx h
   exact⟨v',by rw[run_convert_bytes_string w s d el A l c (fM hS hel) (zh4 (hT.facts het) hk) (uY hD hstr)];exact h1,h2⟩
def zpm(hT:rE P C)(hH:cA B N μ H w)(hE:kE μ e ρ){s d:Nat}{x:Operand}(h:oK s d x C e H=some v):LOk P μ w ρ ⟨dst,.convert s d x,type,pos,after,guard⟩ v:=by
 unfold oK at h;simp only[uA]at h;obtain⟨a,ha,sty,hs,dty,hd,h⟩:=h
 obtain⟨v',h1,h2⟩:=z2o hT hH hs hd (hE _ _ ha) h
 exact⟨v',by simp only[execOp,yad,h1,yac,yae],h2⟩
def nY{y:Nat}{a:zA}{n:Nat}(h:iQ y a=some n):(∃k,a=.int k (n:Int))/\n<=y:=by
 unfold iQ at h;simp only[uA,lY,zB,vE]at h;obtain⟨m,⟨k,rfl⟩,hle,h⟩:=h
 cases h;exact⟨⟨k,rfl⟩,hle⟩
def yX{y y':Nat}{a:zA}{x:Value}(hx:wA μ a x){n:Nat}(h:iQ y a=some n)(hy:y<=y')(code:BoundsCode):(Instr.sliceBound x y' code).run P w=.ok n w:=by
 obtain⟨⟨k,rfl⟩,hle⟩:=nY h
 rw[wA]at hx;subst hx;have h1:(0:Int)<=n/\(n:Int)<=y':=⟨by omega,by omega⟩
 simp only[Instr.sliceBound,asIntOf,yad,yae,yac,Sem.run_ite,yab h1];simp
def nV{isSlice:Bool}{len cap cap':Nat}(hc:cap<=cap'){lo hi:Option zA}{lo' hi':Option Value}
  (h1:zzc μ lo lo') (h2:zzc μ hi hi')
  {p:Nat × Nat} (h:dL len cap lo hi=some p):(Instr.sliceBounds isSlice len cap' lo' hi' none).run P w=.ok (p.1,p.2,cap') w/\p.1<=p.2/\(p.2<=cap\/p.2=len):=by
 unfold dL at h;simp only[uA]at h;obtain⟨hb,hhi,l,hlo,h⟩:=h
 cases h;have hH:hb<=cap\/hb=len:=by
  cases hi with
  | none=>right;cases hhi;rfl
  | some a=>left;exact(nY hhi).2
 have hL:l<=hb:=by
  cases lo with
  | none=>cases hlo;omega
  | some a=>exact(nY hlo).2
 refine⟨?_,hL,hH⟩
 unfold Instr.sliceBounds
 cases hi with
 | none=>
  cases hi' with
  | some v=>exact h2.elim
  | none=>
   cases hhi
   cases lo with
   | none=>
    cases lo' with
    | some v=>exact h1.elim
    | none=>cases hlo;simp
   | some a=>
    cases lo' with
    | none=>exact h1.elim
    | some v=>simp[yX (P:=P) (w:=w) h1 hlo (ybk _)]
 | some b=>
  cases hi' with
  | none=>exact h2.elim
  | some u=>
   cases lo with
   | none=>
    cases lo' with
    | some v=>exact h1.elim
    | none=>cases hlo;simp[yX (P:=P) (w:=w) h2 hhi hc]
   | some a=>
    cases lo' with
    | none=>exact h1.elim
    | some v=>simp[yX (P:=P) (w:=w) h2 hhi hc,yX (P:=P) (w:=w) h1 hlo (ybk _)]
def jZ{b size cap l:Nat}{arr:Bool}(hH:cA B N μ H w){i:BI}(hi:μ b=some i)(h:sH H b size cap l arr=true) :
  i.tight=true\/(i.tight=false/\arr=false/\i.es=size/\(cap≠l\/l=0)):=by
 unfold sH at h;split at h
 ·rename_i c hc
  obtain⟨o,h2,h3⟩:=hH.blk _ _ _ (dR hc) hi
  obtain⟨cs,elem,fr,_,_,_,_,h4⟩:=h3
  split at h
  ·rename_i hn;rw[hn]at h4;exact .inl h4
  ·rename_i es hes
   rw[hes]at h4;simp only[ybb,ycq,ycp,pB,beqf]at h;exact .inr ⟨h4.1,h.1.1,h4.2.1.trans h.1.2,h.2⟩
 ·cases h
def zs0{len cap:Nat}{lo hi:Option zA}{p:Nat × Nat}(h:dL len cap lo hi=some p):p.1<=p.2:=by
 unfold dL at h;simp only[uA]at h;obtain⟨hb,hhi,l,hlo,h⟩:=h
 cases h
 cases lo with
 | none=>cases hlo;exact yaw _
 | some a=>exact(nY hlo).2
def zco(hT:rE P C)(hH:cA B N μ H w){arr:Bool}{el b off len cap cap':Nat}{lo hi:Option zA}{i:BI}(hi':μ b=some i)
  (hcap:cap<=cap') (ht:i.tight=true->cap'=cap) (hr:i.tight=false->arr=false->off+cap'*i.es<=i.room) (h:fK C H arr el b off len cap lo hi=some v) :
  ∃p size,dL len cap lo hi=some p/\(sizeOf el).run P w=.ok size w ∧
   wA μ v (.slice (some (if cap'=p.1 then⟨i.b,off,none⟩else Addr.add ⟨i.b,off,none⟩ (p.1*size))) (p.2-p.1) (cap'-p.1)):=by
 unfold fK at h;simp only[uA]at h;obtain⟨et,het,p,hp,h⟩:=h
 rw[iB]at h;split at h
 ·rename_i hend
  cases h;simp only[ybb,vE]at hend;obtain⟨⟨hle,hle2⟩,hend⟩:=hend
  have hcp:cap=p.1:=by
   unfold rI at hend;split at hend
   ·split at hend
    ·cases hend
    ·simp only[ybb,pB]at hend;exact hend.1.2
   ·cases hend
  refine⟨p,et.size,hp,(hT.facts het).size,?_⟩
  rw[wA];rw[show p.2-p.1=0 by omega];exact .inr ⟨rfl,rfl,rfl,_,_,rfl,.inr rfl⟩
 simp only[zB,ybb,vE]at h;obtain⟨⟨hle,hf⟩,h⟩:=h
 cases h;have hle':=zs0 hp
 refine⟨p,et.size,hp,(hT.facts het).size,?_⟩
 rw[wA];have hoff:(if cap'=p.1 then(⟨i.b,off,none⟩:Addr)else Addr.add ⟨i.b,off,none⟩ (p.1*et.size))=⟨i.b,(bif Nat.beq cap p.1 then off else off+p.1*et.size),none⟩:=by
  rw[dP,iB];simp only[pB];rcases jZ hH hi' hf with h1 | ⟨_,_,_,h1⟩
  ·rw[ht h1];split<;>rfl
  ·by_cases hc:cap=p.1
   ·have h2:p.1=0:=h1.resolve_left fun k=>k hc
    rw[yab hc,h2];split<;>simp
   ·rw[yaa hc,yaa (by omega)]
 refine .inl ⟨i,cap'-p.1,hi',by rw[hoff],by omega,fun h1=>by rw[ht h1],fun h1=>?_⟩
 rcases jZ hH hi' hf with h2 | ⟨_,h3,h4,h5⟩
 ·rw[h1]at h2;cases h2
 ·have h6:=hr h1 h3
  rw[iB];simp only[pB];rw[h4]at h6 ⊢
  have h8:p.1*et.size+(cap'-p.1)*et.size=cap'*et.size:=by rw[<- ybo];congr 1;omega
  split
  ·omega
  ·omega
def zj0(hT:rE P C)(hH:cA B N μ H w)(hE:kE μ e ρ){t:Nat}{x:Operand}{lo hi mx:Option Operand}(h:(xW t x lo hi mx).f C e H=some v) :
  LOk P μ w ρ ⟨dst,.slice t x lo hi mx,type,pos,after,guard⟩ v:=by
 unfold xW at h;split at h
 ·simp only[nQ,uA]at h
  obtain⟨a,ha,l,hl,u,hu,ty,hty,h⟩:=h
  have hx:=hE _ _ ha
  have h1:=hE.opt hl
  have h2:=hE.opt hu
  have hF:=hT.facts hty
  have run:∀ {v'},(Instr.sliceAt t (ρ x) (lo.map ρ) (hi.map ρ) none).run P w=.ok v' w->(execOp ρ ⟨dst,.slice t x lo hi none,type,pos,after,guard⟩).run P w=.ok (.value v') w:=by
   intro v' hr;simp only[execOp,Option.map_none,yad,hr,yac,yae]
  unfold iJ at h;split at h
  ·rename_i s hs
   rw[iO]at hs;subst hs;rw[zB]at h;obtain⟨hstr,h⟩:=h
   unfold zbn at h;simp only[uA,gC,rP,yO]at h;obtain⟨p,hp,h⟩:=h
   cases h;rw[wA]at hx;obtain⟨str,hxv,rfl⟩:=hx
   rw[oT]at hp;obtain⟨h3,_⟩:=nV (P:=P) (w:=w) (isSlice:=false) (ybk _) h1 h2 hp
   refine⟨.string (str.extract p.1 p.2),run ?_,by rw[wA];exact⟨_,rfl,bZ _ _ _⟩⟩
   have hu':=uY hF hstr
   simp only[Instr.sliceAt,yad,wE hu',yac,Instr.slice,hxv];simp[h3]
  ·split at h
   ·rename_i r hr
    rw[aR]at hr;subst hr;simp only[uA]at h;obtain⟨el,hel,h⟩:=h
    rw[wA]at hx;rcases hx with⟨i,cap',hi',hxv,hc,ht,hrm⟩ | ⟨k1,k3,k4,A,c,hxv,k2⟩
    rotate_left
    ·unfold fK at h
     simp only[uA]at h;obtain⟨et,het,p,hp,h⟩:=h
     rw[iB]at h;obtain⟨h3,h6,h7⟩:=nV (P:=P) (w:=w) (isSlice:=true) (cap':=c) (by omega) h1 h2 hp
     have hp2:p.2=0:=by rcases h7 with h7 | h7<;>omega
     have hp1:p.1=0:=by omega
     have hend:¬ (Nat.ble p.2 r.2.2.2&&Nat.ble p.1 p.2&&rI H r.1 et.size r.2.2.2 p.1 false)=true:=by
      intro e;simp only[ybb]at e;have e2:=e.2
      unfold rI at e2;split at e2
      ·split at e2
       ·cases e2
       ·simp only[ybb,ycp]at e2
        have e3:=e2.2
        rw[hp1]at e3
        cases e3
      ·cases e2
     rw[yaa hend]at h;simp only[zB,ybb,vE]at h;obtain⟨_,h⟩:=h
     cases h;rw[k3]at h3;refine⟨.slice (some A) 0 c,run ?_,?_⟩
     ·have hu':=fM hF hel
      simp only[Instr.sliceAt,yad,wE hu',yac,Instr.slice,hxv,h3,yae,(hT.facts het).size,hp1,hp2]
      simp[Addr.add]
     ·rw[wA]
      refine .inr ⟨k1,by rw[hp1,hp2],by rw[k4,hp1],A,c,rfl,?_⟩
      rw[k4,hp1];exact k2
    obtain⟨p,size,hp,h4,h5⟩:=zco (P:=P) (w:=w) hT hH hi' hc ht (fun a _=>hrm a) h
    obtain⟨h3,_⟩:=nV (P:=P) (w:=w) (isSlice:=true) hc h1 h2 hp
    refine⟨_,run ?_,h5⟩
    have hu':=fM hF hel
    simp only[Instr.sliceAt,yad,wE hu',yac,Instr.slice,hxv,h3,yae,h4];congr 2
    split<;>rfl
   ·split at h
    ·rename_i q hq
     rw[kT]at hq;subst hq;simp only[uA]at h;obtain⟨ar,har,h⟩:=h
     rw[wA]at hx;obtain⟨i,hi',hxv⟩:=hx
     obtain⟨p,size,hp,h4,h5⟩:=zco (P:=P) (w:=w) hT hH hi' (ybk _) (fun _=>rfl) (fun _ h=>by cases h) h
     obtain⟨h3,_⟩:=nV (P:=P) (w:=w) (isSlice:=false) (ybk _) h1 h2 hp
     refine⟨_,run ?_,h5⟩
     have hu':=zb0 hF har
     simp only[Instr.sliceAt,yad,wE hu',yac,hxv,Instr.sureAddr,h3,yae,h4]
    ·simp only[zB,pB,uA]at h
     obtain⟨htag,el,hel,ety,hety,p,hp,h⟩:=h
     cases h;rw[xP.2.1]at htag;subst htag;rw[wA]at hx;obtain⟨h3,h6,h7⟩:=nV (P:=P) (w:=w) (isSlice:=true) (ybk 0) h1 h2 hp
     have hp2:p.2=0:=by omega
     have hp1:p.1=0:=by omega
     rw[hp1,hp2]at h3;refine⟨.slice none 0 0,run ?_,by rw[wA]⟩
     have hu':=fM hF hel
     simp only[Instr.sliceAt,yad,wE hu',yac,Instr.slice,hx,h3,yae,(hT.facts hety).size]
     simp
 ·cases h
end
end Go.Am
namespace Go.Am
open Go
section
variable {P:Program}{C:oA}{B N:Nat}{μ:Mu}{H:xA}{w:World}
variable {e:nC}{ρ:Operand->Value}{dst:Option Tmp}{type:TypeId}{pos:String}{after:Array Edge}{guard:Option (Nat × Bool)}{v:zA}
def zaf(hT:rE P C)(hE:kE μ e ρ){t:Nat}{x i:Operand}(h:tO t x i C e H=some v):LOk P μ w ρ ⟨dst,.indexAddr t x i,type,pos,after,guard⟩ v:=by
 unfold tO at h;simp only[uA,lY]at h;obtain⟨ty,hty,a,ha,iv,hi,n,⟨k,rfl⟩,h⟩:=h
 have hF:=hT.facts hty
 have hx:=hE _ _ ha
 have hiv:=hE _ _ hi
 rw[wA]at hiv;split at h
 ·rename_i s hs
  rw[aR]at hs;subst hs;simp only[uA,zB,dB]at h;obtain⟨el,hel,et,het,hlt,h⟩:=h
  cases h;rw[wA]at hx;rcases hx with⟨j,cap',hj,hxv,_⟩ | ⟨_,k,_⟩
  rotate_left
  ·rw[k]at hlt;exact absurd hlt (Nat.not_lt_zero _)
  refine⟨.pointer (some ⟨j.b,s.2.1+n*et.size,none⟩),?_,by rw[wA];exact⟨j,hj,rfl⟩⟩
  have h1:(0:Int)<=(n:Int)/\(n:Int)<(s.2.2.1:Int):=⟨by omega,by omega⟩
  simp only[execOp,Instr.indexAt,hiv,hxv,asIntOf,yad,yae,yac,wE (fM hF hel),(hT.facts het).size,Sem.run_ite,yab h1,Int.toNat_natCast,dP]
 ·simp only[uA,kT,zB,dB]at h
  obtain⟨p,rfl,ar,har,et,het,hlt,h⟩:=h
  cases h;rw[wA]at hx;obtain⟨j,hj,hxv⟩:=hx
  refine⟨.pointer (some ⟨j.b,p.2+n*et.size,none⟩),?_,by rw[wA];exact⟨j,hj,rfl⟩⟩
  have h1:(0:Int)<=(n:Int)/\(n:Int)<(ar.1:Int):=⟨by omega,by omega⟩
  simp only[execOp,Instr.indexAt,hiv,hxv,asIntOf,yad,yae,yac,wE (zb0 hF har),Instr.sureAddr,(hT.facts het).size,Sem.run_ite,yab h1,Int.toNat_natCast,dP]
def zj1(hT:rE P C)(hE:kE μ e ρ){t:Nat}{x i:Operand}(h:sO t x i C e H=some v):LOk P μ w ρ ⟨dst,.index t x i,type,pos,after,guard⟩ v:=by
 unfold sO at h;simp only[uA,lY]at h;obtain⟨ty,hty,a,ha,iv,hi,n,⟨k,rfl⟩,h⟩:=h
 have hF:=hT.facts hty
 have hx:=hE _ _ ha
 have hiv:=hE _ _ hi
 rw[wA]at hiv;split at h
 ·rename_i s hs
  rw[iO]at hs;subst hs;simp only[zB,uA,oF]at h;obtain⟨hstr,b,hb,h⟩:=h
  cases h;rw[wA]at hx;obtain⟨str,hxv,rfl⟩:=hx
  rw[zsz,yar]at hb;obtain⟨u,hu,rfl⟩:=hb
  refine⟨.int .u8 u.toNat,?_,by rw[wA];rfl⟩
  simp only[execOp,Instr.index,hiv,hxv,asIntOf,yad,yae,yac,wE (uY hF hstr),Int.natCast_nonneg,if_true,Int.toNat_natCast,hu]
 ·simp only[uA,bU,zB,dB]at h
  obtain⟨l,rfl,ar,har,et,het,hlt,h⟩:=h
  rw[wA]at hx;obtain⟨cs,hxv,hl⟩:=hx
  obtain⟨v',h2,h3⟩:=eV (P:=P) (w:=w) hT hl h
  refine⟨v',?_,h3⟩
  have h1:(0:Int)<=(n:Int)/\(n:Int)<(ar.1:Int):=⟨by omega,by omega⟩
  simp only[execOp,Instr.index,hiv,hxv,asIntOf,yad,yae,yac,wE (zb0 hF har),(hT.facts het).size,Sem.run_ite,yab h1,Int.toNat_natCast,h2]
def zem(l:List Value):∀(off k:Nat) (cs:Array Value),off+k+l.length<=cs.size →
  ((l.zipIdx k).foldl (fun cs (c,j)=>cs.setIfInBounds (off+j) c) cs).toList=cs.toList.take (off+k)++l++cs.toList.drop (off+k+l.length):=by
 induction l with
 | nil=>intro off k cs _;simp
 | cons a l ih=>
  intro off k cs h;rw[List.zipIdx_cons,List.foldl_cons,ih off (k+1) _ (by simp at h ⊢;omega)]
  have hk:off+k<cs.toList.length:=by simp at h ⊢;omega
  simp only[Array.toList_setIfInBounds];rw[List.take_set,List.drop_set_of_lt (by omega)]
  rw[show off+(k+1)=off+k+1 by omega,List.take_succ_eq_append_getElem hk,List.set_append_right _ _ (by simp;omega)]
  simp only[ybz,yda,ycz,ybn];rw[Nat.min_eq_left (by simpa using Nat.le_of_lt hk),Nat.sub_self]
  rw[show off+k+(l.length+1)=off+k+1+l.length by omega]
  rfl
def zbx{place:Nat->Option (Nat × Nat)}{ps:List (Nat × zA)}{qs:List (Nat × Value)}(hp:rC (fun p q=>p.1=q.1/\wA μ p.2 q.2) ps qs) :
  ∀ {cells r:List zA} {cs:Array Value},yB μ cells cs.toList->kL place ps cells=some r->∃out,Instr.fill place cs qs=some out/\yB μ r out.toList:=by
 induction hp with
 | nil=>intro cells r cs hc h;rw[kL]at h;cases h;exact⟨cs,rfl,hc⟩
 | @cons p q ps qs hpq _ ih=>
  intro cells r cs hc h;rw[kL]at h;simp only[uA]at h;obtain⟨pl,hpl,mid,hmid,h⟩:=h
  unfold xT at hmid;simp only[zB,ybb,pB,vE,gC,oG,yO,rP]at hmid;obtain⟨⟨h1,h2⟩,hmid⟩:=hmid
  cases hmid;obtain⟨i,vq⟩:=q
  obtain⟨rfl,hv⟩:=hpq
  have hvc:=sY hv
  have hlen:=hvc.length
  have hcl:=hc.length
  simp only[ycz]at hlen hcl;rw[Instr.fill,hpl];simp only[];have h3:¬ (vq.cells.size≠pl.2||decide (pl.1+vq.cells.size > cs.size))=true:=by
   simp;exact⟨by omega,by omega⟩
  have h4:¬ ((decide (vq.cells.size≠pl.2)||decide (pl.1+vq.cells.size > cs.size))=true):=by simpa using h3
  obtain⟨off,sz⟩:=pl
  rw[yaa h4];refine ih ?_ h
  have h5:=zem vq.cells.toList off 0 cs (by simp;omega)
  rw[<- Array.foldl_toList,Array.toList_zipIdx,h5];simp only[yct,ycz];have:=((hc.take off).append hvc).append (hc.drop (off+p.2.cells.length))
  rw[ybz]at this;rw[hlen];simpa using this
def zri{g:Array Field}(h:∀f∈g.toList,∃i,P.info? f.type=some i):(g.mapM fun f=>(do pure (f.offset,<- sizeOf f.type):Sem (Nat × Nat))).run P w=.ok (g.map fun f=>(f.offset,P.cellsOf f.type)) w:=by
 obtain⟨l⟩:=g
 rw[List.mapM_toArray];simp only[Sem.run_map,List.map_toArray];have key:∀l:List Field,(∀f∈l,∃i,P.info? f.type=some i)->(l.mapM fun f=>(do pure (f.offset,<- sizeOf f.type):Sem (Nat × Nat))).run P w=.ok (l.map fun f=>(f.offset,P.cellsOf f.type)) w:=by
  intro l;induction l with
  | nil=>intro _;rfl
  | cons f l ih=>
   intro h;obtain⟨i,hi⟩:=h f (by simp)
   have h1:(sizeOf f.type).run P w=.ok (P.cellsOf f.type) w:=by simp[sizeOf,iS hi,Program.cellsOf,hi]
   rw[List.mapM_cons];simp only[yad,h1,yac,yae,ih fun f hf=>h f (by simp[hf])]
   rfl
 rw[key l (by simpa using h)]
 rfl
def zj4(hT:rE P C)(hE:kE μ e ρ){t:Nat}{parts:Array (Nat × Operand)}(h:qP t parts C e H=some v):LOk P μ w ρ ⟨dst,.build t parts,type,pos,after,guard⟩ v:=by
 unfold qP at h;simp only[uA]at h;obtain⟨ty,hty,ps,hps,h⟩:=h
 have hF:=hT.facts hty
 have hq:=hE.parts hps
 obtain⟨z,hz,_,hzl⟩:=hF.zero (μ:=μ)
 split at h
 ·rename_i fs hfs
  simp only[uA,oF]at h;obtain⟨l,hl,h⟩:=h
  cases h;obtain⟨g,hg,rfl⟩:=wT hF hfs
  have hpl:(fun i:Nat=>ob ((g.toList.map fun f=>(f.offset,f.type,P.cellsOf f.type))[i]?) fun(x:Nat × Nat × Nat)=>some (x.1,x.2.2))=fun i=>(g.map fun f=>(f.offset,P.cellsOf f.type))[i]?:=by
   funext i
   rw[ybu];simp only[Array.getElem?_map];have:g.toList[i]?=g[i]?:=by simp
   rw[this]
   cases g[i]?<;>rfl
  rw[hpl]at hl;obtain⟨out,ho,hr⟩:=zbx hq hzl hl
  refine⟨.agg out,?_,by rw[wA];exact⟨_,rfl,hr⟩⟩
  have hpr:=zri (P:=P) (w:=w) (g:=g) (by have:=hF.fields;rwa [zd0 hg]at this)
  simp only[execOp,Instr.build,yad,hz,yac,wE hg,hpr,Array.toList_map,ho,yae]
 ·simp only[uA]at h
  obtain⟨ar,har,et,het,l,hl,h⟩:=h
  cases h;obtain⟨out,ho,hr⟩:=zbx hq hzl hl
  refine⟨.agg out,?_,by rw[wA];exact⟨_,rfl,hr⟩⟩
  simp only[execOp,Instr.build,yad,hz,yac,wE (zb0 hF har),(hT.facts het).size,Array.toList_map,ho,yae]
def zfx(hT:rE P C)(hE:kE μ e ρ){x:Operand}{xt asserted:Nat}{ok:Bool}(h:pO x asserted ok C e H=some v):LOk P μ w ρ ⟨dst,.typeAssert x xt asserted ok,type,pos,after,guard⟩ v:=by
 unfold pO at h;simp only[uA,zB]at h;obtain⟨ty,hty,hb,a,ha,h⟩:=h
 have hF:=hT.facts hty
 have hx:=hE _ _ ha
 obtain⟨d,hd,hn⟩:=zah hF hb
 obtain⟨z,hz,hzr,_⟩:=hF.zero (μ:=μ)
 split at h
 ·rename_i p hp
  rw[zbd]at hp;subst hp;rw[wA]at hx;obtain⟨x',hxv,hr⟩:=hx
  rw[iB]at h;split at h
  ·rename_i heq
   rw[pB]at heq
   cases h;refine⟨if ok then .tuple #[x',.bool true]else x',?_,?_⟩
   ·simp only[execOp,Instr.typeAssert,hxv,yad,wE hd,yac]
    cases d<;>first | exact absurd rfl (hn _) | simp[heq]
   ·cases ok
    ·exact hr
    ·rw[cond_true,yab rfl,wA];exact⟨_,rfl,.cons hr (.single (by rw[wA]))⟩
  ·rename_i hne
   rw[pB]at hne;rw[zB]at h;obtain⟨rfl,h⟩:=h
   cases h;refine⟨.tuple #[z,.bool false],?_,by rw[wA];exact⟨_,rfl,.cons hzr (.single (by rw[wA]))⟩⟩
   simp only[execOp,Instr.typeAssert,hxv,yad,wE hd,yac]
   cases d<;>first | exact absurd rfl (hn _) | simp[hne,hz]
 ·simp only[zB,ybb,pB]at h
  obtain⟨⟨htag,rfl⟩,h⟩:=h
  cases h;rw[xP.2.2.2.2]at htag;subst htag;rw[wA]at hx;refine⟨.tuple #[z,.bool false],?_,by rw[wA];exact⟨_,rfl,.cons hzr (.single (by rw[wA]))⟩⟩
  simp only[execOp,Instr.typeAssert,hx,yad,wE hd,yac]
  cases d<;>first | exact absurd rfl (hn _) | simp[hz]
def za8{t:Nat}{ty:uC}(hF:mI P t ty)(h:iM ty.desc=true):P.underlying t=some .bool\/P.underlying t=some .string\/∃k,P.underlying t=some (.int k):=by
 obtain⟨D,hD⟩:=hF.und
 have h0:=hF.desc
 unfold lK at h0;rw[hD]at h0;rw[<- h0]at h;have h1:=vE.1 h
 cases D<;>simp[rD.tag]at h1
 ·exact .inl hD
 ·exact .inr (.inr ⟨_,hD⟩)
 ·exact .inr (.inl hD)
def zeh(D:TypeDesc)(a:zA):Prop:=(∃k,D=.int k/\a.tag=1)\/(D=.string/\a.tag=2)\/(D=.bool/\a.tag=0)
def zeh.eq1{D:TypeDesc}{a b:zA}{r:Bool}(h:zeh D a)(e:kG a b=some r):bK a b=some r:=by
 rcases vW e with⟨x,y,rfl,rfl,_⟩ | ⟨_,e⟩
 ·rcases h with⟨_,_,ht⟩ | ⟨_,ht⟩ | ⟨_,ht⟩<;>simp[zA.tag]at ht
 ·exact e
def zff{D:TypeDesc}{a b:zA}{va vb:Value}(hD:zeh D a)(ha:wA μ a va)(hb:wA μ b vb){r:Bool}(h:bK a b=some r):Instr.sameNow D va vb=some r:=by
 rcases nU h with⟨k,x,y,rfl,rfl,rfl⟩ | ⟨x,y,rfl,rfl,rfl⟩ | ⟨x,y,rfl,rfl,rfl⟩<;>rw[wA]at ha<;>rw[wA]at hb <;>
  rcases hD with⟨k',rfl,ht⟩ | ⟨rfl,ht⟩ | ⟨rfl,ht⟩<;>simp[zA.tag]at ht
 ·rw[ha,hb];simp[Instr.sameNow]
 ·obtain⟨s,rfl,rfl⟩:=ha
  obtain⟨u,rfl,rfl⟩:=hb
  have:(s == u)=xG (aD s) (aD u):=by
   rw[Bool.eq_iff_iff,mK];have h1:(s == u)=(s.data == u.data):=rfl
   rw[h1];exact⟨fun h=>(by unfold aD;rw[eq_of_beq h]),fun h=>(by rw[oY h];exact beq_self_eq_true u.data)⟩
  simp only[Instr.sameNow,this]
 ·rw[ha,hb];rfl
def zsg{D:TypeDesc}{k:zA}{kv:Value}(hD:zeh D k)(hk:wA μ k kv){l:List (zA × zA)}{es:List MapEntry}(hl:rC (fun p e=>wA μ p.1 e.key/\wA μ p.2 e.val) l es) :
  ∀ {i:Nat} {r:Option zA},cH k l=some r->match r with
   | none=>Instr.findNow D kv es i=some none
   | some v=>∃j v',Instr.findNow D kv es i=some (some (j,v'))/\wA μ v v':=by
 induction hl with
 | nil=>intro i r h;rw[cH]at h;cases h;rfl
 | @cons p e l es hpe _ ih=>
  intro i r h;rw[cH,uA]at h;obtain⟨q,hq,h⟩:=h
  have h1:=zff hD hk hpe.1 (hD.eq1 hq)
  cases q with
  | true=>
   rw[cond_true]at h
   cases h;exact⟨i,e.val,by rw[Instr.findNow,h1],hpe.2⟩
  | false=>
   rw[cond_false]at h;have:=ih (i:=i+1) h
   rw[Instr.findNow,h1];exact this
def tY{D:TypeDesc}{t:Nat}{empty:Bool}{d:Nat}{kv:Value}(hu:P.underlying t=some D)(hD:(∃k,D=.int k)\/D=.string\/D=.bool):(Instr.checkKey empty (d+1) t kv).run P w=.ok () w:=by
 rw[Instr.checkKey,yad,wE hu,yac];rcases hD with⟨k,rfl⟩ | rfl | rfl<;>rfl
def mY{b:Nat}{l:List (zA × zA)}(h:bH H b=some l):H.t.get b=some (.map l):=by
 unfold bH at h;rw[uA]at h;obtain⟨x,hx,h⟩:=h
 cases x<;>simp[qA.asMap]at h
 subst h;exact hx
def cA.mapAt(hH:cA B N μ H w){b:Nat}{l:List (zA × zA)}(h:bH H b=some l){i:BI}(hi:μ b=some i) :
  ∃es clock l',w.heap[i.b]?=some (.map es clock)/\xV l l'/\rC (fun p e=>wA μ p.1 e.key/\wA μ p.2 e.val) l' es.toList:=by
 obtain⟨o,h2,h3⟩:=hH.blk _ _ _ (mY h) hi
 obtain⟨es,clock,l',rfl,h4,h5⟩:=h3
 exact⟨es,clock,l',h2,h4,h5⟩
def kV{r:Nat}{o:Obj}(h:w.heap[r]?=some o)(hc:∀a b c,o≠.cells a b c):(getObj r).run P w=.ok o w:=by
 simp only[getObj,Sem.run,h]
def zau{t:Nat}{ty:uC}{D:TypeDesc}(hF:mI P t ty)(hu:P.underlying t=some D)(hk:iM ty.desc=true){k:zA}(h:zdk ty.desc k=true):zeh D k:=by
 have h0:=hF.desc
 unfold lK at h0;rw[hu]at h0;rw[<- h0]at h;unfold zdk at h;rw[pB]at h;rcases za8 hF hk with h1 | h1 | ⟨kk,h1⟩
 ·rw[hu]at h1;cases h1;exact .inr (.inr ⟨rfl,h.symm⟩)
 ·rw[hu]at h1;cases h1;exact .inr (.inl ⟨rfl,h.symm⟩)
 ·rw[hu]at h1;cases h1;exact .inl ⟨kk,rfl,h.symm⟩
def gZ{α:Type}{g:α->PUnit->Sem (ForInStep PUnit)}:∀(l:List α),(∀a∈l,(g a ⟨⟩).run P w=.ok (.yield ⟨⟩) w)->(forIn l PUnit.unit g).run P w=.ok ⟨⟩ w
 | [],_=>rfl
 | a::l,h=>by
  rw[List.forIn_cons,yad,h a (.head _),yac]
  exact gZ l fun x hx=>h x (.tail _ hx)
def z6x{α:Type}{l r:List α}{a:α}{i:Nat}(h:a::r=l.drop i):l[i]?=some a/\r=l.drop (i+1):=by
 have h1:(l.drop i)[0]?=some a:=by rw[<- h];rfl
 rw[yde]at h1;refine⟨by simpa using h1,?_⟩
 have:r=(l.drop i).drop 1:=by rw[<- h];rfl
 rw[this,List.drop_drop]
def zdw{f:Nat × Nat × Nat}{fs:List (Nat × Nat × Nat)}{i:Nat}(h:kQ C (f::fs) i=true):f.1=i/\(∃ty,C.tys.get f.2.1=some ty/\iM ty.desc=true)/\kQ C fs (i+1)=true:=by
 unfold kQ at h;rw[iB]at h;split at h
 case isFalse=>cases h
 rename_i h1;split at h
 case h_2=>cases h
 rename_i ty hty;rw[iB]at h;split at h
 case isFalse=>cases h
 rename_i h2;exact⟨pB.1 h1,⟨ty,hty,h2⟩,h⟩
def zf4{f:Nat × Nat × Nat}{fs:List (Nat × Nat × Nat)}{l:List zA}(h:zhw C (f::fs) l=true):∃v r ty,l=v::r/\C.tys.get f.2.1=some ty/\zdk ty.desc v=true/\zhw C fs r=true:=by
 cases l with
 | nil=>cases h
 | cons v r=>
  unfold zhw at h;split at h
  case h_2=>cases h
  rename_i ty hty;rw[iB]at h;split at h
  case isFalse=>cases h
  rename_i h2;exact⟨v,r,ty,rfl,hty,h2,h⟩
def zx7{d:rD}{a b:zA}{r:Bool}(hd:iM d=true)(hf:zdk d a=true)(h:bK a b=some r):zkg d a b=some r:=by
 have h1:=vE.1 hd
 have h2:d.tag=a.tag:=pB.1 hf
 rcases nU h with⟨k,x,y,rfl,rfl,hr⟩ | ⟨x,y,rfl,rfl,hr⟩ | ⟨x,y,rfl,rfl,hr⟩<;>cases d<;>simp[rD.tag,zA.tag]at h1 h2<;>exact h
def eZ{d:rD}(h:iM d=true):d.isAgg=false/\d.asStruct=none:=by
 have h1:=vE.1 h
 cases d<;>simp[rD.tag]at h1<;>exact⟨rfl,rfl⟩
def zpn{xs ys:List zA}:∀(fs:List (Nat × Nat × Nat)) (i:Nat) (r:Bool),kQ C fs i=true->zhw C fs (xs.drop i)=true->uN (xs.drop i) (ys.drop i)=some r->zs8 C (aeq C 1) xs ys fs=some r
 | [],i,r,_,hf,h=>by
  generalize xs.drop i=l at hf h
  generalize ys.drop i=m at h
  cases l with
  | cons v l=>cases hf
  | nil=>cases m with
   | cons v m=>cases h
   | nil=>cases h;rfl
 | f::fs,i,r,hfl,hf,h=>by
  obtain⟨e1,⟨ty,hty,hkd⟩,hfl⟩:=zdw hfl
  obtain⟨v,l,ty',e2,hty',hfit,hf⟩:=zf4 hf
  rw[hty]at hty';cases hty'
  obtain⟨gx,lx⟩:=z6x e2.symm
  rw[e2]at h
  cases e3:ys.drop i with
  | nil=>rw[e3]at h;cases h
  | cons b m=>
   obtain⟨gy,ly⟩:=z6x e3.symm
   rw[e3]at h;simp only[uN,uA]at h;obtain⟨q,hq,s,hs,h⟩:=h
   cases h;obtain⟨p1,p2⟩:=eZ hkd
   have px:∀ {l:List zA} {a:zA},l[i]?=some a->dK C f.2.1 l f.1=some a:=by
    intro l a hl;unfold dK;rw[hty,vA,p1,cond_false,e1,oF];exact hl
   have hq':aeq C 1 f.2.1 v b=some q:=by
    rw[aeq,hty,vA,p2];exact zx7 hkd hfit hq
   rw[zs8,px gx,vA,px gy,vA,hq',vA];rw[lx]at hf hs;rw[ly]at hs
   cases q with
   | false=>rfl
   | true=>rw[cond_true,zpn fs (i+1) s hfl hf hs];rfl
def rZ{ty:uC}(h:sN C ty=true):iM ty.desc=true\/∃fs,iM ty.desc=false/\ty.desc.asStruct=some fs/\ty.eqOk=true/\kQ C fs 0=true:=by
 unfold sN at h
 cases hk:iM ty.desc with
 | true=>exact .inl rfl
 | false=>
  rw[hk,cond_false]at h;split at h
  case h_2=>cases h
  rename_i fs hfs;rw[iB]at h;split at h
  case isFalse=>cases h
  rename_i h1;exact .inr ⟨fs,rfl,hfs,h1,h⟩
def tZ{ty:uC}{k:zA}(hk:iM ty.desc=true)(h:mL C ty k=true):zdk ty.desc k=true:=by
 unfold mL at h;rw[hk,cond_true]at h;exact h
def uZ{ty:uC}{k:zA}{fs:List (Nat × Nat × Nat)}(hk:iM ty.desc=false)(hfs:ty.desc.asStruct=some fs)(h:mL C ty k=true):∃l,k=.agg l/\zhw C fs l=true:=by
 unfold mL at h;rw[hk,cond_false,hfs]at h;simp only[]at h;split at h
 case h_2=>cases h
 rename_i l hl;exact⟨l,bU.1 hl,h⟩
def zdl(hT:rE P C){t:Nat}{ty:uC}(hty:C.tys.get t=some ty){fs:List (Nat × Nat × Nat)}(hfs:ty.desc.asStruct=some fs)(hok:ty.eqOk=true)(hfl:kQ C fs 0=true){l:List zA}(hfit:zhw C fs l=true){b:zA}{va vb:Value}(ha:wA μ (.agg l) va)(hb:wA μ b vb){r:Bool}(h:kG (.agg l) b=some r) :
  (Op.equal t va vb).run P w=.ok r w:=by
 refine z4s hT 2 10000 t (.agg l) b _ _ r (by decide) ha hb ?_
 rcases vW h with⟨x,y,e,rfl,h⟩ | ⟨hn,_⟩
 ·cases e
  rw[aeq,hty,vA,hfs];simp only[zA.asAgg,vA];rw[hok];exact zpn fs 0 r hfl hfit h
 ·cases hn
def zhx{t:Nat}{k:zA}{kv:Value}(hq:∀(b:zA) (vb:Value) (r:Bool),wA μ b vb->kG k b=some r->(Op.equal t kv vb).run P w=.ok r w){l:List (zA × zA)}{es:List MapEntry}(hl:rC (fun p e=>wA μ p.1 e.key/\wA μ p.2 e.val) l es) :
  ∀ {i:Nat} {r:Option zA},cH k l=some r->match r with
   | none=>(Instr.findAsking t kv es i).run P w=.ok none w
   | some v=>∃j e0,(Instr.findAsking t kv es i).run P w=.ok (some (i+j,e0.val)) w/\es[j]?=some e0/\wA μ v e0.val:=by
 induction hl with
 | nil=>intro i r h;rw[cH]at h;cases h;rfl
 | @cons p e l es hpe _ ih=>
  intro i r h;rw[cH,uA]at h;obtain⟨q,hq',h⟩:=h
  have h1:=hq _ _ _ hpe.1 hq'
  cases q with
  | true=>
   rw[cond_true]at h
   cases h;exact⟨0,e,by rw[Instr.findAsking,yad,h1,yac];rfl,rfl,hpe.2⟩
  | false=>
   rw[cond_false]at h;have:=ih (i:=i+1) h
   rw[Instr.findAsking,yad,h1,yac];simp only[ybq,if_false]
   cases r with
   | none=>exact this
   | some v=>
    obtain⟨j,e0,g1,g2,g3⟩:=this
    exact⟨j+1,e0,by rw[g1,show i+1+j=i+(j+1) by omega],by simpa using g2,g3⟩
def cZ{t:Nat}{g:Array Field}(hu:P.underlying t=some (.struct g))(kv:Value)(es:List MapEntry):(Instr.findKey t kv es).run P w=(Instr.findAsking t kv es).run P w:=by
 unfold Instr.findKey;rw[yad,wE hu,yac]
 cases es with
 | nil=>simp only[Instr.findNow,Instr.findAsking]
 | cons e es=>simp only[Instr.findNow,Instr.sameNow]
def zsh(hT:rE P C){t:Nat}{ty:uC}(hty:C.tys.get t=some ty)(hk:sN C ty=true){k:zA}{kv:Value}(hfit:mL C ty k=true)(hkv:wA μ k kv){l:List (zA × zA)}{es:List MapEntry}(hl:rC (fun p e=>wA μ p.1 e.key/\wA μ p.2 e.val) l es){r:Option zA}(hr:cH k l=some r) :
  match r with
  | none=>(Instr.findKey t kv es).run P w=.ok none w
  | some v=>∃j v',(Instr.findKey t kv es).run P w=.ok (some (j,v')) w/\wA μ v v':=by
 have hF:=hT.facts hty
 rcases rZ hk with hkd | ⟨fs,hkd,hfs,hok,hfl⟩
 ·obtain⟨D,hD⟩:=hF.und
  have hfits:=zau hF hD hkd (tZ hkd hfit)
  have h3:=zsg hfits hkv hl (i:=0) hr
  have hfk:∀(q:Option (Nat × Value)),Instr.findNow D kv es 0=some q->(Instr.findKey t kv es).run P w=.ok q w:=by
   intro q hq;unfold Instr.findKey;simp only[yad,wE hD,yac,hq,yae]
  cases r with
  | none=>exact hfk _ h3
  | some v=>obtain⟨j,v',g1,g2⟩:=h3;exact⟨j,v',hfk _ g1,g2⟩
 ·obtain⟨x,rfl,hx⟩:=uZ hkd hfs hfit
  obtain⟨g,hg,rfl⟩:=wT hF hfs
  have h3:=zhx (P:=P) (w:=w) (t:=t) (kv:=kv) (fun b vb r hb h=>zdl hT hty hfs hok hfl hx hkv hb h) hl (i:=0) hr
  rw[cZ hg]
  cases r with
  | none=>exact h3
  | some v=>obtain⟨j,e0,g1,_,g2⟩:=h3;exact⟨0+j,_,g1,g2⟩
def zba(hT:rE P C){t:Nat}{ty:uC}(hty:C.tys.get t=some ty)(hk:sN C ty=true){k:zA}{kv:Value}(hfit:mL C ty k=true)(hkv:wA μ k kv){empty:Bool}{d:Nat}:(Instr.checkKey empty (d+2) t kv).run P w=.ok () w:=by
 have hF:=hT.facts hty
 rcases rZ hk with hkd | ⟨fs,hkd,hfs,hok,hfl⟩
 ·obtain⟨D,hD⟩:=hF.und
  have hfits:=zau hF hD hkd (tZ hkd hfit)
  have hD':(∃k,D=.int k)\/D=.string\/D=.bool:=by
   rcases hfits with⟨k,h,_⟩ | ⟨h,_⟩ | ⟨h,_⟩
   ·exact .inl ⟨k,h⟩
   ·exact .inr (.inl h)
   ·exact .inr (.inr h)
  exact tY hD hD'
 ·obtain⟨x,rfl,hx⟩:=uZ hkd hfs hfit
  obtain⟨g,hg,rfl⟩:=wT hF hfs
  rw[wA]at hkv;obtain⟨cs,rfl,hcs⟩:=hkv
  rw[Instr.checkKey,yad,wE hg,yac];simp only[];have key:∀(gl:List Field) (i:Nat),kQ C (gl.map fun f=>(f.offset,f.type,P.cellsOf f.type)) i=true->zhw C (gl.map fun f=>(f.offset,f.type,P.cellsOf f.type)) (x.drop i)=true →
    ∀f∈gl,∃v,(part f.type cs f.offset).run P w=.ok v w/\(Instr.checkKey empty (d+1) f.type v).run P w=.ok () w:=by
   intro gl;induction gl with
   | nil=>intro i _ _ f hf;cases hf
   | cons f0 gl ih=>
    intro i h1 h2 f hf;rw[ycm]at h1 h2;obtain⟨e1,⟨fty,hfty,hfkd⟩,h1⟩:=zdw h1
    obtain⟨v,l,ty',e2,hty',hfit',h2⟩:=zf4 h2
    obtain⟨gx,lx⟩:=z6x e2.symm
    simp only[]at e1 hfty hty'
    rw[hfty]at hty';cases hty'
    rcases ybs.1 hf with rfl | hf
    ·obtain⟨p1,_⟩:=eZ hfkd
     obtain⟨v',g1,_⟩:=eV (P:=P) (w:=w) hT hcs (t:=f.type) (off:=f.offset) (v:=v) (by unfold dK;rw[hfty,vA,p1,cond_false,e1,oF];exact gx)
     refine⟨v',g1,?_⟩
     rcases za8 (hT.facts hfty) hfkd with hu | hu | ⟨kk,hu⟩
     ·exact tY hu (.inr (.inr rfl))
     ·exact tY hu (.inr (.inl rfl))
     ·exact tY hu (.inl ⟨kk,rfl⟩)
    ·rw[lx]at h2
     exact ih (i+1) h1 h2 f hf
  rw[yad,<- Array.forIn_toList,gZ]
  ·rfl
  ·intro f hf
   obtain⟨v,g1,g2⟩:=key g.toList 0 hfl hx f (by simpa using hf)
   split
   ·simp only[yad,g1,yac,g2,yae]
   ·rfl
def zfv(hT:rE P C)(hH:cA B N μ H w)(hE:kE μ e ρ){t:Nat}{x i:Operand}{ok:Bool}(h:vO t x i ok C e H=some v):LOk P μ w ρ ⟨dst,.lookup t x i ok,type,pos,after,guard⟩ v:=by
 unfold vO at h;simp only[uA,zB]at h;obtain⟨ty,hty,ke,hke,kty,hkty,hkd,ety,hety,m,hm,es,hes,k,hk,hfit,r,hr,h⟩:=h
 have hF:=hT.facts hty
 have hKF:=hT.facts hkty
 have hEF:=hT.facts hety
 have hx:=hE _ _ hm
 have hkv:=hE _ _ hk
 have hmap:∃(rs:Array MapEntry) (es':List (zA × zA)),xV es es'/\rC (fun p e=>wA μ p.1 e.key/\wA μ p.2 e.val) es' rs.toList/\((ρ x=.map none/\rs = #[])\/∃b clock,ρ x=.map (some b)/\w.heap[b]?=some (.map rs clock)):=by
  unfold zO at hes;split at hes
  ·rename_i b hb
   rw[kY]at hb;subst hb;rw[wA]at hx;obtain⟨j,hj,hxv⟩:=hx
   obtain⟨rs,clock,l',h1,h0,h2⟩:=hH.mapAt hes hj
   exact⟨rs,l',h0,h2,.inr ⟨_,_,hxv,h1⟩⟩
  ·simp only[zB,pB]at hes
   obtain⟨htag,hes⟩:=hes
   cases hes;rw[xP.2.2.1]at htag;subst htag;rw[wA]at hx;exact⟨#[],[],.inl rfl,.nil,.inl ⟨hx,rfl⟩⟩
 obtain⟨rs,es',hperm,h1,h2⟩:=hmap
 have h3:=zsh (P:=P) (w:=w) hT hkty hkd hfit hkv h1 (zsj hperm hr)
 have hu:=zqa hF hke
 obtain⟨z,hz,hzr,_⟩:=hEF.zero (μ:=μ)
 have hck:=fun b=>zba (P:=P) (w:=w) (empty:=b) (d:=9998) (kv:=ρ i) hT hkty hkd hfit hkv
 cases r with
 | none=>
  cases h;refine⟨if ok then .tuple #[z,.bool false]else z,?_,?_⟩
  ·have h4:=h3
   simp only[execOp,Instr.lookup];rcases h2 with⟨h5,rfl⟩ | ⟨b,clock,h5,h6⟩
   ·simp only[yad,wE hu,yac,h5,yae,hck,h4,hz]
   ·simp only[yad,wE hu,yac,h5,kV h6 (by simp),yae,hck,h4,hz]
  ·cases ok
   ·exact hzr
   ·rw[cond_true,yab rfl,wA];exact⟨_,rfl,.cons hzr (.single (by rw[wA]))⟩
 | some u=>
  obtain⟨j,v',h6,h5⟩:=h3
  cases h;refine⟨if ok then .tuple #[v',.bool true]else v',?_,?_⟩
  ·simp only[execOp,Instr.lookup]
   rcases h2 with⟨h7,rfl⟩ | ⟨b,clock,h7,h8⟩
   ·simp only[yad,wE hu,yac,h7,yae,hck,h6]
   ·simp only[yad,wE hu,yac,h7,kV h8 (by simp),yae,hck,h6]
  ·cases ok
   ·exact h5
   ·rw[cond_true,yab rfl,wA];exact⟨_,rfl,.cons h5 (.single (by rw[wA]))⟩
def zcv{s:Sem Value}{v':Value}(h:s.run P w=.ok v' w):(do pure (Next.value (<- s)):Sem Next).run P w=.ok (.value v') w:=by
 simp only[yad,h,yac,yae]
def iV{b:Builtin}{c:Call}(hc:c.callee=.builtin b):(execOp ρ ⟨dst,.call c,type,pos,after,guard⟩).run P w=(builtin b c.argTypes type (c.args.map fun | .const _=>true | _=>false) (c.args.map ρ)).run P w:=by
 simp only[execOp,resolve,hc,yad,yae,yac,invoke];rfl
def rC.length{α β:Type}{R:α->β->Prop}{l:List α}{m:List β}(h:rC R l m):m.length=l.length:=by
 induction h with
 | nil=>rfl
 | cons _ _ ih=>simp[ih]
def zwy(hT:rE P C)(hH:cA B N μ H w)(hE:kE μ e ρ){c:Call}(hc:c.callee=.builtin .len)(h:zmz c C e H=some v):LOk P μ w ρ ⟨dst,.call c,type,pos,after,guard⟩ v:=by
 unfold zmz at h;simp only[uA,oF]at h;obtain⟨t,ht,x,hx,ty,hty,a,ha,n,hn,h⟩:=h
 cases h;have hF:=hT.facts hty
 have hv:=hE _ _ ha
 obtain⟨D,hD⟩:=hF.und
 have h0:=hF.desc
 unfold lK at h0;rw[hD]at h0;have ht':c.argTypes[0]?=some t:=by simpa using ht
 have hx':(c.args.map ρ)[0]?=some (ρ x):=by
  have:c.args[0]?=some x:=by simpa using hx
  simp[this]
 refine⟨.int .i64 n,?_,by rw[wA];rfl⟩
 rw[iV hc];refine zcv ?_
 simp only[Builtin.len_,ht',hx',yad,wE hD,yac];unfold zth at hn;rw[<- h0]at hn;split at hn
 ·rename_i s hs
  rw[iO]at hs;subst hs;simp only[zB,gC]at hn;obtain⟨hb,hn⟩:=hn
  cases hn;rw[wA]at hv;obtain⟨str,hxv,rfl⟩:=hv
  rw[hxv,oT]
  cases D<;>simp[rD.isString,rD.tag,Nat.beq]at hb
  rfl
 ·split at hn
  ·rename_i s hs
   rw[aR]at hs;subst hs;simp only[zB,pB]at hn;obtain⟨hb,hn⟩:=hn
   cases hn;rw[wA]at hv;rcases hv with⟨j,cap',hj,hxv,_⟩ | ⟨_,k,_,A,_,hxv,_⟩
   rotate_left
   ·rw[hxv,k]
    cases D<;>simp[rD.tag]at hb
    rfl
   rw[hxv]
   cases D<;>simp[rD.tag]at hb
   rfl
  ·split at hn
   ·rename_i ar har
    cases hn
    cases D<;>simp[rD.asArr]at har
    subst har;rfl
   ·split at hn
    ·rename_i b hb
     rw[kY]at hb;subst hb;simp only[zB,pB,uA,gC]at hn;obtain⟨hb,l,hl,hn⟩:=hn
     cases hn;rw[wA]at hv;obtain⟨j,hj,hxv⟩:=hv
     obtain⟨rs,clock,l',h1,h0,h2⟩:=hH.mapAt hl hj
     rw[hxv];have h3:=h2.length
     have hlen:l'.length=l.length:=by
      rcases h0 with rfl | ⟨p,_⟩
      ·rfl
      ·exact p.length_eq.symm
     rw[hlen]at h3;simp only[ycz]at h3
     cases D<;>simp[rD.tag]at hb
     simp only[yad,kV h1 (by simp),yac,h3]
     rfl
    ·simp only[zB,ycq,ybb,pB]at hn
     obtain⟨hb,hn⟩:=hn
     cases hn;rcases hb with⟨hb,htag⟩ | ⟨hb,htag⟩
     ·rw[xP.2.1]at htag
      subst htag;rw[wA]at hv;rw[hv]
      cases D<;>simp[rD.tag]at hb
      rfl
     ·rw[xP.2.2.1]at htag
      subst htag;rw[wA]at hv;rw[hv]
      cases D<;>simp[rD.tag]at hb
      rfl
def zgs{c:Call}{p:zA × zA}(hE:kE μ e ρ)(h:two c e=some p):∃x y,c.args = #[x,y]/\wA μ p.1 (ρ x)/\wA μ p.2 (ρ y):=by
 unfold two at h;split at h
 ·rename_i x y hxy
  simp only[uA]at h;obtain⟨a,ha,b,hb,h⟩:=h
  cases h;refine⟨x,y,?_,hE _ _ ha,hE _ _ hb⟩
  rw[<- yax,hxy]
 ·cases h
def zwu(hE:kE μ e ρ){c:Call}(hc:c.callee=.builtin .max)(h:zwv c C e H=some v):LOk P μ w ρ ⟨dst,.call c,type,pos,after,guard⟩ v:=by
 unfold zwv at h;simp only[uA,hO]at h;obtain⟨p,hp,a,ha,b,hb,h⟩:=h
 cases h;obtain⟨x,y,hxy,h1,h2⟩:=zgs hE hp
 rw[ha,wA]at h1;rw[hb,wA]at h2;refine⟨.int a.1 (if b.2 > a.2 then b.2 else a.2),?_,?_⟩
 ·rw[iV hc,hxy]
  refine zcv ?_
  simp[Builtin.max_,h1,h2,Builtin.max2]
 ·rw[wA,iB];simp only[mU]
def zws(hE:kE μ e ρ){c:Call}(hc:c.callee=.builtin .min)(h:zwt c C e H=some v):LOk P μ w ρ ⟨dst,.call c,type,pos,after,guard⟩ v:=by
 unfold zwt at h;simp only[uA,hO]at h;obtain⟨p,hp,a,ha,b,hb,h⟩:=h
 cases h;obtain⟨x,y,hxy,h1,h2⟩:=zgs hE hp
 rw[ha,wA]at h1;rw[hb,wA]at h2;refine⟨.int a.1 (if b.2<a.2 then b.2 else a.2),?_,?_⟩
 ·rw[iV hc,hxy]
  refine zcv ?_
  simp[Builtin.min_,h1,h2,Builtin.min2]
 ·rw[wA,iB];simp only[mU]
def zy6(hT:rE P C)(hH:cA B N μ H w)(hE:kE μ e ρ){o:Oper}(h:(mE o.op).f C e H=some v):LOk P μ w ρ o v:=by
 obtain⟨dst,op,type,pos,after,guard⟩:=o
 cases op
 case move=>exact zpj (C:=C) (H:=H) hE h
 case assign=>exact zfw (C:=C) (H:=H) hE h
 case pick=>exact zpi (C:=C) (H:=H) hE h
 case load=>exact zpk (C:=C) (H:=H) hT hH hE h
 case nilCheck=>exact zwr (C:=C) (H:=H) hE h
 case binOp=>exact zw1 (C:=C) (H:=H) hT hE h
 case unOp=>exact z32 (C:=C) (H:=H) hE h
 case convert=>exact zpm (C:=C) (H:=H) hT hH hE h
 case makeInterface=>exact zj2 (C:=C) (H:=H) hT hE h
 case makeFunc=>exact zpl (C:=C) (H:=H) hE h
 case slice=>exact zj0 (C:=C) (H:=H) hT hH hE h
 case fieldAddr=>exact zag (C:=C) (H:=H) hT hE h
 case field=>exact zj3 (C:=C) (H:=H) hT hE h
 case indexAddr=>exact zaf (C:=C) (H:=H) hT hE h
 case index=>exact zj1 (C:=C) (H:=H) hT hE h
 case extract=>exact zdf (C:=C) (H:=H) hE h
 case build=>exact zj4 (C:=C) (H:=H) hT hE h
 case typeAssert=>exact zfx (C:=C) (H:=H) hT hE h
 case lookup=>exact zfv (C:=C) (H:=H) hT hH hE h
 case call c=>
  have h:(kM c c.callee).f C e H=some v:=h
  unfold kM at h;split at h
  ·rename_i b hb
   cases b<;>simp only[zbt]at h
   case len=>exact zwy (C:=C) (H:=H) hT hH hE hb h
   case max=>exact zwu (C:=C) (H:=H) hE hb h
   case min=>exact zws (C:=C) (H:=H) hE hb h
   all_goals cases h
  ·cases h
 all_goals
  have h:zhk C e H=some v:=h
  cases h
end
end Go.Am
namespace Go.Am
open Go Go.RowKit
section
def Mu.ext(μ:Mu)(a:Nat)(i:BI):Mu:=⟨fun b=>if b=a then some i else μ b,μ.pd⟩
def Mu.ext_get{μ:Mu}{a b:Nat}{i:BI}:(μ.ext a i) b=if b=a then some i else μ b:=rfl
def Mu.ext_le{μ:Mu}{a:Nat}{i:BI}(h:μ a=none):μ.le (μ.ext a i):=by
 refine⟨?_,rfl⟩
 intro b j hj;rw[Mu.ext_get];split
 ·rename_i e;subst e;rw[h]at hj;cases hj
 ·exact hj
def Mu.ext_same{μ:Mu}{a:Nat}{i:BI}:μ.ext a i a=some i:=by simp[Mu.ext]
def fD.mono{μ ν:Mu}(h:μ.lw ν){n:Nat}{tm:Tm}{tmps:Array Value}(k:fD μ n tm tmps):fD ν n tm tmps:=⟨k.1,fun i v hv=>(k.2 i v hv).mono h _ _⟩
def zeg.mono{μ ν:Mu}(h:μ.lw ν){l:wL}{r:Loop}(k:zeg μ l r):zeg ν l r:=
 ⟨k.state,k.pending,k.fn,k.tm.mono h,k.params,k.assign,k.body,by obtain⟨i,h1,h2⟩:=k.defers;exact⟨i,h _ _ h1,h2⟩⟩
def rC.mono{α β:Type}{R S:α->β->Prop}(h:∀a b,R a b->S a b){l:List α}{m:List β}(k:rC R l m):rC S l m:=by
 induction k with
 | nil=>exact .nil
 | cons a _ ih=>exact .cons (h _ _ a) ih
def zR.mono{μ ν:Mu}(h:μ.lw ν){d:jH}{e:Deferred}(k:zR μ d e):zR ν d e:=by
 refine⟨?_⟩
 have:=k.rel
 revert this
 cases d.fn with
 | none=>rintro⟨i,h1,h2⟩;exact⟨i,h _ _ h1,h2⟩
 | some f=>rintro⟨fn,cap,as,h1,h2,h3⟩;exact⟨fn,cap,as,h1,h2.mono h,yB.mono h _ _ h3⟩
def aG.mono{μ ν:Mu}(h:μ.lw ν){i:BI}{x:qA}{o:Obj}(k:aG μ i x o):aG ν i x o:=by
 cases x with
 | cells c n loose=>
  obtain⟨cs,elem,fr,h1,h2,h3,h4,h5⟩:=k
  refine⟨cs,elem,fr,h1,h2,h3,fun j v hv=>?_,h5⟩
  obtain⟨a,v',c,d⟩:=h4 j v hv
  exact⟨a,v',c,d.mono h _ _⟩
 | map l=>obtain⟨es,clock,l',h1,h0,h2⟩:=k;exact⟨es,clock,l',h1,h0,h2.mono fun a b r=>⟨r.1.mono h _ _,r.2.mono h _ _⟩⟩
 | loop l=>obtain⟨r,h1,h2⟩:=k;exact⟨r,h1,h2.mono h⟩
 | deferred l=>
  obtain⟨l',h1,h2⟩:=k
  refine⟨l',h1,?_⟩
  revert h2
  cases l<;>cases l'<;>intro h2<;>first | trivial | exact h2.elim | exact rC.mono (fun a b r=>zR.mono h r) h2
 | siter s p=>exact k
section
variable {P:Program}{C:oA}{B N:Nat}{μ:Mu}{H:xA}{w:World}
def cA.lt(hH:cA B N μ H w){a:Nat}{i:BI}(h:μ a=some i):a<H.next:=by
 refine Nat.lt_of_not_le fun hle=>?_
 rw[(hH.fresh a hle).1]at h;cases h
def cA.newBlk(hH:cA B N μ H w){x:qA}{o:Obj}{i:BI}(hib:i.b=w.heap.size)(hro:i.ro=false)(hx:aG (μ.ext H.next i) i x o):cA B N (μ.ext H.next i) (newBlk H x) (w.alloc o):=by
 have hle:μ.le (μ.ext H.next i):=Mu.ext_le (hH.fresh _ (ybk _)).1
 have hget:∀a,(Am.newBlk H x).t.get a=if a=H.next then some x else H.t.get a:=fun a=>Tr.get_set _ _ _ _
 refine⟨hH.base,?_,?_,?_,?_,?_,?_,?_,?_,fun a y t ha=>?_⟩
 ·intro g hg;rw[Mu.ext_get,yaa (by have:=hH.next;have:=hH.base;omega)];exact hH.glob g hg
 ·intro a y j ha hy hj
  rw[hget,yaa (by have:=hH.next;omega)]at hy
  rw[Mu.ext_get,yaa (by have:=hH.next;omega)]at hj
  exact hH.low a y j ha hy hj
 ·have:=hH.next;show B<=H.next+1;omega
 ·have:=hH.size;simp;omega
 ·intro a ha
  have ha':H.next+1<=a:=ha
  rw[hget,yaa (by omega)]
  rw[Mu.ext_get,yaa (by omega)]
  exact hH.fresh a (by omega)
 ·intro a y j hy hj
  rw[hget]at hy;rw[Mu.ext_get]at hj;split at hy
  ·rename_i e;subst e;cases hy
   rw[yab rfl]at hj
   cases hj;refine⟨o,?_,hx⟩
   rw[hib];show(w.heap.push o)[w.heap.size]?=some o;simp
  ·rename_i hne
   rw[yaa hne]at hj;obtain⟨q,h2,h3⟩:=hH.blk a y j hy hj
   refine⟨q,?_,h3.mono hle⟩
   rw[Below.heap_alloc];exact h2
   exact(ybe.1 h2).1
 ·intro a j ha hj
  rw[Mu.ext_get]at hj;split at hj
  ·cases hj;rw[hib];exact⟨hH.size,by simp,hro⟩
  ·have:=hH.own a j ha hj;exact⟨this.1,by simp;omega,this.2.2⟩
 ·intro a b y z j k hy hz hj hk ha hb hjk
  rw[hget]at hy hz;rw[Mu.ext_get]at hj hk;by_cases ea:a=H.next
  ·by_cases eb:b=H.next
   ·rw[ea,eb]
   ·exfalso
    rw[yab ea]at hj;rw[yaa eb]at hk
    cases hj;have:=(hH.own b k hb hk).2.1;omega
  ·by_cases eb:b=H.next
   ·exfalso
    rw[yaa ea]at hj;rw[yab eb]at hk
    cases hk;have:=(hH.own a j ha hj).2.1;omega
   ·rw[yaa ea]at hy hj;rw[yaa eb]at hz hk
    exact hH.inj a b y z j k hy hz hj hk ha hb hjk
 ·obtain⟨h1,h2,h3⟩:=hH.pnd a y t ha
  have hne:a≠H.next:=fun e=>by rw[e,(hH.fresh _ (ybk _)).2]at h2;cases h2
  exact⟨by rw[Mu.ext_get,yaa hne];exact h1,by rw[hget,yaa hne];exact h2,h3⟩
def cA.drew(hH:cA B N μ H w):cA B N μ H w.drew:=⟨hH.base,hH.glob,hH.low,hH.next,hH.size,hH.fresh,hH.blk,hH.own,hH.inj,hH.pnd⟩
def World.setBlk(w:World)(g:Nat)(o:Obj):World:={ w with heap:=w.heap.setIfInBounds g o }
def zg5(w:World)(g:Nat)(a b:Obj):World.setBlk (World.setBlk w g a) g b=World.setBlk w g b:=by
 unfold World.setBlk;simp
def jS(w:World)(g k:Nat)(o:Obj):(World.setBlk w g o).heap[k]?=if k=g/\g<w.heap.size then some o else w.heap[k]?:=by
 unfold World.setBlk;simp only[ycs];by_cases h:g=k
 ·subst h
  by_cases h2:g<w.heap.size
  ·simp[h2]
  ·rw[yab rfl,yaa h2,yaa (fun h=>h2 h.2)];exact(Array.getElem?_eq_none (by omega)).symm
 ·rw[yaa h,yaa (fun e=>h e.1.symm)]
def iZ{g j:Nat}{cur:Array Value}{t:TypeId}{fz:Nat × Nat}{v:Value}(h:w.heap[g]?=some (.cells cur t fz)):w.setCell ⟨g,j,none⟩ v=World.setBlk w g (.cells (cur.setIfInBounds j v) t fz):=by
 unfold World.setCell World.setBlk;congr 1
 apply Array.ext_getElem?
 intro k;rw[Array.getElem?_modify,ycs];by_cases e:g=k
 ·subst e
  have hg:=(ybe.1 h).1
  rw[yab rfl,yab rfl,yab hg,h];rfl
 ·rw[yaa e,yaa e]
def hZ{g o:Nat}{t:TypeId}{fz:Nat × Nat}:∀(vs:List Value) (i:Nat) (cur:Array Value) (w:World),w.heap[g]?=some (.cells cur t fz)->(fz.2<=fz.1\/cur.size<=fz.1) →
  o+i+vs.length<=cur.size->(∀v∈vs,v.oneCell'=true) →
  ∃cur',cur'.size=cur.size/\(∀j:Nat,cur'[j]?=if o+i<=j/\j<o+i+vs.length then vs[j-(o+i)]? else cur[j]?) ∧
   (storeCells ⟨g,o,none⟩ vs i).run P w=.ok () (World.setBlk w g (.cells cur' t fz)):=by
 intro vs;induction vs with
 | nil=>
  intro i cur w h _ _ _;refine⟨cur,rfl,fun j=>by rw[yaa (by simp)],?_⟩
  have:World.setBlk w g (.cells cur t fz)=w:=by
   unfold World.setBlk;have:w.heap.setIfInBounds g (.cells cur t fz)=w.heap:=by
    apply Array.ext_getElem?
    intro k;rw[ycs];split
    ·rename_i e;subst e;rw[h];simp[(ybe.1 h).1]
    ·rfl
   rw[this]
  rw[this];rfl
 | cons v vs ih=>
  intro i cur w h hfz hlen h1;simp only[ybn]at hlen;have hg:g<w.heap.size:=(ybe.1 h).1
  have hc:w.cell? ⟨g,o+i,none⟩=some (cur[o+i]'(by omega)):=by simp[World.cell?,h]
  have hf:w.frozen? ⟨g,o+i,none⟩=false:=by
   simp only[World.frozen?,h];rcases hfz with hfz | hfz
   ·simp;omega
   ·simp;omega
  have hst:(store (Addr.add ⟨g,o,none⟩ i) v).run P w=.ok () (World.setBlk w g (.cells (cur.setIfInBounds (o+i) v) t fz)):=by
   rw[dP,run_store P w _ _ _ (h1 v (by simp)),hc]
   simp only[hf];rw[<- iZ h];rfl
  obtain⟨cur',hs,hj,hr⟩:=ih (i+1) (cur.setIfInBounds (o+i) v) (World.setBlk w g (.cells (cur.setIfInBounds (o+i) v) t fz)) (by rw[jS,yab ⟨rfl,hg⟩]) (by simpa using hfz) (by simp;omega) (fun u hu=>h1 u (by simp[hu]))
  refine⟨cur',by simpa using hs,fun j=>?_,?_⟩
  ·rw[hj,ycs]
   by_cases e:j=o+i
   ·subst e
    rw[yaa (by omega),yab rfl,yab (by omega),yab (by simp)]
    simp
   ·by_cases e2:o+(i+1)<=j/\j<o+(i+1)+vs.length
    ·rw[yab e2,yab (by simp;omega)]
     rw[show j-(o+i)=(j-(o+(i+1)))+1 by omega];simp
    ·rw[yaa e2,yaa (by omega),yaa (by simp;omega)]
  ·rw[storeCells]
   simp only[yad,hst,yac,hr,zg5]
def cA.upd(hH:cA B N μ H w){a:Nat}{x x':qA}{i:BI}{o':Obj}(hx:H.t.get a=some x)(hi:μ a=some i)(ha:B<=a)(hb:aG μ i x' o'):cA B N μ (setBlk H a x') (World.setBlk w i.b o'):=by
 have hget:∀b,(Am.setBlk H a x').t.get b=if b=a then some x' else H.t.get b:=fun b=>Tr.get_set _ _ _ _
 have hlt:=(hH.own a i ha hi).2.1
 refine⟨hH.base,hH.glob,?_,hH.next,?_,?_,?_,?_,?_,fun b y t hb=>?_⟩
 ·intro b y j hb hy hj;rw[hget,yaa (by omega)]at hy;exact hH.low b y j hb hy hj
 ·have:=hH.size;simpa[World.setBlk]using this
 ·intro b hb
  have hb':H.next<=b:=hb
  have:=hH.lt hi
  rw[hget,yaa (by omega)]
  exact hH.fresh b hb'
 ·intro b y j hy h1
  rw[hget]at hy;split at hy
  ·rename_i e;subst e;cases hy
   rw[hi]at h1;cases h1;exact⟨o',by rw[jS,yab ⟨rfl,hlt⟩],hb⟩
  ·rename_i hne
   obtain⟨q,h2,h3⟩:=hH.blk b y j hy h1
   refine⟨q,?_,h3⟩
   rw[jS,yaa]
   ·exact h2
   ·rintro⟨e,_⟩
    by_cases hb:B<=b
    ·exact hne (hH.inj b a y x j i hy hx h1 hi hb ha e)
    ·have h5:=(hH.low b y j (by omega) hy h1).1
     have h6:=(hH.own a i ha hi).1
     omega
 ·intro b j hb hj;have:=hH.own b j hb hj;exact⟨this.1,by simpa[World.setBlk]using this.2.1,this.2.2⟩
 ·intro b c y z j k hy hz hj hk hb hc hjk
  have key:∀b y,(Am.setBlk H a x').t.get b=some y->∃y',H.t.get b=some y':=by
   intro b y hy;rw[hget]at hy;split at hy
   ·rename_i e;subst e;exact⟨x,hx⟩
   ·exact⟨y,hy⟩
  obtain⟨y',hy'⟩:=key b y hy
  obtain⟨z',hz'⟩:=key c z hz
  exact hH.inj b c y' z' j k hy' hz' hj hk hb hc hjk
 ·obtain⟨h1,h2,h3⟩:=hH.pnd b y t hb
  have hne:b≠a:=fun e=>by rw[e,hi]at h1;cases h1
  exact⟨h1,by rw[hget,yaa hne];exact h2,h3⟩
def gP{g:Nat}{o:Obj}(h:N<=g):Below N w (World.setBlk w g o):=
 ⟨rfl,rfl,rfl,by simp[World.setBlk],fun k hk=>by rw[jS,yaa (by omega)]⟩
def yB.one{l:List zA}:∀ {vs:List Value},yB μ l vs->(∀a∈l,a.one=true)->∀v∈vs,v.oneCell'=true:=by
 induction l with
 | nil=>intro vs h _ v hv;rw[yB]at h;subst h;cases hv
 | cons a l ih=>
  intro vs h k v hv;rw[yB]at h;obtain⟨u,r,rfl,h1,h2⟩:=h
  rcases ybs.1 hv with rfl | hv
  ·exact h1.one (k a (by simp))
  ·exact ih h2 (fun b hb=>k b (by simp[hb])) v hv
def aG.write{i:BI}{c:Tr zA}{n:Nat}{loose:Option Lo}{cs cs':Array Value}{elem:TypeId}{fr:Nat × Nat}(h:aG μ i (.cells c n loose) (.cells cs elem fr)){l:List zA}{vs:List Value}(hl:yB μ l vs)
  {off:Nat} (hoff:off+l.length<=n) (hs:cs'.size=cs.size) (hj:∀j:Nat,cs'[j]?=if off<=j/\j<off+vs.length then vs[j-off]? else cs[j]?):aG μ i (.cells (c.setMany l off) n loose) (.cells cs' elem fr):=by
 obtain⟨cs0,elem0,fr0,e,h2,h3,h4,h5⟩:=h
 cases e
 have hlen:=hl.length
 refine⟨cs',elem,fr,rfl,by omega,by rw[hs];exact h3,fun j v hv=>?_,by rw[hs];exact h5⟩
 rw[Tr.get_setMany]at hv;split at hv
 ·rename_i hjr
  obtain⟨u,hu,hr⟩:=hl.get hv
  refine⟨by omega,u,?_,hr⟩
  rw[hj,yab (by omega)];exact hu
 ·rename_i hjr
  obtain⟨a,v',d,f⟩:=h4 j v hv
  refine⟨a,v',?_,f⟩
  rw[hj,yaa (by omega)];exact d
def ziy(hbase:B<=C.base)(hH:cA B N μ H w){b off:Nat}{l:List zA}{H':xA}(h:lH C H b off l=some H'){i:BI}(hi:μ b=some i){vs:List Value}(hl:yB μ l vs) :
  ∃w',(storeCells ⟨i.b,off,none⟩ vs).run P w=.ok () w'/\cA B N μ H' w'/\Below N w w':=by
 unfold lH at h;simp only[zB,uA,ybb,vE,gC,cG,ycp]at h;obtain⟨hb,c,hc,⟨hle,hall⟩,h⟩:=h
 cases h;have hb':B<=b:=by
  have:¬ b<C.base:=fun k=>by rw[dB.2 k]at hb;cases hb
  omega
 have hx:=dR hc
 obtain⟨o,h2,h3⟩:=hH.blk _ _ _ hx hi
 have h3':=h3
 obtain⟨cs,elem,fr,rfl,h4,h5,_,_⟩:=h3
 have hone:∀a∈l,a.one=true:=fun a ha=>ycb.1 hall a ha
 have hlen:=hl.length
 have hown:=hH.own b i hb' hi
 have h5:=h5.resolve_left (by rw[hown.2.2];simp)
 obtain⟨cs',hs,hj,hr⟩:=hZ (P:=P) (o:=off) vs 0 cs w h2 h5 (by omega) (hl.one hone)
 exact⟨_,hr,hH.upd hx hi hb' (h3'.write hl hle hs (by simpa using hj)),gP hown.1⟩
def yB.rel_one{l:List zA}{vs:List Value}(hl:yB μ l vs){i:BI}(ht:i.tight=true){elem:TypeId}:aG μ i (.cells (Tr.ofList l) (aA l) none) (.cells vs.toArray elem (0,0)):=by
 have hlen:=hl.length
 refine⟨vs.toArray,elem,(0,0),rfl,by rw[gC];simp[hlen],.inr (.inl (ybk _)),fun j v hv=>?_,ht⟩
 rw[Tr.get_ofList]at hv;obtain⟨u,hu,hr⟩:=hl.get hv
 refine⟨by rw[gC];exact(ybc.1 hv).1,u,by simpa using hu,hr⟩
def cA.newTight(hH:cA B N μ H w){l:List zA}{vs:List Value}(hl:yB μ l vs)(elem:TypeId) :
  cA B N (μ.ext H.next ⟨w.heap.size,true,0,0,false⟩) (bD H l none) (w.alloc (.cells vs.toArray elem)):=
 hH.newBlk rfl rfl ((yB.mono (Mu.ext_le (hH.fresh _ (ybk _)).1).f _ _ hl).rel_one rfl)
def cA.newTag(hH:cA B N μ H w){l:List zA}{vs:List Value}(hl:yB μ l vs)(elem:TypeId) :
  cA B N (μ.ext H.next ⟨w.heap.size,false,1,vs.length,false⟩) (bD H l (some (.ty elem))) (w.alloc (.cells vs.toArray elem)):=by
 have h:=(yB.mono (Mu.ext_le (hH.fresh _ (ybk _)).1 (i:=⟨w.heap.size,false,1,vs.length,false⟩)).f _ _ hl)
 have hn:=hl.length
 refine hH.newBlk rfl rfl ⟨vs.toArray,elem,(0,0),rfl,by rw[gC];simp[hn],.inr (.inl (ybk _)),fun j v hv=>?_,rfl,rfl,by simp,fun t e=>by cases e;rfl⟩
 rw[Tr.get_ofList]at hv;obtain⟨u,hu,hr⟩:=h.get hv
 exact⟨by rw[gC];exact(ybc.1 hv).1,u,by simpa using hu,hr⟩
def bL(h:N<=w.heap.size)(o:Obj):Below N w (w.alloc o):=(Below.refl N w).alloc h o
def Mu.wait(μ:Mu)(a:Nat)(x:qA × Nat × Nat):Mu:=⟨μ.m,fun b=>if b=a then some x else μ.pd b⟩
def Mu.land(μ:Mu)(a:Nat)(i:BI):Mu:=⟨fun b=>if b=a then some i else μ b,fun b=>if b=a then none else μ.pd b⟩
def cA.early(hH:cA B N μ H w){x:qA}{t:Nat × Nat}:cA B N (μ.wait H.next (x,t)) (Am.newBlk H x) w:=by
 have hget:∀a,(Am.newBlk H x).t.get a=if a=H.next then some x else H.t.get a:=fun a=>Tr.get_set _ _ _ _
 have hn:=hH.fresh _ (ybk _)
 have gone:∀a i,μ a=some i->a≠H.next:=fun a i h e=>by rw[e,hn.1]at h;cases h
 have bm:∀i y o,aG μ i y o->aG (μ.wait H.next (x,t)) i y o:=fun i y o h=>aG.mono (μ:=μ) (ν:=μ.wait H.next (x,t)) (fun _ _ h=>h) h
 refine⟨hH.base,hH.glob,fun a y i ha hy hi=>?_,by have:=hH.next;show B<=H.next+1;omega,hH.size,fun a ha=>?_,fun a y i hy hi=>?_,hH.own,fun a b y z i j hy hz hi hj=>?_,fun a y s ha=>?_⟩
 ·rw[hget,yaa (gone a i hi)]at hy;exact hH.low a y i ha hy hi
 ·have ha':H.next+1<=a:=ha
  have:=hH.fresh a (by omega)
  exact⟨this.1,by rw[hget,yaa (by omega)];exact this.2⟩
 ·rw[hget,yaa (gone a i hi)]at hy
  obtain⟨o,h1,h2⟩:=hH.blk a y i hy hi
  exact⟨o,h1,bm _ _ _ h2⟩
 ·rw[hget,yaa (gone a i hi)]at hy
  rw[hget,yaa (gone b j hj)]at hz
  exact hH.inj a b y z i j hy hz hi hj
 ·change (if a=H.next then some (x,t)else μ.pd a)=some (y,s)at ha
  split at ha
  ·rename_i e;cases ha;subst e
   exact⟨hn.1,by rw[hget,yab rfl],hH.next⟩
  ·rename_i e
   obtain⟨h1,h2,h3⟩:=hH.pnd a y s ha
   exact⟨h1,by rw[hget,yaa e];exact h2,h3⟩
def cA.late(hH:cA B N μ H w){a:Nat}{x:qA}{t:Nat × Nat}{o:Obj}{i:BI}(hp:μ.pd a=some (x,t))(hib:i.b=w.heap.size)(hro:i.ro=false)(hx:aG (μ.land a i) i x o):cA B N (μ.land a i) H (w.alloc o):=by
 obtain⟨p1,p2,p3⟩:=hH.pnd a x t hp
 have lg:∀b,(μ.land a i) b=if b=a then some i else μ b:=fun _=>rfl
 have hle:μ.lw (μ.land a i):=fun b j hj=>by
  rw[lg,yaa fun e=>by rw[e,p1]at hj;cases hj];exact hj
 have hbase:=hH.base
 refine⟨hH.base,fun g hg=>by rw[lg,yaa (by omega)];exact hH.glob g hg,fun b y j hb hy hj=>?_,hH.next,by have:=hH.size;simp;omega,fun b hb=>?_,fun b y j hy hj=>?_,fun b j hb hj=>?_,fun b c y z j k hy hz hj hk hb hc hjk=>?_,fun b y s hb=>?_⟩
 ·rw[lg,yaa (by omega)]at hj;exact hH.low b y j hb hy hj
 ·have:=hH.fresh b hb
  rw[lg,yaa fun e=>by rw[e,p2]at this;cases this.2]
  exact this
 ·rw[lg]at hj
  split at hj
  ·rename_i e;subst e;cases hj
   rw[p2]at hy;cases hy;exact⟨o,by rw[hib];show(w.heap.push o)[w.heap.size]?=some o;simp,hx⟩
  ·obtain⟨q,h2,h3⟩:=hH.blk b y j hy hj
   refine⟨q,?_,h3.mono hle⟩
   rw[Below.heap_alloc];exact h2
   exact(ybe.1 h2).1
 ·rw[lg]at hj
  split at hj
  ·cases hj;rw[hib];exact⟨hH.size,by simp,hro⟩
  ·have:=hH.own b j hb hj;exact⟨this.1,by simp;omega,this.2.2⟩
 ·rw[lg]at hj hk
  by_cases eb:b=a
  ·by_cases ec:c=a
   ·rw[eb,ec]
   ·exfalso
    rw[yab eb]at hj;rw[yaa ec]at hk
    cases hj;have:=(hH.own c k hc hk).2.1;omega
  ·by_cases ec:c=a
   ·exfalso
    rw[yaa eb]at hj;rw[yab ec]at hk
    cases hk;have:=(hH.own b j hb hj).2.1;omega
   ·rw[yaa eb]at hj;rw[yaa ec]at hk
    exact hH.inj b c y z j k hy hz hj hk hb hc hjk
 ·change (if b=a then none else μ.pd b)=some (y,s)at hb
  split at hb
  ·cases hb
  ·rename_i e
   obtain⟨h1,h2,h3⟩:=hH.pnd b y s hb
   exact⟨by rw[lg,yaa e];exact h1,h2,h3⟩
def cA.ext_le(hH:cA B N μ H w){i:BI}:μ.le (μ.ext H.next i):=Mu.ext_le (hH.fresh _ (ybk _)).1
end
end
section
section
variable {P:Program}{C:oA}{B N:Nat}{μ:Mu}{H H':xA}{w:World}
variable {e:nC}{ρ:Operand->Value}{dst:Option Tmp}{type:TypeId}{pos:String}{after:Array Edge}{guard:Option (Nat × Bool)}{v:zA}
def zn6 (P:Program)(B N:Nat)(μ:Mu)(w:World)(ρ:Operand->Value)(o:Oper)(v:zA)(H':xA):Prop:=
 ∃v' w' μ',((execOp ρ o).run P w=.ok (.value v') w'\/((execOp ρ o).run P w=.ok .skip w'/\v'=undef))/\μ.le μ'/\cA B N μ' H' w'/\Below N w w'/\wA μ' v v'
def LOk.hv(hH:cA B N μ H w){o:Oper}(h:LOk P μ w ρ o v):zn6 P B N μ w ρ o v H:=by
 obtain⟨v',h1,h2⟩:=h
 exact⟨v',w,μ,.inl h1,μ.le_refl,hH,Below.refl _ _,h2⟩
def uL{x:Option (zA × xA)}{v:zA}{H':xA}(h:eI x=.val v H'):x=some (v,H'):=by
 unfold eI at h;split at h
 ·injection h with h1 h2;rw[<- h1,<- h2]
 ·cases h
def tQ{elem:TypeId}{cs:Array Value}:(newRow elem cs).run P w=.ok ⟨w.heap.size,0,none⟩ (w.alloc (.cells cs elem)):=by
 simp[newRow]
def vX{elem:TypeId}{v:Value}:(newVar elem v).run P w=.ok ⟨w.heap.size,0,none⟩ (w.alloc (.cells v.cells elem)):=tQ
def zir:wA μ tD undef:=by rw[tD,wA];exact⟨_,rfl,.nil⟩
def zrb{t:Nat}{e:Lo}(h:tI C t=some e):e=.ty t:=by
 unfold tI at h;rw[iB]at h;split at h
 ·cases h;rfl
 ·split at h<;>cases h;rfl
def cA.newVar(hH:cA B N μ H w){l:List zA}{vs:List Value}(hl:yB μ l vs){t:Nat} :
  ∃i:BI,i.b=w.heap.size/\cA B N (μ.ext H.next i) (bD H l (tI C t)) (w.alloc (.cells vs.toArray t)):=by
 cases ht:tI C t with
 | none=>exact⟨_,rfl,hH.newTight hl t⟩
 | some e=>
  have:=zrb ht
  subst this;exact⟨_,rfl,hH.newTag hl t⟩
def zxo(hT:rE P C)(hH:cA B N μ H w){t:Nat}(h:kR t C e H=.val v H'):zn6 P B N μ w ρ ⟨dst,.alloc t,type,pos,after,guard⟩ v H':=by
 have h:=uL h
 simp only[uA]at h;obtain⟨ty,hty,h⟩:=h
 cases h;obtain⟨z,hz,_,hzl⟩:=(hT.facts hty).zero (μ:=μ)
 obtain⟨i,hi,hn⟩:=hH.newVar (C:=C) (t:=t) hzl
 refine⟨.pointer (some ⟨w.heap.size,0,none⟩),w.alloc (.cells z.cells t),_,.inl ?_,hH.ext_le,by rwa [Array.toArray_toList]at hn,bL hH.size _,by rw[wA];exact⟨_,Mu.ext_same,by rw[hi]⟩⟩
 simp only[execOp,Instr.alloc,yad,hz,yac,vX,yae]
def z6m(hH:cA B N μ H w)(hE:kE μ e ρ){t:Nat}{x:Operand}(h:z1x t x C e H=.val v H'):zn6 P B N μ w ρ ⟨dst,.box t x,type,pos,after,guard⟩ v H':=by
 have h:=uL h
 simp only[uA]at h;obtain⟨a,ha,h⟩:=h
 cases h;obtain⟨i,hi,hn⟩:=hH.newVar (C:=C) (t:=t) (sY (hE _ _ ha))
 refine⟨.pointer (some ⟨w.heap.size,0,none⟩),w.alloc (.cells (ρ x).cells t),_,.inl ?_,hH.ext_le,by rwa [Array.toArray_toList]at hn,bL hH.size _,by rw[wA];exact⟨_,Mu.ext_same,by rw[hi]⟩⟩
 simp only[execOp,Instr.box,yad,vX,yac,yae]
def zcy(z:List zA):∀n,(dI z n).length=n*z.length:=by
 intro n;induction n with
 | zero=>simp[dI]
 | succ n ih=>rw[dI,oG,ybg,ih,ybo];omega
def z0l(z:List zA):∀(n j:Nat),j<n*z.length->(dI z n)[j]?=z[j%z.length]?:=by
 intro n;induction n with
 | zero=>intro j hj;simp at hj
 | succ n ih=>
  intro j hj;rw[dI,oG];by_cases h:j<z.length
  ·rw[yco h,Nat.mod_eq_of_lt h]
  ·rw[ybp (by omega),ih _ (by rw[ybo]at hj;omega)]
   congr 1
   rw[Nat.mod_eq_sub_mod (by omega:z.length<=j)]
def zl8{z:List zA}{zv:Array Value}(hz:yB μ z zv.toList)(n:Nat):yB μ (dI z n) ((Array.range (n*z.length)).map (zv[· % zv.size]!)).toList:=by
 have hl:=hz.length
 simp only[ycz]at hl;refine yB.mk (by simp[zcy]) fun j a v ha hv=>?_
 have hj:j<n*z.length:=by rw[<- zcy];exact(ybc.1 ha).1
 rw[z0l z n j hj]at ha;obtain⟨u,hu,hr⟩:=hz.get ha
 have hpos:0<z.length:=by
  rcases yav z.length with h0 | h0
  ·rw[h0]at hj;simp at hj
  ·exact h0
 have hm:j%z.length<z.length:=ycy _ hpos
 simp only[Array.toList_map,ybu,Array.toList_range,List.getElem?_range hj,Option.map_some,Option.some.injEq]at hv;rw[<- hv,hl];have:zv[j%z.length]! = u:=by
  have h1:zv[j%z.length]?=some u:=by simpa using hu
  rw[getElem!_def,h1]
 rw[this];exact hr
def zet(hT:rE P C)(hH:cA B N μ H w)(hE:kE μ e ρ){t len:Nat}{parts:Array (Nat × Operand)}(h:lR t len parts C e H=.val v H'):zn6 P B N μ w ρ ⟨dst,.buildSlice t len parts,type,pos,after,guard⟩ v H':=by
 have h:=uL h
 simp only[uA,zB,ybb,dB,pB,gC]at h;obtain⟨ty,hty,el,hel,et,het,⟨hlt,hzs⟩,ps,hps,l,hl,h⟩:=h
 cases h;have hF:=hT.facts het
 obtain⟨z,hz,_,hzl⟩:=hF.zero (μ:=μ)
 have hzlen:=hzl.length
 simp only[ycz]at hzlen;have hrel:=zl8 hzl len
 rw[hzs]at hrel;obtain⟨out,ho,hr⟩:=zbx (hE.parts hps) hrel hl
 have hol:out.size=l.length:=by simpa using hr.length
 refine⟨.slice (some ⟨w.heap.size,0,none⟩) len len,w.alloc (.cells out el),_,.inl ?_,hH.ext_le,by have:=hH.newTight hr el;rwa [Array.toArray_toList]at this,bL hH.size _,?_⟩
 ·have h1:¬ len*et.size > 2^24:=by omega
  by_cases h0:len*et.size=0
  ·have harr:((Array.range (len*et.size)).map ((#[]:Array Value)[· % (#[]:Array Value).size]!))=(Array.range (len*et.size)).map (z.cells[· % z.cells.size]!):=by rw[h0];simp
   simp only[execOp,Instr.buildSlice,yad,wE (fM (hT.facts hty) hel),yac,hF.size,yaa h1,yab h0,yae,harr,Array.toList_map,ho,tQ]
  ·simp only[execOp,Instr.buildSlice,yad,wE (fM (hT.facts hty) hel),yac,hF.size,yaa h1,yaa h0,yae,hz,Array.toList_map,ho,tQ]
 ·rw[wA];exact .inl ⟨_,len,Mu.ext_same,rfl,ybk _,fun _=>rfl,fun h=>by cases h⟩
def z14(hT:rE P C)(hE:kE μ e ρ)(o:Oper)(hf:wI o.op=true)(hlo:z06 C o.op=none)(h:(aE o.op).f C e H=.val v H') :
  ∃l vs v' elem,H'=bD H l none/\(execOp ρ o).run P w=.ok (.value v') (w.alloc (.cells vs elem))/\yB μ l vs.toList/\∀(ν:Mu) (i:BI),ν H.next=some i->i.b=w.heap.size->i.tight=true->wA ν v v':=by
 obtain⟨dst,op,type,pos,after,guard⟩:=o
 cases op<;>first | (simp[wI]at hf;done) | skip
 case alloc t=>
  have h:=uL (show kR t C e H=.val v H' from h)
  rw[show tI C t=none from hlo]at h;simp only[uA]at h;obtain⟨ty,hty,h⟩:=h
  cases h;obtain⟨z,hz,_,hzl⟩:=(hT.facts hty).zero (μ:=μ)
  refine⟨_,z.cells,.pointer (some ⟨w.heap.size,0,none⟩),t,rfl,?_,hzl,fun ν i h1 h2 _=>by rw[wA];exact⟨i,h1,by rw[h2]⟩⟩
  simp only[execOp,Instr.alloc,yad,hz,yac,vX,yae]
 case box t x=>
  have h:=uL (show z1x t x C e H=.val v H' from h)
  rw[show tI C t=none from hlo]at h;simp only[uA]at h;obtain⟨a,ha,h⟩:=h
  cases h;refine⟨_,(ρ x).cells,.pointer (some ⟨w.heap.size,0,none⟩),t,rfl,?_,sY (hE _ _ ha),fun ν i h1 h2 _=>by rw[wA];exact⟨i,h1,by rw[h2]⟩⟩
  simp only[execOp,Instr.box,yad,vX,yac,yae]
 case buildSlice t len parts=>
  have h:=uL (show lR t len parts C e H=.val v H' from h)
  simp only[uA,zB,ybb,dB,pB,gC]at h;obtain⟨ty,hty,el,hel,et,het,⟨hlt,hzs⟩,ps,hps,l,hl,h⟩:=h
  cases h;have hF:=hT.facts het
  obtain⟨z,hz,_,hzl⟩:=hF.zero (μ:=μ)
  have hrel:=zl8 hzl len
  rw[hzs]at hrel;obtain⟨out,ho,hr⟩:=zbx (hE.parts hps) hrel hl
  refine⟨_,out,.slice (some ⟨w.heap.size,0,none⟩) len len,el,rfl,?_,hr,fun ν i h1 h2 h3=>by rw[wA];exact .inl ⟨i,len,h1,by rw[h2],ybk _,fun _=>rfl,fun h=>by rw[h3]at h;cases h⟩⟩
  have h1:¬ len*et.size > 2^24:=by omega
  by_cases h0:len*et.size=0
  ·have harr:((Array.range (len*et.size)).map ((#[]:Array Value)[· % (#[]:Array Value).size]!))=(Array.range (len*et.size)).map (z.cells[· % z.cells.size]!):=by rw[h0];simp
   simp only[execOp,Instr.buildSlice,yad,wE (fM (hT.facts hty) hel),yac,hF.size,yaa h1,yab h0,yae,harr,Array.toList_map,ho,tQ]
  ·simp only[execOp,Instr.buildSlice,yad,wE (fM (hT.facts hty) hel),yac,hF.size,yaa h1,yaa h0,yae,hz,Array.toList_map,ho,tQ]
def zse{o:Op}(hf:wI o=true)(hlo:z06 C o=none)(h:(aE o).f C e H=.val v H'):∃l,H'=bD H l none:=by
 cases o<;>first | (simp[wI]at hf;done) | skip
 case alloc t=>
  have h:=uL (show kR t C e H=.val v H' from h)
  rw[show tI C t=none from hlo]at h;simp only[uA]at h;obtain⟨ty,hty,h⟩:=h
  cases h;exact⟨_,rfl⟩
 case box t x=>
  have h:=uL (show z1x t x C e H=.val v H' from h)
  rw[show tI C t=none from hlo]at h;simp only[uA]at h;obtain⟨a,ha,h⟩:=h
  cases h;exact⟨_,rfl⟩
 case buildSlice t len parts=>
  have h:=uL (show lR t len parts C e H=.val v H' from h)
  simp only[uA,zB]at h;obtain⟨ty,hty,el,hel,et,het,_,ps,hps,l,hl,h⟩:=h
  cases h;exact⟨_,rfl⟩
def zm7{e':nC}(h:∀x,ev x e=ev x e'){o:Op}(hf:wI o=true)(H:xA):(aE o).f C e H=(aE o).f C e' H:=by
 cases o<;>first | (simp[wI]at hf;done) | rfl | skip
 case box t x=>show z1x t x C e H=z1x t x C e' H;simp only[z1x,h]
 case buildSlice t len ps=>show lR t len ps C e H=lR t len ps C e' H;simp only[lR,evp,h]
def zj9(hT:rE P C)(hbase:B<=C.base)(hH:cA B N μ H w)(hE:kE μ e ρ){t:Nat}{a x:Operand}(h:zka t a x C e H=.val v H'):zn6 P B N μ w ρ ⟨dst,.store t a x,type,pos,after,guard⟩ v H':=by
 have h:=uL h
 simp only[uA,zB,pB,gC,kT]at h;obtain⟨ty,hty,av,ha,p,rfl,xv,hx,hs,H1,h1,h⟩:=h
 cases h;have hF:=hT.facts hty
 have hp:=hE _ _ ha
 rw[wA]at hp;obtain⟨i,hi,hpv⟩:=hp
 have hc:=sY (hE _ _ hx)
 obtain⟨w',h2,h3,h4⟩:=ziy (P:=P) hbase hH h1 hi hc
 have hcl:=hc.length
 simp only[ycz]at hcl;refine⟨undef,w',μ,.inr ⟨?_,rfl⟩,μ.le_refl,h3,h4,zir⟩
 have h5:¬ (ρ x).cells.size≠ty.size:=by omega
 simp only[execOp,Instr.storeAt,hpv,Instr.sureAddr,yad,yae,yac,storeVar,hF.size,Sem.run_ite,yaa h5,h2]
def zm4(hH:cA B N μ H w){t:Nat}{r:Option Operand}(h:sW r C e H=.val v H'):zn6 P B N μ w ρ ⟨dst,.makeMap t r,type,pos,after,guard⟩ v H':=by
 unfold sW at h;split at h
 ·injection h with h1 h2
  subst h1 h2
  refine⟨.map (some w.heap.size),w.alloc (.map #[] 0),_,.inl ?_,hH.ext_le,hH.newBlk (i:=⟨w.heap.size,true,0,0,false⟩) rfl rfl ⟨#[],0,[],rfl,.inl rfl,.nil⟩,bL hH.size _,by rw[wA];exact⟨_,Mu.ext_same,rfl⟩⟩
  simp[execOp,Instr.makeMap]
 ·cases h
def zht(hT:rE P C)(hH:cA B N μ H w)(hE:kE μ e ρ){t:Nat}{l c:Operand}(h:zav t l c C e H=.val v H'):zn6 P B N μ w ρ ⟨dst,.makeSlice t l c,type,pos,after,guard⟩ v H':=by
 have h:=uL h
 simp only[uA,zB,ybb,vE,dB,pB,gC,lY]at h;obtain⟨ty,hty,el,hel,et,het,lv',hl,ln,⟨k1,rfl⟩,cv,hc,cn,⟨k2,rfl⟩,⟨⟨⟨h1,h2⟩,h3⟩,h4⟩,h⟩:=h
 cases h;have hF:=hT.facts het
 obtain⟨z,hz,_,hzl⟩:=hF.zero (μ:=μ)
 have hrel:=zl8 hzl cn
 rw[h4]at hrel;have hlv:=hE _ _ hl
 rw[wA]at hlv;have hcv:=hE _ _ hc
 rw[wA]at hcv;obtain⟨inf,hinf,hsz,hby,_⟩:=hF.info
 refine⟨.slice (some ⟨w.heap.size,0,none⟩) ln cn,w.alloc (.cells ((Array.range (cn*et.size)).map (z.cells[· % z.cells.size]!)) el),_,.inl ?_,hH.ext_le,by have:=hH.newTight hrel el;rwa [Array.toArray_toList]at this,bL hH.size _,?_⟩
 ·have hw1:IntKind.i64.wrap (ln:Int)=ln:=pS (by simp[nF];omega)
  have hw2:IntKind.i64.wrap (cn:Int)=cn:=pS (by simp[nF];omega)
  have hb:(et.bytes:Int)*(cn:Int)=((cn*et.bytes:Nat):Int):=by rw[Int.mul_comm];simp
  have hc1:(((cn:Int)<0||decide ((et.bytes:Int)*(cn:Int) > 2^48))||decide ((ln:Int)<0)||decide ((ln:Int) > (cn:Int)))=false:=by
   rw[hb];simp;omega
  have hnn:¬ ((((cn:Int)<0||decide ((et.bytes:Int)*(cn:Int) > 2^48))||decide ((ln:Int)<0)||decide ((ln:Int) > (cn:Int)))=true):=by rw[hc1];simp
  by_cases h0:cn*et.size=0
  ·have harr:((Array.range (cn*et.size)).map ((#[]:Array Value)[· % (#[]:Array Value).size]!))=(Array.range (cn*et.size)).map (z.cells[· % z.cells.size]!):=by rw[h0];simp
   simp only[execOp,Instr.makeSlice,yad,wE (fM (hT.facts hty) hel),yac,hlv,hcv,asInt,asIntOf,yae,iS hinf,hby,hw1,hw2,yaa hnn,run_askRoom,hF.size,Int.toNat_natCast,yab h0,harr,tQ]
  ·simp only[execOp,Instr.makeSlice,yad,wE (fM (hT.facts hty) hel),yac,hlv,hcv,asInt,asIntOf,yae,iS hinf,hby,hw1,hw2,yaa hnn,run_askRoom,hF.size,Int.toNat_natCast,yaa h0,hz,tQ]
 ·rw[wA];exact .inl ⟨_,cn,Mu.ext_same,rfl,ybk _,fun _=>rfl,fun h=>by cases h⟩
end
end
section
section
variable {P:Program}{C:oA}{B N:Nat}{μ:Mu}{H H':xA}{w:World}
variable {e:nC}{ρ:Operand->Value}{dst:Option Tmp}{type:TypeId}{pos:String}{after:Array Edge}{guard:Option (Nat × Bool)}{v:zA}
def zte(μ:Mu)(p:zA × zA)(e:MapEntry):Prop:=wA μ p.1 e.key/\wA μ p.2 e.val
def zdo{n:Nat}{a b:zA}{va vb:Value}(ha:wA μ a va)(hb:wA μ b vb)(h:bK a b=some true):Instr.sameBits n vb va=true:=by
 rcases nU h with⟨k,x,y,rfl,rfl,hr⟩ | ⟨x,y,rfl,rfl,hr⟩ | ⟨x,y,rfl,rfl,hr⟩<;>rw[wA]at ha<;>rw[wA]at hb
 ·have:x=y:=by simpa using hr.symm
  rw[ha,hb,this];simp[Instr.sameBits]
 ·obtain⟨s,rfl,rfl⟩:=ha
  obtain⟨u,rfl,rfl⟩:=hb
  have h1:=oY ((mK _ _).1 hr.symm)
  rw[h1];have h2:(u == u)=true:=by
   show(u.data == u.data)=true
   simp
  simp only[Instr.sameBits,h2]
 ·have:x=y:=by simpa using hr.symm
  rw[ha,hb,this];simp[Instr.sameBits]
def zdi{n:Nat}:∀ {x y:List zA} {vx vy:List Value},yB μ x vx->yB μ y vy->uN x y=some true->vy.length=vx.length/\((vy.zip vx).all fun(a,b)=>Instr.sameBits n a b)=true
 | [],[],vx,vy,hx,hy,_=>by
  rw[yB]at hx hy;subst hx;subst hy;exact⟨rfl,rfl⟩
 | a::x,b::y,vx,vy,hx,hy,h=>by
  simp only[uN,uA]at h;obtain⟨r,hr,s,hs,h⟩:=h
  cases r<;>cases s<;>simp at h
  rw[yB]at hx hy;obtain⟨va,rx,rfl,h1,h2⟩:=hx
  obtain⟨vb,ry,rfl,h3,h4⟩:=hy
  obtain⟨g1,g2⟩:=zdi (n:=n) h2 h4 hs
  exact⟨by simp[g1],by rw[List.zip_cons_cons,ycg,g2];simp[zdo h1 h3 hr]⟩
 | [],_::_,_,_,_,_,h=>by cases h
 | _::_,[],_,_,_,_,h=>by cases h
def zr5{a b:zA}{va vb:Value}(ha:wA μ a va)(hb:wA μ b vb)(h:kG a b=some true):Instr.sameBits 10000 vb va=true:=by
 rcases vW h with⟨x,y,rfl,rfl,h⟩ | ⟨_,h⟩
 ·rw[wA]at ha hb
  obtain⟨cx,rfl,hx⟩:=ha
  obtain⟨cy,rfl,hy⟩:=hb
  obtain⟨g1,g2⟩:=zdi (n:=9999) hx hy h
  rw[Instr.sameBits];simp only[ycz]at g1;rw[g2,Bool.and_true,beq_iff_eq];exact g1
 ·exact zdo ha hb h
def zfe{k v:zA}{kv vv:Value}(hk:wA μ k kv)(hv:wA μ v vv){F:List MapEntry->Nat->Sem (Option (Nat × Value))}(hF0:∀i,(F [] i).run P w=.ok none w)
  (hF1:∀(p:zA) (e:MapEntry) (es:List MapEntry) (i:Nat) (q:Bool),wA μ p e.key->kG k p=some q->(F (e::es) i).run P w=if q then .ok (some (i,e.val)) w else(F es (i+1)).run P w) {l:List (zA × zA)} {es:List MapEntry} (hl:rC (zte μ) l es) :
  ∀ {i:Nat} {l':List (zA × zA)},sJ k v l=some l' →
   (∃(j:Nat) (e0:MapEntry),(F es i).run P w=.ok (some (i+j,e0.val)) w/\es[j]?=some e0/\Instr.sameBits 10000 e0.key kv=true/\rC (zte μ) l' (es.set j { e0 with key:=kv,val:=vv })) ∨
   ((F es i).run P w=.ok none w/\∀born,rC (zte μ) l' (es++[⟨kv,vv,born⟩])):=by
 induction hl with
 | nil=>intro i l' h;rw[sJ]at h;cases h;exact .inr ⟨hF0 i,fun born=>.cons ⟨hk,hv⟩ .nil⟩
 | @cons p e l es hpe hrest ih=>
  intro i l' h;rw[sJ,uA]at h;obtain⟨q,hq,h⟩:=h
  have h1:=hF1 p.1 e es i q hpe.1 hq
  cases q with
  | true=>
   rw[cond_true]at h
   cases h;refine .inl ⟨0,e,by rw[h1];simp,by simp,zr5 hk hpe.1 hq,?_⟩
   exact .cons ⟨hk,hv⟩ hrest
  | false=>
   rw[cond_false,uA]at h;obtain⟨r,hr,h⟩:=h
   cases h;simp only[ybq,if_false]at h1;rcases ih (i:=i+1) hr with⟨j,e0,h2,h3,h4,h5⟩ | ⟨h2,h3⟩
   ·refine .inl ⟨j+1,e0,?_,by simpa using h3,h4,?_⟩
    ·rw[h1,h2,show i+1+j=i+(j+1) by omega]
    ·exact .cons hpe h5
   ·exact .inr ⟨by rw[h1];exact h2,fun born=>.cons hpe (h3 born)⟩
def zu6(hT:rE P C){t:Nat}{ty:uC}(hty:C.tys.get t=some ty)(hkt:sN C ty=true){k v:zA}{kv vv:Value}(hfit:mL C ty k=true)(hk:wA μ k kv)(hv:wA μ v vv){l l':List (zA × zA)}{es:List MapEntry}(hl:rC (zte μ) l es)(h:sJ k v l=some l') :
  (∃(j:Nat) (e0:MapEntry),(Instr.findKey t kv es).run P w=.ok (some (j,e0.val)) w/\es[j]?=some e0/\Instr.sameBits 10000 e0.key kv=true/\rC (zte μ) l' (es.set j { e0 with key:=kv,val:=vv })) ∨
   ((Instr.findKey t kv es).run P w=.ok none w/\∀born,rC (zte μ) l' (es++[⟨kv,vv,born⟩])):=by
 have hF:=hT.facts hty
 rcases rZ hkt with hkd | ⟨fs,hkd,hfs,hok,hfl⟩
 ·obtain⟨D,hD⟩:=hF.und
  have hfits:=zau hF hD hkd (tZ hkd hfit)
  have hfk:∀(q:Option (Nat × Value)),Instr.findNow D kv es 0=some q->(Instr.findKey t kv es).run P w=.ok q w:=by
   intro q hq;unfold Instr.findKey;simp only[yad,wE hD,yac,hq,yae]
  have back : ∀ (q : Option (Nat × Value)), ((fun es i => (match Instr.findNow D kv es i with | some r => pure r | none => stuck "" : Sem (Option (Nat × Value)))) es 0).run P w = .ok q w -> Instr.findNow D kv es 0 = some q := by
   intro q hq;simp only[]at hq
   cases hn:Instr.findNow D kv es 0 with
   | none=>rw[hn]at hq;simp[stuck]at hq
   | some r=>rw[hn]at hq;simp only[yae]at hq;injection hq with h1 _;rw[h1]
  have hF1 : ∀ (p : zA) (e : MapEntry) (es : List MapEntry) (i : Nat) (q : Bool), wA μ p e.key -> kG k p = some q -> ((fun es i => (match Instr.findNow D kv es i with | some r => pure r | none => stuck "" : Sem (Option (Nat × Value)))) (e :: es) i).run P w = if q then .ok (some (i, e.val)) w else ((fun es i => (match Instr.findNow D kv es i with | some r => pure r | none => stuck "" : Sem (Option (Nat × Value)))) es (i + 1)).run P w := by
   intro p e es i q hp hq;have h1:=zff hfits hk hp (hfits.eq1 hq)
   simp only[Instr.findNow,h1]
   cases q<;>rfl
  rcases zfe (P := P) (w := w) (F := fun es i => match Instr.findNow D kv es i with | some r => pure r | none => stuck "") hk hv (fun i => rfl) hF1 hl (i := 0) h with ⟨j, e0, g1, g2, g3, g4⟩ | ⟨g1, g2⟩
  ·refine .inl ⟨j,e0,?_,g2,g3,g4⟩
   have:=hfk _ (back _ g1)
   simpa using this
  ·exact .inr ⟨hfk _ (back _ g1),g2⟩
 ·obtain⟨x,rfl,hx⟩:=uZ hkd hfs hfit
  obtain⟨g,hg,rfl⟩:=wT hF hfs
  rw[cZ hg];have hF1:∀(p:zA) (e:MapEntry) (es:List MapEntry) (i:Nat) (q:Bool),wA μ p e.key->kG (.agg x) p=some q->(Instr.findAsking t kv (e::es) i).run P w=if q then .ok (some (i,e.val)) w else(Instr.findAsking t kv es (i+1)).run P w:=by
   intro p e es i q hp hq;have h1:=zdl (P:=P) (w:=w) hT hty hfs hok hfl hx hk hp hq
   simp only[Instr.findAsking,yad,h1,yac]
   cases q<;>rfl
  rcases zfe (P:=P) (w:=w) (F:=fun es i=>Instr.findAsking t kv es i) hk hv (fun i=>rfl) hF1 hl (i:=0) h with⟨j,e0,g1,g2,g3,g4⟩ | ⟨g1,g2⟩
  ·exact .inl ⟨j,e0,by simpa using g1,g2,g3,g4⟩
  ·exact .inr ⟨g1,g2⟩
def aT{r:Nat}{o o':Obj}(h:w.heap[r]?=some o)(hc:∀a b c,o≠.cells a b c):(setObj r o').run P w=.ok () (World.setBlk w r o'):=by
 simp only[setObj,Sem.run,h];rfl
def zjr(hT:rE P C)(hbase:B<=C.base)(hH:cA B N μ H w)(hE:kE μ e ρ){t:Nat}{m k x:Operand}(h:mR t m k x C e H=.val v H') :
  ∃w',(Instr.mapUpdate t (ρ m) (ρ k) (ρ x)).run P w=.ok () w'/\cA B N μ H' w'/\Below N w w'/\v=tD:=by
 have h:=uL h
 simp only[uA,zB,kY,ycp]at h;obtain⟨ty,hty,ke,hke,kty,hkty,hkd,mv,hm,b,rfl,hbb,l,hl,kv,hk,hfit,xv,hx,l',hl',h⟩:=h
 cases h;have hKF:=hT.facts hkty
 have hmv:=hE _ _ hm
 rw[wA]at hmv;obtain⟨i,hi,hmv⟩:=hmv
 obtain⟨es,clock,lp,h1,hperm,h2⟩:=hH.mapAt hl hi
 obtain⟨lp',hlp',hperm'⟩:=zi3 hperm hl'
 have hb:B<=b:=by
  have:¬ b<C.base:=fun k=>by rw[dB.2 k]at hbb;cases hbb
  omega
 have hown:=hH.own b i hb hi
 have hu:=zqa (hT.facts hty) hke
 have hck:=zba (P:=P) (w:=w) (empty:=false) (d:=9998) (kv:=ρ k) hT hkty hkd hfit (hE _ _ hk)
 rcases zu6 (P:=P) (w:=w) hT hkty hkd hfit (hE _ _ hk) (hE _ _ hx) h2 hlp' with⟨j,e0,h3,h4,h5,h6⟩ | ⟨h3,h4⟩
 ·have h4':es[j]?=some e0:=by simpa using h4
  have hj:j<es.size:=(ybe.1 h4').1
  refine⟨World.setBlk w i.b (.map (es.modify j fun e=>{ e with key:=ρ k,val:=ρ x }) clock),?_,hH.upd (mY hl) hi hb ⟨_,clock,lp',rfl,hperm',?_⟩,gP hown.1,rfl⟩
  ·have h7:=h3
   simp only[Instr.mapUpdate,yad,wE hu,yac,hmv,kV h1 (by simp),hck,h7,h4',Option.map_some,Option.getD_some,Instr.keyThatStays,h5,if_true,yae,aT h1 (by simp)]
  ·have:(es.modify j fun e=>{ e with key:=ρ k,val:=ρ x }).toList=es.toList.set j { e0 with key:=ρ k,val:=ρ x }:=by
    apply List.ext_getElem?
    intro n;rw[Array.getElem?_toList,Array.getElem?_modify,ycw];by_cases e:j=n
    ·subst e
     rw[yab rfl,yab rfl,h4',yab (by simpa using hj)];rfl
    ·rw[yaa e,yaa e];simp
   rw[this];exact h6
 ·refine⟨World.setBlk w i.b (.map (es.push { key:=ρ k,val:=ρ x,born:=clock }) (clock+1)),?_,hH.upd (mY hl) hi hb ⟨_,clock+1,lp',rfl,hperm',?_⟩,gP hown.1,rfl⟩
  ·have h7:=h3
   simp only[Instr.mapUpdate,yad,wE hu,yac,hmv,kV h1 (by simp),hck,h7,aT h1 (by simp)]
  ·rw[Array.toList_push];exact h4 clock
def bX(hT:rE P C)(hbase:B<=C.base)(hH:cA B N μ H w)(hE:kE μ e ρ){t:Nat}{m k x:Operand}(h:mR t m k x C e H=.val v H') :
  zn6 P B N μ w ρ ⟨dst,.mapUpdate t m k x,type,pos,after,guard⟩ v H'/\zn6 P B N μ w ρ ⟨dst,.insert t m k x,type,pos,after,guard⟩ v H':=by
 obtain⟨w',h1,h2,h3,rfl⟩:=zjr (P:=P) hT hbase hH hE h
 constructor
 all_goals
  refine⟨undef,w',μ,.inr ⟨?_,rfl⟩,μ.le_refl,h2,h3,zir⟩
  simp only[execOp,yad,h1,yac,yae]
def zbc(s:ByteArray):yB μ (jO (aD s)) (s.data.map fun b=>Value.int .u8 b.toNat).toList:=by
 refine yB.mk (by simp[jO,aD]) fun j a v ha hv=>?_
 unfold jO aD at ha;simp only[ybu,Array.toList_map]at ha hv
 cases h:s.data.toList[j]? with
 | none=>rw[h]at ha;cases ha
 | some b=>
  rw[h]at ha hv;simp at ha hv;rw[<- ha,<- hv,wA]
def aZ(l:List Nat):(jO l).length=l.length:=by simp[jO]
def cA.newLoose(hH:cA B N μ H w){l:List zA}{cs:Array Value}{lo:Lo}(hlen:l.length<=cs.size)(hl:∀(j:Nat) a,l[j]?=some a->∃v,cs[j]?=some v/\wA μ a v)(elem:TypeId)(fr:Nat × Nat)(hfr:fr.2<=fr.1\/cs.size<=fr.1)(hmod:∀t,lo=.ty t->elem=t) :
  cA B N (μ.ext H.next ⟨w.heap.size,false,lo.es,cs.size,false⟩) (bD H l (some lo)) (w.alloc (.cells cs elem fr)):=by
 refine hH.newBlk rfl rfl ⟨cs,elem,fr,rfl,by rw[gC];exact hlen,.inr hfr,fun j v hv=>?_,rfl,rfl,rfl,hmod⟩
 rw[Tr.get_ofList]at hv;obtain⟨u,hu,hr⟩:=hl j v hv
 exact⟨by rw[gC];exact(ybc.1 hv).1,u,hu,hr.mono hH.ext_le.f _ _⟩
def z62(need old:Nat)(elem:TypeId)(t:Nat):need<=(Question.appendCap need old elem).cut t:=by simp[Question.cut]
def zaa(need old:Nat)(elem:TypeId):∃c,need<=c/\(choose (.appendCap need old elem)).run P w=.ok c w.drew:=by
 refine⟨(Question.appendCap need old elem).cut (w.tape w.drawn (.appendCap need old elem)),z62 _ _ _ _,?_⟩
 rw[run_choose];simp[Question.forced]
def cU:Below N w w.drew:=(Below.refl N w).drew
def zbf(hH:cA B N μ H w){el:Nat}(s:ByteArray):∃w' cap,(Conv.stringToBytes el s).run P w=.ok (.slice (some ⟨w.heap.size,0,none⟩) s.size cap) w'/\s.size<=cap ∧
  cA B N (μ.ext H.next ⟨w.heap.size,false,1,cap,false⟩) (bD H (jO (aD s)) (some (.ty el))) w'/\Below N w w':=by
 obtain⟨cap,hcap,hc⟩:=zaa (P:=P) (w:=w) s.size 0 el
 let cs:Array Value:=(s.data.map fun b=>Value.int .u8 b.toNat)++Array.replicate (cap-s.size) (.int .u8 0)
 have hsz:cs.size=cap:=by simp[cs];show s.data.size+(cap-s.size)=cap;have:s.data.size=s.size:=rfl;omega
 have hdat:(s.data.map fun b=>Value.int .u8 b.toNat).size=s.size:=by simp
 have hpush:∀X:Obj,(w.drew.heap.push X)[w.heap.size]?=some X:=fun X=>by show(w.heap.push X)[w.heap.size]?=_;simp
 refine⟨w.drew.alloc (.cells cs el (cap,cap+1)),cap,?_,hcap,?_,(cU).trans (bL (by simpa using hH.size) _)⟩
 ·unfold Conv.stringToBytes
  have hfz:(w.drew.alloc (.cells cs el)).freeze ⟨w.heap.size,cap,none⟩ 1=w.drew.alloc (.cells cs el (cap,cap+1)):=by
   unfold World.freeze;rw[yaa (by simp)]
   unfold World.alloc;congr 1
   apply Array.ext_getElem?
   intro k;rw[Array.getElem?_modify];by_cases e:k=w.heap.size
   ·subst e;rw[yab rfl,hpush,hpush];rfl
   ·rw[yaa (fun h=>e h.symm)]
    simp only[Array.getElem?_push];rw[yaa (by simpa using e),yaa (by simpa using e)]
  have hshape:(w.drew.alloc (.cells cs el)).shape? w.heap.size=some (el,cs.size):=by
   unfold World.shape? World.alloc
   simp only[hpush]
  simp only[yad,hc,yac,tQ,markStringish,run_shape];have h2:(w.drew.alloc (.cells cs el)).shape? w.drew.heap.size=some (el,cap):=by rw[<- hsz];exact hshape
  simp only[show((s.data.map fun b=>Value.int .u8 (b.toNat:Int))++Array.replicate (cap-s.size) (Value.int .u8 0))=cs from rfl,h2,run_freeze,yac,yae]
  rw[show(⟨w.drew.heap.size,cap,none⟩:Addr)=⟨w.heap.size,cap,none⟩ from rfl,hfz]
  rfl
 ·have:=(hH.drew).newLoose (l:=jO (aD s)) (cs:=cs) (lo:=.ty el) (by rw[aZ,oT,hsz];exact hcap) (fun j a ha=>?_) el (cap,cap+1) (.inr (by rw[hsz];exact ybk _)) (fun t e=>by cases e;rfl)
  ·rw[hsz]at this;exact this
  ·obtain⟨u,hu,hr⟩:=(zbc (μ:=μ) s).get ha
   refine⟨u,?_,hr⟩
   have hj:j<s.size:=by
    have:=(ybc.1 ha).1
    rw[aZ,oT]at this;exact this
   show((s.data.map fun b=>Value.int .u8 (b.toNat:Int))++_)[j]?=_
   rw[yaj (by rw[hdat];exact hj)]
   simpa using hu
def zm5(hT:rE P C)(hH:cA B N μ H w)(hE:kE μ e ρ){s d:Nat}{x:Operand}(h:kP s d x C e H=.val v H'):zn6 P B N μ w ρ ⟨dst,.convert s d x,type,pos,after,guard⟩ v H':=by
 unfold kP at h;split at h
 ·rename_i u hu
  injection h with h1 h2
  subst h1 h2
  exact(zpm hT hH hE hu).hv hH
 ·have h:=uL h
  simp only[uA,zB,nI,iO,gC]at h;obtain⟨sy,hsy,ty,hty,el,hel,et,het,k,hk,rfl,a,ha,l,rfl,h⟩:=h
  cases h;have hv:=hE _ _ ha
  rw[wA]at hv;obtain⟨str,hxv,rfl⟩:=hv
  obtain⟨w',cap,h1,h2,h3,h4⟩:=zbf (P:=P) (el:=el) hH str
  obtain⟨su,hsu⟩:=(hT.facts hsy).und
  refine⟨.slice (some ⟨w.heap.size,0,none⟩) str.size cap,w',_,.inl ?_,hH.ext_le,h3,h4,?_⟩
  ·have h5:(convert s d (ρ x)).run P w=.ok (.slice (some ⟨w.heap.size,0,none⟩) str.size cap) w':=by
    rw[hxv];simp only[convert,yad,wE hsu,wE (fM (hT.facts hty) hel),yac]
    cases su<;>simp only[wE (zh4 (hT.facts het) hk),yac,h1]
   simp only[execOp,yad,h5,yac,yae]
  ·rw[wA,oT]
   exact .inl ⟨_,cap,Mu.ext_same,rfl,h2,(fun h=>by cases h),(fun _=>by simp)⟩
end
end
end Go.Am
