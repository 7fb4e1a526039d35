/- Conversions, slices, indexes, maps, lengths; all the light operations together. -/
import Derived.Below
import Derived.Laws.BytesString
import Derived.Orders
import Derived.Test.YtefajchlhjcgpaaGreatDoorA01
set_option linter.all false
noncomputable section
namespace Go.Am
open Go
section
variable {P:Program}{C:iA}{B N:Nat}{μ:Mu}{H:xA}{w:World}
variable {e:vD}{ρ:Operand->Value}{dst:Option Tmp}{type:TypeId}{pos:String}{after:Array Edge}{guard:Option (Nat × Bool)}{v:zA}
theorem ZE{a:zA}{n:Nat}(h:jW a=some n):a=.int .u8 (n:Int)/\n<256:=by
 grind [jW,sA,kY,sB,iM,Oj,qC]
theorem YY(l:List Nat):∀s:ByteArray,(∀n∈l,n<256)->pF ((l.map fun n:Nat=>(n:Int)).foldl (fun r n=>r.push (UInt8.ofNat n.toNat)) s)=pF s++l:=by
 induction l with
 | nil=>simp_all
 | cons n l ih=>
  intro s h;rw[ycm,List.foldl_cons,ih _ fun m hm=>h m (by simp[hm])]
  have:pF (s.push (UInt8.ofNat (n:Int).toNat))=pF s++[n]:=by
   simp_all [pF]
  simp_all
theorem YX{μ:Mu}:∀ {l:List zA} {r:List Nat} {vs:List Value},pG jW l=some r->pB μ l vs->vs=r.map (fun n:Nat=>Value.int .u8 (n:Int))/\∀n∈r,n<256:=by
 intro l;induction l with
 | nil=>grind [Hh,pB]
 | cons a l ih=>
  grind [lO,sA,pB,ZE,vA]
theorem YF(hH:rB B N μ H w){a:zA}{x:Value}(hx:vA μ a x)(h:Ib H a=some v):∃v',(Conv.bytesToString x).run P w=.ok v' w/\vA μ v v'/\∃A l c,x=.slice A l c:=by
 unfold Ib at h;split at h
 ·rename_i s hs
  rw[Fi]at hs;subst hs;simp only[sA]at h;obtain⟨c,hc,l,hl,r,hr,h⟩:=h
  cases h;rw[vA]at hx;rcases hx with⟨i,cap',hi,rfl,_⟩ | ⟨_,h0,_,A,_,rfl,_⟩
  rotate_left
  ·rw[h0]at hl
   cases hl
   cases hr;refine⟨_,run_bytesToString w _ _ _ [] rfl,?_,_,_,_,rfl⟩
   rw[vA];exact⟨_,rfl,rfl⟩
  obtain⟨vs,_,h2,h3,_⟩:=hH.manyAt (P:=P) hc hi hl
  obtain⟨h4,h5⟩:=YX hr h2
  refine⟨_,run_bytesToString w _ _ _ (r.map fun n:Nat=>(n:Int)) (by simp_all),?_,_,_,_,rfl⟩
  rw[vA];exact⟨_,rfl,by rw[YY _ _ h5];simp[pF]⟩
 ·simp only[sB,gC]at h
  obtain⟨h1,h⟩:=h
  cases h;rw[xX.2.1]at h1;subst h1;rw[vA]at hx;subst hx;exact⟨.string .empty,rfl,by rw[vA];exact⟨_,rfl,rfl⟩,_,_,_,rfl⟩
def zjt(hT:mF P C)(hH:rB B N μ H w){s d:Nat}{sty dty:lD}(hs:C.tys.get s=some sty)(hd:C.tys.get d=some dty){a:zA}{x:Value}(hx:vA μ a x)(h:gT C sty dty a H=some v) :
  ∃v',(convert s d x).run P w=.ok v' w/\vA μ v v':=by
 have hS:=hT.facts hs
 have hD:=hT.facts hd
 obtain⟨su,hsu⟩:=hS.und
 unfold gT at h;split at h
 ·rename_i k hk
  simp only[sA,DU]at h;obtain⟨n,⟨k',rfl⟩,h⟩:=h
  cases h;rw[vA]at hx;subst hx;refine⟨.int k (k.wrap n),?_,by rw[vA,gP]⟩
  simp only[convert,yad,tF hsu,tF (DD hD hk),yac]
  rfl
 ·simp only[sB]at h
  obtain⟨hstr,h⟩:=h
  rw[rD]at h;split at h
  ·rename_i ht
   cases h
   cases v<;>simp[zA.tag,Nat.beq]at ht
   have hx':=hx
   rw[vA]at hx;obtain⟨str,rfl,_⟩:=hx
   refine⟨.string str,?_,hx'⟩
   simp only[convert,yad,tF hsu,tF (Uw hD hstr),yac]
   cases su<;>rfl
  ·simp only[sA,sB,iM]at h
   obtain⟨el,hel,et,het,k,hk,rfl,h⟩:=h
   obtain⟨v',h1,h2,A,l,c,rfl⟩:=YF (P:=P) hH hx h
   exact⟨v',by rw[run_convert_bytes_string w s d el A l c (xV hS hel) (DD (hT.facts het) hk) (Uw hD hstr)];exact h1,h2⟩
theorem LL(hT:mF P C)(hH:rB B N μ H w)(hE:gF μ e ρ){s d:Nat}{x:Operand}(h:sQ s d x C e H=some v):eI P μ w ρ ⟨dst,.convert s d x,type,pos,after,guard⟩ v:=by
 unfold sQ at h;simp only[sA]at h;obtain⟨a,ha,sty,hs,dty,hd,h⟩:=h
 obtain⟨v',h1,h2⟩:=zjt hT hH hs hd (hE _ _ ha) h
 exact⟨v',by grind [execOp,Sem.run_bind,Result.andThen_ok,Sem.run_pure],h2⟩
theorem Vm{y:Nat}{a:zA}{n:Nat}(h:nY y a=some n):(∃k,a=.int k (n:Int))/\n<=y:=by
 grind [nY,sA,Vq,sB,aE]
theorem Sa{y y':Nat}{a:zA}{x:Value}(hx:vA μ a x){n:Nat}(h:nY y a=some n)(hy:y<=y')(code:BoundsCode):(Instr.sliceBound x y' code).run P w=.ok n w:=by
 obtain⟨⟨k,rfl⟩,hle⟩:=Vm h
 grind [vA,Instr.sliceBound,asIntOf,Sem.run_pure]
def Nk{isSlice:Bool}{len cap cap':Nat}(hc:cap<=cap'){lo hi:Option zA}{lo' hi':Option Value}
  (h1:EE μ lo lo') (h2:EE μ hi hi')
  {p:Nat × Nat} (h:nQ len cap lo hi=some p):(Instr.sliceBounds isSlice len cap' lo' hi' none).run P w=.ok (p.1,p.2,cap') w/\p.1<=p.2/\(p.2<=cap\/p.2=len):=by
 unfold nQ at h;simp only[sA]at h;obtain⟨hb,hhi,l,hlo,h⟩:=h
 cases h;have hH:hb<=cap\/hb=len:=by
  cases hi with
  | none=>right;cases hhi;rfl
  | some a=>left;exact(Vm hhi).2
 have hL:l<=hb:=by
  cases lo with
  | none=>cases hlo;omega
  | some a=>exact(Vm hlo).2
 refine⟨?_,hL,hH⟩
 unfold Instr.sliceBounds
 cases hi with
 | none=>
  cases hi' with
  | some v=>exact h2.elim
  | none=>
   cases hhi
   cases lo with
   | none=>
    cases lo' with
    | some v=>exact h1.elim
    | none=>cases hlo;simp
   | some a=>
    cases lo' with
    | none=>exact h1.elim
    | some v=>simp[Sa (P:=P) (w:=w) h1 hlo (ybk _)]
 | some b=>
  cases hi' with
  | none=>exact h2.elim
  | some u=>
   cases lo with
   | none=>
    cases lo' with
    | some v=>exact h1.elim
    | none=>cases hlo;simp[Sa (P:=P) (w:=w) h2 hhi hc]
   | some a=>
    cases lo' with
    | none=>exact h1.elim
    | some v=>simp[Sa (P:=P) (w:=w) h2 hhi hc,Sa (P:=P) (w:=w) h1 hlo (ybk _)]
theorem GL{b size cap l:Nat}{arr:Bool}(hH:rB B N μ H w){i:BI}(hi:μ b=some i)(h:rO H b size cap l arr=true) :
  i.tight=true\/(i.tight=false/\arr=false/\i.es=size/\(cap≠l\/l=0)):=by
 unfold rO at h;split at h
 ·rename_i c hc
  obtain⟨o,h2,h3⟩:=hH.blk _ _ _ (Cs hc) hi
  obtain⟨cs,elem,fr,_,_,_,_,h4⟩:=h3
  grind [beqf]
 ·cases h
def ZF{len cap:Nat}{lo hi:Option zA}{p:Nat × Nat}(h:nQ len cap lo hi=some p):p.1<=p.2:=by
 unfold nQ at h;simp only[sA]at h;obtain⟨hb,hhi,l,hlo,h⟩:=h
 cases h
 cases lo with
 | none=>cases hlo;omega
 | some a=>exact(Vm hlo).2
theorem GK(hT:mF P C)(hH:rB B N μ H w){arr:Bool}{el b off len cap cap':Nat}{lo hi:Option zA}{i:BI}(hi':μ b=some i)
  (hcap:cap<=cap') (ht:i.tight=true->cap'=cap) (hr:i.tight=false->arr=false->off+cap'*i.es<=i.room) (h:zQ C H arr el b off len cap lo hi=some v) :
  ∃p size,nQ len cap lo hi=some p/\(sizeOf el).run P w=.ok size w ∧
   vA μ v (.slice (some (if cap'=p.1 then⟨i.b,off,none⟩else Addr.add ⟨i.b,off,none⟩ (p.1*size))) (p.2-p.1) (cap'-p.1)):=by
 unfold zQ at h;simp only[sA]at h;obtain⟨et,het,p,hp,h⟩:=h
 rw[rD]at h;split at h
 ·rename_i hend
  cases h;simp only[ybb,aE]at hend;obtain⟨⟨hle,hle2⟩,hend⟩:=hend
  have hcp:cap=p.1:=by
   grind [lN,gC]
  refine⟨p,et.size,hp,(hT.facts het).size,?_⟩
  simp_all [vA]
 simp only[sB,ybb,aE]at h;obtain⟨⟨hle,hf⟩,h⟩:=h
 cases h;have hle':=ZF hp
 refine⟨p,et.size,hp,(hT.facts het).size,?_⟩
 rw[vA];have hoff:(if cap'=p.1 then(⟨i.b,off,none⟩:Addr)else Addr.add ⟨i.b,off,none⟩ (p.1*et.size))=⟨i.b,(bif Nat.beq cap p.1 then off else off+p.1*et.size),none⟩:=by
  grind [Ae,gC,GL]
 refine .inl ⟨i,cap'-p.1,hi',by rw[hoff],by omega,fun h1=>by rw[ht h1],fun h1=>?_⟩
 rcases GL hH hi' hf with h2 | ⟨_,h3,h4,h5⟩
 ·simp_all
 ·have h6:=hr h1 h3
  rw[rD];simp only[gC];rw[h4]at h6 ⊢
  have h8:p.1*et.size+(cap'-p.1)*et.size=cap'*et.size:=by rw[<- ybo];grind
  grind
theorem KV(hT:mF P C)(hH:rB B N μ H w)(hE:gF μ e ρ){t:Nat}{x:Operand}{lo hi mx:Option Operand}(h:(Pa t x lo hi mx).f C e H=some v) :
  eI P μ w ρ ⟨dst,.slice t x lo hi mx,type,pos,after,guard⟩ v:=by
 unfold Pa at h;split at h
 ·simp only[Bo,sA]at h
  obtain⟨a,ha,l,hl,u,hu,ty,hty,h⟩:=h
  have hx:=hE _ _ ha
  have h1:=hE.opt hl
  have h2:=hE.opt hu
  have hF:=hT.facts hty
  have run:∀ {v'},(Instr.sliceAt t (ρ x) (lo.map ρ) (hi.map ρ) none).run P w=.ok v' w->(execOp ρ ⟨dst,.slice t x lo hi none,type,pos,after,guard⟩).run P w=.ok (.value v') w:=by
   grind [execOp,Sem.run_bind,Result.andThen_ok,Sem.run_pure]
  unfold kN at h;split at h
  ·rename_i s hs
   rw[lY]at hs;subst hs;rw[sB]at h;obtain⟨hstr,h⟩:=h
   unfold Nj at h;simp only[sA,kD,vR,xT]at h;obtain⟨p,hp,h⟩:=h
   cases h;rw[vA]at hx;obtain⟨str,hxv,rfl⟩:=hx
   rw[Lk]at hp;obtain⟨h3,_⟩:=Nk (P:=P) (w:=w) (isSlice:=false) (ybk _) h1 h2 hp
   refine⟨.string (str.extract p.1 p.2),run ?_,by grind [vA,PY]⟩
   have hu':=Uw hF hstr
   simp_all [Instr.sliceAt,tF,Instr.slice]
  ·split at h
   ·rename_i r hr
    rw[Fi]at hr;subst hr;simp only[sA]at h;obtain⟨el,hel,h⟩:=h
    rw[vA]at hx;rcases hx with⟨i,cap',hi',hxv,hc,ht,hrm⟩ | ⟨k1,k3,k4,A,c,hxv,k2⟩
    rotate_left
    ·unfold zQ at h
     simp only[sA]at h;obtain⟨et,het,p,hp,h⟩:=h
     rw[rD]at h;obtain⟨h3,h6,h7⟩:=Nk (P:=P) (w:=w) (isSlice:=true) (cap':=c) (by omega) h1 h2 hp
     have hp2:p.2=0:=by rcases h7 with h7 | h7<;>omega
     have hp1:p.1=0:=by omega
     have hend:¬ (Nat.ble p.2 r.2.2.2&&Nat.ble p.1 p.2&&lN H r.1 et.size r.2.2.2 p.1 false)=true:=by
      grind [lN]
     rw[yaa hend]at h;simp only[sB,ybb,aE]at h;obtain⟨_,h⟩:=h
     cases h;rw[k3]at h3;refine⟨.slice (some A) 0 c,run ?_,?_⟩
     ·have hu':=xV hF hel
      simp only[Instr.sliceAt,yad,tF hu',yac,Instr.slice,hxv,h3,yae,(hT.facts het).size,hp1,hp2]
      simp[Addr.add]
     grind [vA]
    obtain⟨p,size,hp,h4,h5⟩:=GK (P:=P) (w:=w) hT hH hi' hc ht (fun a _=>hrm a) h
    obtain⟨h3,_⟩:=Nk (P:=P) (w:=w) (isSlice:=true) hc h1 h2 hp
    refine⟨_,run ?_,h5⟩
    have hu':=xV hF hel
    simp only[Instr.sliceAt,yad,tF hu',yac,Instr.slice,hxv,h3,yae,h4];congr 2
    split<;>rfl
   ·split at h
    ·rename_i q hq
     rw[Il]at hq;subst hq;simp only[sA]at h;obtain⟨ar,har,h⟩:=h
     rw[vA]at hx;obtain⟨i,hi',hxv⟩:=hx
     obtain⟨p,size,hp,h4,h5⟩:=GK (P:=P) (w:=w) hT hH hi' (ybk _) (fun _=>rfl) (fun _ h=>by cases h) h
     obtain⟨h3,_⟩:=Nk (P:=P) (w:=w) (isSlice:=false) (ybk _) h1 h2 hp
     refine⟨_,run ?_,h5⟩
     have hu':=Ux hF har
     simp_all [Instr.sliceAt,tF,Instr.sureAddr]
    ·simp only[sB,gC,sA]at h
     obtain⟨htag,el,hel,ety,hety,p,hp,h⟩:=h
     cases h;rw[xX.2.1]at htag;subst htag;rw[vA]at hx;obtain⟨h3,h6,h7⟩:=Nk (P:=P) (w:=w) (isSlice:=true) (ybk 0) h1 h2 hp
     have hp2:p.2=0:=by omega
     have hp1:p.1=0:=by omega
     rw[hp1,hp2]at h3;refine⟨.slice none 0 0,run ?_,by rw[vA]⟩
     have hu':=xV hF hel
     simp only[Instr.sliceAt,yad,tF hu',yac,Instr.slice,hx,h3,yae,(hT.facts hety).size]
     simp
 ·cases h
end
end Go.Am
namespace Go.Am
open Go
variable {d t:Nat}{i x:Operand}{g:Array Field}{empty ok r:Bool}{ty:lD}{D:TypeDesc}{a b k:zA}{kv va vb:Value}{l:List (zA × zA)}{es:List MapEntry}{α:Type}{f:Nat × Nat × Nat}{fs:List (Nat × Nat × Nat)}{c:Call}
section
variable {P:Program}{C:iA}{B N:Nat}{μ:Mu}{H:xA}{w:World}
variable {e:vD}{ρ:Operand->Value}{dst:Option Tmp}{type:TypeId}{pos:String}{after:Array Edge}{guard:Option (Nat × Bool)}{v:zA}
theorem LD(hT:mF P C)(hE:gF μ e ρ)  (h:cX t x i C e H=some v):eI P μ w ρ ⟨dst,.indexAddr t x i,type,pos,after,guard⟩ v:=by
 unfold cX at h;simp only[sA,Vq]at h;obtain⟨ty,hty,a,ha,iv,hi,n,⟨k,rfl⟩,h⟩:=h
 have hF:=hT.facts hty
 have hx:=hE _ _ ha
 have hiv:=hE _ _ hi
 rw[vA]at hiv;split at h
 ·rename_i s hs
  rw[Fi]at hs;subst hs;simp only[sA,sB,qC]at h;obtain⟨el,hel,et,het,hlt,h⟩:=h
  cases h;rw[vA]at hx;rcases hx with⟨j,cap',hj,hxv,_⟩ | ⟨_,k,_⟩
  rotate_left
  ·omega
  refine⟨.pointer (some ⟨j.b,s.2.1+n*et.size,none⟩),?_,by grind [vA]⟩
  have h1:(0:Int)<=(n:Int)/\(n:Int)<(s.2.2.1:Int):=⟨by omega,by omega⟩
  simp only[execOp,Instr.indexAt,hiv,hxv,asIntOf,yad,yae,yac,tF (xV hF hel),(hT.facts het).size,Sem.run_ite,yab h1,Int.toNat_natCast,Ae]
 ·simp only[sA,Il,sB,qC]at h
  obtain⟨p,rfl,ar,har,et,het,hlt,h⟩:=h
  cases h;rw[vA]at hx;obtain⟨j,hj,hxv⟩:=hx
  refine⟨.pointer (some ⟨j.b,p.2+n*et.size,none⟩),?_,by grind [vA]⟩
  have h1:(0:Int)<=(n:Int)/\(n:Int)<(ar.1:Int):=⟨by omega,by omega⟩
  simp only[execOp,Instr.indexAt,hiv,hxv,asIntOf,yad,yae,yac,tF (Ux hF har),Instr.sureAddr,(hT.facts het).size,Sem.run_ite,yab h1,Int.toNat_natCast,Ae]
def LA(hT:mF P C)(hE:gF μ e ρ)  (h:bX t x i C e H=some v):eI P μ w ρ ⟨dst,.index t x i,type,pos,after,guard⟩ v:=by
 unfold bX at h;simp only[sA,Vq]at h;obtain⟨ty,hty,a,ha,iv,hi,n,⟨k,rfl⟩,h⟩:=h
 have hF:=hT.facts hty
 have hx:=hE _ _ ha
 have hiv:=hE _ _ hi
 rw[vA]at hiv;split at h
 ·rename_i s hs
  rw[lY]at hs;subst hs;simp only[sB,sA,bG]at h;obtain⟨hstr,b,hb,h⟩:=h
  cases h;rw[vA]at hx;obtain⟨str,hxv,rfl⟩:=hx
  rw[YZ,yar]at hb;obtain⟨u,hu,rfl⟩:=hb
  refine⟨.int .u8 u.toNat,?_,by rw[vA];rfl⟩
  simp only[execOp,Instr.index,hiv,hxv,asIntOf,yad,yae,yac,tF (Uw hF hstr),Int.natCast_nonneg,if_true,Int.toNat_natCast,hu]
 ·simp only[sA,Lp,sB,qC]at h
  obtain⟨l,rfl,ar,har,et,het,hlt,h⟩:=h
  rw[vA]at hx;obtain⟨cs,hxv,hl⟩:=hx
  obtain⟨v',h2,h3⟩:=Nx (P:=P) (w:=w) hT hl h
  refine⟨v',?_,h3⟩
  have h1:(0:Int)<=(n:Int)/\(n:Int)<(ar.1:Int):=⟨by omega,by omega⟩
  simp only[execOp,Instr.index,hiv,hxv,asIntOf,yad,yae,yac,tF (Ux hF har),(hT.facts het).size,Sem.run_ite,yab h1,Int.toNat_natCast,h2]
theorem TW(l:List Value):∀(off k:Nat) (cs:Array Value),off+k+l.length<=cs.size →
  ((l.zipIdx k).foldl (fun cs (c,j)=>cs.setIfInBounds (off+j) c) cs).toList=cs.toList.take (off+k)++l++cs.toList.drop (off+k+l.length):=by
 induction l with
 | nil=>simp_all
 | cons a l ih=>
  intro off k cs h;rw[List.zipIdx_cons,List.foldl_cons,ih off (k+1) _ (by grind)]
  have hk:off+k<cs.toList.length:=by grind
  simp only[Array.toList_setIfInBounds];rw[List.take_set,List.drop_set_of_lt (by omega)]
  rw[show off+(k+1)=off+k+1 by omega,List.take_succ_eq_append_getElem hk,List.set_append_right _ _ (by grind)]
  simp only[ybz,yda,ycz,ybn];rw[Nat.min_eq_left (by omega),Nat.sub_self]
  grind
theorem Un{place:Nat->Option (Nat × Nat)}{ps:List (Nat × zA)}{qs:List (Nat × Value)}(hp:xD (fun p q=>p.1=q.1/\vA μ p.2 q.2) ps qs) :
  ∀ {cells r:List zA} {cs:Array Value},pB μ cells cs.toList->vM place ps cells=some r->∃out,Instr.fill place cs qs=some out/\pB μ r out.toList:=by
 induction hp with
 | nil=>intro cells r cs hc h;rw[vM]at h;cases h;exact⟨cs,rfl,hc⟩
 | @cons p q ps qs hpq _ ih=>
  intro cells r cs hc h;rw[vM]at h;simp only[sA]at h;obtain⟨pl,hpl,mid,hmid,h⟩:=h
  unfold nW at hmid;simp only[sB,ybb,gC,aE,kD,aG,xT,vR]at hmid;obtain⟨⟨h1,h2⟩,hmid⟩:=hmid
  cases hmid;obtain⟨i,vq⟩:=q
  obtain⟨rfl,hv⟩:=hpq
  have hvc:=Vg hv
  have hlen:=hvc.length
  have hcl:=hc.length
  simp only[ycz]at hlen hcl;rw[Instr.fill,hpl];simp only[];have h3:¬ (vq.cells.size≠pl.2||decide (pl.1+vq.cells.size > cs.size))=true:=by
   simp_all
  have h4:¬ ((decide (vq.cells.size≠pl.2)||decide (pl.1+vq.cells.size > cs.size))=true):=by omega
  obtain⟨off,sz⟩:=pl
  rw[yaa h4];refine ih ?_ h
  have h5:=TW vq.cells.toList off 0 cs (by grind)
  rw[<- Array.foldl_toList,Array.toList_zipIdx,h5];simp only[yct,ycz];have:=((hc.take off).append hvc).append (hc.drop (off+p.2.cells.length))
  simp_all
theorem UD (h:∀f∈g.toList,∃i,P.info? f.type=some i):(g.mapM fun f=>(do pure (f.offset,<- sizeOf f.type):Sem (Nat × Nat))).run P w=.ok (g.map fun f=>(f.offset,P.cellsOf f.type)) w:=by
 obtain⟨l⟩:=g
 rw[List.mapM_toArray];simp only[Sem.run_map,List.map_toArray];have key:∀l:List Field,(∀f∈l,∃i,P.info? f.type=some i)->(l.mapM fun f=>(do pure (f.offset,<- sizeOf f.type):Sem (Nat × Nat))).run P w=.ok (l.map fun f=>(f.offset,P.cellsOf f.type)) w:=by
  intro l;induction l with
  | nil=>intro _;rfl
  | cons f l ih=>
   simp_all [sizeOf,Gs,Program.cellsOf]
 simp_all
theorem LM(hT:mF P C)(hE:gF μ e ρ) {parts:Array (Nat × Operand)}(h:lZ t parts C e H=some v):eI P μ w ρ ⟨dst,.build t parts,type,pos,after,guard⟩ v:=by
 unfold lZ at h;simp only[sA]at h;obtain⟨ty,hty,ps,hps,h⟩:=h
 have hF:=hT.facts hty
 have hq:=hE.parts hps
 obtain⟨z,hz,_,hzl⟩:=hF.zero (μ:=μ)
 split at h
 ·rename_i fs hfs
  simp only[sA,bG]at h;obtain⟨l,hl,h⟩:=h
  cases h;obtain⟨g,hg,rfl⟩:=Hy hF hfs
  have hpl:(fun i:Nat=>ob ((g.toList.map fun f=>(f.offset,f.type,P.cellsOf f.type))[i]?) fun(x:Nat × Nat × Nat)=>some (x.1,x.2.2))=fun i=>(g.map fun f=>(f.offset,P.cellsOf f.type))[i]?:=by
   funext i
   rw[ybu];simp only[Array.getElem?_map];have:g.toList[i]?=g[i]?:=by simp
   rw[this]
   cases g[i]?<;>rfl
  rw[hpl]at hl;obtain⟨out,ho,hr⟩:=Un hq hzl hl
  refine⟨.agg out,?_,by grind [vA]⟩
  have hpr:=UD (P:=P) (w:=w) (g:=g) (by have:=hF.fields;rwa [NT hg]at this)
  simp_all [execOp,Instr.build,tF]
 ·simp only[sA]at h
  obtain⟨ar,har,et,het,l,hl,h⟩:=h
  cases h;obtain⟨out,ho,hr⟩:=Un hq hzl hl
  refine⟨.agg out,?_,by grind [vA]⟩
  simp only[execOp,Instr.build,yad,hz,yac,tF (Ux hF har),(hT.facts het).size,Array.toList_map,ho,yae]
def LO(hT:mF P C)(hE:gF μ e ρ) {xt asserted:Nat} (h:xY x asserted ok C e H=some v):eI P μ w ρ ⟨dst,.typeAssert x xt asserted ok,type,pos,after,guard⟩ v:=by
 unfold xY at h;simp only[sA,sB]at h;obtain⟨ty,hty,hb,a,ha,h⟩:=h
 have hF:=hT.facts hty
 have hx:=hE _ _ ha
 obtain⟨d,hd,hn⟩:=OO hF hb
 obtain⟨z,hz,hzr,_⟩:=hF.zero (μ:=μ)
 split at h
 ·rename_i p hp
  rw[QF]at hp;subst hp;rw[vA]at hx;obtain⟨x',hxv,hr⟩:=hx
  rw[rD]at h;split at h
  ·rename_i heq
   rw[gC]at heq
   cases h;refine⟨if ok then .tuple #[x',.bool true]else x',?_,?_⟩
   ·simp only[execOp,Instr.typeAssert,hxv,yad,tF hd,yac]
    cases d<;>first | exact absurd rfl (hn _) | simp[heq]
   ·cases ok
    ·exact hr
    ·rw[cond_true,yab rfl,vA];exact⟨_,rfl,.cons hr (.single (by rw[vA]))⟩
  ·rename_i hne
   rw[gC]at hne;rw[sB]at h;obtain⟨rfl,h⟩:=h
   cases h;refine⟨.tuple #[z,.bool false],?_,by rw[vA];exact⟨_,rfl,.cons hzr (.single (by rw[vA]))⟩⟩
   simp only[execOp,Instr.typeAssert,hxv,yad,tF hd,yac]
   cases d<;>first | exact absurd rfl (hn _) | simp[hne,hz]
 ·simp only[sB,ybb,gC]at h
  obtain⟨⟨htag,rfl⟩,h⟩:=h
  cases h;rw[xX.2.2.2.2]at htag;subst htag;rw[vA]at hx;refine⟨.tuple #[z,.bool false],?_,by rw[vA];exact⟨_,rfl,.cons hzr (.single (by rw[vA]))⟩⟩
  simp only[execOp,Instr.typeAssert,hx,yad,tF hd,yac]
  cases d<;>first | exact absurd rfl (hn _) | simp[hz]
theorem MD  (hF:eM P t ty)(h:vW ty.desc=true):P.underlying t=some .bool\/P.underlying t=some .string\/∃k,P.underlying t=some (.int k):=by
 obtain⟨D,hD⟩:=hF.und
 have h0:=hF.desc
 unfold qQ at h0;rw[hD]at h0;rw[<- h0]at h;have h1:=aE.1 h
 cases D<;>simp[vE.tag]at h1
 all_goals simp_all
def Ra(D:TypeDesc)(a:zA):Prop:=(∃k,D=.int k/\a.tag=1)\/(D=.string/\a.tag=2)\/(D=.bool/\a.tag=0)
def Ra.eq1   (h:Ra D a)(e:lI a b=some r):rR a b=some r:=by
 rcases Pf e with⟨x,y,rfl,rfl,_⟩ | ⟨_,e⟩
 ·rcases h with⟨_,_,ht⟩ | ⟨_,ht⟩ | ⟨_,ht⟩<;>simp[zA.tag]at ht
 ·exact e
theorem HI   (hD:Ra D a)(ha:vA μ a va)(hb:vA μ b vb) (h:rR a b=some r):Instr.sameNow D va vb=some r:=by
 rcases Kp h with⟨k,x,y,rfl,rfl,rfl⟩ | ⟨x,y,rfl,rfl,rfl⟩ | ⟨x,y,rfl,rfl,rfl⟩<;>rw[vA]at ha<;>rw[vA]at hb <;>
  rcases hD with⟨k',rfl,ht⟩ | ⟨rfl,ht⟩ | ⟨rfl,ht⟩<;>simp[zA.tag]at ht
 ·grind [Instr.sameNow]
 ·obtain⟨s,rfl,rfl⟩:=ha
  obtain⟨u,rfl,rfl⟩:=hb
  have:(s == u)=qF (pF s) (pF u):=by
   rw[Bool.eq_iff_iff,sN];have h1:(s == u)=(s.data == u.data):=rfl
   grind [pF,Vk]
  grind [Instr.sameNow]
 ·rw[ha,hb];rfl
theorem WY   (hD:Ra D k)(hk:vA μ k kv)  (hl:xD (fun p e=>vA μ p.1 e.key/\vA μ p.2 e.val) l es) :
  ∀ {i:Nat} {r:Option zA},pL k l=some r->match r with
   | none=>Instr.findNow D kv es i=some none
   | some v=>∃j v',Instr.findNow D kv es i=some (some (j,v'))/\vA μ v v':=by
 induction hl with
 | nil=>intro i r h;rw[pL]at h;cases h;rfl
 | @cons p e l es hpe _ ih=>
  intro i r h;rw[pL,sA]at h;obtain⟨q,hq,h⟩:=h
  have h1:=HI hD hk hpe.1 (hD.eq1 hq)
  cases q with
  | true=>
   rw[cond_true]at h
   cases h;exact⟨i,e.val,by rw[Instr.findNow,h1],hpe.2⟩
  | false=>
   simp_all [Instr.findNow]
theorem PJ     (hu:P.underlying t=some D)(hD:(∃k,D=.int k)\/D=.string\/D=.bool):(Instr.checkKey empty (d+1) t kv).run P w=.ok () w:=by
 rw[Instr.checkKey,yad,tF hu,yac];rcases hD with⟨k,rfl⟩ | rfl | rfl<;>rfl
theorem Vn{b:Nat} (h:nL H b=some l):H.t.get b=some (.map l):=by
 unfold nL at h;rw[sA]at h;obtain⟨x,hx,h⟩:=h
 cases x<;>simp[tA.asMap]at h
 simp_all
theorem rB.mapAt(hH:rB B N μ H w){b:Nat} (h:nL H b=some l){i:BI}(hi:μ b=some i) :
  ∃es clock l',w.heap[i.b]?=some (.map es clock)/\Lz l l'/\xD (fun p e=>vA μ p.1 e.key/\vA μ p.2 e.val) l' es.toList:=by
 obtain⟨o,h2,h3⟩:=hH.blk _ _ _ (Vn h) hi
 obtain⟨es,clock,l',rfl,h4,h5⟩:=h3
 grind
theorem Np{r:Nat}{o:Obj}(h:w.heap[r]?=some o)(hc:∀a b c,o≠.cells a b c):(getObj r).run P w=.ok o w:=by
 grind [getObj,Sem.run]
def BG   (hF:eM P t ty)(hu:P.underlying t=some D)(hk:vW ty.desc=true) (h:Hk ty.desc k=true):Ra D k:=by
 have h0:=hF.desc
 unfold qQ at h0;rw[hu]at h0;rw[<- h0]at h;unfold Hk at h;rw[gC]at h;rcases MD hF hk with h1 | h1 | ⟨kk,h1⟩
 ·rw[hu]at h1;cases h1;exact .inr (.inr ⟨rfl,h.symm⟩)
 ·rw[hu]at h1;cases h1;exact .inr (.inl ⟨rfl,h.symm⟩)
 ·rw[hu]at h1;cases h1;exact .inl ⟨kk,rfl,h.symm⟩
def HL{α:Type}{g:α->PUnit->Sem (ForInStep PUnit)}:∀(l:List α),(∀a∈l,(g a ⟨⟩).run P w=.ok (.yield ⟨⟩) w)->(forIn l PUnit.unit g).run P w=.ok ⟨⟩ w
 | [],_=>rfl
 | a::l,h=>by
  rw[List.forIn_cons,yad,h a (.head _),yac]
  exact HL l fun x hx=>h x (.tail _ hx)
theorem zqa {l r:List α}{a:α}{i:Nat}(h:a::r=l.drop i):l[i]?=some a/\r=l.drop (i+1):=by
 have h1:(l.drop i)[0]?=some a:=by grind
 rw[yde]at h1;refine⟨by omega,?_⟩
 have:r=(l.drop i).drop 1:=by grind
 rw[this,List.drop_drop]
theorem NI  {i:Nat}(h:Cd C (f::fs) i=true):f.1=i/\(∃ty,C.tys.get f.2.1=some ty/\vW ty.desc=true)/\Cd C fs (i+1)=true:=by
 grind [Cd,gC]
theorem NN  {l:List zA}(h:Ci C (f::fs) l=true):∃v r ty,l=v::r/\C.tys.get f.2.1=some ty/\Hk ty.desc v=true/\Ci C fs r=true:=by
 cases l with
 | nil=>cases h
 | cons v r=>
  grind [Ci]
theorem zej{d:vE}  (hd:vW d=true)(hf:Hk d a=true)(h:rR a b=some r):Pv d a b=some r:=by
 have h1:=aE.1 hd
 have h2:d.tag=a.tag:=gC.1 hf
 rcases Kp h with⟨k,x,y,rfl,rfl,hr⟩ | ⟨x,y,rfl,rfl,hr⟩ | ⟨x,y,rfl,rfl,hr⟩<;>cases d<;>simp[vE.tag,zA.tag]at h1 h2<;>exact h
def MC{d:vE}(h:vW d=true):d.isAgg=false/\d.asStruct=none:=by
 have h1:=aE.1 h
 cases d<;>simp[vE.tag]at h1<;>exact⟨rfl,rfl⟩
theorem LP{xs ys:List zA}:∀(fs:List (Nat × Nat × Nat)) (i:Nat) (r:Bool),Cd C fs i=true->Ci C fs (xs.drop i)=true->xW (xs.drop i) (ys.drop i)=some r->Ls C (aeq C 1) xs ys fs=some r
 | [],i,r,_,hf,h=>by
  generalize xs.drop i=l at hf h
  generalize ys.drop i=m at h
  cases l with
  | cons v l=>cases hf
  | nil=>cases m with
   | cons v m=>cases h
   | nil=>cases h;rfl
 | f::fs,i,r,hfl,hf,h=>by
  obtain⟨e1,⟨ty,hty,hkd⟩,hfl⟩:=NI hfl
  obtain⟨v,l,ty',e2,hty',hfit,hf⟩:=NN hf
  rw[hty]at hty';cases hty'
  obtain⟨gx,lx⟩:=zqa e2.symm
  rw[e2]at h
  cases e3:ys.drop i with
  | nil=>rw[e3]at h;cases h
  | cons b m=>
   obtain⟨gy,ly⟩:=zqa e3.symm
   rw[e3]at h;simp only[xW,sA]at h;obtain⟨q,hq,s,hs,h⟩:=h
   cases h;obtain⟨p1,p2⟩:=MC hkd
   have px:∀ {l:List zA} {a:zA},l[i]?=some a->eQ C f.2.1 l f.1=some a:=by
    grind [eQ,pA,bG]
   have hq':aeq C 1 f.2.1 v b=some q:=by
    grind [aeq,pA,zej]
   rw[Ls,px gx,pA,px gy,pA,hq',pA];rw[lx]at hf hs;rw[ly]at hs
   cases q with
   | false=>rfl
   | true=>rw[cond_true,LP fs (i+1) s hfl hf hs];rfl
theorem BV (h:wW C ty=true):vW ty.desc=true\/∃fs,vW ty.desc=false/\ty.desc.asStruct=some fs/\ty.eqOk=true/\Cd C fs 0=true:=by
 grind [wW]
theorem BJ  (hk:vW ty.desc=true)(h:rT C ty k=true):Hk ty.desc k=true:=by
 grind [rT]
theorem BH   (hk:vW ty.desc=false)(hfs:ty.desc.asStruct=some fs)(h:rT C ty k=true):∃l,k=.agg l/\Ci C fs l=true:=by
 grind [rT,Lp]
def LW(hT:mF P C)  (hty:C.tys.get t=some ty) (hfs:ty.desc.asStruct=some fs)(hok:ty.eqOk=true)(hfl:Cd C fs 0=true){l:List zA}(hfit:Ci C fs l=true)  (ha:vA μ (.agg l) va)(hb:vA μ b vb) (h:lI (.agg l) b=some r) :
  (Op.equal t va vb).run P w=.ok r w:=by
 refine zm1 hT 2 10000 t (.agg l) b _ _ r (by decide) ha hb ?_
 rcases Pf h with⟨x,y,e,rfl,h⟩ | ⟨hn,_⟩
 ·cases e
  rw[aeq,hty,pA,hfs];simp only[zA.asAgg,pA];rw[hok];exact LP fs 0 r hfl hfit h
 ·cases hn
theorem XA   (hq:∀(b:zA) (vb:Value) (r:Bool),vA μ b vb->lI k b=some r->(Op.equal t kv vb).run P w=.ok r w)  (hl:xD (fun p e=>vA μ p.1 e.key/\vA μ p.2 e.val) l es) :
  ∀ {i:Nat} {r:Option zA},pL k l=some r->match r with
   | none=>(Instr.findAsking t kv es i).run P w=.ok none w
   | some v=>∃j e0,(Instr.findAsking t kv es i).run P w=.ok (some (i+j,e0.val)) w/\es[j]?=some e0/\vA μ v e0.val:=by
 induction hl with
 | nil=>intro i r h;rw[pL]at h;cases h;rfl
 | @cons p e l es hpe _ ih=>
  intro i r h;rw[pL,sA]at h;obtain⟨q,hq',h⟩:=h
  have h1:=hq _ _ _ hpe.1 hq'
  cases q with
  | true=>
   rw[cond_true]at h
   cases h;exact⟨0,e,by simp_all [Instr.findAsking],rfl,hpe.2⟩
  | false=>
   rw[cond_false]at h;have:=ih (i:=i+1) h
   rw[Instr.findAsking,yad,h1,yac];simp only[ybq,if_false]
   cases r with
   | none=>exact this
   | some v=>
    obtain⟨j,e0,g1,g2,g3⟩:=this
    exact⟨j+1,e0,by rw[g1,show i+1+j=i+(j+1) by omega],by simp_all,g3⟩
theorem NP  (hu:P.underlying t=some (.struct g))(kv:Value)(es:List MapEntry):(Instr.findKey t kv es).run P w=(Instr.findAsking t kv es).run P w:=by
 unfold Instr.findKey;rw[yad,tF hu,yac]
 cases es with
 | nil=>simp only[Instr.findNow,Instr.findAsking]
 | cons e es=>simp only[Instr.findNow,Instr.sameNow]
theorem WZ(hT:mF P C)  (hty:C.tys.get t=some ty)(hk:wW C ty=true)  (hfit:rT C ty k=true)(hkv:vA μ k kv)  (hl:xD (fun p e=>vA μ p.1 e.key/\vA μ p.2 e.val) l es){r:Option zA}(hr:pL k l=some r) :
  match r with
  | none=>(Instr.findKey t kv es).run P w=.ok none w
  | some v=>∃j v',(Instr.findKey t kv es).run P w=.ok (some (j,v')) w/\vA μ v v':=by
 have hF:=hT.facts hty
 rcases BV hk with hkd | ⟨fs,hkd,hfs,hok,hfl⟩
 ·obtain⟨D,hD⟩:=hF.und
  have hfits:=BG hF hD hkd (BJ hkd hfit)
  have h3:=WY hfits hkv hl (i:=0) hr
  have hfk:∀(q:Option (Nat × Value)),Instr.findNow D kv es 0=some q->(Instr.findKey t kv es).run P w=.ok q w:=by
   simp_all [Instr.findKey,tF]
  grind
 ·obtain⟨x,rfl,hx⟩:=BH hkd hfs hfit
  obtain⟨g,hg,rfl⟩:=Hy hF hfs
  have h3:=XA (P:=P) (w:=w) (t:=t) (kv:=kv) (fun b vb r hb h=>LW hT hty hfs hok hfl hx hkv hb h) hl (i:=0) hr
  grind [NP]
theorem PK(hT:mF P C)  (hty:C.tys.get t=some ty)(hk:wW C ty=true)  (hfit:rT C ty k=true)(hkv:vA μ k kv)   : (Instr.checkKey empty (d+2) t kv).run P w=.ok () w:=by
 have hF:=hT.facts hty
 rcases BV hk with hkd | ⟨fs,hkd,hfs,hok,hfl⟩
 ·obtain⟨D,hD⟩:=hF.und
  have hfits:=BG hF hD hkd (BJ hkd hfit)
  have hD':(∃k,D=.int k)\/D=.string\/D=.bool:=by
   rcases hfits with⟨k,h,_⟩ | ⟨h,_⟩ | ⟨h,_⟩
   all_goals simp_all
  exact PJ hD hD'
 ·obtain⟨x,rfl,hx⟩:=BH hkd hfs hfit
  obtain⟨g,hg,rfl⟩:=Hy hF hfs
  rw[vA]at hkv;obtain⟨cs,rfl,hcs⟩:=hkv
  rw[Instr.checkKey,yad,tF hg,yac];simp only[];have key:∀(gl:List Field) (i:Nat),Cd C (gl.map fun f=>(f.offset,f.type,P.cellsOf f.type)) i=true->Ci C (gl.map fun f=>(f.offset,f.type,P.cellsOf f.type)) (x.drop i)=true →
    ∀f∈gl,∃v,(part f.type cs f.offset).run P w=.ok v w/\(Instr.checkKey empty (d+1) f.type v).run P w=.ok () w:=by
   intro gl;induction gl with
   | nil=>simp_all
   | cons f0 gl ih=>
    intro i h1 h2 f hf;rw[ycm]at h1 h2;obtain⟨e1,⟨fty,hfty,hfkd⟩,h1⟩:=NI h1
    obtain⟨v,l,ty',e2,hty',hfit',h2⟩:=NN h2
    obtain⟨gx,lx⟩:=zqa e2.symm
    simp only[]at e1 hfty hty'
    rw[hfty]at hty';cases hty'
    rcases ybs.1 hf with rfl | hf
    ·obtain⟨p1,_⟩:=MC hfkd
     obtain⟨v',g1,_⟩:=Nx (P:=P) (w:=w) hT hcs (t:=f.type) (off:=f.offset) (v:=v) (by grind [eQ,pA,bG])
     refine⟨v',g1,?_⟩
     rcases MD (hT.facts hfty) hfkd with hu | hu | ⟨kk,hu⟩
     all_goals grind [PJ]
    grind
  rw[yad,<- Array.forIn_toList,HL]
  all_goals grind [Sem.run_bind,Result.andThen_ok,Sem.run_pure]
theorem KY(hT:mF P C)(hH:rB B N μ H w)(hE:gF μ e ρ)   (h:eX t x i ok C e H=some v):eI P μ w ρ ⟨dst,.lookup t x i ok,type,pos,after,guard⟩ v:=by
 unfold eX at h;simp only[sA,sB]at h;obtain⟨ty,hty,ke,hke,kty,hkty,hkd,ety,hety,m,hm,es,hes,k,hk,hfit,r,hr,h⟩:=h
 have hF:=hT.facts hty
 have hKF:=hT.facts hkty
 have hEF:=hT.facts hety
 have hx:=hE _ _ hm
 have hkv:=hE _ _ hk
 have hmap:∃(rs:Array MapEntry) (es':List (zA × zA)),Lz es es'/\xD (fun p e=>vA μ p.1 e.key/\vA μ p.2 e.val) es' rs.toList/\((ρ x=.map none/\rs = #[])\/∃b clock,ρ x=.map (some b)/\w.heap[b]?=some (.map rs clock)):=by
  unfold lX at hes;split at hes
  ·rename_i b hb
   rw[Vr]at hb;subst hb;rw[vA]at hx;obtain⟨j,hj,hxv⟩:=hx
   obtain⟨rs,clock,l',h1,h0,h2⟩:=hH.mapAt hes hj
   grind
  ·simp only[sB,gC]at hes
   obtain⟨htag,hes⟩:=hes
   cases hes;rw[xX.2.2.1]at htag;subst htag;rw[vA]at hx;exact⟨#[],[],.inl rfl,.nil,.inl ⟨hx,rfl⟩⟩
 obtain⟨rs,es',hperm,h1,h2⟩:=hmap
 have h3:=WZ (P:=P) (w:=w) hT hkty hkd hfit hkv h1 (XD hperm hr)
 have hu:=OP hF hke
 obtain⟨z,hz,hzr,_⟩:=hEF.zero (μ:=μ)
 have hck:=fun b=>PK (P:=P) (w:=w) (empty:=b) (d:=9998) (kv:=ρ i) hT hkty hkd hfit hkv
 cases r with
 | none=>
  cases h;refine⟨if ok then .tuple #[z,.bool false]else z,?_,?_⟩
  ·have h4:=h3
   simp only[execOp,Instr.lookup];rcases h2 with⟨h5,rfl⟩ | ⟨b,clock,h5,h6⟩
   ·simp_all [tF]
   ·simp only[yad,tF hu,yac,h5,Np h6 (by simp),yae,hck,h4,hz]
  ·cases ok
   ·exact hzr
   ·rw[cond_true,yab rfl,vA];exact⟨_,rfl,.cons hzr (.single (by rw[vA]))⟩
 | some u=>
  obtain⟨j,v',h6,h5⟩:=h3
  cases h;refine⟨if ok then .tuple #[v',.bool true]else v',?_,?_⟩
  ·simp only[execOp,Instr.lookup]
   rcases h2 with⟨h7,rfl⟩ | ⟨b,clock,h7,h8⟩
   ·simp_all [tF]
   ·simp only[yad,tF hu,yac,h7,Np h8 (by simp),yae,hck,h6]
  ·cases ok
   ·exact h5
   ·rw[cond_true,yab rfl,vA];exact⟨_,rfl,.cons h5 (.single (by rw[vA]))⟩
theorem Zf{s:Sem Value}{v':Value}(h:s.run P w=.ok v' w):(do pure (Next.value (<- s)):Sem Next).run P w=.ok (.value v') w:=by
 simp_all
theorem Nr{b:Builtin} (hc:c.callee=.builtin b):(execOp ρ ⟨dst,.call c,type,pos,after,guard⟩).run P w=(builtin b c.argTypes type (c.args.map fun | .const _=>true | _=>false) (c.args.map ρ)).run P w:=by
 grind [execOp,resolve,invoke]
theorem xD.length{β:Type}{R:α->β->Prop}{l:List α}{m:List β}(h:xD R l m):m.length=l.length:=by
 induction h with
 | nil=>rfl
 | cons _ _ ih=>simp[ih]
theorem zdh(hT:mF P C)(hH:rB B N μ H w)(hE:gF μ e ρ) (hc:c.callee=.builtin .len)(h:tR c C e H=some v):eI P μ w ρ ⟨dst,.call c,type,pos,after,guard⟩ v:=by
 unfold tR at h;simp only[sA,bG]at h;obtain⟨t,ht,x,hx,ty,hty,a,ha,n,hn,h⟩:=h
 cases h;have hF:=hT.facts hty
 have hv:=hE _ _ ha
 obtain⟨D,hD⟩:=hF.und
 have h0:=hF.desc
 unfold qQ at h0;rw[hD]at h0;have ht':c.argTypes[0]?=some t:=by simp_all
 have hx':(c.args.map ρ)[0]?=some (ρ x):=by
  simp_all
 refine⟨.int .i64 n,?_,by rw[vA];rfl⟩
 rw[Nr hc];refine Zf ?_
 simp only[Builtin.len_,ht',hx',yad,tF hD,yac];unfold yW at hn;rw[<- h0]at hn;split at hn
 ·rename_i s hs
  rw[lY]at hs;subst hs;simp only[sB,kD]at hn;obtain⟨hb,hn⟩:=hn
  cases hn;rw[vA]at hv;obtain⟨str,hxv,rfl⟩:=hv
  rw[hxv,Lk]
  cases D<;>simp[vE.isString,vE.tag,Nat.beq]at hb
  rfl
 ·split at hn
  ·rename_i s hs
   rw[Fi]at hs;subst hs;simp only[sB,gC]at hn;obtain⟨hb,hn⟩:=hn
   cases hn;rw[vA]at hv;rcases hv with⟨j,cap',hj,hxv,_⟩ | ⟨_,k,_,A,_,hxv,_⟩
   rotate_left
   ·rw[hxv,k]
    cases D<;>simp[vE.tag]at hb
    rfl
   rw[hxv]
   cases D<;>simp[vE.tag]at hb
   rfl
  ·split at hn
   ·rename_i ar har
    cases hn
    cases D<;>simp[vE.asArr]at har
    subst har;rfl
   ·split at hn
    ·rename_i b hb
     rw[Vr]at hb;subst hb;simp only[sB,gC,sA,kD]at hn;obtain⟨hb,l,hl,hn⟩:=hn
     cases hn;rw[vA]at hv;obtain⟨j,hj,hxv⟩:=hv
     obtain⟨rs,clock,l',h1,h0,h2⟩:=hH.mapAt hl hj
     rw[hxv];have h3:=h2.length
     have hlen:l'.length=l.length:=by
      rcases h0 with rfl | ⟨p,_⟩
      ·rfl
      ·exact p.length_eq.symm
     rw[hlen]at h3;simp only[ycz]at h3
     cases D<;>simp[vE.tag]at hb
     simp only[yad,Np h1 (by simp),yac,h3]
     rfl
    ·simp only[sB,ycq,ybb,gC]at hn
     obtain⟨hb,hn⟩:=hn
     cases hn;rcases hb with⟨hb,htag⟩ | ⟨hb,htag⟩
     ·rw[xX.2.1]at htag
      subst htag;rw[vA]at hv;rw[hv]
      cases D<;>simp[vE.tag]at hb
      rfl
     ·rw[xX.2.2.1]at htag
      subst htag;rw[vA]at hv;rw[hv]
      cases D<;>simp[vE.tag]at hb
      rfl
def Wo {p:zA × zA}(hE:gF μ e ρ)(h:two c e=some p):∃x y,c.args = #[x,y]/\vA μ p.1 (ρ x)/\vA μ p.2 (ρ y):=by
 unfold two at h;split at h
 ·rename_i x y hxy
  simp only[sA]at h;obtain⟨a,ha,b,hb,h⟩:=h
  cases h;refine⟨x,y,?_,hE _ _ ha,hE _ _ hb⟩
  rw[<- yax,hxy]
 ·cases h
theorem zde(hE:gF μ e ρ) (hc:c.callee=.builtin .max)(h:fX c C e H=some v):eI P μ w ρ ⟨dst,.call c,type,pos,after,guard⟩ v:=by
 unfold fX at h;simp only[sA,kY]at h;obtain⟨p,hp,a,ha,b,hb,h⟩:=h
 cases h;obtain⟨x,y,hxy,h1,h2⟩:=Wo hE hp
 rw[ha,vA]at h1;rw[hb,vA]at h2;refine⟨.int a.1 (if b.2 > a.2 then b.2 else a.2),?_,?_⟩
 ·rw[Nr hc,hxy]
  refine Zf ?_
  simp[Builtin.max_,h1,h2,Builtin.max2]
 grind [vA,Hp]
theorem zdd(hE:gF μ e ρ) (hc:c.callee=.builtin .min)(h:iX c C e H=some v):eI P μ w ρ ⟨dst,.call c,type,pos,after,guard⟩ v:=by
 unfold iX at h;simp only[sA,kY]at h;obtain⟨p,hp,a,ha,b,hb,h⟩:=h
 cases h;obtain⟨x,y,hxy,h1,h2⟩:=Wo hE hp
 rw[ha,vA]at h1;rw[hb,vA]at h2;refine⟨.int a.1 (if b.2<a.2 then b.2 else a.2),?_,?_⟩
 ·rw[Nr hc,hxy]
  refine Zf ?_
  simp[Builtin.min_,h1,h2,Builtin.min2]
 grind [vA,Hp]
theorem zfs(hT:mF P C)(hH:rB B N μ H w)(hE:gF μ e ρ){o:Oper}(h:(jF o.op).f C e H=some v):eI P μ w ρ o v:=by
 obtain⟨dst,op,type,pos,after,guard⟩:=o
 cases op
 case move=>exact KX (C:=C) (H:=H) hE h
 case assign=>exact LN (C:=C) (H:=H) hE h
 case pick=>exact KW (C:=C) (H:=H) hE h
 case load=>exact KZ (C:=C) (H:=H) hT hH hE h
 case nilCheck=>exact zdc (C:=C) (H:=H) hE h
 case binOp=>exact zdj (C:=C) (H:=H) hT hE h
 case unOp=>exact zlj (C:=C) (H:=H) hE h
 case convert=>exact LL (C:=C) (H:=H) hT hH hE h
 case makeInterface=>exact LF (C:=C) (H:=H) hT hE h
 case makeFunc=>exact LG (C:=C) (H:=H) hE h
 case slice=>exact KV (C:=C) (H:=H) hT hH hE h
 case fieldAddr=>exact LJ (C:=C) (H:=H) hT hE h
 case field=>exact LH (C:=C) (H:=H) hT hE h
 case indexAddr=>exact LD (C:=C) (H:=H) hT hE h
 case index=>exact LA (C:=C) (H:=H) hT hE h
 case extract=>exact LK (C:=C) (H:=H) hE h
 case build=>exact LM (C:=C) (H:=H) hT hE h
 case typeAssert=>exact LO (C:=C) (H:=H) hT hE h
 case lookup=>exact KY (C:=C) (H:=H) hT hH hE h
 case call c=>
  have h:(dU c c.callee).f C e H=some v:=h
  unfold dU at h;split at h
  ·rename_i b hb
   cases b<;>simp only[Tp]at h
   case len=>grind [zdh]
   case max=>grind [zde]
   case min=>grind [zdd]
   all_goals cases h
  ·cases h
 all_goals
  have h:Bp C e H=some v:=h
  cases h
end
end Go.Am
namespace Go.Am
open Go Go.RowKit
section
variable {a b g n off:Nat}{i:BI}{ν:Mu}{l:List zA}{x:tA}{o:Obj}{elem t:TypeId}{fz:Nat × Nat}{vs:List Value}
def Mu.ext(μ:Mu)(a:Nat)(i:BI):Mu:=⟨fun b=>if b=a then some i else μ b,μ.pd⟩
theorem Mu.ext_get{μ:Mu}   : (μ.ext a i) b=if b=a then some i else μ b:=rfl
theorem Mu.ext_le{μ:Mu}  (h:μ a=none):μ.le (μ.ext a i):=by
 refine⟨?_,rfl⟩
 grind [Mu.ext_get]
theorem Mu.ext_same{μ:Mu}   : μ.ext a i a=some i:=by simp[Mu.ext]
theorem yF.mono{μ:Mu}(h:μ.lw ν) {tm:Tm}{tmps:Array Value}(k:yF μ n tm tmps):yF ν n tm tmps:=⟨k.1,fun i v hv=>(k.2 i v hv).mono h _ _⟩
theorem Qy.mono{μ:Mu}(h:μ.lw ν){l:mN}{r:Loop}(k:Qy μ l r):Qy ν l r:=
 ⟨k.state,k.pending,k.fn,k.tm.mono h,k.params,k.assign,k.body,by obtain⟨i,h1,h2⟩:=k.defers;exact⟨i,h _ _ h1,h2⟩⟩
theorem xD.mono{α β:Type}{R S:α->β->Prop}(h:∀a b,R a b->S a b){l:List α}{m:List β}(k:xD R l m):xD S l m:=by
 induction k with
 | nil=>exact .nil
 | cons a _ ih=>exact .cons (h _ _ a) ih
theorem Dc.mono{μ:Mu}(h:μ.lw ν){d:mH}{e:Deferred}(k:Dc μ d e):Dc ν d e:=by
 refine⟨?_⟩
 have:=k.rel
 revert this
 cases d.fn with
 | none=>rintro⟨i,h1,h2⟩;exact⟨i,h _ _ h1,h2⟩
 | some f=>rintro⟨fn,cap,as,h1,h2,h3⟩;exact⟨fn,cap,as,h1,h2.mono h,pB.mono h _ _ h3⟩
theorem uJ.mono{μ:Mu}(h:μ.lw ν)   (k:uJ μ i x o):uJ ν i x o:=by
 cases x with
 | cells c n loose=>
  obtain⟨cs,elem,fr,h1,h2,h3,h4,h5⟩:=k
  refine⟨cs,elem,fr,h1,h2,h3,fun j v hv=>?_,h5⟩
  obtain⟨a,v',c,d⟩:=h4 j v hv
  exact⟨a,v',c,d.mono h _ _⟩
 | map l=>obtain⟨es,clock,l',h1,h0,h2⟩:=k;exact⟨es,clock,l',h1,h0,h2.mono fun a b r=>⟨r.1.mono h _ _,r.2.mono h _ _⟩⟩
 | loop l=>obtain⟨r,h1,h2⟩:=k;exact⟨r,h1,h2.mono h⟩
 | deferred l=>
  obtain⟨l',h1,h2⟩:=k
  refine⟨l',h1,?_⟩
  revert h2
  cases l<;>cases l'<;>intro h2<;>first | trivial | exact h2.elim | grind [xD.mono,Dc.mono]
 | siter s p=>exact k
section
variable {P:Program}{C:iA}{B N:Nat}{μ:Mu}{H:xA}{w:World}
theorem rB.lt(hH:rB B N μ H w)  (h:μ a=some i):a<H.next:=by
 refine Nat.lt_of_not_le fun hle=>?_
 rw[(hH.fresh a hle).1]at h;cases h
theorem rB.newBlk(hH:rB B N μ H w){x:tA}{o:Obj}{i:BI}(hib:i.b=w.heap.size)(hro:i.ro=false)(hx:uJ (μ.ext H.next i) i x o):rB B N (μ.ext H.next i) (newBlk H x) (w.alloc o):=by
 have hle:μ.le (μ.ext H.next i):=Mu.ext_le (hH.fresh _ (ybk _)).1
 have hget:∀a,(Am.newBlk H x).t.get a=if a=H.next then some x else H.t.get a:=fun a=>Tr.get_set _ _ _ _
 refine⟨hH.base,?_,?_,?_,?_,?_,?_,?_,?_,fun a y t ha=>?_⟩
 ·intro g hg;rw[Mu.ext_get,yaa (by have:=hH.next;have:=hH.base;omega)];exact hH.glob g hg
 ·intro a y j ha hy hj
  rw[hget,yaa (by have:=hH.next;omega)]at hy
  rw[Mu.ext_get,yaa (by have:=hH.next;omega)]at hj
  exact hH.low a y j ha hy hj
 ·have:=hH.next;show B<=H.next+1;omega
 ·have:=hH.size;simp;omega
 ·intro a ha
  have ha':H.next+1<=a:=ha
  rw[hget,yaa (by omega)]
  rw[Mu.ext_get,yaa (by omega)]
  exact hH.fresh a (by omega)
 ·intro a y j hy hj
  rw[hget]at hy;rw[Mu.ext_get]at hj;split at hy
  ·rename_i e;subst e;cases hy
   rw[yab rfl]at hj
   cases hj;refine⟨o,?_,hx⟩
   rw[hib];show(w.heap.push o)[w.heap.size]?=some o;simp
  ·rename_i hne
   rw[yaa hne]at hj;obtain⟨q,h2,h3⟩:=hH.blk a y j hy hj
   refine⟨q,?_,h3.mono hle⟩
   all_goals grind [Below.heap_alloc]
 ·intro a j ha hj
  rw[Mu.ext_get]at hj;split at hj
  ·cases hj;rw[hib];exact⟨hH.size,by simp,hro⟩
  ·have:=hH.own a j ha hj;exact⟨this.1,by simp;omega,this.2.2⟩
 ·intro a b y z j k hy hz hj hk ha hb hjk
  rw[hget]at hy hz;rw[Mu.ext_get]at hj hk;by_cases ea:a=H.next
  ·by_cases eb:b=H.next
   ·rw[ea,eb]
   ·exfalso
    rw[yab ea]at hj;rw[yaa eb]at hk
    cases hj;have:=(hH.own b k hb hk).2.1;omega
  ·by_cases eb:b=H.next
   ·exfalso
    rw[yaa ea]at hj;rw[yab eb]at hk
    cases hk;have:=(hH.own a j ha hj).2.1;omega
   ·rw[yaa ea]at hy hj;rw[yaa eb]at hz hk
    exact hH.inj a b y z j k hy hz hj hk ha hb hjk
 ·obtain⟨h1,h2,h3⟩:=hH.pnd a y t ha
  have hne:a≠H.next:=fun e=>by rw[e,(hH.fresh _ (ybk _)).2]at h2;cases h2
  grind [Mu.ext_get]
def rB.drew(hH:rB B N μ H w):rB B N μ H w.drew:=⟨hH.base,hH.glob,hH.low,hH.next,hH.size,hH.fresh,hH.blk,hH.own,hH.inj,hH.pnd⟩
def World.setBlk(w:World)(g:Nat)(o:Obj):World:={ w with heap:=w.heap.setIfInBounds g o }
theorem TZ(w:World)(g:Nat)(a b:Obj):World.setBlk (World.setBlk w g a) g b=World.setBlk w g b:=by
 unfold World.setBlk;simp
theorem Gr(w:World)(g k:Nat)(o:Obj):(World.setBlk w g o).heap[k]?=if k=g/\g<w.heap.size then some o else w.heap[k]?:=by
 grind [World.setBlk]
theorem HC{j:Nat}{cur:Array Value}  {v:Value}(h:w.heap[g]?=some (.cells cur t fz)):w.setCell ⟨g,j,none⟩ v=World.setBlk w g (.cells (cur.setIfInBounds j v) t fz):=by
 unfold World.setCell World.setBlk;congr 1
 grind
theorem HK{o:Nat}   : ∀(vs:List Value) (i:Nat) (cur:Array Value) (w:World),w.heap[g]?=some (.cells cur t fz)->(fz.2<=fz.1\/cur.size<=fz.1) →
  o+i+vs.length<=cur.size->(∀v∈vs,v.oneCell'=true) →
  ∃cur',cur'.size=cur.size/\(∀j:Nat,cur'[j]?=if o+i<=j/\j<o+i+vs.length then vs[j-(o+i)]? else cur[j]?) ∧
   (storeCells ⟨g,o,none⟩ vs i).run P w=.ok () (World.setBlk w g (.cells cur' t fz)):=by
 intro vs;induction vs with
 | nil=>
  intro i cur w h _ _ _;refine⟨cur,rfl,fun j=>by rw[yaa (by simp)],?_⟩
  have:World.setBlk w g (.cells cur t fz)=w:=by
   unfold World.setBlk;have:w.heap.setIfInBounds g (.cells cur t fz)=w.heap:=by
    grind
   rw[this]
  rw[this];rfl
 | cons v vs ih=>
  intro i cur w h hfz hlen h1;simp only[ybn]at hlen;have hg:g<w.heap.size:=(ybe.1 h).1
  have hc:w.cell? ⟨g,o+i,none⟩=some (cur[o+i]'(by omega)):=by simp[World.cell?,h]
  have hf:w.frozen? ⟨g,o+i,none⟩=false:=by
   grind [World.frozen?]
  have hst:(store (Addr.add ⟨g,o,none⟩ i) v).run P w=.ok () (World.setBlk w g (.cells (cur.setIfInBounds (o+i) v) t fz)):=by
   grind [Ae,run_store,HC]
  obtain⟨cur',hs,hj,hr⟩:=ih (i+1) (cur.setIfInBounds (o+i) v) (World.setBlk w g (.cells (cur.setIfInBounds (o+i) v) t fz)) (by rw[Gr,yab ⟨rfl,hg⟩]) (by simp_all) (by grind) (fun u hu=>h1 u (by simp[hu]))
  grind [storeCells,Sem.run_bind,Result.andThen_ok,TZ]
theorem rB.upd(hH:rB B N μ H w) {x':tA} {o':Obj}(hx:H.t.get a=some x)(hi:μ a=some i)(ha:B<=a)(hb:uJ μ i x' o'):rB B N μ (setBlk H a x') (World.setBlk w i.b o'):=by
 have hget:∀b,(Am.setBlk H a x').t.get b=if b=a then some x' else H.t.get b:=fun b=>Tr.get_set _ _ _ _
 have hlt:=(hH.own a i ha hi).2.1
 refine⟨hH.base,hH.glob,?_,hH.next,?_,?_,?_,?_,?_,fun b y t hb=>?_⟩
 ·intro b y j hb hy hj;rw[hget,yaa (by omega)]at hy;exact hH.low b y j hb hy hj
 ·have:=hH.size;grind [World.setBlk]
 ·intro b hb
  have hb':H.next<=b:=hb
  have:=hH.lt hi
  rw[hget,yaa (by omega)]
  exact hH.fresh b hb'
 ·intro b y j hy h1
  rw[hget]at hy;split at hy
  ·grind [Gr]
  ·rename_i hne
   obtain⟨q,h2,h3⟩:=hH.blk b y j hy h1
   refine⟨q,?_,h3⟩
   rw[Gr,yaa]
   ·exact h2
   ·rintro⟨e,_⟩
    by_cases hb:B<=b
    ·exact hne (hH.inj b a y x j i hy hx h1 hi hb ha e)
    ·have h5:=(hH.low b y j (by omega) hy h1).1
     have h6:=(hH.own a i ha hi).1
     omega
 ·intro b j hb hj;have:=hH.own b j hb hj;grind [World.setBlk]
 ·intro b c y z j k hy hz hj hk hb hc hjk
  have key:∀b y,(Am.setBlk H a x').t.get b=some y->∃y',H.t.get b=some y':=by
   grind
  obtain⟨y',hy'⟩:=key b y hy
  obtain⟨z',hz'⟩:=key c z hz
  exact hH.inj b c y' z' j k hy' hz' hj hk hb hc hjk
 ·obtain⟨h1,h2,h3⟩:=hH.pnd b y t hb
  grind
def bZ  (h:N<=g):Below N w (World.setBlk w g o):=
 ⟨rfl,rfl,rfl,by simp[World.setBlk],fun k hk=>by rw[Gr,yaa (by omega)]⟩
theorem pB.one  : ∀ {vs:List Value},pB μ l vs->(∀a∈l,a.one=true)->∀v∈vs,v.oneCell'=true:=by
 induction l with
 | nil=>grind [pB]
 | cons a l ih=>
  intro vs h k v hv;rw[pB]at h;obtain⟨u,r,rfl,h1,h2⟩:=h
  rcases ybs.1 hv with rfl | hv
  ·exact h1.one (k a (by simp))
  grind
theorem uJ.write {c:Tr zA} {loose:Option Lo}{cs cs':Array Value} {fr:Nat × Nat}(h:uJ μ i (.cells c n loose) (.cells cs elem fr))  (hl:pB μ l vs)
   (hoff:off+l.length<=n) (hs:cs'.size=cs.size) (hj:∀j:Nat,cs'[j]?=if off<=j/\j<off+vs.length then vs[j-off]? else cs[j]?):uJ μ i (.cells (c.setMany l off) n loose) (.cells cs' elem fr):=by
 obtain⟨cs0,elem0,fr0,e,h2,h3,h4,h5⟩:=h
 cases e
 have hlen:=hl.length
 refine⟨cs',elem,fr,rfl,by omega,by simp_all,fun j v hv=>?_,by simp_all⟩
 rw[Tr.get_setMany]at hv;split at hv
 ·rename_i hjr
  obtain⟨u,hu,hr⟩:=hl.get hv
  grind
 grind
theorem FZ(hbase:B<=C.base)(hH:rB B N μ H w)  {H':xA}(h:sJ C H b off l=some H') (hi:μ b=some i) (hl:pB μ l vs) :
  ∃w',(storeCells ⟨i.b,off,none⟩ vs).run P w=.ok () w'/\rB B N μ H' w'/\Below N w w':=by
 unfold sJ at h;simp only[sB,sA,ybb,aE,kD,mI,ycp]at h;obtain⟨hb,c,hc,⟨hle,hall⟩,h⟩:=h
 cases h;have hb':B<=b:=by
  grind [qC]
 have hx:=Cs hc
 obtain⟨o,h2,h3⟩:=hH.blk _ _ _ hx hi
 have h3':=h3
 obtain⟨cs,elem,fr,rfl,h4,h5,_,_⟩:=h3
 have hone:∀a∈l,a.one=true:=fun a ha=>ycb.1 hall a ha
 have hlen:=hl.length
 have hown:=hH.own b i hb' hi
 have h5:=h5.resolve_left (by simp_all)
 obtain⟨cs',hs,hj,hr⟩:=HK (P:=P) (o:=off) vs 0 cs w h2 h5 (by omega) (hl.one hone)
 exact⟨_,hr,hH.upd hx hi hb' (h3'.write hl hle hs (by omega)),bZ hown.1⟩
theorem pB.rel_one  (hl:pB μ l vs) (ht:i.tight=true)  : uJ μ i (.cells (Tr.ofList l) (yB l) none) (.cells vs.toArray elem (0,0)):=by
 have hlen:=hl.length
 refine⟨vs.toArray,elem,(0,0),rfl,by grind [kD],.inr (.inl (ybk _)),fun j v hv=>?_,ht⟩
 rw[Tr.get_ofList]at hv;obtain⟨u,hu,hr⟩:=hl.get hv
 grind [kD]
def rB.newTight(hH:rB B N μ H w)  (hl:pB μ l vs)(elem:TypeId) :
  rB B N (μ.ext H.next ⟨w.heap.size,true,0,0,false⟩) (rF H l none) (w.alloc (.cells vs.toArray elem)):=
 hH.newBlk rfl rfl ((pB.mono (Mu.ext_le (hH.fresh _ (ybk _)).1).f _ _ hl).rel_one rfl)
theorem rB.newTag(hH:rB B N μ H w)  (hl:pB μ l vs)(elem:TypeId) :
  rB B N (μ.ext H.next ⟨w.heap.size,false,1,vs.length,false⟩) (rF H l (some (.ty elem))) (w.alloc (.cells vs.toArray elem)):=by
 have h:=(pB.mono (Mu.ext_le (hH.fresh _ (ybk _)).1 (i:=⟨w.heap.size,false,1,vs.length,false⟩)).f _ _ hl)
 have hn:=hl.length
 refine hH.newBlk rfl rfl ⟨vs.toArray,elem,(0,0),rfl,by grind [kD],.inr (.inl (ybk _)),fun j v hv=>?_,rfl,rfl,by simp,fun t e=>by grind⟩
 rw[Tr.get_ofList]at hv;obtain⟨u,hu,hr⟩:=h.get hv
 grind [kD]
def aT(h:N<=w.heap.size)(o:Obj):Below N w (w.alloc o):=(Below.refl N w).alloc h o
def Mu.wait(μ:Mu)(a:Nat)(x:tA × Nat × Nat):Mu:=⟨μ.m,fun b=>if b=a then some x else μ.pd b⟩
def Mu.land(μ:Mu)(a:Nat)(i:BI):Mu:=⟨fun b=>if b=a then some i else μ b,fun b=>if b=a then none else μ.pd b⟩
theorem rB.early(hH:rB B N μ H w) {t:Nat × Nat}:rB B N (μ.wait H.next (x,t)) (Am.newBlk H x) w:=by
 have hget:∀a,(Am.newBlk H x).t.get a=if a=H.next then some x else H.t.get a:=fun a=>Tr.get_set _ _ _ _
 have hn:=hH.fresh _ (ybk _)
 have gone:∀a i,μ a=some i->a≠H.next:=fun a i h e=>by simp_all
 have bm:∀i y o,uJ μ i y o->uJ (μ.wait H.next (x,t)) i y o:=fun i y o h=>uJ.mono (μ:=μ) (ν:=μ.wait H.next (x,t)) (fun _ _ h=>h) h
 refine⟨hH.base,hH.glob,fun a y i ha hy hi=>?_,by have:=hH.next;show B<=H.next+1;omega,hH.size,fun a ha=>?_,fun a y i hy hi=>?_,hH.own,fun a b y z i j hy hz hi hj=>?_,fun a y s ha=>?_⟩
 ·rw[hget,yaa (gone a i hi)]at hy;exact hH.low a y i ha hy hi
 ·have ha':H.next+1<=a:=ha
  have:=hH.fresh a (by omega)
  exact⟨this.1,by grind⟩
 ·rw[hget,yaa (gone a i hi)]at hy
  obtain⟨o,h1,h2⟩:=hH.blk a y i hy hi
  simp_all
 ·rw[hget,yaa (gone a i hi)]at hy
  rw[hget,yaa (gone b j hj)]at hz
  exact hH.inj a b y z i j hy hz hi hj
 ·change (if a=H.next then some (x,t)else μ.pd a)=some (y,s)at ha
  split at ha
  ·rename_i e;cases ha;subst e
   exact⟨hn.1,by rw[hget,yab rfl],hH.next⟩
  ·rename_i e
   obtain⟨h1,h2,h3⟩:=hH.pnd a y s ha
   exact⟨h1,by simp_all,h3⟩
theorem rB.late(hH:rB B N μ H w)  {t:Nat × Nat}  (hp:μ.pd a=some (x,t))(hib:i.b=w.heap.size)(hro:i.ro=false)(hx:uJ (μ.land a i) i x o):rB B N (μ.land a i) H (w.alloc o):=by
 obtain⟨p1,p2,p3⟩:=hH.pnd a x t hp
 have lg:∀b,(μ.land a i) b=if b=a then some i else μ b:=fun _=>rfl
 have hle:μ.lw (μ.land a i):=fun b j hj=>by
  grind
 have hbase:=hH.base
 refine⟨hH.base,fun g hg=>by rw[lg,yaa (by omega)];exact hH.glob g hg,fun b y j hb hy hj=>?_,hH.next,by have:=hH.size;simp;omega,fun b hb=>?_,fun b y j hy hj=>?_,fun b j hb hj=>?_,fun b c y z j k hy hz hj hk hb hc hjk=>?_,fun b y s hb=>?_⟩
 ·rw[lg,yaa (by omega)]at hj;exact hH.low b y j hb hy hj
 ·have:=hH.fresh b hb
  grind
 ·rw[lg]at hj
  split at hj
  ·rename_i e;subst e;cases hj
   rw[p2]at hy;cases hy;exact⟨o,by rw[hib];show(w.heap.push o)[w.heap.size]?=some o;simp,hx⟩
  ·obtain⟨q,h2,h3⟩:=hH.blk b y j hy hj
   refine⟨q,?_,h3.mono hle⟩
   all_goals grind [Below.heap_alloc]
 ·rw[lg]at hj
  split at hj
  ·cases hj;rw[hib];exact⟨hH.size,by simp,hro⟩
  ·have:=hH.own b j hb hj;exact⟨this.1,by simp;omega,this.2.2⟩
 ·rw[lg]at hj hk
  by_cases eb:b=a
  ·by_cases ec:c=a
   ·rw[eb,ec]
   ·exfalso
    rw[yab eb]at hj;rw[yaa ec]at hk
    cases hj;have:=(hH.own c k hc hk).2.1;omega
  ·by_cases ec:c=a
   ·exfalso
    rw[yaa eb]at hj;rw[yab ec]at hk
    cases hk;have:=(hH.own b j hb hj).2.1;omega
   ·rw[yaa eb]at hj;rw[yaa ec]at hk
    exact hH.inj b c y z j k hy hz hj hk hb hc hjk
 ·change (if b=a then none else μ.pd b)=some (y,s)at hb
  split at hb
  ·cases hb
  ·rename_i e
   obtain⟨h1,h2,h3⟩:=hH.pnd b y s hb
   simp_all
theorem rB.ext_le(hH:rB B N μ H w)  : μ.le (μ.ext H.next i):=Mu.ext_le (hH.fresh _ (ybk _)).1
end
end
section
variable {o:Op}{x:Operand}{elem:TypeId}{t:Nat}
section
variable {P:Program}{C:iA}{B N:Nat}{μ:Mu}{H H':xA}{w:World}
variable {e:vD}{ρ:Operand->Value}{dst:Option Tmp}{type:TypeId}{pos:String}{after:Array Edge}{guard:Option (Nat × Bool)}{v:zA}
def sS (P:Program)(B N:Nat)(μ:Mu)(w:World)(ρ:Operand->Value)(o:Oper)(v:zA)(H':xA):Prop:=
 ∃v' w' μ',((execOp ρ o).run P w=.ok (.value v') w'\/((execOp ρ o).run P w=.ok .skip w'/\v'=undef))/\μ.le μ'/\rB B N μ' H' w'/\Below N w w'/\vA μ' v v'
def eI.hv(hH:rB B N μ H w){o:Oper}(h:eI P μ w ρ o v):sS P B N μ w ρ o v H:=by
 obtain⟨v',h1,h2⟩:=h
 exact⟨v',w,μ,.inl h1,μ.le_refl,hH,Below.refl _ _,h2⟩
theorem dS{x:Option (zA × xA)}{v:zA}{H':xA}(h:dL x=.val v H'):x=some (v,H'):=by
 unfold dL at h;grind
def Az {cs:Array Value}:(newRow elem cs).run P w=.ok ⟨w.heap.size,0,none⟩ (w.alloc (.cells cs elem)):=by
 simp[newRow]
def Se {v:Value}:(newVar elem v).run P w=.ok ⟨w.heap.size,0,none⟩ (w.alloc (.cells v.cells elem)):=Az
def EX:vA μ pD undef:=by rw[pD,vA];exact⟨_,rfl,.nil⟩
theorem SU {e:Lo}(h:pK C t=some e):e=.ty t:=by
 grind [pK]
def rB.newVar(hH:rB B N μ H w){l:List zA}{vs:List Value}(hl:pB μ l vs)  :
  ∃i:BI,i.b=w.heap.size/\rB B N (μ.ext H.next i) (rF H l (pK C t)) (w.alloc (.cells vs.toArray t)):=by
 cases ht:pK C t with
 | none=>exact⟨_,rfl,hH.newTight hl t⟩
 | some e=>
  have:=SU ht
  subst this;exact⟨_,rfl,hH.newTag hl t⟩
theorem zd0(hT:mF P C)(hH:rB B N μ H w) (h:Ey t C e H=.val v H'):sS P B N μ w ρ ⟨dst,.alloc t,type,pos,after,guard⟩ v H':=by
 have h:=dS h
 simp only[sA]at h;obtain⟨ty,hty,h⟩:=h
 cases h;obtain⟨z,hz,_,hzl⟩:=(hT.facts hty).zero (μ:=μ)
 obtain⟨i,hi,hn⟩:=hH.newVar (C:=C) (t:=t) hzl
 refine⟨.pointer (some ⟨w.heap.size,0,none⟩),w.alloc (.cells z.cells t),_,.inl ?_,hH.ext_le,by rwa [Array.toArray_toList]at hn,aT hH.size _,by grind [vA,Mu.ext_same]⟩
 simp_all [execOp,Instr.alloc,Se]
theorem zpu(hH:rB B N μ H w)(hE:gF μ e ρ)  (h:Bw t x C e H=.val v H'):sS P B N μ w ρ ⟨dst,.box t x,type,pos,after,guard⟩ v H':=by
 have h:=dS h
 simp only[sA]at h;obtain⟨a,ha,h⟩:=h
 cases h;obtain⟨i,hi,hn⟩:=hH.newVar (C:=C) (t:=t) (Vg (hE _ _ ha))
 refine⟨.pointer (some ⟨w.heap.size,0,none⟩),w.alloc (.cells (ρ x).cells t),_,.inl ?_,hH.ext_le,by rwa [Array.toArray_toList]at hn,aT hH.size _,by grind [vA,Mu.ext_same]⟩
 simp_all [execOp,Instr.box,Se]
theorem UL(z:List zA):∀n,(oI z n).length=n*z.length:=by
 intro n;induction n with
 | zero=>simp[oI]
 | succ n ih=>grind [oI,aG]
theorem zhc(z:List zA):∀(n j:Nat),j<n*z.length->(oI z n)[j]?=z[j%z.length]?:=by
 intro n;induction n with
 | zero=>omega
 | succ n ih=>
  grind [oI,aG,Nat.mod_eq_of_lt,List.getElem?_append_right,Nat.mod_eq_sub_mod]
theorem Zp{z:List zA}{zv:Array Value}(hz:pB μ z zv.toList)(n:Nat):pB μ (oI z n) ((Array.range (n*z.length)).map (zv[· % zv.size]!)).toList:=by
 have hl:=hz.length
 simp only[ycz]at hl;refine pB.mk (by simp[UL]) fun j a v ha hv=>?_
 have hj:j<n*z.length:=by grind
 rw[zhc z n j hj]at ha;obtain⟨u,hu,hr⟩:=hz.get ha
 grind
theorem WO(hT:mF P C)(hH:rB B N μ H w)(hE:gF μ e ρ){len:Nat}{parts:Array (Nat × Operand)}(h:Ew t len parts C e H=.val v H'):sS P B N μ w ρ ⟨dst,.buildSlice t len parts,type,pos,after,guard⟩ v H':=by
 have h:=dS h
 simp only[sA,sB,ybb,qC,gC,kD]at h;obtain⟨ty,hty,el,hel,et,het,⟨hlt,hzs⟩,ps,hps,l,hl,h⟩:=h
 cases h;have hF:=hT.facts het
 obtain⟨z,hz,_,hzl⟩:=hF.zero (μ:=μ)
 have hzlen:=hzl.length
 simp only[ycz]at hzlen;have hrel:=Zp hzl len
 rw[hzs]at hrel;obtain⟨out,ho,hr⟩:=Un (hE.parts hps) hrel hl
 have hol:out.size=l.length:=by simpa using hr.length
 refine⟨.slice (some ⟨w.heap.size,0,none⟩) len len,w.alloc (.cells out el),_,.inl ?_,hH.ext_le,by have:=hH.newTight hr el;rwa [Array.toArray_toList]at this,aT hH.size _,?_⟩
 ·have h1:¬ len*et.size > 2^24:=by omega
  by_cases h0:len*et.size=0
  ·have harr:((Array.range (len*et.size)).map ((#[]:Array Value)[· % (#[]:Array Value).size]!))=(Array.range (len*et.size)).map (z.cells[· % z.cells.size]!):=by grind
   simp only[execOp,Instr.buildSlice,yad,tF (xV (hT.facts hty) hel),yac,hF.size,yaa h1,yab h0,yae,harr,Array.toList_map,ho,Az]
  ·simp only[execOp,Instr.buildSlice,yad,tF (xV (hT.facts hty) hel),yac,hF.size,yaa h1,yaa h0,yae,hz,Array.toList_map,ho,Az]
 simp_all [vA,Mu.ext_same]
theorem zi3(hT:mF P C)(hE:gF μ e ρ)(o:Oper)(hf:wM o.op=true)(hlo:Bn C o.op=none)(h:(eE o.op).f C e H=.val v H') :
  ∃l vs v' elem,H'=rF H l none/\(execOp ρ o).run P w=.ok (.value v') (w.alloc (.cells vs elem))/\pB μ l vs.toList/\∀(ν:Mu) (i:BI),ν H.next=some i->i.b=w.heap.size->i.tight=true->vA ν v v':=by
 obtain⟨dst,op,type,pos,after,guard⟩:=o
 cases op<;>first | (simp[wM]at hf;done) | skip
 case alloc t=>
  have h:=dS (show Ey t C e H=.val v H' from h)
  rw[show pK C t=none from hlo]at h;simp only[sA]at h;obtain⟨ty,hty,h⟩:=h
  cases h;obtain⟨z,hz,_,hzl⟩:=(hT.facts hty).zero (μ:=μ)
  refine⟨_,z.cells,.pointer (some ⟨w.heap.size,0,none⟩),t,rfl,?_,hzl,fun ν i h1 h2 _=>by grind [vA]⟩
  simp_all [execOp,Instr.alloc,Se]
 case box t x=>
  have h:=dS (show Bw t x C e H=.val v H' from h)
  rw[show pK C t=none from hlo]at h;simp only[sA]at h;obtain⟨a,ha,h⟩:=h
  cases h;refine⟨_,(ρ x).cells,.pointer (some ⟨w.heap.size,0,none⟩),t,rfl,?_,Vg (hE _ _ ha),fun ν i h1 h2 _=>by grind [vA]⟩
  simp_all [execOp,Instr.box,Se]
 case buildSlice t len parts=>
  have h:=dS (show Ew t len parts C e H=.val v H' from h)
  simp only[sA,sB,ybb,qC,gC,kD]at h;obtain⟨ty,hty,el,hel,et,het,⟨hlt,hzs⟩,ps,hps,l,hl,h⟩:=h
  cases h;have hF:=hT.facts het
  obtain⟨z,hz,_,hzl⟩:=hF.zero (μ:=μ)
  have hrel:=Zp hzl len
  rw[hzs]at hrel;obtain⟨out,ho,hr⟩:=Un (hE.parts hps) hrel hl
  refine⟨_,out,.slice (some ⟨w.heap.size,0,none⟩) len len,el,rfl,?_,hr,fun ν i h1 h2 h3=>by simp_all [vA]⟩
  have h1:¬ len*et.size > 2^24:=by omega
  by_cases h0:len*et.size=0
  ·have harr:((Array.range (len*et.size)).map ((#[]:Array Value)[· % (#[]:Array Value).size]!))=(Array.range (len*et.size)).map (z.cells[· % z.cells.size]!):=by grind
   simp only[execOp,Instr.buildSlice,yad,tF (xV (hT.facts hty) hel),yac,hF.size,yaa h1,yab h0,yae,harr,Array.toList_map,ho,Az]
  ·simp only[execOp,Instr.buildSlice,yad,tF (xV (hT.facts hty) hel),yac,hF.size,yaa h1,yaa h0,yae,hz,Array.toList_map,ho,Az]
theorem WU (hf:wM o=true)(hlo:Bn C o=none)(h:(eE o).f C e H=.val v H'):∃l,H'=rF H l none:=by
 cases o<;>first | (simp[wM]at hf;done) | skip
 case alloc t=>
  have h:=dS (show Ey t C e H=.val v H' from h)
  rw[show pK C t=none from hlo]at h;grind [sA]
 case box t x=>
  have h:=dS (show Bw t x C e H=.val v H' from h)
  rw[show pK C t=none from hlo]at h;grind [sA]
 case buildSlice t len parts=>
  have h:=dS (show Ew t len parts C e H=.val v H' from h)
  grind [sA,sB]
theorem WV{e':vD}(h:∀x,ev x e=ev x e') (hf:wM o=true)(H:xA):(eE o).f C e H=(eE o).f C e' H:=by
 cases o<;>first | (simp[wM]at hf;done) | rfl | skip
 case box t x=>show Bw t x C e H=Bw t x C e' H;grind [Bw]
 case buildSlice t len ps=>show Ew t len ps C e H=Ew t len ps C e' H;grind [Ew,evp]
def MS(hT:mF P C)(hbase:B<=C.base)(hH:rB B N μ H w)(hE:gF μ e ρ) {a:Operand}(h:Pk t a x C e H=.val v H'):sS P B N μ w ρ ⟨dst,.store t a x,type,pos,after,guard⟩ v H':=by
 have h:=dS h
 simp only[sA,sB,gC,kD,Il]at h;obtain⟨ty,hty,av,ha,p,rfl,xv,hx,hs,H1,h1,h⟩:=h
 cases h;have hF:=hT.facts hty
 have hp:=hE _ _ ha
 rw[vA]at hp;obtain⟨i,hi,hpv⟩:=hp
 have hc:=Vg (hE _ _ hx)
 obtain⟨w',h2,h3,h4⟩:=FZ (P:=P) hbase hH h1 hi hc
 have hcl:=hc.length
 simp only[ycz]at hcl;refine⟨undef,w',μ,.inr ⟨?_,rfl⟩,μ.le_refl,h3,h4,EX⟩
 have h5:¬ (ρ x).cells.size≠ty.size:=by omega
 simp only[execOp,Instr.storeAt,hpv,Instr.sureAddr,yad,yae,yac,storeVar,hF.size,Sem.run_ite,yaa h5,h2]
theorem WM(hH:rB B N μ H w) {r:Option Operand}(h:Pm r C e H=.val v H'):sS P B N μ w ρ ⟨dst,.makeMap t r,type,pos,after,guard⟩ v H':=by
 unfold Pm at h;split at h
 ·injection h with h1 h2
  subst h1 h2
  refine⟨.map (some w.heap.size),w.alloc (.map #[] 0),_,.inl ?_,hH.ext_le,hH.newBlk (i:=⟨w.heap.size,true,0,0,false⟩) rfl rfl ⟨#[],0,[],rfl,.inl rfl,.nil⟩,aT hH.size _,by simp_all [vA,Mu.ext_same]⟩
  simp[execOp,Instr.makeMap]
 ·cases h
theorem WL(hT:mF P C)(hH:rB B N μ H w)(hE:gF μ e ρ) {l c:Operand}(h:CC t l c C e H=.val v H'):sS P B N μ w ρ ⟨dst,.makeSlice t l c,type,pos,after,guard⟩ v H':=by
 have h:=dS h
 simp only[sA,sB,ybb,aE,qC,gC,kD,Vq]at h;obtain⟨ty,hty,el,hel,et,het,lv',hl,ln,⟨k1,rfl⟩,cv,hc,cn,⟨k2,rfl⟩,⟨⟨⟨h1,h2⟩,h3⟩,h4⟩,h⟩:=h
 cases h;have hF:=hT.facts het
 obtain⟨z,hz,_,hzl⟩:=hF.zero (μ:=μ)
 have hrel:=Zp hzl cn
 rw[h4]at hrel;have hlv:=hE _ _ hl
 rw[vA]at hlv;have hcv:=hE _ _ hc
 rw[vA]at hcv;obtain⟨inf,hinf,hsz,hby,_⟩:=hF.info
 refine⟨.slice (some ⟨w.heap.size,0,none⟩) ln cn,w.alloc (.cells ((Array.range (cn*et.size)).map (z.cells[· % z.cells.size]!)) el),_,.inl ?_,hH.ext_le,by have:=hH.newTight hrel el;rwa [Array.toArray_toList]at this,aT hH.size _,?_⟩
 ·have hw1:IntKind.i64.wrap (ln:Int)=ln:=Ga (by grind [gG])
  have hw2:IntKind.i64.wrap (cn:Int)=cn:=Ga (by grind [gG])
  have hb:(et.bytes:Int)*(cn:Int)=((cn*et.bytes:Nat):Int):=by grind
  have hc1:(((cn:Int)<0||decide ((et.bytes:Int)*(cn:Int) > 2^48))||decide ((ln:Int)<0)||decide ((ln:Int) > (cn:Int)))=false:=by
   grind
  have hnn:¬ ((((cn:Int)<0||decide ((et.bytes:Int)*(cn:Int) > 2^48))||decide ((ln:Int)<0)||decide ((ln:Int) > (cn:Int)))=true):=by simp_all
  by_cases h0:cn*et.size=0
  ·have harr:((Array.range (cn*et.size)).map ((#[]:Array Value)[· % (#[]:Array Value).size]!))=(Array.range (cn*et.size)).map (z.cells[· % z.cells.size]!):=by grind
   simp only[execOp,Instr.makeSlice,yad,tF (xV (hT.facts hty) hel),yac,hlv,hcv,asInt,asIntOf,yae,Gs hinf,hby,hw1,hw2,yaa hnn,run_askRoom,hF.size,Int.toNat_natCast,yab h0,harr,Az]
  ·simp only[execOp,Instr.makeSlice,yad,tF (xV (hT.facts hty) hel),yac,hlv,hcv,asInt,asIntOf,yae,Gs hinf,hby,hw1,hw2,yaa hnn,run_askRoom,hF.size,Int.toNat_natCast,yaa h0,hz,Az]
 simp_all [vA,Mu.ext_same]
end
end
section
section
variable {P:Program}{C:iA}{B N:Nat}{μ:Mu}{H H':xA}{w:World}
variable {e:vD}{ρ:Operand->Value}{dst:Option Tmp}{type:TypeId}{pos:String}{after:Array Edge}{guard:Option (Nat × Bool)}{v:zA}
def Md(μ:Mu)(p:zA × zA)(e:MapEntry):Prop:=vA μ p.1 e.key/\vA μ p.2 e.val
theorem MA{n:Nat}{a b:zA}{va vb:Value}(ha:vA μ a va)(hb:vA μ b vb)(h:rR a b=some true):Instr.sameBits n vb va=true:=by
 rcases Kp h with⟨k,x,y,rfl,rfl,hr⟩ | ⟨x,y,rfl,rfl,hr⟩ | ⟨x,y,rfl,rfl,hr⟩<;>rw[vA]at ha<;>rw[vA]at hb
 ·grind [Instr.sameBits]
 ·obtain⟨s,rfl,rfl⟩:=ha
  obtain⟨u,rfl,rfl⟩:=hb
  have h1:=Vk ((sN _ _).1 hr.symm)
  rw[h1];have h2:(u == u)=true:=by
   show(u.data == u.data)=true
   simp
  grind [Instr.sameBits]
 grind [Instr.sameBits]
theorem LU{n:Nat}:∀ {x y:List zA} {vx vy:List Value},pB μ x vx->pB μ y vy->xW x y=some true->vy.length=vx.length/\((vy.zip vx).all fun(a,b)=>Instr.sameBits n a b)=true
 | [],[],vx,vy,hx,hy,_=>by
  simp_all [pB]
 | a::x,b::y,vx,vy,hx,hy,h=>by
  simp only[xW,sA]at h;obtain⟨r,hr,s,hs,h⟩:=h
  cases r<;>cases s<;>simp at h
  rw[pB]at hx hy;obtain⟨va,rx,rfl,h1,h2⟩:=hx
  obtain⟨vb,ry,rfl,h3,h4⟩:=hy
  obtain⟨g1,g2⟩:=LU (n:=n) h2 h4 hs
  grind [List.zip_cons_cons,MA]
 | [],_::_,_,_,_,_,h=>by cases h
 | _::_,[],_,_,_,_,h=>by cases h
theorem WJ{a b:zA}{va vb:Value}(ha:vA μ a va)(hb:vA μ b vb)(h:lI a b=some true):Instr.sameBits 10000 vb va=true:=by
 rcases Pf h with⟨x,y,rfl,rfl,h⟩ | ⟨_,h⟩
 ·rw[vA]at ha hb
  obtain⟨cx,rfl,hx⟩:=ha
  obtain⟨cy,rfl,hy⟩:=hb
  obtain⟨g1,g2⟩:=LU (n:=9999) hx hy h
  grind [Instr.sameBits]
 grind [MA]
theorem GY{k v:zA}{kv vv:Value}(hk:vA μ k kv)(hv:vA μ v vv){F:List MapEntry->Nat->Sem (Option (Nat × Value))}(hF0:∀i,(F [] i).run P w=.ok none w)
  (hF1:∀(p:zA) (e:MapEntry) (es:List MapEntry) (i:Nat) (q:Bool),vA μ p e.key->lI k p=some q->(F (e::es) i).run P w=if q then .ok (some (i,e.val)) w else(F es (i+1)).run P w) {l:List (zA × zA)} {es:List MapEntry} (hl:xD (Md μ) l es) :
  ∀ {i:Nat} {l':List (zA × zA)},qO k v l=some l' →
   (∃(j:Nat) (e0:MapEntry),(F es i).run P w=.ok (some (i+j,e0.val)) w/\es[j]?=some e0/\Instr.sameBits 10000 e0.key kv=true/\xD (Md μ) l' (es.set j { e0 with key:=kv,val:=vv })) ∨
   ((F es i).run P w=.ok none w/\∀born,xD (Md μ) l' (es++[⟨kv,vv,born⟩])):=by
 induction hl with
 | nil=>intro i l' h;rw[qO]at h;cases h;exact .inr ⟨hF0 i,fun born=>.cons ⟨hk,hv⟩ .nil⟩
 | @cons p e l es hpe hrest ih=>
  intro i l' h;rw[qO,sA]at h;obtain⟨q,hq,h⟩:=h
  have h1:=hF1 p.1 e es i q hpe.1 hq
  cases q with
  | true=>
   rw[cond_true]at h
   cases h;refine .inl ⟨0,e,by grind,by simp,WJ hk hpe.1 hq,?_⟩
   exact .cons ⟨hk,hv⟩ hrest
  | false=>
   rw[cond_false,sA]at h;obtain⟨r,hr,h⟩:=h
   cases h;simp only[ybq,if_false]at h1;rcases ih (i:=i+1) hr with⟨j,e0,h2,h3,h4,h5⟩ | ⟨h2,h3⟩
   ·refine .inl ⟨j+1,e0,?_,by simp_all,h4,?_⟩
    ·rw[h1,h2,show i+1+j=i+(j+1) by omega]
    ·exact .cons hpe h5
   ·exact .inr ⟨by simp_all,fun born=>.cons hpe (h3 born)⟩
theorem zbl(hT:mF P C){t:Nat}{ty:lD}(hty:C.tys.get t=some ty)(hkt:wW C ty=true){k v:zA}{kv vv:Value}(hfit:rT C ty k=true)(hk:vA μ k kv)(hv:vA μ v vv){l l':List (zA × zA)}{es:List MapEntry}(hl:xD (Md μ) l es)(h:qO k v l=some l') :
  (∃(j:Nat) (e0:MapEntry),(Instr.findKey t kv es).run P w=.ok (some (j,e0.val)) w/\es[j]?=some e0/\Instr.sameBits 10000 e0.key kv=true/\xD (Md μ) l' (es.set j { e0 with key:=kv,val:=vv })) ∨
   ((Instr.findKey t kv es).run P w=.ok none w/\∀born,xD (Md μ) l' (es++[⟨kv,vv,born⟩])):=by
 have hF:=hT.facts hty
 rcases BV hkt with hkd | ⟨fs,hkd,hfs,hok,hfl⟩
 ·obtain⟨D,hD⟩:=hF.und
  have hfits:=BG hF hD hkd (BJ hkd hfit)
  have hfk:∀(q:Option (Nat × Value)),Instr.findNow D kv es 0=some q->(Instr.findKey t kv es).run P w=.ok q w:=by
   simp_all [Instr.findKey,tF]
  have back : ∀ (q : Option (Nat × Value)), ((fun es i => (match Instr.findNow D kv es i with | some r => pure r | none => stuck "" : Sem (Option (Nat × Value)))) es 0).run P w = .ok q w -> Instr.findNow D kv es 0 = some q := by
   intro q hq;simp only[]at hq
   cases hn:Instr.findNow D kv es 0 with
   | none=>simp_all
   | some r=>rw[hn]at hq;simp only[yae]at hq;injection hq with h1 _;rw[h1]
  have hF1 : ∀ (p : zA) (e : MapEntry) (es : List MapEntry) (i : Nat) (q : Bool), vA μ p e.key -> lI k p = some q -> ((fun es i => (match Instr.findNow D kv es i with | some r => pure r | none => stuck "" : Sem (Option (Nat × Value)))) (e :: es) i).run P w = if q then .ok (some (i, e.val)) w else ((fun es i => (match Instr.findNow D kv es i with | some r => pure r | none => stuck "" : Sem (Option (Nat × Value)))) es (i + 1)).run P w := by
   intro p e es i q hp hq;have h1:=HI hfits hk hp (hfits.eq1 hq)
   simp only[Instr.findNow,h1]
   cases q<;>rfl
  rcases GY (P := P) (w := w) (F := fun es i => match Instr.findNow D kv es i with | some r => pure r | none => stuck "") hk hv (fun i => rfl) hF1 hl (i := 0) h with ⟨j, e0, g1, g2, g3, g4⟩ | ⟨g1, g2⟩
  all_goals grind
 ·obtain⟨x,rfl,hx⟩:=BH hkd hfs hfit
  obtain⟨g,hg,rfl⟩:=Hy hF hfs
  rw[NP hg];have hF1:∀(p:zA) (e:MapEntry) (es:List MapEntry) (i:Nat) (q:Bool),vA μ p e.key->lI (.agg x) p=some q->(Instr.findAsking t kv (e::es) i).run P w=if q then .ok (some (i,e.val)) w else(Instr.findAsking t kv es (i+1)).run P w:=by
   intro p e es i q hp hq;have h1:=LW (P:=P) (w:=w) hT hty hfs hok hfl hx hk hp hq
   simp only[Instr.findAsking,yad,h1,yac]
   cases q<;>rfl
  rcases GY (P:=P) (w:=w) (F:=fun es i=>Instr.findAsking t kv es i) hk hv (fun i=>rfl) hF1 hl (i:=0) h with⟨j,e0,g1,g2,g3,g4⟩ | ⟨g1,g2⟩
  all_goals grind
def Jr{r:Nat}{o o':Obj}(h:w.heap[r]?=some o)(hc:∀a b c,o≠.cells a b c):(setObj r o').run P w=.ok () (World.setBlk w r o'):=by
 simp only[setObj,Sem.run,h];rfl
theorem WB(hT:mF P C)(hbase:B<=C.base)(hH:rB B N μ H w)(hE:gF μ e ρ){t:Nat}{m k x:Operand}(h:Ev t m k x C e H=.val v H') :
  ∃w',(Instr.mapUpdate t (ρ m) (ρ k) (ρ x)).run P w=.ok () w'/\rB B N μ H' w'/\Below N w w'/\v=pD:=by
 have h:=dS h
 simp only[sA,sB,Vr,ycp]at h;obtain⟨ty,hty,ke,hke,kty,hkty,hkd,mv,hm,b,rfl,hbb,l,hl,kv,hk,hfit,xv,hx,l',hl',h⟩:=h
 cases h;have hKF:=hT.facts hkty
 have hmv:=hE _ _ hm
 rw[vA]at hmv;obtain⟨i,hi,hmv⟩:=hmv
 obtain⟨es,clock,lp,h1,hperm,h2⟩:=hH.mapAt hl hi
 obtain⟨lp',hlp',hperm'⟩:=TV hperm hl'
 have hb:B<=b:=by
  grind [qC]
 have hown:=hH.own b i hb hi
 have hu:=OP (hT.facts hty) hke
 have hck:=PK (P:=P) (w:=w) (empty:=false) (d:=9998) (kv:=ρ k) hT hkty hkd hfit (hE _ _ hk)
 rcases zbl (P:=P) (w:=w) hT hkty hkd hfit (hE _ _ hk) (hE _ _ hx) h2 hlp' with⟨j,e0,h3,h4,h5,h6⟩ | ⟨h3,h4⟩
 ·have h4':es[j]?=some e0:=by simp_all
  have hj:j<es.size:=(ybe.1 h4').1
  refine⟨World.setBlk w i.b (.map (es.modify j fun e=>{ e with key:=ρ k,val:=ρ x }) clock),?_,hH.upd (Vn hl) hi hb ⟨_,clock,lp',rfl,hperm',?_⟩,bZ hown.1,rfl⟩
  ·simp_all [Instr.mapUpdate,tF,Np,Instr.keyThatStays,Jr]
  ·have:(es.modify j fun e=>{ e with key:=ρ k,val:=ρ x }).toList=es.toList.set j { e0 with key:=ρ k,val:=ρ x }:=by
    apply List.ext_getElem?
    grind
   rw[this];exact h6
 ·refine⟨World.setBlk w i.b (.map (es.push { key:=ρ k,val:=ρ x,born:=clock }) (clock+1)),?_,hH.upd (Vn hl) hi hb ⟨_,clock+1,lp',rfl,hperm',?_⟩,bZ hown.1,rfl⟩
  ·simp_all [Instr.mapUpdate,tF,Np,Jr]
  ·rw[Array.toList_push];exact h4 clock
theorem Uc(hT:mF P C)(hbase:B<=C.base)(hH:rB B N μ H w)(hE:gF μ e ρ){t:Nat}{m k x:Operand}(h:Ev t m k x C e H=.val v H') :
  sS P B N μ w ρ ⟨dst,.mapUpdate t m k x,type,pos,after,guard⟩ v H'/\sS P B N μ w ρ ⟨dst,.insert t m k x,type,pos,after,guard⟩ v H':=by
 obtain⟨w',h1,h2,h3,rfl⟩:=WB (P:=P) hT hbase hH hE h
 constructor
 all_goals
  refine⟨undef,w',μ,.inr ⟨?_,rfl⟩,μ.le_refl,h2,h3,EX⟩
  grind [execOp,Sem.run_bind,Result.andThen_ok,Sem.run_pure]
theorem QA(s:ByteArray):pB μ (eZ (pF s)) (s.data.map fun b=>Value.int .u8 b.toNat).toList:=by
 grind [pB.mk,eZ,pF,vA]
theorem ZC(l:List Nat):(eZ l).length=l.length:=by simp[eZ]
theorem rB.newLoose(hH:rB B N μ H w){l:List zA}{cs:Array Value}{lo:Lo}(hlen:l.length<=cs.size)(hl:∀(j:Nat) a,l[j]?=some a->∃v,cs[j]?=some v/\vA μ a v)(elem:TypeId)(fr:Nat × Nat)(hfr:fr.2<=fr.1\/cs.size<=fr.1)(hmod:∀t,lo=.ty t->elem=t) :
  rB B N (μ.ext H.next ⟨w.heap.size,false,lo.es,cs.size,false⟩) (rF H l (some lo)) (w.alloc (.cells cs elem fr)):=by
 refine hH.newBlk rfl rfl ⟨cs,elem,fr,rfl,by grind [kD],.inr hfr,fun j v hv=>?_,rfl,rfl,rfl,hmod⟩
 rw[Tr.get_ofList]at hv;obtain⟨u,hu,hr⟩:=hl j v hv
 exact⟨by grind [kD],u,hu,hr.mono hH.ext_le.f _ _⟩
def zqg(need old:Nat)(elem:TypeId)(t:Nat):need<=(Question.appendCap need old elem).cut t:=by simp[Question.cut]
theorem HN(need old:Nat)(elem:TypeId):∃c,need<=c/\(choose (.appendCap need old elem)).run P w=.ok c w.drew:=by
 simp_all [zqg,Question.forced]
def Ik:Below N w w.drew:=(Below.refl N w).drew
theorem SV(hH:rB B N μ H w){el:Nat}(s:ByteArray):∃w' cap,(Conv.stringToBytes el s).run P w=.ok (.slice (some ⟨w.heap.size,0,none⟩) s.size cap) w'/\s.size<=cap ∧
  rB B N (μ.ext H.next ⟨w.heap.size,false,1,cap,false⟩) (rF H (eZ (pF s)) (some (.ty el))) w'/\Below N w w':=by
 obtain⟨cap,hcap,hc⟩:=HN (P:=P) (w:=w) s.size 0 el
 let cs:Array Value:=(s.data.map fun b=>Value.int .u8 b.toNat)++Array.replicate (cap-s.size) (.int .u8 0)
 have hsz:cs.size=cap:=by simp[cs];omega
 have hdat:(s.data.map fun b=>Value.int .u8 b.toNat).size=s.size:=by simp
 have hpush:∀X:Obj,(w.drew.heap.push X)[w.heap.size]?=some X:=fun X=>by show(w.heap.push X)[w.heap.size]?=_;simp
 refine⟨w.drew.alloc (.cells cs el (cap,cap+1)),cap,?_,hcap,?_,(Ik).trans (aT (by simpa using hH.size) _)⟩
 ·unfold Conv.stringToBytes
  have hfz:(w.drew.alloc (.cells cs el)).freeze ⟨w.heap.size,cap,none⟩ 1=w.drew.alloc (.cells cs el (cap,cap+1)):=by
   unfold World.freeze;rw[yaa (by simp)]
   unfold World.alloc;congr 1
   grind
  have hshape:(w.drew.alloc (.cells cs el)).shape? w.heap.size=some (el,cs.size):=by
   grind [World.shape?,World.alloc]
  simp only[yad,hc,yac,Az,markStringish,run_shape];have h2:(w.drew.alloc (.cells cs el)).shape? w.drew.heap.size=some (el,cap):=by simp_all
  simp only[show((s.data.map fun b=>Value.int .u8 (b.toNat:Int))++Array.replicate (cap-s.size) (Value.int .u8 0))=cs from rfl,h2,run_freeze,yac,yae]
  simp_all
 ·have:=(hH.drew).newLoose (l:=eZ (pF s)) (cs:=cs) (lo:=.ty el) (by grind [ZC,Lk]) (fun j a ha=>?_) el (cap,cap+1) (.inr (by omega)) (fun t e=>by grind)
  ·rw[hsz]at this;exact this
  ·obtain⟨u,hu,hr⟩:=(QA (μ:=μ) s).get ha
   grind
theorem WN(hT:mF P C)(hH:rB B N μ H w)(hE:gF μ e ρ){s d:Nat}{x:Operand}(h:kZ s d x C e H=.val v H'):sS P B N μ w ρ ⟨dst,.convert s d x,type,pos,after,guard⟩ v H':=by
 unfold kZ at h;split at h
 ·rename_i u hu
  injection h with h1 h2
  subst h1 h2
  exact(LL hT hH hE hu).hv hH
 ·have h:=dS h
  simp only[sA,sB,iM,lY,kD]at h;obtain⟨sy,hsy,ty,hty,el,hel,et,het,k,hk,rfl,a,ha,l,rfl,h⟩:=h
  cases h;have hv:=hE _ _ ha
  rw[vA]at hv;obtain⟨str,hxv,rfl⟩:=hv
  obtain⟨w',cap,h1,h2,h3,h4⟩:=SV (P:=P) (el:=el) hH str
  obtain⟨su,hsu⟩:=(hT.facts hsy).und
  refine⟨.slice (some ⟨w.heap.size,0,none⟩) str.size cap,w',_,.inl ?_,hH.ext_le,h3,h4,?_⟩
  ·have h5:(convert s d (ρ x)).run P w=.ok (.slice (some ⟨w.heap.size,0,none⟩) str.size cap) w':=by
    rw[hxv];simp only[convert,yad,tF hsu,tF (xV (hT.facts hty) hel),yac]
    cases su<;>simp only[tF (DD (hT.facts het) hk),yac,h1]
   grind [execOp,Sem.run_bind,Result.andThen_ok,Sem.run_pure]
  simp_all [vA,Lk,Mu.ext_same]
end
end
section
variable {i:BI}{a:zA}{x:Value}{b cap el len n st ut:Nat}{et:lD}{new:List zA}{u:TypeDesc}{base:Option Addr}{tys:Array TypeId}{args cs:Array Value}{vn:List Value}{elem:TypeId}{fr:Nat × Nat}
section
variable {P:Program}{C:iA}{B N:Nat}{μ:Mu}{H H':xA}{w:World}
variable {e:vD}{ρ:Operand->Value}{dst:Option Tmp}{type:TypeId}{pos:String}{after:Array Edge}{guard:Option (Nat × Bool)}{v:zA}
theorem rB.drop(hH:rB B N μ H w)(b:Nat)(hb:∀x t,μ.pd b≠some (x,t)):rB B N μ ⟨H.next,H.t.del b⟩ w:=by
 have hget:∀a,(H.t.del b).get a=if a=b then none else H.t.get a:=fun a=>Tr.get_del _ _ _
 have key:∀a x,(H.t.del b).get a=some x->a≠b/\H.t.get a=some x:=by
  simp_all
 refine⟨hH.base,hH.glob,fun a x i ha hx=>hH.low a x i ha (key a x hx).2,hH.next,hH.size,fun a ha=>⟨(hH.fresh a ha).1,?_⟩,fun a x i hx=>hH.blk a x i (key a x hx).2,hH.own,fun a c x y i j hx hy=>hH.inj a c x y i j (key a x hx).2 (key c y hy).2,fun a x t ha=>?_⟩
 rotate_left
 ·obtain⟨h1,h2,h3⟩:=hH.pnd a x t ha
  grind
 rw[hget];split
 ·rfl
 ·exact(hH.fresh a ha).2
theorem rB.adopt(hH:rB B N μ H w){y:tA}{o':Obj} (hN:N<=i.b/\i.b<w.heap.size/\i.ro=false)(hfree:∀a x j,B<=a->H.t.get a=some x->μ a=some j->j.b≠i.b)(hy:uJ (μ.ext H.next i) i y o') :
  rB B N (μ.ext H.next i) (Am.newBlk H y) (World.setBlk w i.b o'):=by
 have hle:μ.le (μ.ext H.next i):=hH.ext_le
 have hget:∀a,(Am.newBlk H y).t.get a=if a=H.next then some y else H.t.get a:=fun a=>Tr.get_set _ _ _ _
 have hsz:(World.setBlk w i.b o').heap.size=w.heap.size:=by simp[World.setBlk]
 refine⟨hH.base,?_,?_,?_,?_,?_,?_,?_,?_,fun a x t ha=>?_⟩
 ·intro g hg;rw[Mu.ext_get,yaa (by have:=hH.next;have:=hH.base;omega)];exact hH.glob g hg
 ·intro a x j ha hx hj
  rw[hget,yaa (by have:=hH.next;omega)]at hx
  rw[Mu.ext_get,yaa (by have:=hH.next;omega)]at hj
  exact hH.low a x j ha hx hj
 ·have:=hH.next;show B<=H.next+1;omega
 ·omega
 ·intro a ha
  have ha':H.next+1<=a:=ha
  rw[hget,yaa (by omega)]
  rw[Mu.ext_get,yaa (by omega)]
  exact hH.fresh a (by omega)
 ·intro a x j hx h1
  rw[hget]at hx;rw[Mu.ext_get]at h1;split at hx
  ·grind [Gr]
  ·rename_i hne
   rw[yaa hne]at h1;obtain⟨q,h2,h3⟩:=hH.blk a x j hx h1
   refine⟨q,?_,h3.mono hle⟩
   rw[Gr,yaa]
   ·exact h2
   ·rintro⟨e,_⟩
    by_cases hb:B<=a
    ·grind
    ·have h5:=(hH.low a x j (by omega) hx h1).1
     omega
 ·intro a j ha hj
  rw[Mu.ext_get]at hj;rw[hsz];split at hj
  ·simp_all
  ·exact hH.own a j ha hj
 ·intro a b x z j k hx hz hj hk ha hb hjk
  rw[hget]at hx hz;rw[Mu.ext_get]at hj hk;by_cases ea:a=H.next
  ·grind
  ·by_cases eb:b=H.next
   ·grind
   ·rw[yaa ea]at hx hj;rw[yaa eb]at hz hk
    exact hH.inj a b x z j k hx hz hj hk ha hb hjk
 ·obtain⟨h1,h2,h3⟩:=hH.pnd a x t ha
  have hne:a≠H.next:=fun e=>by rw[e,(hH.fresh _ (ybk _)).2]at h2;cases h2
  grind [Mu.ext_get]
def zc6  (hx:vA μ a x) (h:Em a=some n):(Builtin.lenOf x).run P w=.ok n w:=by
 unfold Em at h;split at h
 ·rename_i s hs
  cases h;rw[Fi]at hs;subst hs;rw[vA]at hx;rcases hx with⟨i,c,_,rfl,_⟩ | ⟨_,k,_,A,_,rfl,_⟩
  ·rfl
  ·rw[k];rfl
 ·split at h
  ·rename_i s hs
   rw[lY]at hs;subst hs;rw[vA]at hx;obtain⟨str,rfl,rfl⟩:=hx
   rw[kD,Lk]at h
   cases h;rfl
  ·rw[sB,gC,xX.2.1]at h
   obtain⟨rfl,h⟩:=h
   cases h;rw[vA]at hx;subst hx;rfl
theorem NO(hH:rB B N μ H w)  (hx:vA μ a x){size:Nat}{l:List zA}(hn:Em a=some n)(h:oW H size n a=some l) :
  ∃vs:List Value,(Builtin.firstCells size n x).run P w=.ok vs.toArray w/\pB μ l vs:=by
 unfold oW at h;split at h
 ·rename_i s hs
  rw[Fi]at hs;subst hs;simp only[sA]at h;obtain⟨c,hc,h⟩:=h
  rw[vA]at hx;rcases hx with⟨i,c',hi,rfl,_⟩ | ⟨_,k,_,A,_,rfl,_⟩
  rotate_left
  ·have hn0:n=0:=by
    have hn:some s.2.2.1=some n:=hn
    simp_all
   subst hn0;rw[Nat.zero_mul]at h
   cases h;exact⟨[],by show(loadCells A (0*size)).run P w=_;rw[Nat.zero_mul];rfl,.nil⟩
  obtain⟨vs,_,h2,h3,_⟩:=hH.manyAt (P:=P) hc hi h
  exact⟨vs,h3,h2⟩
 ·split at h
  ·rename_i s hs
   rw[lY]at hs;subst hs
   cases h;rw[vA]at hx;obtain⟨str,rfl,rfl⟩:=hx
   refine⟨((str.extract 0 n).data.map fun b=>Value.int .u8 b.toNat).toList,by rw[Array.toArray_toList];rfl,?_⟩
   grind [xT,PY,QA]
  ·rw[sB,gC,xX.2.1]at h
   obtain⟨rfl,h⟩:=h
   cases h;rw[vA]at hx;subst hx;exact⟨[],rfl,.nil⟩
theorem zd1(newLen:Nat):∀(r c:Nat),c<newLen->Builtin.growBy newLen r c<=newLen+(newLen+768) / 4:=by
 intro r;induction r with
 | zero=>grind [Builtin.growBy]
 | succ r ih=>
  intro c h;rw[Builtin.growBy,yaa (by omega)]
  by_cases h2:c+(c+768) / 4<newLen
  ·grind
  ·cases r with
   | zero=>rw[Builtin.growBy];omega
   | succ r=>grind [Builtin.growBy]
theorem VS(need cap:Nat)(h:cap<need):Builtin.nextslicecap need cap<=2*need+192:=by
 grind [Builtin.nextslicecap,zd1]
structure QZ (et:lD) (len cap n:Nat) (new:List zA):Prop where
 small:len+n+cap<1000000000
 bytes:(len+n+cap)*et.bytes<1000000000
 b:et.bytes<1000000000
 size:et.size≠0
 new:new.length=n*et.size
 zero:et.zero.length=et.size
def CD   (h:Bz et len cap n new=true):QZ et len cap n new:=by
 unfold Bz at h;simp only[ybb,qC,ycp,beqf,gC,kD]at h;obtain⟨⟨⟨⟨⟨h1,h2⟩,h3⟩,h4⟩,h5⟩,h6⟩:=h
 exact⟨h1,h2,h3,h4,h5,h6⟩
def EJ(z:Array Value)(n:Nat):(Builtin.zeroCells z n).size=n*z.size:=by simp[Builtin.zeroCells]
theorem Si   (hst:P.underlying st=some (.slice el))(hut:P.underlying ut=some u)(hu:∀k,u≠.int k)(hF:eM P el et)
  (ht0:tys[0]?=some st) (ht1:tys[1]?=some ut) (ha0:args[0]?=some (.slice base len cap)) (ha1:args[1]?=some x) (hn:(Builtin.lenOf x).run P w=.ok n w) (hlt:¬ len+n<=cap)
  (hs:len+n<1000000000) (hb:(len+n)*et.bytes<1000000000) (hbb:et.bytes<1000000000) {old new:Array Value} {z:Value} (hold:(Builtin.firstCells et.size len (.slice base len cap)).run P w.drew=.ok old w.drew) (hnew:(Builtin.firstCells et.size n x).run P w.drew=.ok new w.drew)
  (hz:∀w,(zeroValue el).run P w=.ok z w) :
  ∃newCap,len+n<=newCap/\(Builtin.append_ tys type args).run P w=.ok (.slice (some ⟨w.heap.size,0,none⟩) (len+n) newCap) (w.drew.alloc (.cells (old++new++Builtin.zeroCells z.cells (newCap-(len+n))) el)):=by
 obtain⟨inf,hinf,hsz,hby,_⟩:=hF.info
 obtain⟨newCap,hcap,hc⟩:=HN (P:=P) (w:=w) (len+n) cap el
 refine⟨newCap,hcap,?_⟩
 have h1:¬ (((len+n:Nat):Int) > IntKind.i64.max/\(False\/et.bytes=0)):=by
  have:IntKind.i64.max=9223372036854775807:=by decide
  omega
 have h2:¬ Builtin.nextslicecap (len+n) cap*et.bytes > 2^48:=by
  have h3:=VS (len+n) cap (by omega)
  have h4:Builtin.nextslicecap (len+n) cap*et.bytes<=(2*(len+n)+192)*et.bytes:=ybi _ h3
  grind
 unfold Builtin.append_;simp only[ht0,ht1,ha0,ha1,yad,tF hst,tF hut,yac,hF.size,yae]
 cases u<;>first
  | exact absurd rfl (hu _)
  | simp only[ybq,if_false,ycl,if_true,hn,yaa hlt,yac,Gs hinf,hby,yad,Sem.run_ite,yae,yaa h1,yaa h2,hc,run_askRoom,hold,hnew,hz,Az,World.size_drew]
theorem Sh   (hst:P.underlying st=some (.slice el))(hut:P.underlying ut=some u)(hu:∀k,u≠.int k)(hF:eM P el et)
  (ht0:tys[0]?=some st) (ht1:tys[1]?=some ut) (ha0:args[0]?=some (.slice base len cap)) (ha1:args[1]?=some x) (hn:(Builtin.lenOf x).run P w=.ok n w) (hlt:len+n<=cap)
  {new:Array Value} {w':World} (hnew:(Builtin.firstCells et.size n x).run P w=.ok new w) (hst':(match base with | some a=>storeCells (a.add (len*et.size)) new.toList | none=>pure ():Sem Unit).run P w=.ok () w') :
  (Builtin.append_ tys type args).run P w=.ok (.slice base (len+n) cap) w':=by
 unfold Builtin.append_;simp only[ht0,ht1,ha0,ha1,yad,tF hst,tF hut,yac,hF.size,yae];grind [Result.andThen_ok,Sem.run_bind,Sem.run_pure]
@[simp] theorem Lo.es_sz (n:Nat):(Lo.sz n).es=n:=rfl
@[simp] theorem Lo.es_ty (n:Nat):(Lo.ty n).es=1:=rfl
theorem Lg(e:Nat)(et:lD):(qN e et).es=et.size:=by
 unfold qN;rw[rD];split
 all_goals simp_all
theorem ze5{e t:Nat} (h:qN e et=.ty t):e=t:=by
 grind [qN]
theorem zcz{a b:Lo}:loEq a b=true ↔ a=b:=by
 cases a<;>cases b<;>simp[loEq,gC]
theorem rB.newGrown(hH:rB B N μ H w) {newCap:Nat}{old:List zA}{vo:List Value}{z:Array Value}(hg:QZ et len cap n new)(hz:pB μ et.zero z.toList)(hcap:len+n<=newCap)(ho:pB μ old vo)(hol:old.length=len*et.size)(hn:pB μ new vn)(el:TypeId) :
  rB B N (μ.ext H.next ⟨w.heap.size,false,et.size,newCap*et.size,false⟩) (rF H (old++new) (some (qN el et))) (w.alloc (.cells (vo.toArray++vn.toArray++Builtin.zeroCells z (newCap-(len+n))) el)):=by
 have hzs:=hz.length
 simp only[ycz]at hzs;have h1:=ho.length
 have h2:=hn.length
 have hsz:(vo.toArray++vn.toArray++Builtin.zeroCells z (newCap-(len+n))).size=newCap*et.size:=by
  simp only[Array.size_append,List.size_toArray,EJ,h1,h2,hol,hg.new,hzs,hg.zero];rw[<- ybo,<- ybo];simp_all
 have:=hH.newLoose (l:=old++new) (cs:=vo.toArray++vn.toArray++Builtin.zeroCells z (newCap-(len+n))) (lo:=qN el et) ?_ ?_ el (0,0) (.inl (ybk _)) fun t=>ze5
 ·grind [Lg]
 ·rw[hsz,ybg,hol,hg.new,<- ybo];exact ybi _ hcap
 ·intro j a ha
  obtain⟨v,hv,hr⟩:=(ho.append hn).get ha
  grind
theorem zod(hbase:B<=C.base)(hH:rB B N μ H w)   {s:Nat × Nat × Nat × Nat}(h:Bx C H et n new s=some (v,H')) (hi:μ s.1=some i){vs:List Value}(hl:pB μ new vs) :
  v=.slice s.1 s.2.1 (s.2.2.1+n) s.2.2.2/\∃w',(storeCells (Addr.add ⟨i.b,s.2.1,none⟩ (s.2.2.1*et.size)) vs.toArray.toList).run P w=.ok () w'/\rB B N μ H' w'/\Below N w w':=by
 unfold Bx at h;split at h
 ·cases h
  rw[pB]at hl;subst hl;exact⟨rfl,w,rfl,hH,Below.refl _ _⟩
 ·rw[sA]at h
  obtain⟨H1,h1,h⟩:=h
  cases h;obtain⟨w',h2,h3,h4⟩:=FZ (P:=P) hbase hH h1 hi hl
  grind [Ae]
theorem zgj {p:Tr zA × Nat × Option Lo}(hH:rB B N μ H w)(h:qD H b=some p) (hi:μ b=some i)(hl:p.2.2=none):i.tight=true:=by
 obtain⟨o,h2,h3⟩:=hH.blk _ _ _ (Cs h) hi
 obtain⟨cs,elem,fr,_,_,_,_,h4⟩:=h3
 simp_all
theorem WD    (h:w.heap[b]?=some (.cells cs elem fr)) (hn:n<=cs.size):(loadCells ⟨b,0,none⟩ n).run P w=.ok (cs.toList.take n).toArray w:=by
 have:=run_loadCells_list (P:=P) w ⟨b,0,none⟩ (cs.toList.take n) fun j v hv=>by
  grind [Ae,World.cell?]
 rwa [yda,ycz,Nat.min_eq_left hn]at this
theorem KF{μ':Mu}{j:BI}{c:Tr zA}{m L:Nat}{es:Lo}{cs2:Array Value}{el:TypeId}{fr2:Nat × Nat}(hle:μ.lw μ')(h:uJ μ i (.cells c m (some es)) (.cells cs elem fr))  (hn:pB μ new vn)
  {tot:Nat} (hm:m<=tot) (htot:L+new.length=tot) (hsz:tot<=cs2.size) (hfr:fr2.2<=fr2.1\/cs2.size<=fr2.1) (hold:∀k,k<L->cs2[k]?=cs[k]?) (hnew:∀k,k<new.length->cs2[L+k]?=vn[k]?)
  (hj:j.tight=false/\j.es=es.es/\j.room=cs2.size) (hmod:∀t,es=.ty t->el=t):uJ μ' j (.cells (c.setMany new L) tot (some es)) (.cells cs2 el fr2):=by
 obtain⟨cs0,elem0,fr0,e,h2,h3,h4,h5⟩:=h
 cases e
 refine⟨cs2,el,fr2,rfl,hsz,.inr hfr,fun k v hv=>?_,hj.1,hj.2.1,hj.2.2,hmod⟩
 rw[Tr.get_setMany]at hv;split at hv
 ·rename_i hk
  obtain⟨u,hu,hr⟩:=hn.get hv
  refine⟨by omega,u,?_,hr.mono hle _ _⟩
  grind
 ·rename_i hk
  obtain⟨a,u,hu,hr⟩:=h4 k v hv
  refine⟨by omega,u,?_,hr.mono hle _ _⟩
  grind
theorem WP(hT:mF P C)(hbase:B<=C.base)(hH:rB B N μ H w)(hE:gF μ e ρ){c:Call}(hc:c.callee=.builtin .append)(h:Ku c C e H=.val v H'):sS P B N μ w ρ ⟨dst,.call c,type,pos,after,guard⟩ v H':=by
 have h:=dS h
 simp only[sA,sB,bG,ycp,beqf]at h;obtain⟨st,hst,ty,hty,ut,hut,uty,huty,htag,p,hp,h⟩:=h
 obtain⟨X,Y,hXY,hX,hY⟩:=Wo hE hp
 unfold Aa at h;simp only[sA]at h;obtain⟨el,hel,et,het,n,hn,new,hnew,h⟩:=h
 have hF:=hT.facts het
 obtain⟨z,hz,_,hzl⟩:=hF.zero (μ:=μ)
 have hU:=hT.facts huty
 obtain⟨U,hUu⟩:=hU.und
 have hU2:∀k,U≠.int k:=by
  intro k e;subst e;have h0:=hU.desc
  unfold qQ at h0;rw[hUu]at h0;rw[<- h0]at htag;exact htag rfl
 have ht0:c.argTypes[0]?=some st:=by simp_all
 have ht1:c.argTypes[1]?=some ut:=by simp_all
 have ha0:(c.args.map ρ)[0]?=some (ρ X):=by simp_all
 have ha1:(c.args.map ρ)[1]?=some (ρ Y):=by simp_all
 have hln:=zc6 (P:=P) (w:=w) hY hn
 obtain⟨vn,hvn,hvl⟩:=NO (P:=P) hH hY hn hnew
 obtain⟨vn2,hvn2,hvl2⟩:=NO (P:=P) hH.drew hY hn hnew
 have run:∀ {v' w'},(Builtin.append_ c.argTypes type (c.args.map ρ)).run P w=.ok v' w'->(execOp ρ ⟨dst,.call c,type,pos,after,guard⟩).run P w=.ok (.value v') w':=by
  simp_all [Nr,builtin]
 have hsl:=xV (hT.facts hty) hel
 split at h
 ·rename_i s hs
  rw[Fi]at hs;rw[hs,vA]at hX;rcases hX with⟨i,cap',hi,hxv,hcap,htt,hrm⟩ | ⟨k1,k3,k4,A,rc,hxv,k2⟩
  rotate_left
  ·rw[hxv]at ha0
   rw[rD]at h;simp only[aE]at h;obtain⟨sb,so,sl,sc⟩:=s
   simp only at k1 k2 k3 k4
   subst k1 k3 k4
   simp only at h
   split at h
   ·rename_i hle
    have hn0:n=0:=by omega
    subst hn0;unfold Bx at h;split at h
    ·cases h
     rw[pB]at hvl;subst hvl;refine⟨.slice (some A) 0 rc,w,μ,.inl (run ?_),μ.le_refl,hH,Below.refl _ _,by grind [vA]⟩
     have:=Sh (type:=type) (w':=w) hsl hUu hU2 hF ht0 ht1 ha0 ha1 hln (by omega) hvn rfl
     omega
    ·rw[sA]at h
     obtain⟨H1,h1,_⟩:=h
     unfold sJ at h1;rw[sB,ycp]at h1;have h2:=h1.1
     have:=hH.base
     grind [qC]
   ·rename_i hgt
    unfold Ca at h;simp only[sB,sA]at h;obtain⟨hmark,hg,cc,hcc,h⟩:=h
    obtain⟨rfl,rfl⟩:so=0/\rc=0:=by
     rcases k2 with k2 | rfl
     all_goals simp_all
    have hG:=CD hg
    have hb1:(0+n)*et.bytes<1000000000:=yam (ybi _ (by omega)) hG.bytes
    split at h
    ·rename_i hnone
     unfold Kv at h;rw[sA]at h;obtain⟨old,hold,h⟩:=h
     cases h;simp only[Nat.zero_mul]at hold
     cases hold;obtain⟨nc,hnc,hr⟩:=Si (w:=w) hsl hUu hU2 hF ht0 ht1 ha0 ha1 hln (by omega) (by have:=hG.small;omega) hb1 hG.b (old := #[]) (new:=vn2.toArray) (z:=z) (by show(loadCells A (0*et.size)).run P w.drew=_;rw[Nat.zero_mul];rfl) hvn2 hz
     rw[aG];have hgr:=hH.drew.newGrown hG hzl hnc (pB.nil (μ:=μ)) (by simp) hvl2 el
     refine⟨_,_,_,.inl (run hr),hH.ext_le,hgr,Ik.trans (aT hH.drew.size _),?_⟩
     simp_all [vA,Mu.ext_same]
    ·rename_i es hsome
     unfold Kw at h;simp only[sB,ybb,gC,aE,mI,ycp]at h;obtain⟨⟨⟨⟨⟨⟨h1,h2⟩,h3⟩,h4⟩,h5⟩,h6⟩,h⟩:=h
     have:=hH.base
     grind [qC]
  rw[hxv]at ha0;rw[rD]at h;simp only[aE]at h;split at h
  ·rename_i hle
   obtain⟨rfl,w',h1,h2,h3⟩:=zod (P:=P) hbase hH h hi hvl
   refine⟨.slice (some ⟨i.b,s.2.1,none⟩) (s.2.2.1+n) cap',w',μ,.inl (run ?_),μ.le_refl,h2,h3,?_⟩
   ·exact Sh hsl hUu hU2 hF ht0 ht1 ha0 ha1 hln (by omega) hvn h1
   grind [vA]
  ·rename_i hgt
   unfold Ca at h;simp only[sB,sA]at h;obtain⟨_,hg,cc,hcc,h⟩:=h
   have hG:=CD hg
   have hb1:(s.2.2.1+n)*et.bytes<1000000000:=yam (ybi _ (by omega)) hG.bytes
   split at h
   ·rename_i hnone
    unfold Kv at h;rw[sA]at h;obtain⟨old,hold,h⟩:=h
    cases h;have hti:=zgj hH hcc hi hnone
    obtain⟨vo,_,hvo,hlo,_⟩:=hH.drew.manyAt (P:=P) hcc hi hold
    have hcc':=htt hti
    obtain⟨nc,hnc,hr⟩:=Si (w:=w) hsl hUu hU2 hF ht0 ht1 ha0 ha1 hln (by omega) (by have:=hG.small;omega) hb1 hG.b (old:=vo.toArray) (new:=vn2.toArray) (z:=z) hlo hvn2 hz
    rw[aG];refine⟨_,_,_,.inl (run hr),hH.ext_le,hH.drew.newGrown hG hzl hnc hvo (Tr.many_some _ _ _ _ hold).1 hvl2 el,Ik.trans (aT hH.drew.size _),?_⟩
    simp_all [vA,Mu.ext_same]
   ·rename_i es hsome
    unfold Kw at h;simp only[sB,ybb,gC,aE,mI,ycp]at h;obtain⟨⟨⟨⟨⟨⟨h1,h2⟩,h3⟩,h4⟩,h5⟩,h6⟩,h⟩:=h
    have h2:=zcz.1 h2
    subst h2;have hown:B<=s.1:=by
     grind [qC]
    have hNb:=hH.own s.1 i hown hi
    have hxs:=Cs hcc
    obtain⟨o,g2,g3⟩:=hH.blk _ _ _ hxs hi
    have g3':=g3
    obtain⟨cs,elem,fr,rfl,g4,g5,g6,g7⟩:=g3
    have g5:=g5.resolve_left (by simp_all)
    rw[hsome]at g7;obtain⟨g8,g9,g10,g11⟩:=g7
    rw[Lg]at g9;have hone:∀a∈new,a.one=true:=fun a ha=>ycb.1 h5 a ha
    have hrm':=hrm g8
    rw[h1,g9,g10]at hrm'
    rw[hsome]at g3'
    have hlen1:=hvl.length
    have hlen2:=hvl2.length
    have htotal:s.2.2.1*et.size+new.length=(s.2.2.1+n)*et.size:=by rw[hG.new,<- ybo]
    have hH2:=hH.drop s.1 (fun x t e=>by have:=(hH.pnd _ _ _ e).1;simp_all)
    by_cases hroom:s.2.2.1+n<=cap'
    ·have hfit:(s.2.2.1+n)*et.size<=cs.size:=by
      have:(s.2.2.1+n)*et.size<=cap'*et.size:=ybi _ hroom
      omega
     obtain⟨cs',hs',hj',hr'⟩:=HK (P:=P) (o:=s.2.2.1*et.size) vn 0 cs w g2 g5 (by omega) (hvl.one hone)
     have hst':(storeCells (Addr.add ⟨i.b,s.2.1,none⟩ (s.2.2.1*et.size)) vn.toArray.toList).run P w=.ok () (World.setBlk w i.b (.cells cs' elem fr)):=by
      grind [Ae]
     have hr:=Sh (type:=type) hsl hUu hU2 hF ht0 ht1 ha0 ha1 hln hroom hvn (w':=World.setBlk w i.b (.cells cs' elem fr)) hst'
     simp only[Option.some.injEq,Prod.mk.injEq]at h;obtain⟨rfl,rfl⟩:=h
     refine⟨_,_,μ.ext H.next i,.inl (run hr),hH.ext_le,?_,bZ hNb.1,?_⟩
     ·refine hH2.adopt hNb ?_ (KF hH.ext_le.f g3' hvl h4 htotal (by omega) (by omega) ?_ ?_ ⟨g8,by grind [Lg],by omega⟩ g11)
      ·intro a x j ha hx hj hb
       have hx':(if a=s.1 then none else H.t.get a)=some x:=by grind [Tr.get_del]
       split at hx'
       ·cases hx'
       ·rename_i hne
        exact hne (hH.inj a s.1 x _ j i hx' hxs hj hi ha hown hb)
      all_goals grind
     grind [vA,Mu.ext_same]
    ·have hlo:(Builtin.firstCells et.size s.2.2.1 (.slice (some ⟨i.b,s.2.1,none⟩) s.2.2.1 cap')).run P w.drew=.ok (cs.toList.take (s.2.2.1*et.size)).toArray w.drew:=by
      rw[h1];exact WD (w:=w.drew) g2 (by omega)
     obtain⟨nc,hnc,hr⟩:=Si (w:=w) (type:=type) hsl hUu hU2 hF ht0 ht1 ha0 ha1 hln hroom (by have:=hG.small;omega) hb1 hG.b (new:=vn2.toArray) (z:=z) hlo hvn2 hz
     have hzs:=hzl.length
     simp only[ycz]at hzs;have hol:(cs.toList.take (s.2.2.1*et.size)).length=s.2.2.1*et.size:=by grind
     have hsz2:((cs.toList.take (s.2.2.1*et.size)).toArray++vn2.toArray++Builtin.zeroCells z.cells (nc-(s.2.2.1+n))).size=nc*et.size:=by
      simp only[Array.size_append,List.size_toArray,EJ,hol,hlen2,hG.new,hzs,hG.zero];rw[<- ybo,<- ybo];simp_all
     simp only[Option.some.injEq,Prod.mk.injEq]at h;obtain⟨rfl,rfl⟩:=h
     refine⟨_,_,μ.ext H.next ⟨w.heap.size,false,et.size,nc*et.size,false⟩,.inl (run hr),hH.ext_le,?_,Ik.trans (aT hH.drew.size _),?_⟩
     ·refine hH2.drew.newBlk (H:=⟨H.next,H.t.del s.1⟩) rfl rfl (KF hH.ext_le.f g3' hvl2 h4 htotal ?_ (.inl (ybk _)) ?_ ?_ ⟨rfl,(Lg _ _).symm,hsz2.symm⟩ fun t=>ze5)
      all_goals grind
     simp_all [vA,Mu.ext_same]
 ·simp only[sB,gC,xX.2.1]at h
  obtain⟨hs,h⟩:=h
  rw[hs,vA]at hX;rw[hX]at ha0;unfold jZ at h;rw[rD]at h;simp only[gC]at h;split at h
  ·rename_i hn0
   subst hn0
   cases h;refine⟨.slice none 0 0,w,μ,.inl (run ?_),μ.le_refl,hH,Below.refl _ _,by rw[vA]⟩
   have:=Sh (type:=type) (w':=w) hsl hUu hU2 hF ht0 ht1 ha0 ha1 hln (by omega) hvn rfl
   omega
  ·rename_i hn0
   simp only[sB]at h;obtain⟨hg,h⟩:=h
   cases h;have hG:=CD hg
   have hb1:(0+n)*et.bytes<1000000000:=yam (ybi _ (by omega)) hG.bytes
   obtain⟨nc,hnc,hr⟩:=Si (w:=w) hsl hUu hU2 hF ht0 ht1 ha0 ha1 hln (by omega) (by have:=hG.small;omega) hb1 hG.b (old := #[]) (new:=vn2.toArray) (z:=z) rfl hvn2 hz
   rw[ybw]at hr hnc;have hgr:=hH.drew.newGrown hG hzl (by omega) (pB.nil (μ:=μ)) (by simp) hvl2 el (newCap:=nc)
   simp only[ybw]at hgr;refine⟨_,_,_,.inl (run hr),hH.ext_le,hgr,Ik.trans (aT hH.drew.size _),?_⟩
   simp_all [vA,Mu.ext_same]
end
end
section
variable {c:Call}{f:Operand}
section
variable {P:Program}{C:iA}{B N:Nat}{μ:Mu}{H H':xA}{w:World}{I:World->Prop}
variable {e:vD}{ρ:Operand->Value}{dst:Option Tmp}{type:TypeId}{pos:String}{after:Array Edge}{guard:Option (Nat × Bool)}{v:zA}
def Fu (P : Program) (C : iA) : Prop := ∀ f fn, C.fns.get f = some fn -> P.funcs[f]? = some fn /\ (fn.name == "runtime.NumGoroutine") = false
def Lw(P:Program)(C:iA)(B N:Nat)(I:World->Prop):Prop:=∀f g,C.prims.get f=some g->∀args H v H',g args H=some (v,H')->∀ μ w args',rB B N μ H w->I w->pB μ args args'.toList →
 (H'=H/\∃v',(callFunc f args').run P w=.ok (.value v') w/\vA μ v v') ∨
 ((callFunc f args').run P w=.ok (.enter f args') w/\Calls P f args' w fun e w'=>∃v' μ',e=.returned v'/\μ.le μ'/\rB B N μ' H' w'/\Below N w w'/\vA μ' v v')
theorem HS(hE:gF μ e ρ)  (hc:c.callee=.value f){p:AFn × List zA × List zA}(h:eS f c.args e=some p) :
  ∃fn cap as,(resolve ρ c type).run P w=.ok { target:=.fn fn cap,args:=as } w/\Mb μ p.1 fn/\pB μ p.2.1 as.toList/\pB μ p.2.2 cap.toList:=by
 unfold eS at h;simp only[sA,QG,aG]at h;obtain⟨a,ha,q,rfl,as,has,h⟩:=h
 cases h;have hv:=hE _ _ ha
 rw[vA]at hv;obtain⟨fn,first,cap,hfv,hfn,h1,h2⟩:=hv
 refine⟨fn,cap,first++c.args.map ρ,?_,hfn,?_,h2⟩
 ·grind [resolve,Deferred.ofValue,Sem.run_pure]
 ·have h3:=hE.many has
  have:=h1.append h3
  simp_all
theorem Sg(hF:Fu P C){f:Nat}{fn:Func}(hf:C.fns.get f=some fn)(hb:fn.body.isSome=true){args:Array Value}:(callFunc f args).run P w=.ok (.enter f args) w:=by
 obtain⟨h1,h2⟩:=hF f fn hf
 unfold callFunc;simp only[yad,run_program,yac,h1,h2];have:fn.body.isNone=false:=by cases h:fn.body<;>simp[h]at hb ⊢
 simp[this]
def cO (P:Program)(C:iA)(B N:Nat)(μ:Mu)(H:xA)(w:World)(ρ:Operand->Value)(o:Oper):sK->Prop
 | .val v H'=>sS P B N μ w ρ o v H'\/(∃f args',(execOp ρ o).run P w=.ok (.enter f args') w/\Calls P f args' w fun e w'=>∃v' μ',e=.returned v'/\μ.le μ'/\rB B N μ' H' w'/\Below N w w'/\vA μ' v v')
 | .enter f args=>∀fn,C.fns.get f=some fn->fn.body.isSome=true->∃args',(execOp ρ o).run P w=.ok (.enter f args') w/\pB μ args args'.toList
 | .round l args=>∃i args',μ l=some i/\pB μ args args'.toList/\(execOp ρ o).run P w=(Instr.yield i.b args').run P w
 | .defer d=>(∃c,o.op=.defer c)/\∃d',(execOp ρ o).run P w=.ok (.defer d') w/\Dc μ d d'
 | .panic v=>∃v',(execOp ρ o).run P w=.halt (.panic v') w/\vA μ v v'
 | .recover=>(execOp ρ o).run P w=.ok .recover w
 | .fail=>True
theorem zdz(hF:Fu P C)(hP:Lw P C B N I)(hH:rB B N μ H w)(hI:I w)(hE:gF μ e ρ)  (hc:c.callee=.value f) :
  cO P C B N μ H w ρ ⟨dst,.call c,type,pos,after,guard⟩ (Hq f c.args C e H):=by
 unfold Hq
 cases hr:eS f c.args e with
 | none=>exact trivial
 | some p=>
  obtain⟨fn,cap,as,h1,h2,h3,h3'⟩:=HS (P:=P) (w:=w) (type:=type) hE hc hr
  have run:(execOp ρ ⟨dst,.call c,type,pos,after,guard⟩).run P w=(invoke (.fn fn cap) as).run P w:=by
   grind [execOp,Sem.run_bind,Result.andThen_ok]
  show cO P C B N μ H w ρ _ (zqr C H p.2.1 p.2.2 p.1)
  obtain⟨fa,args,caps⟩:=p
  cases fa with
  | func g=>
   cases h2;have run2:(execOp ρ ⟨dst,.call c,type,pos,after,guard⟩).run P w=(callFunc g (as++cap)).run P w:=by rw[run];rfl
   have hl:pB μ (fD args caps) (as++cap).toList:=by rw[aG];simpa using h3.append h3'
   show cO P C B N μ H w ρ _ (Li C H (fD args caps) g (C.prims.get g))
   cases hp:C.prims.get g with
   | none=>
    show ∀fn,C.fns.get g=some fn->_
    grind [Sg]
   | some pr=>
    cases hv:pr (fD args caps) H with
    | none=>simp only[Li,hv];exact trivial
    | some x=>
     obtain⟨v,H'⟩:=x
     simp only[Li,hv];rcases hP g pr hp _ H v H' hv μ w (as++cap) hH hI hl with⟨rfl,v',h4,h5⟩ | ⟨h4,h5⟩
     ·exact Or.inl ⟨v',w,μ,.inl (by simp_all),μ.le_refl,hH,Below.refl _ _,h5⟩
     ·exact Or.inr ⟨g,as++cap,by simp_all,h5⟩
  | yld l=>
   obtain⟨i,hi,rfl⟩:=h2
   show cO P C B N μ H w ρ _ (PU l args caps)
   cases caps with
   | cons a b=>exact trivial
   | nil=>exact⟨i,as,hi,h3,by rw[run];rfl⟩
theorem zm0(hT:mF P C)(hbase:B<=C.base)(hF:Fu P C)(hP:Lw P C B N I)(hH:rB B N μ H w)(hI:I w)(hE:gF μ e ρ)(o:Oper):cO P C B N μ H w ρ o ((eE o.op).f C e H):=by
 have light:(∃l:eJ,(eE o.op).f=lv l/\∀v,l C e H=some v->eI P μ w ρ o v)->cO P C B N μ H w ρ o ((eE o.op).f C e H):=by
  rintro⟨l,h1,h2⟩
  rw[h1];unfold lv
  cases h:l C e H with
  | none=>exact trivial
  | some v=>exact Or.inl ((h2 v h).hv hH)
 have val:∀x:Option (zA × xA),(eE o.op).f C e H=dL x->(∀v H',dL x=.val v H'->sS P B N μ w ρ o v H')->cO P C B N μ H w ρ o ((eE o.op).f C e H):=by
  intro x h1 h2;rw[h1]
  cases x with
  | none=>exact trivial
  | some p=>exact Or.inl (h2 p.1 p.2 rfl)
 obtain⟨dst,op,type,pos,after,guard⟩:=o
 cases op
 case move=>exact light ⟨_,rfl,fun v h=>KX (C:=C) (H:=H) hE h⟩
 case assign=>exact light ⟨_,rfl,fun v h=>LN (C:=C) (H:=H) hE h⟩
 case pick=>exact light ⟨_,rfl,fun v h=>KW (C:=C) (H:=H) hE h⟩
 case load=>exact light ⟨_,rfl,fun v h=>KZ hT hH hE h⟩
 case nilCheck=>exact light ⟨_,rfl,fun v h=>zdc (C:=C) (H:=H) hE h⟩
 case binOp=>exact light ⟨_,rfl,fun v h=>zdj (H:=H) hT hE h⟩
 case unOp=>exact light ⟨_,rfl,fun v h=>zlj (C:=C) (H:=H) hE h⟩
 case makeInterface=>exact light ⟨_,rfl,fun v h=>LF (H:=H) hT hE h⟩
 case makeFunc=>exact light ⟨_,rfl,fun v h=>LG (C:=C) (H:=H) hE h⟩
 case slice=>exact light ⟨_,rfl,fun v h=>KV hT hH hE h⟩
 case fieldAddr=>exact light ⟨_,rfl,fun v h=>LJ (H:=H) hT hE h⟩
 case field=>exact light ⟨_,rfl,fun v h=>LH (H:=H) hT hE h⟩
 case indexAddr=>exact light ⟨_,rfl,fun v h=>LD (H:=H) hT hE h⟩
 case index=>exact light ⟨_,rfl,fun v h=>LA (H:=H) hT hE h⟩
 case extract=>exact light ⟨_,rfl,fun v h=>LK (C:=C) (H:=H) hE h⟩
 case build=>exact light ⟨_,rfl,fun v h=>LM (H:=H) hT hE h⟩
 case typeAssert=>exact light ⟨_,rfl,fun v h=>LO (H:=H) hT hE h⟩
 case lookup=>exact light ⟨_,rfl,fun v h=>KY hT hH hE h⟩
 case convert s d x=>
  show cO P C B N μ H w ρ _ (kZ s d x C e H)
  cases h:kZ s d x C e H with
  | val v H'=>exact Or.inl (WN hT hH hE h)
  | fail=>exact trivial
  | _=>
   exfalso
   unfold kZ at h;split at h
   ·cases h
   ·revert h;unfold dL;split<;>intro h<;>cases h
 case alloc=>exact val _ rfl fun v H' h=>zd0 (e:=e) hT hH h
 case box=>exact val _ rfl fun v H' h=>zpu (C:=C) hH hE h
 case buildSlice=>exact val _ rfl fun v H' h=>WO hT hH hE h
 case store=>exact val _ rfl fun v H' h=>MS hT hbase hH hE h
 case makeMap t r=>
  show cO P C B N μ H w ρ _ (Pm r C e H)
  cases r with
  | none=>exact Or.inl (WM (C:=C) (e:=e) hH rfl)
  | some x=>exact trivial
 case insert=>exact val _ rfl fun v H' h=>(Uc hT hbase hH hE h).2
 case mapUpdate=>exact val _ rfl fun v H' h=>(Uc hT hbase hH hE h).1
 case makeSlice=>exact val _ rfl fun v H' h=>WL hT hH hE h
 case panic x=>
  show cO P C B N μ H w ρ _ (Pl x C e H)
  unfold Pl
  cases hx:ev x e with
  | none=>exact trivial
  | some a=>
   cases hf:a.asIface with
   | none=>simp only[pA,hf,zoo,Ba];exact trivial
   | some p=>
    simp only[pA,hf,Ba];have h1:=hE _ _ hx
    rw[QF.1 hf,vA]at h1;obtain⟨x',h2,h3⟩:=h1
    refine⟨.iface p.1 x',?_,by grind [vA]⟩
    simp[execOp,h2,Instr.panic]
 case defer c=>
  show cO P C B N μ H w ρ _ ((Ud c c.callee).f C e H)
  cases hc:c.callee with
  | value f=>
   show cO P C B N μ H w ρ _ (Ba (ob (eS f c.args e) fun p=>some (.defer ⟨some p.1,0,fD p.2.1 p.2.2⟩)))
   cases hr:eS f c.args e with
   | none=>exact trivial
   | some p=>
    obtain⟨fn,cap,as,h1,h2,h3,h3'⟩:=HS (P:=P) (w:=w) (type:=type) hE hc hr
    refine⟨⟨c,rfl⟩,{ target:=.fn fn cap,args:=as },by grind [execOp,Sem.run_bind,Result.andThen_ok,Sem.run_pure],⟨?_⟩⟩
    refine⟨fn,cap,as,rfl,h2,?_⟩
    show pB μ (fD p.2.1 p.2.2) _
    rw[aG];simpa using h3.append h3'
  | _=>exact trivial
 case call c=>
  show cO P C B N μ H w ρ _ ((Ks c c.callee).f C e H)
  cases hc:c.callee with
  | value f=>exact zdz hF hP hH hI hE hc
  | builtin b=>
   cases b
   case append=>
    show cO P C B N μ H w ρ _ (Ku c C e H)
    cases h:Ku c C e H with
    | val v H'=>exact Or.inl (WP hT hbase hH hE hc h)
    | fail=>exact trivial
    | _=>exfalso;revert h;unfold Ku dL;split<;>intro h<;>cases h
   case len=>
    show cO P C B N μ H w ρ _ (lv (tR c) C e H)
    unfold lv
    cases h:tR c C e H with
    | none=>exact trivial
    | some v=>exact Or.inl ((zdh hT hH hE hc h).hv hH)
   case max=>
    show cO P C B N μ H w ρ _ (lv (fX c) C e H)
    unfold lv
    cases h:fX c C e H with
    | none=>exact trivial
    | some v=>exact Or.inl ((zde (C:=C) (H:=H) hE hc h).hv hH)
   case min=>
    show cO P C B N μ H w ρ _ (lv (iX c) C e H)
    unfold lv
    cases h:iX c C e H with
    | none=>exact trivial
    | some v=>exact Or.inl ((zdd (C:=C) (H:=H) hE hc h).hv hH)
   case recover=>
    show(execOp ρ ⟨dst,.call c,type,pos,after,guard⟩).run P w=_
    rw[Nr hc];rfl
   all_goals exact trivial
  | invoke r m=>exact trivial
 all_goals exact trivial
end
end
section
variable {μ ν:Mu}{ops:Array Oper}{listed:Array Bool}{i:Nat}
inductive jG (μ:Mu):oE->Item->Prop
 | code (c:Code):jG μ (.code c) (.code c)
 | inBlock (id:Nat):jG μ (.inBlock id) (.inBlock id)
 | inLoop (c:Code):jG μ (.inLoop c) (.inLoop c)
 | inScope (c:Code):jG μ (.inScope c) (.inScope c)
 | ops (all:Array Oper) (i:Nat) (h:i<=all.size):jG μ (.ops all (all.toList.drop i)) (.inRegion all ((List.range all.size).drop i))
 | inRange (l:Nat) (i:BI) (h:μ l=some i):jG μ (.inRange l) (.inRangeFunc i.b)
 | endRange (l:Nat) (i:BI) (h:μ l=some i):jG μ (.endRange l) (.endRangeFunc i.b)
 | beginRound:jG μ .beginRound .beginRound
theorem jG.mono (h:μ.lw ν){a:oE}{b:Item}(k:jG μ a b):jG ν a b:=by
 cases k with
 | code c=>exact .code c
 | inBlock id=>exact .inBlock id
 | inLoop c=>exact .inLoop c
 | inScope c=>exact .inScope c
 | ops all i hi=>exact .ops all i hi
 | inRange l i hl=>exact .inRange l i (h _ _ hl)
 | endRange l i hl=>exact .endRange l i (h _ _ hl)
 | beginRound=>exact .beginRound
structure Fs (μ:Mu) (p:Fv) (e:PanicEntry):Prop where
 v:vA μ p.v e.v
 recovered:e.recovered=p.recovered
 goexit:e.goexit=false
theorem Fs.mono (h:μ.lw ν){p:Fv}{e:PanicEntry}(k:Fs μ p e):Fs ν p e:=⟨k.v.mono h _ _,k.recovered,k.goexit⟩
def Qx(μ:Mu):bW->FrameMode->Prop
 | .run,.run=>True
 | .returning,.returning=>True
 | .panicking c,.panicking d=>xD (Fs μ) c d
 | _,_=>False
theorem Qx.mono (h:μ.lw ν){a:bW}{b:FrameMode}(k:Qx μ a b):Qx ν a b:=by
 cases a<;>cases b<;>first | exact xD.mono (fun _ _ r=>Fs.mono h r) k | exact k
def Fq(μ:Mu):Option Nat->Option Nat->Prop
 | none,none=>True
 | some l,some m=>∃i,μ l=some i/\m=i.b
 | _,_=>False
theorem Fq.mono (h:μ.lw ν){a b:Option Nat}(k:Fq μ a b):Fq ν a b:=by
 cases a<;>cases b<;>first | (obtain⟨i,h1,h2⟩:=k;exact⟨i,h _ _ h1,h2⟩) | exact k
structure wH (μ:Mu) (R:bJ) (fr:Frame):Prop where
 fn:fr.fn=R.fn
 size:fr.tmps.size=R.n
 defers:xD (Dc μ) R.defers fr.defers
 mode:Qx μ R.mode fr.mode
 kind:fr.kind=if R.deferred then .deferred else .normal
 round:Fq μ R.roundOf fr.roundOf
theorem wH.mono (h:μ.lw ν){R:bJ}{fr:Frame}(k:wH μ R fr):wH ν R fr:=
 ⟨k.fn,k.size,k.defers.mono fun _ _ r=>r.mono h,k.mode.mono h,k.kind,k.round.mono h⟩
def rM(o:Oper)(j:Nat):Prop:=∃e∈o.after.toList,Region.binds .any e=true/\e.on=j
def zkc(ops:Array Oper):(Nat->Bool)->List Nat->Prop
 | S,[]=>∀i,i<ops.size->S i=true
 | S,i::rest=>∃o,ops[i]?=some o/\S i=false/\(∀j,rM o j->S j=true)/\zkc ops (fun k=>S k||k == i) rest
def zbx   (h:i∈Region.ready .any ops listed):∃o,ops[i]?=some o/\listed.getD i true=false/\∀j,rM o j->listed.getD j false=true:=by
 unfold Region.ready at h;rw[List.mem_filter]at h;obtain⟨h1,h2⟩:=h
 simp only[ybb,ycp]at h2;obtain⟨h2,h3⟩:=h2
 cases ho:ops[i]? with
 | none=>simp_all
 | some o=>
  rw[ho]at h3;refine⟨o,rfl,h2,?_⟩
  rintro j ⟨e,he,hb,rfl⟩
  grind [Array.all_eq_true']
def zhe   {o:Oper}(ho:ops[i]?=some o)(h1:listed.getD i true=false)(h2:∀j,rM o j->listed.getD j false=true):i∈Region.ready .any ops listed:=by
 unfold Region.ready;rw[List.mem_filter];refine⟨by grind,?_⟩
 rw[h1,ho];simp only[ycl,ycn,Option.map_some,Option.getD_some,Array.all_eq_true'];intro e he
 cases hb:Region.binds .any e with
 | false=>rfl
 | true=>simpa using h2 e.on ⟨e,by simp_all,hb,rfl⟩
def Back (ops:Array Oper):Prop:=∀i o,ops[i]?=some o->∀j,rM o j->j<i
def ze0{p q:Nat->Bool}(hqp:∀k,q k=true->p k=true) (hp:p i=true)(hq:q i=false):∀l:List Nat,i∈l->l.countP q+1<=l.countP p:=by
 have le:∀l:List Nat,l.countP q<=l.countP p:=fun l=>List.countP_mono_left fun k _ h=>hqp k h
 intro l;induction l with
 | nil=>simp_all
 | cons k l ih=>
  grind
def zg8 (hb:Back ops):∀(fuel t:Nat) (listed:Array Bool),listed.size=ops.size →
  (List.range ops.size).countP (fun i => !listed.getD i true)<=fuel →
  zkc ops (fun i=>listed.getD i false) (Region.linearise.go .any ops fuel t listed []):=by
 intro fuel;induction fuel with
 | zero=>
  intro t listed hs hc;simp only[Region.linearise.go,List.reverse_nil];intro i hi;simp_all
 | succ fuel ih=>
  intro t listed hs hc;simp only[Region.linearise.go];change zkc ops _ (match (Region.ready .any ops listed)[t%(Region.ready .any ops listed).length]? with
   | some i=>Region.linearise.go .any ops fuel (t / (Region.ready .any ops listed).length) (listed.setIfInBounds i true) [i]
   | none=>[].reverse)
  cases hi:(Region.ready .any ops listed)[t%(Region.ready .any ops listed).length]? with
  | none=>
   have hnil:Region.ready .any ops listed=[]:=by
    cases hr:Region.ready .any ops listed with
    | nil=>rfl
    | cons x xs=>
     grind [Nat.mod_lt]
   show ∀i,i<ops.size->listed.getD i false=true
   intro i;induction i using Nat.strongRecOn with
   | _ i ihi=>
    intro hlt;refine Classical.byContradiction fun hne=>?_
    have ho:ops[i]?=some ops[i]:=by simp[hlt]
    have hil:i<listed.size:=by omega
    have h1:listed.getD i true=false:=by
     simp_all
    have:=zhe ho h1 fun j hj=>ihi j (hb i _ ho j hj) (Nat.lt_trans (hb i _ ho j hj) hlt)
    simp_all
  | some i=>
   simp only[];rw[linearise_go_acc,List.reverse_singleton,List.singleton_append];obtain⟨o,ho,h1,h2⟩:=zbx (ycv hi)
   have hlt:i<ops.size:=(ybe.1 ho).1
   have hil:i<listed.size:=by omega
   refine⟨o,ho,by simp_all,h2,?_⟩
   have key:(fun k=>listed.getD k false||k == i)=fun k=>(listed.setIfInBounds i true).getD k false:=by
    funext k
    simp only[ycx,ycs];grind
   rw[key];refine ih _ _ (by simp_all) ?_
   have hcnt:(List.range ops.size).countP (fun k => !(listed.setIfInBounds i true).getD k true)+1<=(List.range ops.size).countP (fun k => !listed.getD k true):=by
    refine ze0 (fun k hk=>?_) (i:=i) ?_ ?_ _ (List.mem_range.2 hlt)
    ·simp only[ycp,ycx,ycs]at hk ⊢
     grind
    all_goals simp_all
   omega
end
end Go.Am
