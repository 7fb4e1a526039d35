/- Conversions, slices, indexes, maps, lengths; all the light operations together. -/
import Derived.Below
import Derived.Laws.BytesString
import Derived.Orders
import Derived.Test.YthmbkdkibhffbaaGreatDoorG01
set_option linter.all false
noncomputable section
namespace Go.Am
open Go
section
variable {P:Program}{C:iA}{B N:Nat}{μ:Mu}{H:qA}{w:World}
variable {e:wD}{ρ:Operand->Value}{dst:Option Tmp}{type:TypeId}{pos:String}{after:Array Edge}{guard:Option (Nat × Bool)}{v:zA}
theorem zkf{a:zA}{n:Nat}(h:bS a=some n):a=.int .u8 (n:Int)/\n<256:=by
 unfold bS at h;simp only[lA,cM,lB,iJ,gW,lC]at h;obtain⟨p,rfl,hk,m,hm,hlt,h⟩:=h
 cases h;rw[hk,hm];exact⟨rfl,hlt⟩
theorem zmy(l:List Nat):∀s:ByteArray,(∀n∈l,n<256)->tE ((l.map fun n:Nat=>(n:Int)).foldl (fun r n=>r.push (UInt8.ofNat n.toNat)) s)=tE s++l:=by
 induction l with
 | nil=>intro s _;simp
 | cons n l ih=>
  intro s h;rw[ybn,List.foldl_cons,ih _ fun m hm=>h m (by simp[hm])]
  have:tE (s.push (UInt8.ofNat (n:Int).toNat))=tE s++[n]:=by
   have hn:=h n (by simp)
   simp[tE,Nat.mod_eq_of_lt hn]
  rw[this];simp
theorem zrk{μ:Mu}:∀ {l:List zA} {r:List Nat} {vs:List Value},oI bS l=some r->qB μ l vs->vs=r.map (fun n:Nat=>Value.int .u8 (n:Int))/\∀n∈r,n<256:=by
 intro l;induction l with
 | nil=>intro r vs h k;rw[cW]at h;cases h;rw[qB]at k;subst k;exact⟨rfl,by simp⟩
 | cons a l ih=>
  intro r vs h k;rw[wP,lA]at h;obtain⟨n,hn,h⟩:=h
  rw[lA]at h;obtain⟨r',hr,h⟩:=h
  cases h;rw[qB]at k;obtain⟨v,m,rfl,h1,h2⟩:=k
  obtain⟨rfl,hlt⟩:=zkf hn
  rw[rA]at h1;obtain⟨h3,h4⟩:=ih hr h2
  subst h1 h3
  exact⟨rfl,fun m hm=>(yat.1 hm).elim (fun e=>e ▸ hlt) (h4 m)⟩
theorem zj6(hH:oB B N μ H w){a:zA}{x:Value}(hx:rA μ a x)(h:cV H a=some v):∃v',(Conv.bytesToString x).run P w=.ok v' w/\rA μ v v'/\∃A l c,x=.slice A l c:=by
 unfold cV at h;split at h
 ·rename_i s hs
  rw[yT]at hs;subst hs;simp only[lA]at h;obtain⟨c,hc,l,hl,r,hr,h⟩:=h
  cases h;rw[rA]at hx;rcases hx with⟨i,cap',hi,rfl,_⟩ | ⟨_,h0,_,A,_,rfl,_⟩
  rotate_left
  ·rw[h0]at hl
   cases hl
   cases hr;refine⟨_,run_bytesToString w _ _ _ [] rfl,?_,_,_,_,rfl⟩
   rw[rA];exact⟨_,rfl,rfl⟩
  obtain⟨vs,_,h2,h3,_⟩:=hH.manyAt (P:=P) hc hi hl
  obtain⟨h4,h5⟩:=zrk hr h2
  refine⟨_,run_bytesToString w _ _ _ (r.map fun n:Nat=>(n:Int)) (by rw[h3,h4];simp),?_,_,_,_,rfl⟩
  rw[rA];exact⟨_,rfl,by rw[zmy _ _ h5];simp[tE]⟩
 ·simp only[lB,zC]at h
  obtain⟨h1,h⟩:=h
  cases h;rw[fO.2.1]at h1;subst h1;rw[rA]at hx;subst hx;exact⟨.string .empty,rfl,by rw[rA];exact⟨_,rfl,rfl⟩,_,_,_,rfl⟩
theorem z1p(hT:vG P C)(hH:oB B N μ H w){s d:Nat}{sty dty:vD}(hs:C.tys.get s=some sty)(hd:C.tys.get d=some dty){a:zA}{x:Value}(hx:rA μ a x)(h:iN C sty dty a H=some v) :
  ∃v',(convert s d x).run P w=.ok v' w/\rA μ v v':=by
 have hS:=hT.facts hs
 have hD:=hT.facts hd
 obtain⟨su,hsu⟩:=hS.und
 unfold iN at h;split at h
 ·rename_i k hk
  simp only[lA,za7]at h;obtain⟨n,⟨k',rfl⟩,h⟩:=h
  cases h;rw[rA]at hx;subst hx;refine⟨.int k (k.wrap n),?_,by rw[rA,qK]⟩
  simp only[convert,Sem.run_bind,zF hsu,zF (zht hD hk),Result.andThen_ok]
  rfl
 ·simp only[lB]at h
  obtain⟨hstr,h⟩:=h
  rw[iC]at h;split at h
  ·rename_i ht
   cases h
   cases v<;>simp[zA.tag,Nat.beq]at ht
   have hx':=hx
   rw[rA]at hx;obtain⟨str,rfl,_⟩:=hx
   refine⟨.string str,?_,hx'⟩
   simp only[convert,Sem.run_bind,zF hsu,zF (iY hD hstr),Result.andThen_ok]
   cases su<;>rfl
  ·simp only[lA,lB,iJ]at h
   obtain⟨el,hel,et,het,k,hk,rfl,h⟩:=h
   obtain⟨v',h1,h2,A,l,c,rfl⟩:=zj6 (P:=P) hH hx h
   exact⟨v',by rw[run_convert_bytes_string w s d el A l c (jN hS hel) (zht (hT.facts het) hk) (iY hD hstr)];exact h1,h2⟩
theorem zoz(hT:vG P C)(hH:oB B N μ H w)(hE:pF μ e ρ){s d:Nat}{x:Operand}(h:oL s d x C e H=some v):LOk P μ w ρ ⟨dst,.convert s d x,type,pos,after,guard⟩ v:=by
 unfold oL at h;simp only[lA]at h;obtain⟨a,ha,sty,hs,dty,hd,h⟩:=h
 obtain⟨v',h1,h2⟩:=z1p hT hH hs hd (hE _ _ ha) h
 exact⟨v',by simp only[execOp,Sem.run_bind,h1,Result.andThen_ok,Sem.run_pure],h2⟩
theorem dY{y:Nat}{a:zA}{n:Nat}(h:fR y a=some n):(∃k,a=.int k (n:Int))/\n<=y:=by
 unfold fR at h;simp only[lA,cY,lB,cE]at h;obtain⟨m,⟨k,rfl⟩,hle,h⟩:=h
 cases h;exact⟨⟨k,rfl⟩,hle⟩
theorem bX{y y':Nat}{a:zA}{x:Value}(hx:rA μ a x){n:Nat}(h:fR y a=some n)(hy:y<=y')(code:BoundsCode):(Instr.sliceBound x y' code).run P w=.ok n w:=by
 obtain⟨⟨k,rfl⟩,hle⟩:=dY h
 rw[rA]at hx;subst hx;have h1:(0:Int)<=n/\(n:Int)<=y':=⟨by omega,by omega⟩
 simp only[Instr.sliceBound,asIntOf,Sem.run_bind,Sem.run_pure,Result.andThen_ok,Sem.run_ite,if_pos h1];simp
theorem qW{isSlice:Bool}{len cap cap':Nat}(hc:cap<=cap'){lo hi:Option zA}{lo' hi':Option Value}
  (h1:zyk μ lo lo') (h2:zyk μ hi hi')
  {p:Nat × Nat} (h:fN len cap lo hi=some p):(Instr.sliceBounds isSlice len cap' lo' hi' none).run P w=.ok (p.1,p.2,cap') w/\p.1<=p.2/\(p.2<=cap\/p.2=len):=by
 unfold fN at h;simp only[lA]at h;obtain⟨hb,hhi,l,hlo,h⟩:=h
 cases h;have hH:hb<=cap\/hb=len:=by
  cases hi with
  | none=>right;cases hhi;rfl
  | some a=>left;exact(dY hhi).2
 have hL:l<=hb:=by
  cases lo with
  | none=>cases hlo;omega
  | some a=>exact(dY hlo).2
 refine⟨?_,hL,hH⟩
 unfold Instr.sliceBounds
 cases hi with
 | none=>
  cases hi' with
  | some v=>exact h2.elim
  | none=>
   cases hhi
   cases lo with
   | none=>
    cases lo' with
    | some v=>exact h1.elim
    | none=>cases hlo;simp
   | some a=>
    cases lo' with
    | none=>exact h1.elim
    | some v=>simp[bX (P:=P) (w:=w) h1 hlo (yal _)]
 | some b=>
  cases hi' with
  | none=>exact h2.elim
  | some u=>
   cases lo with
   | none=>
    cases lo' with
    | some v=>exact h1.elim
    | none=>cases hlo;simp[bX (P:=P) (w:=w) h2 hhi hc]
   | some a=>
    cases lo' with
    | none=>exact h1.elim
    | some v=>simp[bX (P:=P) (w:=w) h2 hhi hc,bX (P:=P) (w:=w) h1 hlo (yal _)]
theorem eZ{b size cap l:Nat}{arr:Bool}(hH:oB B N μ H w){i:BI}(hi:μ b=some i)(h:lH H b size cap l arr=true) :
  i.tight=true\/(i.tight=false/\arr=false/\i.es=size/\(cap≠l\/l=0)):=by
 unfold lH at h;split at h
 ·rename_i c hc
  obtain⟨o,h2,h3⟩:=hH.blk _ _ _ (zW hc) hi
  obtain⟨cs,elem,fr,_,_,_,_,h4⟩:=h3
  split at h
  ·rename_i hn;rw[hn]at h4;exact .inl h4
  ·rename_i es hes
   rw[hes]at h4;simp only[yac,ybr,ybq,zC,beqf]at h;exact .inr ⟨h4.1,h.1.1,h4.2.1.trans h.1.2,h.2⟩
 ·cases h
theorem zrm{len cap:Nat}{lo hi:Option zA}{p:Nat × Nat}(h:fN len cap lo hi=some p):p.1<=p.2:=by
 unfold fN at h;simp only[lA]at h;obtain⟨hb,hhi,l,hlo,h⟩:=h
 cases h
 cases lo with
 | none=>cases hlo;exact Nat.zero_le _
 | some a=>exact(dY hlo).2
theorem zcp(hT:vG P C)(hH:oB B N μ H w){arr:Bool}{el b off len cap cap':Nat}{lo hi:Option zA}{i:BI}(hi':μ b=some i)
  (hcap:cap<=cap') (ht:i.tight=true->cap'=cap) (hr:i.tight=false->arr=false->off+cap'*i.es<=i.room) (h:rL C H arr el b off len cap lo hi=some v) :
  ∃p size,fN len cap lo hi=some p/\(sizeOf el).run P w=.ok size w ∧
   rA μ v (.slice (some (if cap'=p.1 then⟨i.b,off,none⟩else Addr.add ⟨i.b,off,none⟩ (p.1*size))) (p.2-p.1) (cap'-p.1)):=by
 unfold rL at h;simp only[lA]at h;obtain⟨et,het,p,hp,h⟩:=h
 rw[iC]at h;split at h
 ·rename_i hend
  cases h;simp only[yac,cE]at hend;obtain⟨⟨hle,hle2⟩,hend⟩:=hend
  have hcp:cap=p.1:=by
   unfold aH at hend;split at hend
   ·split at hend
    ·cases hend
    ·simp only[yac,zC]at hend;exact hend.1.2
   ·cases hend
  refine⟨p,et.size,hp,(hT.facts het).size,?_⟩
  rw[rA];rw[show p.2-p.1=0 by omega];exact .inr ⟨rfl,rfl,rfl,_,_,rfl,.inr rfl⟩
 simp only[lB,yac,cE]at h;obtain⟨⟨hle,hf⟩,h⟩:=h
 cases h;have hle':=zrm hp
 refine⟨p,et.size,hp,(hT.facts het).size,?_⟩
 rw[rA];have hoff:(if cap'=p.1 then(⟨i.b,off,none⟩:Addr)else Addr.add ⟨i.b,off,none⟩ (p.1*et.size))=⟨i.b,(bif Nat.beq cap p.1 then off else off+p.1*et.size),none⟩:=by
  rw[zS,iC];simp only[zC];rcases eZ hH hi' hf with h1 | ⟨_,_,_,h1⟩
  ·rw[ht h1];split<;>rfl
  ·by_cases hc:cap=p.1
   ·have h2:p.1=0:=h1.resolve_left fun k=>k hc
    rw[if_pos hc,h2];split<;>simp
   ·rw[if_neg hc,if_neg (by omega)]
 refine .inl ⟨i,cap'-p.1,hi',by rw[hoff],by omega,fun h1=>by rw[ht h1],fun h1=>?_⟩
 rcases eZ hH hi' hf with h2 | ⟨_,h3,h4,h5⟩
 ·rw[h1]at h2;cases h2
 ·have h6:=hr h1 h3
  rw[iC];simp only[zC];rw[h4]at h6 ⊢
  have h8:p.1*et.size+(cap'-p.1)*et.size=cap'*et.size:=by rw[<- yap];congr 1;omega
  split
  ·omega
  ·omega
theorem zjm(hT:vG P C)(hH:oB B N μ H w)(hE:pF μ e ρ){t:Nat}{x:Operand}{lo hi mx:Option Operand}(h:(bW t x lo hi mx).f C e H=some v) :
  LOk P μ w ρ ⟨dst,.slice t x lo hi mx,type,pos,after,guard⟩ v:=by
 unfold bW at h;split at h
 ·simp only[lR,lA]at h
  obtain⟨a,ha,l,hl,u,hu,ty,hty,h⟩:=h
  have hx:=hE _ _ ha
  have h1:=hE.opt hl
  have h2:=hE.opt hu
  have hF:=hT.facts hty
  have run:∀ {v'},(Instr.sliceAt t (ρ x) (lo.map ρ) (hi.map ρ) none).run P w=.ok v' w->(execOp ρ ⟨dst,.slice t x lo hi none,type,pos,after,guard⟩).run P w=.ok (.value v') w:=by
   intro v' hr;simp only[execOp,Option.map_none,Sem.run_bind,hr,Result.andThen_ok,Sem.run_pure]
  unfold pK at h;split at h
  ·rename_i s hs
   rw[cN]at hs;subst hs;rw[lB]at h;obtain⟨hstr,h⟩:=h
   unfold znx at h;simp only[lA,bD,rO,jS]at h;obtain⟨p,hp,h⟩:=h
   cases h;rw[rA]at hx;obtain⟨str,hxv,rfl⟩:=hx
   rw[iU]at hp;obtain⟨h3,_⟩:=qW (P:=P) (w:=w) (isSlice:=false) (yal _) h1 h2 hp
   refine⟨.string (str.extract p.1 p.2),run ?_,by rw[rA];exact⟨_,rfl,bZ _ _ _⟩⟩
   have hu':=iY hF hstr
   simp only[Instr.sliceAt,Sem.run_bind,zF hu',Result.andThen_ok,Instr.slice,hxv];simp[h3]
  ·split at h
   ·rename_i r hr
    rw[yT]at hr;subst hr;simp only[lA]at h;obtain⟨el,hel,h⟩:=h
    rw[rA]at hx;rcases hx with⟨i,cap',hi',hxv,hc,ht,hrm⟩ | ⟨k1,k3,k4,A,c,hxv,k2⟩
    rotate_left
    ·unfold rL at h
     simp only[lA]at h;obtain⟨et,het,p,hp,h⟩:=h
     rw[iC]at h;obtain⟨h3,h6,h7⟩:=qW (P:=P) (w:=w) (isSlice:=true) (cap':=c) (by omega) h1 h2 hp
     have hp2:p.2=0:=by rcases h7 with h7 | h7<;>omega
     have hp1:p.1=0:=by omega
     have hend:¬ (Nat.ble p.2 r.2.2.2&&Nat.ble p.1 p.2&&aH H r.1 et.size r.2.2.2 p.1 false)=true:=by
      intro e;simp only[yac]at e;have e2:=e.2
      unfold aH at e2;split at e2
      ·split at e2
       ·cases e2
       ·simp only[yac,ybq]at e2
        have e3:=e2.2
        rw[hp1]at e3
        cases e3
      ·cases e2
     rw[if_neg hend]at h;simp only[lB,yac,cE]at h;obtain⟨_,h⟩:=h
     cases h;rw[k3]at h3;refine⟨.slice (some A) 0 c,run ?_,?_⟩
     ·have hu':=jN hF hel
      simp only[Instr.sliceAt,Sem.run_bind,zF hu',Result.andThen_ok,Instr.slice,hxv,h3,Sem.run_pure,(hT.facts het).size,hp1,hp2]
      simp[Addr.add]
     ·rw[rA]
      refine .inr ⟨k1,by rw[hp1,hp2],by rw[k4,hp1],A,c,rfl,?_⟩
      rw[k4,hp1];exact k2
    obtain⟨p,size,hp,h4,h5⟩:=zcp (P:=P) (w:=w) hT hH hi' hc ht (fun a _=>hrm a) h
    obtain⟨h3,_⟩:=qW (P:=P) (w:=w) (isSlice:=true) hc h1 h2 hp
    refine⟨_,run ?_,h5⟩
    have hu':=jN hF hel
    simp only[Instr.sliceAt,Sem.run_bind,zF hu',Result.andThen_ok,Instr.slice,hxv,h3,Sem.run_pure,h4];congr 2
    split<;>rfl
   ·split at h
    ·rename_i q hq
     rw[yW]at hq;subst hq;simp only[lA]at h;obtain⟨ar,har,h⟩:=h
     rw[rA]at hx;obtain⟨i,hi',hxv⟩:=hx
     obtain⟨p,size,hp,h4,h5⟩:=zcp (P:=P) (w:=w) hT hH hi' (yal _) (fun _=>rfl) (fun _ h=>by cases h) h
     obtain⟨h3,_⟩:=qW (P:=P) (w:=w) (isSlice:=false) (yal _) h1 h2 hp
     refine⟨_,run ?_,h5⟩
     have hu':=zb4 hF har
     simp only[Instr.sliceAt,Sem.run_bind,zF hu',Result.andThen_ok,hxv,Instr.sureAddr,h3,Sem.run_pure,h4]
    ·simp only[lB,zC,lA]at h
     obtain⟨htag,el,hel,ety,hety,p,hp,h⟩:=h
     cases h;rw[fO.2.1]at htag;subst htag;rw[rA]at hx;obtain⟨h3,h6,h7⟩:=qW (P:=P) (w:=w) (isSlice:=true) (yal 0) h1 h2 hp
     have hp2:p.2=0:=by omega
     have hp1:p.1=0:=by omega
     rw[hp1,hp2]at h3;refine⟨.slice none 0 0,run ?_,by rw[rA]⟩
     have hu':=jN hF hel
     simp only[Instr.sliceAt,Sem.run_bind,zF hu',Result.andThen_ok,Instr.slice,hx,h3,Sem.run_pure,(hT.facts hety).size]
     simp
 ·cases h
end
end Go.Am
namespace Go.Am
open Go
section
variable {P:Program}{C:iA}{B N:Nat}{μ:Mu}{H:qA}{w:World}
variable {e:wD}{ρ:Operand->Value}{dst:Option Tmp}{type:TypeId}{pos:String}{after:Array Edge}{guard:Option (Nat × Bool)}{v:zA}
theorem zag(hT:vG P C)(hE:pF μ e ρ){t:Nat}{x i:Operand}(h:tP t x i C e H=some v):LOk P μ w ρ ⟨dst,.indexAddr t x i,type,pos,after,guard⟩ v:=by
 unfold tP at h;simp only[lA,cY]at h;obtain⟨ty,hty,a,ha,iv,hi,n,⟨k,rfl⟩,h⟩:=h
 have hF:=hT.facts hty
 have hx:=hE _ _ ha
 have hiv:=hE _ _ hi
 rw[rA]at hiv;split at h
 ·rename_i s hs
  rw[yT]at hs;subst hs;simp only[lA,lB,lC]at h;obtain⟨el,hel,et,het,hlt,h⟩:=h
  cases h;rw[rA]at hx;rcases hx with⟨j,cap',hj,hxv,_⟩ | ⟨_,k,_⟩
  rotate_left
  ·rw[k]at hlt;exact absurd hlt (Nat.not_lt_zero _)
  refine⟨.pointer (some ⟨j.b,s.2.1+n*et.size,none⟩),?_,by rw[rA];exact⟨j,hj,rfl⟩⟩
  have h1:(0:Int)<=(n:Int)/\(n:Int)<(s.2.2.1:Int):=⟨by omega,by omega⟩
  simp only[execOp,Instr.indexAt,hiv,hxv,asIntOf,Sem.run_bind,Sem.run_pure,Result.andThen_ok,zF (jN hF hel),(hT.facts het).size,Sem.run_ite,if_pos h1,Int.toNat_natCast,zS]
 ·simp only[lA,yW,lB,lC]at h
  obtain⟨p,rfl,ar,har,et,het,hlt,h⟩:=h
  cases h;rw[rA]at hx;obtain⟨j,hj,hxv⟩:=hx
  refine⟨.pointer (some ⟨j.b,p.2+n*et.size,none⟩),?_,by rw[rA];exact⟨j,hj,rfl⟩⟩
  have h1:(0:Int)<=(n:Int)/\(n:Int)<(ar.1:Int):=⟨by omega,by omega⟩
  simp only[execOp,Instr.indexAt,hiv,hxv,asIntOf,Sem.run_bind,Sem.run_pure,Result.andThen_ok,zF (zb4 hF har),Instr.sureAddr,(hT.facts het).size,Sem.run_ite,if_pos h1,Int.toNat_natCast,zS]
theorem zjn(hT:vG P C)(hE:pF μ e ρ){t:Nat}{x i:Operand}(h:sP t x i C e H=some v):LOk P μ w ρ ⟨dst,.index t x i,type,pos,after,guard⟩ v:=by
 unfold sP at h;simp only[lA,cY]at h;obtain⟨ty,hty,a,ha,iv,hi,n,⟨k,rfl⟩,h⟩:=h
 have hF:=hT.facts hty
 have hx:=hE _ _ ha
 have hiv:=hE _ _ hi
 rw[rA]at hiv;split at h
 ·rename_i s hs
  rw[cN]at hs;subst hs;simp only[lB,lA,vE]at h;obtain⟨hstr,b,hb,h⟩:=h
  cases h;rw[rA]at hx;obtain⟨str,hxv,rfl⟩:=hx
  rw[zrl,Option.map_eq_some_iff]at hb;obtain⟨u,hu,rfl⟩:=hb
  refine⟨.int .u8 u.toNat,?_,by rw[rA];rfl⟩
  simp only[execOp,Instr.index,hiv,hxv,asIntOf,Sem.run_bind,Sem.run_pure,Result.andThen_ok,zF (iY hF hstr),Int.natCast_nonneg,if_true,Int.toNat_natCast,hu]
 ·simp only[lA,lX,lB,lC]at h
  obtain⟨l,rfl,ar,har,et,het,hlt,h⟩:=h
  rw[rA]at hx;obtain⟨cs,hxv,hl⟩:=hx
  obtain⟨v',h2,h3⟩:=zbs (P:=P) (w:=w) hT hl h
  refine⟨v',?_,h3⟩
  have h1:(0:Int)<=(n:Int)/\(n:Int)<(ar.1:Int):=⟨by omega,by omega⟩
  simp only[execOp,Instr.index,hiv,hxv,asIntOf,Sem.run_bind,Sem.run_pure,Result.andThen_ok,zF (zb4 hF har),(hT.facts het).size,Sem.run_ite,if_pos h1,Int.toNat_natCast,h2]
theorem zel(l:List Value):∀(off k:Nat) (cs:Array Value),off+k+l.length<=cs.size →
  ((l.zipIdx k).foldl (fun cs (c,j)=>cs.setIfInBounds (off+j) c) cs).toList=cs.toList.take (off+k)++l++cs.toList.drop (off+k+l.length):=by
 induction l with
 | nil=>intro off k cs _;simp
 | cons a l ih=>
  intro off k cs h;rw[List.zipIdx_cons,List.foldl_cons,ih off (k+1) _ (by simp at h ⊢;omega)]
  have hk:off+k<cs.toList.length:=by simp at h ⊢;omega
  simp only[Array.toList_setIfInBounds];rw[List.take_set,List.drop_set_of_lt (by omega)]
  rw[show off+(k+1)=off+k+1 by omega,List.take_succ_eq_append_getElem hk,List.set_append_right _ _ (by simp;omega)]
  simp only[yba,ycb,yca,yao];rw[Nat.min_eq_left (by simpa using Nat.le_of_lt hk),Nat.sub_self]
  rw[show off+k+(l.length+1)=off+k+1+l.length by omega]
  rfl
theorem zb3{place:Nat->Option (Nat × Nat)}{ps:List (Nat × zA)}{qs:List (Nat × Value)}(hp:zD (fun p q=>p.1=q.1/\rA μ p.2 q.2) ps qs) :
  ∀ {cells r:List zA} {cs:Array Value},qB μ cells cs.toList->iM place ps cells=some r->∃out,Instr.fill place cs qs=some out/\qB μ r out.toList:=by
 induction hp with
 | nil=>intro cells r cs hc h;rw[iM]at h;cases h;exact⟨cs,rfl,hc⟩
 | @cons p q ps qs hpq _ ih=>
  intro cells r cs hc h;rw[iM]at h;simp only[lA]at h;obtain⟨pl,hpl,mid,hmid,h⟩:=h
  unfold oU at hmid;simp only[lB,yac,zC,cE,bD,eH,jS,rO]at hmid;obtain⟨⟨h1,h2⟩,hmid⟩:=hmid
  cases hmid;obtain⟨i,vq⟩:=q
  obtain⟨rfl,hv⟩:=hpq
  have hvc:=zal hv
  have hlen:=hvc.length
  have hcl:=hc.length
  simp only[yca]at hlen hcl;rw[Instr.fill,hpl];simp only[];have h3:¬ (vq.cells.size≠pl.2||decide (pl.1+vq.cells.size > cs.size))=true:=by
   simp;exact⟨by omega,by omega⟩
  have h4:¬ ((decide (vq.cells.size≠pl.2)||decide (pl.1+vq.cells.size > cs.size))=true):=by simpa using h3
  obtain⟨off,sz⟩:=pl
  rw[if_neg h4];refine ih ?_ h
  have h5:=zel vq.cells.toList off 0 cs (by simp;omega)
  rw[<- Array.foldl_toList,Array.toList_zipIdx,h5];simp only[ybu,yca];have:=((hc.take off).append hvc).append (hc.drop (off+p.2.cells.length))
  rw[yba]at this;rw[hlen];simpa using this
theorem zqg{g:Array Field}(h:∀f∈g.toList,∃i,P.info? f.type=some i):(g.mapM fun f=>(do pure (f.offset,<- sizeOf f.type):Sem (Nat × Nat))).run P w=.ok (g.map fun f=>(f.offset,P.cellsOf f.type)) w:=by
 obtain⟨l⟩:=g
 rw[List.mapM_toArray];simp only[Sem.run_map,List.map_toArray];have key:∀l:List Field,(∀f∈l,∃i,P.info? f.type=some i)->(l.mapM fun f=>(do pure (f.offset,<- sizeOf f.type):Sem (Nat × Nat))).run P w=.ok (l.map fun f=>(f.offset,P.cellsOf f.type)) w:=by
  intro l;induction l with
  | nil=>intro _;rfl
  | cons f l ih=>
   intro h;obtain⟨i,hi⟩:=h f (by simp)
   have h1:(sizeOf f.type).run P w=.ok (P.cellsOf f.type) w:=by simp[sizeOf,yU hi,Program.cellsOf,hi]
   rw[List.mapM_cons];simp only[Sem.run_bind,h1,Result.andThen_ok,Sem.run_pure,ih fun f hf=>h f (by simp[hf])]
   rfl
 rw[key l (by simpa using h)]
 rfl
theorem zjq(hT:vG P C)(hE:pF μ e ρ){t:Nat}{parts:Array (Nat × Operand)}(h:sQ t parts C e H=some v):LOk P μ w ρ ⟨dst,.build t parts,type,pos,after,guard⟩ v:=by
 unfold sQ at h;simp only[lA]at h;obtain⟨ty,hty,ps,hps,h⟩:=h
 have hF:=hT.facts hty
 have hq:=hE.parts hps
 obtain⟨z,hz,_,hzl⟩:=hF.zero (μ:=μ)
 split at h
 ·rename_i fs hfs
  simp only[lA,vE]at h;obtain⟨l,hl,h⟩:=h
  cases h;obtain⟨g,hg,rfl⟩:=jY hF hfs
  have hpl:(fun i:Nat=>ob ((g.toList.map fun f=>(f.offset,f.type,P.cellsOf f.type))[i]?) fun(x:Nat × Nat × Nat)=>some (x.1,x.2.2))=fun i=>(g.map fun f=>(f.offset,P.cellsOf f.type))[i]?:=by
   funext i
   rw[yav];simp only[Array.getElem?_map];have:g.toList[i]?=g[i]?:=by simp
   rw[this]
   cases g[i]?<;>rfl
  rw[hpl]at hl;obtain⟨out,ho,hr⟩:=zb3 hq hzl hl
  refine⟨.agg out,?_,by rw[rA];exact⟨_,rfl,hr⟩⟩
  have hpr:=zqg (P:=P) (w:=w) (g:=g) (by have:=hF.fields;rwa [zdt hg]at this)
  simp only[execOp,Instr.build,Sem.run_bind,hz,Result.andThen_ok,zF hg,hpr,Array.toList_map,ho,Sem.run_pure]
 ·simp only[lA]at h
  obtain⟨ar,har,et,het,l,hl,h⟩:=h
  cases h;obtain⟨out,ho,hr⟩:=zb3 hq hzl hl
  refine⟨.agg out,?_,by rw[rA];exact⟨_,rfl,hr⟩⟩
  simp only[execOp,Instr.build,Sem.run_bind,hz,Result.andThen_ok,zF (zb4 hF har),(hT.facts het).size,Array.toList_map,ho,Sem.run_pure]
theorem zft(hT:vG P C)(hE:pF μ e ρ){x:Operand}{xt asserted:Nat}{ok:Bool}(h:pP x asserted ok C e H=some v):LOk P μ w ρ ⟨dst,.typeAssert x xt asserted ok,type,pos,after,guard⟩ v:=by
 unfold pP at h;simp only[lA,lB]at h;obtain⟨ty,hty,hb,a,ha,h⟩:=h
 have hF:=hT.facts hty
 have hx:=hE _ _ ha
 obtain⟨d,hd,hn⟩:=zaj hF hb
 obtain⟨z,hz,hzr,_⟩:=hF.zero (μ:=μ)
 split at h
 ·rename_i p hp
  rw[zbj]at hp;subst hp;rw[rA]at hx;obtain⟨x',hxv,hr⟩:=hx
  rw[iC]at h;split at h
  ·rename_i heq
   rw[zC]at heq
   cases h;refine⟨if ok then .tuple #[x',.bool true]else x',?_,?_⟩
   ·simp only[execOp,Instr.typeAssert,hxv,Sem.run_bind,zF hd,Result.andThen_ok]
    cases d<;>first | exact absurd rfl (hn _) | simp[heq]
   ·cases ok
    ·exact hr
    ·rw[cond_true,if_pos rfl,rA];exact⟨_,rfl,.cons hr (.single (by rw[rA]))⟩
  ·rename_i hne
   rw[zC]at hne;rw[lB]at h;obtain⟨rfl,h⟩:=h
   cases h;refine⟨.tuple #[z,.bool false],?_,by rw[rA];exact⟨_,rfl,.cons hzr (.single (by rw[rA]))⟩⟩
   simp only[execOp,Instr.typeAssert,hxv,Sem.run_bind,zF hd,Result.andThen_ok]
   cases d<;>first | exact absurd rfl (hn _) | simp[hne,hz]
 ·simp only[lB,yac,zC]at h
  obtain⟨⟨htag,rfl⟩,h⟩:=h
  cases h;rw[fO.2.2.2.2]at htag;subst htag;rw[rA]at hx;refine⟨.tuple #[z,.bool false],?_,by rw[rA];exact⟨_,rfl,.cons hzr (.single (by rw[rA]))⟩⟩
  simp only[execOp,Instr.typeAssert,hx,Sem.run_bind,zF hd,Result.andThen_ok]
  cases d<;>first | exact absurd rfl (hn _) | simp[hz]
theorem zjv{t:Nat}{ty:vD}(hF:mJ P t ty)(h:jV ty.desc=true):P.underlying t=some .bool\/P.underlying t=some .string\/∃k,P.underlying t=some (.int k):=by
 obtain⟨D,hD⟩:=hF.und
 have h0:=hF.desc
 unfold mL at h0;rw[hD]at h0;rw[<- h0]at h;have h1:=cE.1 h
 cases D<;>simp[nE.tag]at h1
 ·exact .inl hD
 ·exact .inr (.inr ⟨_,hD⟩)
 ·exact .inr (.inl hD)
theorem zfx{a b:zA}{r:Bool}(h:zjt a b=some r) :
  (∃k x y,a=.int k x/\b=.int k y/\r=(x == y))\/(∃x y,a=.str x/\b=.str y/\r=eI x y)\/(∃x y,a=.bool x/\b=.bool y/\r=(x == y)):=by
 unfold zjt at h;split at h
 ·rename_i x hx
  simp only[lA,cM,lB,iJ]at h;obtain⟨y,rfl,hk,h⟩:=h
  cases h;rw[cM]at hx;exact .inl ⟨x.1,x.2,y.2,hx,by rw[hk],zdq _ _⟩
 ·split at h
  ·rename_i x hx
   simp only[lA,cN]at h;obtain⟨y,rfl,h⟩:=h
   cases h;rw[cN]at hx;exact .inr (.inl ⟨x,y,hx,rfl,rfl⟩)
  ·simp only[zj4,lA,xT]at h
   obtain⟨x,rfl,y,rfl,h⟩:=h
   cases h;exact .inr (.inr ⟨x,y,rfl,rfl,eQ _ _⟩)
def zhz(D:TypeDesc)(a:zA):Prop:=(∃k,D=.int k/\a.tag=1)\/(D=.string/\a.tag=2)\/(D=.bool/\a.tag=0)
theorem zfb{D:TypeDesc}{a b:zA}{va vb:Value}(hD:zhz D a)(ha:rA μ a va)(hb:rA μ b vb){r:Bool}(h:zjt a b=some r):Instr.sameNow D va vb=some r:=by
 rcases zfx h with⟨k,x,y,rfl,rfl,rfl⟩ | ⟨x,y,rfl,rfl,rfl⟩ | ⟨x,y,rfl,rfl,rfl⟩<;>rw[rA]at ha<;>rw[rA]at hb <;>
  rcases hD with⟨k',rfl,ht⟩ | ⟨rfl,ht⟩ | ⟨rfl,ht⟩<;>simp[zA.tag]at ht
 ·rw[ha,hb];simp[Instr.sameNow]
 ·obtain⟨s,rfl,rfl⟩:=ha
  obtain⟨u,rfl,rfl⟩:=hb
  have:(s == u)=eI (tE s) (tE u):=by
   rw[Bool.eq_iff_iff,lO];have h1:(s == u)=(s.data == u.data):=rfl
   rw[h1];exact⟨fun h=>(by unfold tE;rw[eq_of_beq h]),fun h=>(by rw[eY h];exact beq_self_eq_true u.data)⟩
  simp only[Instr.sameNow,this]
 ·rw[ha,hb];rfl
theorem zq8{D:TypeDesc}{k:zA}{kv:Value}(hD:zhz D k)(hk:rA μ k kv){l:List (zA × zA)}{es:List MapEntry}(hl:zD (fun p e=>rA μ p.1 e.key/\rA μ p.2 e.val) l es) :
  ∀ {i:Nat} {r:Option zA},zhk k l=some r->match r with
   | none=>Instr.findNow D kv es i=some none
   | some v=>∃j v',Instr.findNow D kv es i=some (some (j,v'))/\rA μ v v':=by
 induction hl with
 | nil=>intro i r h;rw[zhk]at h;cases h;rfl
 | @cons p e l es hpe _ ih=>
  intro i r h;rw[zhk,lA]at h;obtain⟨q,hq,h⟩:=h
  have h1:=zfb hD hk hpe.1 hq
  cases q with
  | true=>
   rw[cond_true]at h
   cases h;exact⟨i,e.val,by rw[Instr.findNow,h1],hpe.2⟩
  | false=>
   rw[cond_false]at h;have:=ih (i:=i+1) h
   rw[Instr.findNow,h1];exact this
theorem zd2{D:TypeDesc}{t:Nat}{empty:Bool}{d:Nat}{kv:Value}(hu:P.underlying t=some D)(hD:(∃k,D=.int k)\/D=.string\/D=.bool):(Instr.checkKey empty (d+1) t kv).run P w=.ok () w:=by
 rw[Instr.checkKey,Sem.run_bind,zF hu,Result.andThen_ok];rcases hD with⟨k,rfl⟩ | rfl | rfl<;>rfl
theorem lZ{b:Nat}{l:List (zA × zA)}(h:kL H b=some l):H.t.get b=some (.map l):=by
 unfold kL at h;rw[lA]at h;obtain⟨x,hx,h⟩:=h
 cases x<;>simp[jA.asMap]at h
 subst h;exact hx
theorem oB.mapAt(hH:oB B N μ H w){b:Nat}{l:List (zA × zA)}(h:kL H b=some l){i:BI}(hi:μ b=some i) :
  ∃es clock,w.heap[i.b]?=some (.map es clock)/\zD (fun p e=>rA μ p.1 e.key/\rA μ p.2 e.val) l es.toList:=by
 obtain⟨o,h2,h3⟩:=hH.blk _ _ _ (lZ h) hi
 obtain⟨es,clock,rfl,h4⟩:=h3
 exact⟨es,clock,h2,h4⟩
theorem oW{r:Nat}{o:Obj}(h:w.heap[r]?=some o)(hc:∀a b c,o≠.cells a b c):(getObj r).run P w=.ok o w:=by
 simp only[getObj,Sem.run,h]
theorem zfv{t:Nat}{ty:vD}{D:TypeDesc}(hF:mJ P t ty)(hu:P.underlying t=some D)(hk:jV ty.desc=true){k:zA}(h:zfw ty.desc k=true):zhz D k:=by
 have h0:=hF.desc
 unfold mL at h0;rw[hu]at h0;rw[<- h0]at h;unfold zfw at h;rw[zC]at h;rcases zjv hF hk with h1 | h1 | ⟨kk,h1⟩
 ·rw[hu]at h1;cases h1;exact .inr (.inr ⟨rfl,h.symm⟩)
 ·rw[hu]at h1;cases h1;exact .inr (.inl ⟨rfl,h.symm⟩)
 ·rw[hu]at h1;cases h1;exact .inl ⟨kk,rfl,h.symm⟩
theorem zfr(hT:vG P C)(hH:oB B N μ H w)(hE:pF μ e ρ){t:Nat}{x i:Operand}{ok:Bool}(h:uP t x i ok C e H=some v):LOk P μ w ρ ⟨dst,.lookup t x i ok,type,pos,after,guard⟩ v:=by
 unfold uP at h;simp only[lA,lB]at h;obtain⟨ty,hty,ke,hke,kty,hkty,hkd,ety,hety,m,hm,es,hes,k,hk,hfit,r,hr,h⟩:=h
 have hF:=hT.facts hty
 have hKF:=hT.facts hkty
 have hEF:=hT.facts hety
 obtain⟨D,hD⟩:=hKF.und
 have hfits:=zfv hKF hD hkd hfit
 have hD':(∃k,D=.int k)\/D=.string\/D=.bool:=by
  rcases hfits with⟨k,h,_⟩ | ⟨h,_⟩ | ⟨h,_⟩
  ·exact .inl ⟨k,h⟩
  ·exact .inr (.inl h)
  ·exact .inr (.inr h)
 have hx:=hE _ _ hm
 have hkv:=hE _ _ hk
 have hmap:∃rs:Array MapEntry,zD (fun p e=>rA μ p.1 e.key/\rA μ p.2 e.val) es rs.toList/\((ρ x=.map none/\rs = #[])\/∃b clock,ρ x=.map (some b)/\w.heap[b]?=some (.map rs clock)):=by
  unfold zeo at hes;split at hes
  ·rename_i b hb
   rw[za6]at hb;subst hb;rw[rA]at hx;obtain⟨j,hj,hxv⟩:=hx
   obtain⟨rs,clock,h1,h2⟩:=hH.mapAt hes hj
   exact⟨rs,h2,.inr ⟨_,_,hxv,h1⟩⟩
  ·simp only[lB,zC]at hes
   obtain⟨htag,hes⟩:=hes
   cases hes;rw[fO.2.2.1]at htag;subst htag;rw[rA]at hx;exact⟨#[],.nil,.inl ⟨hx,rfl⟩⟩
 obtain⟨rs,h1,h2⟩:=hmap
 have hfk:∀(q:Option (Nat × Value)),Instr.findNow D (ρ i) rs.toList 0=some q->(Instr.findKey ke.1 (ρ i) rs.toList).run P w=.ok q w:=by
  intro q hq;unfold Instr.findKey;simp only[Sem.run_bind,zF hD,Result.andThen_ok,hq,Sem.run_pure]
 have h3:=zq8 hfits hkv h1 (i:=0) hr
 have hu:=zpj hF hke
 obtain⟨z,hz,hzr,_⟩:=hEF.zero (μ:=μ)
 have hck:=fun b=>zd2 (P:=P) (w:=w) (empty:=b) (d:=9999) (kv:=ρ i) hD hD'
 cases r with
 | none=>
  cases h;refine⟨if ok then .tuple #[z,.bool false]else z,?_,?_⟩
  ·have h4:=hfk _ h3
   simp only[execOp,Instr.lookup];rcases h2 with⟨h5,rfl⟩ | ⟨b,clock,h5,h6⟩
   ·simp only[Sem.run_bind,zF hu,Result.andThen_ok,h5,Sem.run_pure,hck,h4,hz]
   ·simp only[Sem.run_bind,zF hu,Result.andThen_ok,h5,oW h6 (by simp),Sem.run_pure,hck,h4,hz]
  ·cases ok
   ·exact hzr
   ·rw[cond_true,if_pos rfl,rA];exact⟨_,rfl,.cons hzr (.single (by rw[rA]))⟩
 | some u=>
  obtain⟨j,v',h4,h5⟩:=h3
  have h6:=hfk _ h4
  cases h;refine⟨if ok then .tuple #[v',.bool true]else v',?_,?_⟩
  ·simp only[execOp,Instr.lookup]
   rcases h2 with⟨h7,rfl⟩ | ⟨b,clock,h7,h8⟩
   ·simp only[Sem.run_bind,zF hu,Result.andThen_ok,h7,Sem.run_pure,hck,h6]
   ·simp only[Sem.run_bind,zF hu,Result.andThen_ok,h7,oW h8 (by simp),Sem.run_pure,hck,h6]
  ·cases ok
   ·exact h5
   ·rw[cond_true,if_pos rfl,rA];exact⟨_,rfl,.cons h5 (.single (by rw[rA]))⟩
theorem zcz{s:Sem Value}{v':Value}(h:s.run P w=.ok v' w):(do pure (Next.value (<- s)):Sem Next).run P w=.ok (.value v') w:=by
 simp only[Sem.run_bind,h,Result.andThen_ok,Sem.run_pure]
theorem mW{b:Builtin}{c:Call}(hc:c.callee=.builtin b):(execOp ρ ⟨dst,.call c,type,pos,after,guard⟩).run P w=(builtin b c.argTypes type (c.args.map fun | .const _=>true | _=>false) (c.args.map ρ)).run P w:=by
 simp only[execOp,resolve,hc,Sem.run_bind,Sem.run_pure,Result.andThen_ok,invoke];rfl
theorem zD.length{α β:Type}{R:α->β->Prop}{l:List α}{m:List β}(h:zD R l m):m.length=l.length:=by
 induction h with
 | nil=>rfl
 | cons _ _ ih=>simp[ih]
theorem zwd(hT:vG P C)(hH:oB B N μ H w)(hE:pF μ e ρ){c:Call}(hc:c.callee=.builtin .len)(h:zox c C e H=some v):LOk P μ w ρ ⟨dst,.call c,type,pos,after,guard⟩ v:=by
 unfold zox at h;simp only[lA,vE]at h;obtain⟨t,ht,x,hx,ty,hty,a,ha,n,hn,h⟩:=h
 cases h;have hF:=hT.facts hty
 have hv:=hE _ _ ha
 obtain⟨D,hD⟩:=hF.und
 have h0:=hF.desc
 unfold mL at h0;rw[hD]at h0;have ht':c.argTypes[0]?=some t:=by simpa using ht
 have hx':(c.args.map ρ)[0]?=some (ρ x):=by
  have:c.args[0]?=some x:=by simpa using hx
  simp[this]
 refine⟨.int .i64 n,?_,by rw[rA];rfl⟩
 rw[mW hc];refine zcz ?_
 simp only[Builtin.len_,ht',hx',Sem.run_bind,zF hD,Result.andThen_ok];unfold zv1 at hn;rw[<- h0]at hn;split at hn
 ·rename_i s hs
  rw[cN]at hs;subst hs;simp only[lB,bD]at hn;obtain⟨hb,hn⟩:=hn
  cases hn;rw[rA]at hv;obtain⟨str,hxv,rfl⟩:=hv
  rw[hxv,iU]
  cases D<;>simp[nE.isString,nE.tag,Nat.beq]at hb
  rfl
 ·split at hn
  ·rename_i s hs
   rw[yT]at hs;subst hs;simp only[lB,zC]at hn;obtain⟨hb,hn⟩:=hn
   cases hn;rw[rA]at hv;rcases hv with⟨j,cap',hj,hxv,_⟩ | ⟨_,k,_,A,_,hxv,_⟩
   rotate_left
   ·rw[hxv,k]
    cases D<;>simp[nE.tag]at hb
    rfl
   rw[hxv]
   cases D<;>simp[nE.tag]at hb
   rfl
  ·split at hn
   ·rename_i ar har
    cases hn
    cases D<;>simp[nE.asArr]at har
    subst har;rfl
   ·split at hn
    ·rename_i b hb
     rw[za6]at hb;subst hb;simp only[lB,zC,lA,bD]at hn;obtain⟨hb,l,hl,hn⟩:=hn
     cases hn;rw[rA]at hv;obtain⟨j,hj,hxv⟩:=hv
     obtain⟨rs,clock,h1,h2⟩:=hH.mapAt hl hj
     rw[hxv];have h3:=h2.length
     simp only[yca]at h3
     cases D<;>simp[nE.tag]at hb
     simp only[Sem.run_bind,oW h1 (by simp),Result.andThen_ok,h3]
     rfl
    ·simp only[lB,ybr,yac,zC]at hn
     obtain⟨hb,hn⟩:=hn
     cases hn;rcases hb with⟨hb,htag⟩ | ⟨hb,htag⟩
     ·rw[fO.2.1]at htag
      subst htag;rw[rA]at hv;rw[hv]
      cases D<;>simp[nE.tag]at hb
      rfl
     ·rw[fO.2.2.1]at htag
      subst htag;rw[rA]at hv;rw[hv]
      cases D<;>simp[nE.tag]at hb
      rfl
theorem zgf{c:Call}{p:zA × zA}(hE:pF μ e ρ)(h:two c e=some p):∃x y,c.args = #[x,y]/\rA μ p.1 (ρ x)/\rA μ p.2 (ρ y):=by
 unfold two at h;split at h
 ·rename_i x y hxy
  simp only[lA]at h;obtain⟨a,ha,b,hb,h⟩:=h
  cases h;refine⟨x,y,?_,hE _ _ ha,hE _ _ hb⟩
  rw[<- Array.toList_inj,hxy]
 ·cases h
theorem zv9(hE:pF μ e ρ){c:Call}(hc:c.callee=.builtin .max)(h:zwa c C e H=some v):LOk P μ w ρ ⟨dst,.call c,type,pos,after,guard⟩ v:=by
 unfold zwa at h;simp only[lA,cM]at h;obtain⟨p,hp,a,ha,b,hb,h⟩:=h
 cases h;obtain⟨x,y,hxy,h1,h2⟩:=zgf hE hp
 rw[ha,rA]at h1;rw[hb,rA]at h2;refine⟨.int a.1 (if b.2 > a.2 then b.2 else a.2),?_,?_⟩
 ·rw[mW hc,hxy]
  refine zcz ?_
  simp[Builtin.max_,h1,h2,Builtin.max2]
 ·rw[rA,iC];simp only[zdp]
theorem zv7(hE:pF μ e ρ){c:Call}(hc:c.callee=.builtin .min)(h:zv8 c C e H=some v):LOk P μ w ρ ⟨dst,.call c,type,pos,after,guard⟩ v:=by
 unfold zv8 at h;simp only[lA,cM]at h;obtain⟨p,hp,a,ha,b,hb,h⟩:=h
 cases h;obtain⟨x,y,hxy,h1,h2⟩:=zgf hE hp
 rw[ha,rA]at h1;rw[hb,rA]at h2;refine⟨.int a.1 (if b.2<a.2 then b.2 else a.2),?_,?_⟩
 ·rw[mW hc,hxy]
  refine zcz ?_
  simp[Builtin.min_,h1,h2,Builtin.min2]
 ·rw[rA,iC];simp only[zdp]
theorem zyg(hT:vG P C)(hH:oB B N μ H w)(hE:pF μ e ρ){o:Oper}(h:(iF o.op).f C e H=some v):LOk P μ w ρ o v:=by
 obtain⟨dst,op,type,pos,after,guard⟩:=o
 cases op
 case move=>exact zov (C:=C) (H:=H) hE h
 case assign=>exact zfs (C:=C) (H:=H) hE h
 case pick=>exact zou (C:=C) (H:=H) hE h
 case load=>exact zow (C:=C) (H:=H) hT hH hE h
 case nilCheck=>exact zv6 (C:=C) (H:=H) hE h
 case binOp=>exact zwg (C:=C) (H:=H) hT hE h
 case unOp=>exact z27 (C:=C) (H:=H) hE h
 case convert=>exact zoz (C:=C) (H:=H) hT hH hE h
 case makeInterface=>exact zjo (C:=C) (H:=H) hT hE h
 case makeFunc=>exact zoy (C:=C) (H:=H) hE h
 case slice=>exact zjm (C:=C) (H:=H) hT hH hE h
 case fieldAddr=>exact zah (C:=C) (H:=H) hT hE h
 case field=>exact zjp (C:=C) (H:=H) hT hE h
 case indexAddr=>exact zag (C:=C) (H:=H) hT hE h
 case index=>exact zjn (C:=C) (H:=H) hT hE h
 case extract=>exact zdl (C:=C) (H:=H) hE h
 case build=>exact zjq (C:=C) (H:=H) hT hE h
 case typeAssert=>exact zft (C:=C) (H:=H) hT hE h
 case lookup=>exact zfr (C:=C) (H:=H) hT hH hE h
 case call c=>
  have h:(qO c c.callee).f C e H=some v:=h
  unfold qO at h;split at h
  ·rename_i b hb
   cases b<;>simp only[zg6]at h
   case len=>exact zwd (C:=C) (H:=H) hT hH hE hb h
   case max=>exact zv9 (C:=C) (H:=H) hE hb h
   case min=>exact zv7 (C:=C) (H:=H) hE hb h
   all_goals cases h
  ·cases h
 all_goals
  have h:zg5 C e H=some v:=h
  cases h
end
end Go.Am
namespace Go.Am
open Go Go.RowKit
def Mu.ext(μ:Mu)(a:Nat)(i:BI):Mu:=⟨fun b=>if b=a then some i else μ b,μ.pd⟩
theorem Mu.ext_get{μ:Mu}{a b:Nat}{i:BI}:(μ.ext a i) b=if b=a then some i else μ b:=rfl
theorem Mu.ext_le{μ:Mu}{a:Nat}{i:BI}(h:μ a=none):μ.le (μ.ext a i):=by
 refine⟨?_,rfl⟩
 intro b j hj;rw[Mu.ext_get];split
 ·rename_i e;subst e;rw[h]at hj;cases hj
 ·exact hj
theorem Mu.ext_same{μ:Mu}{a:Nat}{i:BI}:μ.ext a i a=some i:=by simp[Mu.ext]
theorem sE.mono{μ ν:Mu}(h:μ.lw ν){n:Nat}{tm:Tm}{tmps:Array Value}(k:sE μ n tm tmps):sE ν n tm tmps:=⟨k.1,fun i v hv=>(k.2 i v hv).mono h _ _⟩
theorem zee.mono{μ ν:Mu}(h:μ.lw ν){l:zru}{r:Loop}(k:zee μ l r):zee ν l r:=
 ⟨k.state,k.pending,k.fn,k.tm.mono h,k.params,k.assign,k.body,by obtain⟨i,h1,h2⟩:=k.defers;exact⟨i,h _ _ h1,h2⟩⟩
theorem zD.mono{α β:Type}{R S:α->β->Prop}(h:∀a b,R a b->S a b){l:List α}{m:List β}(k:zD R l m):zD S l m:=by
 induction k with
 | nil=>exact .nil
 | cons a _ ih=>exact .cons (h _ _ a) ih
theorem wS.mono{μ ν:Mu}(h:μ.lw ν){d:znd}{e:Deferred}(k:wS μ d e):wS ν d e:=by
 refine⟨?_⟩
 have:=k.rel
 revert this
 cases d.fn with
 | none=>rintro⟨i,h1,h2⟩;exact⟨i,h _ _ h1,h2⟩
 | some f=>rintro⟨fn,cap,as,h1,h2,h3⟩;exact⟨fn,cap,as,h1,h2.mono h,qB.mono h _ _ h3⟩
theorem iH.mono{μ ν:Mu}(h:μ.lw ν){i:BI}{x:jA}{o:Obj}(k:iH μ i x o):iH ν i x o:=by
 cases x with
 | cells c n loose=>
  obtain⟨cs,elem,fr,h1,h2,h3,h4,h5⟩:=k
  refine⟨cs,elem,fr,h1,h2,h3,fun j v hv=>?_,h5⟩
  obtain⟨a,v',c,d⟩:=h4 j v hv
  exact⟨a,v',c,d.mono h _ _⟩
 | map l=>obtain⟨es,clock,h1,h2⟩:=k;exact⟨es,clock,h1,h2.mono fun a b r=>⟨r.1.mono h _ _,r.2.mono h _ _⟩⟩
 | loop l=>obtain⟨r,h1,h2⟩:=k;exact⟨r,h1,h2.mono h⟩
 | deferred l=>
  obtain⟨l',h1,h2⟩:=k
  refine⟨l',h1,?_⟩
  revert h2
  cases l<;>cases l'<;>intro h2<;>first | trivial | exact h2.elim | exact zD.mono (fun a b r=>wS.mono h r) h2
 | siter s p=>exact k
section
variable {P:Program}{C:iA}{B N:Nat}{μ:Mu}{H:qA}{w:World}
theorem oB.lt(hH:oB B N μ H w){a:Nat}{i:BI}(h:μ a=some i):a<H.next:=by
 refine Nat.lt_of_not_le fun hle=>?_
 rw[(hH.fresh a hle).1]at h;cases h
theorem oB.newBlk(hH:oB B N μ H w){x:jA}{o:Obj}{i:BI}(hib:i.b=w.heap.size)(hro:i.ro=false)(hx:iH (μ.ext H.next i) i x o):oB B N (μ.ext H.next i) (newBlk H x) (w.alloc o):=by
 have hle:μ.le (μ.ext H.next i):=Mu.ext_le (hH.fresh _ (yal _)).1
 have hget:∀a,(Am.newBlk H x).t.get a=if a=H.next then some x else H.t.get a:=fun a=>Tr.get_set _ _ _ _
 refine⟨hH.base,?_,?_,?_,?_,?_,?_,?_,?_,fun a y t ha=>?_⟩
 ·intro g hg;rw[Mu.ext_get,if_neg (by have:=hH.next;have:=hH.base;omega)];exact hH.glob g hg
 ·intro a y j ha hy hj
  rw[hget,if_neg (by have:=hH.next;omega)]at hy
  rw[Mu.ext_get,if_neg (by have:=hH.next;omega)]at hj
  exact hH.low a y j ha hy hj
 ·have:=hH.next;show B<=H.next+1;omega
 ·have:=hH.size;simp;omega
 ·intro a ha
  have ha':H.next+1<=a:=ha
  rw[hget,if_neg (by omega)]
  rw[Mu.ext_get,if_neg (by omega)]
  exact hH.fresh a (by omega)
 ·intro a y j hy hj
  rw[hget]at hy;rw[Mu.ext_get]at hj;split at hy
  ·rename_i e;subst e;cases hy
   rw[if_pos rfl]at hj
   cases hj;refine⟨o,?_,hx⟩
   rw[hib];show(w.heap.push o)[w.heap.size]?=some o;simp
  ·rename_i hne
   rw[if_neg hne]at hj;obtain⟨q,h2,h3⟩:=hH.blk a y j hy hj
   refine⟨q,?_,h3.mono hle⟩
   rw[Below.heap_alloc];exact h2
   exact(yaf.1 h2).1
 ·intro a j ha hj
  rw[Mu.ext_get]at hj;split at hj
  ·cases hj;rw[hib];exact⟨hH.size,by simp,hro⟩
  ·have:=hH.own a j ha hj;exact⟨this.1,by simp;omega,this.2.2⟩
 ·intro a b y z j k hy hz hj hk ha hb hjk
  rw[hget]at hy hz;rw[Mu.ext_get]at hj hk;by_cases ea:a=H.next
  ·by_cases eb:b=H.next
   ·rw[ea,eb]
   ·exfalso
    rw[if_pos ea]at hj;rw[if_neg eb]at hk
    cases hj;have:=(hH.own b k hb hk).2.1;omega
  ·by_cases eb:b=H.next
   ·exfalso
    rw[if_neg ea]at hj;rw[if_pos eb]at hk
    cases hk;have:=(hH.own a j ha hj).2.1;omega
   ·rw[if_neg ea]at hy hj;rw[if_neg eb]at hz hk
    exact hH.inj a b y z j k hy hz hj hk ha hb hjk
 ·obtain⟨h1,h2,h3⟩:=hH.pnd a y t ha
  have hne:a≠H.next:=fun e=>by rw[e,(hH.fresh _ (yal _)).2]at h2;cases h2
  exact⟨by rw[Mu.ext_get,if_neg hne];exact h1,by rw[hget,if_neg hne];exact h2,h3⟩
theorem oB.drew(hH:oB B N μ H w):oB B N μ H w.drew:=⟨hH.base,hH.glob,hH.low,hH.next,hH.size,hH.fresh,hH.blk,hH.own,hH.inj,hH.pnd⟩
def World.setBlk(w:World)(g:Nat)(o:Obj):World:={ w with heap:=w.heap.setIfInBounds g o }
theorem zgs(w:World)(g:Nat)(a b:Obj):World.setBlk (World.setBlk w g a) g b=World.setBlk w g b:=by
 unfold World.setBlk;simp
theorem tV(w:World)(g k:Nat)(o:Obj):(World.setBlk w g o).heap[k]?=if k=g/\g<w.heap.size then some o else w.heap[k]?:=by
 unfold World.setBlk;simp only[ybt];by_cases h:g=k
 ·subst h
  by_cases h2:g<w.heap.size
  ·simp[h2]
  ·rw[if_pos rfl,if_neg h2,if_neg (fun h=>h2 h.2)];exact(Array.getElem?_eq_none (by omega)).symm
 ·rw[if_neg h,if_neg (fun e=>h e.1.symm)]
theorem zem{g j:Nat}{cur:Array Value}{t:TypeId}{fz:Nat × Nat}{v:Value}(h:w.heap[g]?=some (.cells cur t fz)):w.setCell ⟨g,j,none⟩ v=World.setBlk w g (.cells (cur.setIfInBounds j v) t fz):=by
 unfold World.setCell World.setBlk;congr 1
 apply Array.ext_getElem?
 intro k;rw[Array.getElem?_modify,ybt];by_cases e:g=k
 ·subst e
  have hg:=(yaf.1 h).1
  rw[if_pos rfl,if_pos rfl,if_pos hg,h];rfl
 ·rw[if_neg e,if_neg e]
theorem dZ{g o:Nat}{t:TypeId}{fz:Nat × Nat}:∀(vs:List Value) (i:Nat) (cur:Array Value) (w:World),w.heap[g]?=some (.cells cur t fz)->(fz.2<=fz.1\/cur.size<=fz.1) →
  o+i+vs.length<=cur.size->(∀v∈vs,v.oneCell'=true) →
  ∃cur',cur'.size=cur.size/\(∀j:Nat,cur'[j]?=if o+i<=j/\j<o+i+vs.length then vs[j-(o+i)]? else cur[j]?) ∧
   (storeCells ⟨g,o,none⟩ vs i).run P w=.ok () (World.setBlk w g (.cells cur' t fz)):=by
 intro vs;induction vs with
 | nil=>
  intro i cur w h _ _ _;refine⟨cur,rfl,fun j=>by rw[if_neg (by simp)],?_⟩
  have:World.setBlk w g (.cells cur t fz)=w:=by
   unfold World.setBlk;have:w.heap.setIfInBounds g (.cells cur t fz)=w.heap:=by
    apply Array.ext_getElem?
    intro k;rw[ybt];split
    ·rename_i e;subst e;rw[h];simp[(yaf.1 h).1]
    ·rfl
   rw[this]
  rw[this];rfl
 | cons v vs ih=>
  intro i cur w h hfz hlen h1;simp only[yao]at hlen;have hg:g<w.heap.size:=(yaf.1 h).1
  have hc:w.cell? ⟨g,o+i,none⟩=some (cur[o+i]'(by omega)):=by simp[World.cell?,h]
  have hf:w.frozen? ⟨g,o+i,none⟩=false:=by
   simp only[World.frozen?,h];rcases hfz with hfz | hfz
   ·simp;omega
   ·simp;omega
  have hst:(store (Addr.add ⟨g,o,none⟩ i) v).run P w=.ok () (World.setBlk w g (.cells (cur.setIfInBounds (o+i) v) t fz)):=by
   rw[zS,run_store P w _ _ _ (h1 v (by simp)),hc]
   simp only[hf];rw[<- zem h];rfl
  obtain⟨cur',hs,hj,hr⟩:=ih (i+1) (cur.setIfInBounds (o+i) v) (World.setBlk w g (.cells (cur.setIfInBounds (o+i) v) t fz)) (by rw[tV,if_pos ⟨rfl,hg⟩]) (by simpa using hfz) (by simp;omega) (fun u hu=>h1 u (by simp[hu]))
  refine⟨cur',by simpa using hs,fun j=>?_,?_⟩
  ·rw[hj,ybt]
   by_cases e:j=o+i
   ·subst e
    rw[if_neg (by omega),if_pos rfl,if_pos (by omega),if_pos (by simp)]
    simp
   ·by_cases e2:o+(i+1)<=j/\j<o+(i+1)+vs.length
    ·rw[if_pos e2,if_pos (by simp;omega)]
     rw[show j-(o+i)=(j-(o+(i+1)))+1 by omega];simp
    ·rw[if_neg e2,if_neg (by omega),if_neg (by simp;omega)]
  ·rw[storeCells]
   simp only[Sem.run_bind,hst,Result.andThen_ok,hr,zgs]
theorem oB.upd(hH:oB B N μ H w){a:Nat}{x x':jA}{i:BI}{o':Obj}(hx:H.t.get a=some x)(hi:μ a=some i)(ha:B<=a)(hb:iH μ i x' o'):oB B N μ (setBlk H a x') (World.setBlk w i.b o'):=by
 have hget:∀b,(Am.setBlk H a x').t.get b=if b=a then some x' else H.t.get b:=fun b=>Tr.get_set _ _ _ _
 have hlt:=(hH.own a i ha hi).2.1
 refine⟨hH.base,hH.glob,?_,hH.next,?_,?_,?_,?_,?_,fun b y t hb=>?_⟩
 ·intro b y j hb hy hj;rw[hget,if_neg (by omega)]at hy;exact hH.low b y j hb hy hj
 ·have:=hH.size;simpa[World.setBlk]using this
 ·intro b hb
  have hb':H.next<=b:=hb
  have:=hH.lt hi
  rw[hget,if_neg (by omega)]
  exact hH.fresh b hb'
 ·intro b y j hy h1
  rw[hget]at hy;split at hy
  ·rename_i e;subst e;cases hy
   rw[hi]at h1;cases h1;exact⟨o',by rw[tV,if_pos ⟨rfl,hlt⟩],hb⟩
  ·rename_i hne
   obtain⟨q,h2,h3⟩:=hH.blk b y j hy h1
   refine⟨q,?_,h3⟩
   rw[tV,if_neg]
   ·exact h2
   ·rintro⟨e,_⟩
    by_cases hb:B<=b
    ·exact hne (hH.inj b a y x j i hy hx h1 hi hb ha e)
    ·have h5:=(hH.low b y j (by omega) hy h1).1
     have h6:=(hH.own a i ha hi).1
     omega
 ·intro b j hb hj;have:=hH.own b j hb hj;exact⟨this.1,by simpa[World.setBlk]using this.2.1,this.2.2⟩
 ·intro b c y z j k hy hz hj hk hb hc hjk
  have key:∀b y,(Am.setBlk H a x').t.get b=some y->∃y',H.t.get b=some y':=by
   intro b y hy;rw[hget]at hy;split at hy
   ·rename_i e;subst e;exact⟨x,hx⟩
   ·exact⟨y,hy⟩
  obtain⟨y',hy'⟩:=key b y hy
  obtain⟨z',hz'⟩:=key c z hz
  exact hH.inj b c y' z' j k hy' hz' hj hk hb hc hjk
 ·obtain⟨h1,h2,h3⟩:=hH.pnd b y t hb
  have hne:b≠a:=fun e=>by rw[e,hi]at h1;cases h1
  exact⟨h1,by rw[hget,if_neg hne];exact h2,h3⟩
theorem zT{g:Nat}{o:Obj}(h:N<=g):Below N w (World.setBlk w g o):=
 ⟨rfl,rfl,rfl,by simp[World.setBlk],fun k hk=>by rw[tV,if_neg (by omega)]⟩
theorem qB.one{l:List zA}:∀ {vs:List Value},qB μ l vs->(∀a∈l,a.one=true)->∀v∈vs,v.oneCell'=true:=by
 induction l with
 | nil=>intro vs h _ v hv;rw[qB]at h;subst h;cases hv
 | cons a l ih=>
  intro vs h k v hv;rw[qB]at h;obtain⟨u,r,rfl,h1,h2⟩:=h
  rcases yat.1 hv with rfl | hv
  ·exact h1.one (k a (by simp))
  ·exact ih h2 (fun b hb=>k b (by simp[hb])) v hv
theorem iH.write{i:BI}{c:Tr zA}{n:Nat}{loose:Option Nat}{cs cs':Array Value}{elem:TypeId}{fr:Nat × Nat}(h:iH μ i (.cells c n loose) (.cells cs elem fr)){l:List zA}{vs:List Value}(hl:qB μ l vs)
  {off:Nat} (hoff:off+l.length<=n) (hs:cs'.size=cs.size) (hj:∀j:Nat,cs'[j]?=if off<=j/\j<off+vs.length then vs[j-off]? else cs[j]?):iH μ i (.cells (c.setMany l off) n loose) (.cells cs' elem fr):=by
 obtain⟨cs0,elem0,fr0,e,h2,h3,h4,h5⟩:=h
 cases e
 have hlen:=hl.length
 refine⟨cs',elem,fr,rfl,by omega,by rw[hs];exact h3,fun j v hv=>?_,by rw[hs];exact h5⟩
 rw[Tr.get_setMany]at hv;split at hv
 ·rename_i hjr
  obtain⟨u,hu,hr⟩:=hl.get hv
  refine⟨by omega,u,?_,hr⟩
  rw[hj,if_pos (by omega)];exact hu
 ·rename_i hjr
  obtain⟨a,v',d,f⟩:=h4 j v hv
  refine⟨a,v',?_,f⟩
  rw[hj,if_neg (by omega)];exact d
theorem zil(hbase:B<=C.base)(hH:oB B N μ H w){b off:Nat}{l:List zA}{H':qA}(h:fK C H b off l=some H'){i:BI}(hi:μ b=some i){vs:List Value}(hl:qB μ l vs) :
  ∃w',(storeCells ⟨i.b,off,none⟩ vs).run P w=.ok () w'/\oB B N μ H' w'/\Below N w w':=by
 unfold fK at h;simp only[lB,lA,yac,cE,bD,oG,ybq]at h;obtain⟨hb,c,hc,⟨hle,hall⟩,h⟩:=h
 cases h;have hb':B<=b:=by
  have:¬ b<C.base:=fun k=>by rw[lC.2 k]at hb;cases hb
  omega
 have hx:=zW hc
 obtain⟨o,h2,h3⟩:=hH.blk _ _ _ hx hi
 have h3':=h3
 obtain⟨cs,elem,fr,rfl,h4,h5,_,_⟩:=h3
 have hone:∀a∈l,a.one=true:=fun a ha=>ybc.1 hall a ha
 have hlen:=hl.length
 have hown:=hH.own b i hb' hi
 have h5:=h5.resolve_left (by rw[hown.2.2];simp)
 obtain⟨cs',hs,hj,hr⟩:=dZ (P:=P) (o:=off) vs 0 cs w h2 h5 (by omega) (hl.one hone)
 exact⟨_,hr,hH.upd hx hi hb' (h3'.write hl hle hs (by simpa using hj)),zT hown.1⟩
theorem qB.rel_one{l:List zA}{vs:List Value}(hl:qB μ l vs){i:BI}(ht:i.tight=true){elem:TypeId}:iH μ i (.cells (Tr.ofList l) (wB l) none) (.cells vs.toArray elem (0,0)):=by
 have hlen:=hl.length
 refine⟨vs.toArray,elem,(0,0),rfl,by rw[bD];simp[hlen],.inr (.inl (yal _)),fun j v hv=>?_,ht⟩
 rw[Tr.get_ofList]at hv;obtain⟨u,hu,hr⟩:=hl.get hv
 refine⟨by rw[bD];exact(yad.1 hv).1,u,by simpa using hu,hr⟩
theorem oB.newTight(hH:oB B N μ H w){l:List zA}{vs:List Value}(hl:qB μ l vs)(elem:TypeId) :
  oB B N (μ.ext H.next ⟨w.heap.size,true,0,0,false⟩) (jF H l none) (w.alloc (.cells vs.toArray elem)):=
 hH.newBlk rfl rfl ((qB.mono (Mu.ext_le (hH.fresh _ (yal _)).1).f _ _ hl).rel_one rfl)
theorem dM(h:N<=w.heap.size)(o:Obj):Below N w (w.alloc o):=(Below.refl N w).alloc h o
def Mu.wait(μ:Mu)(a:Nat)(x:jA × Nat × Nat):Mu:=⟨μ.m,fun b=>if b=a then some x else μ.pd b⟩
def Mu.land(μ:Mu)(a:Nat)(i:BI):Mu:=⟨fun b=>if b=a then some i else μ b,fun b=>if b=a then none else μ.pd b⟩
theorem oB.early(hH:oB B N μ H w){x:jA}{t:Nat × Nat}:oB B N (μ.wait H.next (x,t)) (Am.newBlk H x) w:=by
 have hget:∀a,(Am.newBlk H x).t.get a=if a=H.next then some x else H.t.get a:=fun a=>Tr.get_set _ _ _ _
 have hn:=hH.fresh _ (yal _)
 have gone:∀a i,μ a=some i->a≠H.next:=fun a i h e=>by rw[e,hn.1]at h;cases h
 have bm:∀i y o,iH μ i y o->iH (μ.wait H.next (x,t)) i y o:=fun i y o h=>iH.mono (μ:=μ) (ν:=μ.wait H.next (x,t)) (fun _ _ h=>h) h
 refine⟨hH.base,hH.glob,fun a y i ha hy hi=>?_,by have:=hH.next;show B<=H.next+1;omega,hH.size,fun a ha=>?_,fun a y i hy hi=>?_,hH.own,fun a b y z i j hy hz hi hj=>?_,fun a y s ha=>?_⟩
 ·rw[hget,if_neg (gone a i hi)]at hy;exact hH.low a y i ha hy hi
 ·have ha':H.next+1<=a:=ha
  have:=hH.fresh a (by omega)
  exact⟨this.1,by rw[hget,if_neg (by omega)];exact this.2⟩
 ·rw[hget,if_neg (gone a i hi)]at hy
  obtain⟨o,h1,h2⟩:=hH.blk a y i hy hi
  exact⟨o,h1,bm _ _ _ h2⟩
 ·rw[hget,if_neg (gone a i hi)]at hy
  rw[hget,if_neg (gone b j hj)]at hz
  exact hH.inj a b y z i j hy hz hi hj
 ·change (if a=H.next then some (x,t)else μ.pd a)=some (y,s)at ha
  split at ha
  ·rename_i e;cases ha;subst e
   exact⟨hn.1,by rw[hget,if_pos rfl],hH.next⟩
  ·rename_i e
   obtain⟨h1,h2,h3⟩:=hH.pnd a y s ha
   exact⟨h1,by rw[hget,if_neg e];exact h2,h3⟩
theorem oB.late(hH:oB B N μ H w){a:Nat}{x:jA}{t:Nat × Nat}{o:Obj}{i:BI}(hp:μ.pd a=some (x,t))(hib:i.b=w.heap.size)(hro:i.ro=false)(hx:iH (μ.land a i) i x o):oB B N (μ.land a i) H (w.alloc o):=by
 obtain⟨p1,p2,p3⟩:=hH.pnd a x t hp
 have lg:∀b,(μ.land a i) b=if b=a then some i else μ b:=fun _=>rfl
 have hle:μ.lw (μ.land a i):=fun b j hj=>by
  rw[lg,if_neg fun e=>by rw[e,p1]at hj;cases hj];exact hj
 have hbase:=hH.base
 refine⟨hH.base,fun g hg=>by rw[lg,if_neg (by omega)];exact hH.glob g hg,fun b y j hb hy hj=>?_,hH.next,by have:=hH.size;simp;omega,fun b hb=>?_,fun b y j hy hj=>?_,fun b j hb hj=>?_,fun b c y z j k hy hz hj hk hb hc hjk=>?_,fun b y s hb=>?_⟩
 ·rw[lg,if_neg (by omega)]at hj;exact hH.low b y j hb hy hj
 ·have:=hH.fresh b hb
  rw[lg,if_neg fun e=>by rw[e,p2]at this;cases this.2]
  exact this
 ·rw[lg]at hj
  split at hj
  ·rename_i e;subst e;cases hj
   rw[p2]at hy;cases hy;exact⟨o,by rw[hib];show(w.heap.push o)[w.heap.size]?=some o;simp,hx⟩
  ·obtain⟨q,h2,h3⟩:=hH.blk b y j hy hj
   refine⟨q,?_,h3.mono hle⟩
   rw[Below.heap_alloc];exact h2
   exact(yaf.1 h2).1
 ·rw[lg]at hj
  split at hj
  ·cases hj;rw[hib];exact⟨hH.size,by simp,hro⟩
  ·have:=hH.own b j hb hj;exact⟨this.1,by simp;omega,this.2.2⟩
 ·rw[lg]at hj hk
  by_cases eb:b=a
  ·by_cases ec:c=a
   ·rw[eb,ec]
   ·exfalso
    rw[if_pos eb]at hj;rw[if_neg ec]at hk
    cases hj;have:=(hH.own c k hc hk).2.1;omega
  ·by_cases ec:c=a
   ·exfalso
    rw[if_neg eb]at hj;rw[if_pos ec]at hk
    cases hk;have:=(hH.own b j hb hj).2.1;omega
   ·rw[if_neg eb]at hj;rw[if_neg ec]at hk
    exact hH.inj b c y z j k hy hz hj hk hb hc hjk
 ·change (if b=a then none else μ.pd b)=some (y,s)at hb
  split at hb
  ·cases hb
  ·rename_i e
   obtain⟨h1,h2,h3⟩:=hH.pnd b y s hb
   exact⟨by rw[lg,if_neg e];exact h1,h2,h3⟩
theorem oB.ext_le(hH:oB B N μ H w){i:BI}:μ.le (μ.ext H.next i):=Mu.ext_le (hH.fresh _ (yal _)).1
end
end Go.Am
namespace Go.Am
open Go Go.RowKit
section
variable {P:Program}{C:iA}{B N:Nat}{μ:Mu}{H H':qA}{w:World}
variable {e:wD}{ρ:Operand->Value}{dst:Option Tmp}{type:TypeId}{pos:String}{after:Array Edge}{guard:Option (Nat × Bool)}{v:zA}
def zpu (P:Program)(B N:Nat)(μ:Mu)(w:World)(ρ:Operand->Value)(o:Oper)(v:zA)(H':qA):Prop:=
 ∃v' w' μ',((execOp ρ o).run P w=.ok (.value v') w'\/((execOp ρ o).run P w=.ok .skip w'/\v'=undef))/\μ.le μ'/\oB B N μ' H' w'/\Below N w w'/\rA μ' v v'
theorem LOk.hv(hH:oB B N μ H w){o:Oper}(h:LOk P μ w ρ o v):zpu P B N μ w ρ o v H:=by
 obtain⟨v',h1,h2⟩:=h
 exact⟨v',w,μ,.inl h1,μ.le_refl,hH,Below.refl _ _,h2⟩
theorem pM{x:Option (zA × qA)}{v:zA}{H':qA}(h:dK x=.val v H'):x=some (v,H'):=by
 unfold dK at h;split at h
 ·injection h with h1 h2;rw[<- h1,<- h2]
 ·cases h
theorem qR{elem:TypeId}{cs:Array Value}:(newRow elem cs).run P w=.ok ⟨w.heap.size,0,none⟩ (w.alloc (.cells cs elem)):=by
 simp[newRow]
theorem xY{elem:TypeId}{v:Value}:(newVar elem v).run P w=.ok ⟨w.heap.size,0,none⟩ (w.alloc (.cells v.cells elem)):=qR
theorem zic:rA μ rE undef:=by rw[rE,rA];exact⟨_,rfl,.nil⟩
theorem zwz(hT:vG P C)(hH:oB B N μ H w){t:Nat}(h:zds t C e H=.val v H'):zpu P B N μ w ρ ⟨dst,.alloc t,type,pos,after,guard⟩ v H':=by
 have h:=pM h
 simp only[lA]at h;obtain⟨ty,hty,h⟩:=h
 cases h;obtain⟨z,hz,_,hzl⟩:=(hT.facts hty).zero (μ:=μ)
 refine⟨.pointer (some ⟨w.heap.size,0,none⟩),w.alloc (.cells z.cells t),_,.inl ?_,hH.ext_le,by have:=hH.newTight hzl t;rwa [Array.toArray_toList]at this,dM hH.size _,by rw[rA];exact⟨_,Mu.ext_same,rfl⟩⟩
 simp only[execOp,Instr.alloc,Sem.run_bind,hz,Result.andThen_ok,xY,Sem.run_pure]
theorem z6r(hH:oB B N μ H w)(hE:pF μ e ρ){t:Nat}{x:Operand}(h:z06 x C e H=.val v H'):zpu P B N μ w ρ ⟨dst,.box t x,type,pos,after,guard⟩ v H':=by
 have h:=pM h
 simp only[lA]at h;obtain⟨a,ha,h⟩:=h
 cases h;refine⟨.pointer (some ⟨w.heap.size,0,none⟩),w.alloc (.cells (ρ x).cells t),_,.inl ?_,hH.ext_le,by have:=hH.newTight (zal (hE _ _ ha)) t;rwa [Array.toArray_toList]at this,dM hH.size _,by rw[rA];exact⟨_,Mu.ext_same,rfl⟩⟩
 simp only[execOp,Instr.box,Sem.run_bind,xY,Result.andThen_ok,Sem.run_pure]
theorem zc0(z:List zA):∀n,(rJ z n).length=n*z.length:=by
 intro n;induction n with
 | zero=>simp[rJ]
 | succ n ih=>rw[rJ,eH,yah,ih,yap];omega
theorem zzy(z:List zA):∀(n j:Nat),j<n*z.length->(rJ z n)[j]?=z[j%z.length]?:=by
 intro n;induction n with
 | zero=>intro j hj;simp at hj
 | succ n ih=>
  intro j hj;rw[rJ,eH];by_cases h:j<z.length
  ·rw[ybp h,Nat.mod_eq_of_lt h]
  ·rw[yaq (by omega),ih _ (by rw[yap]at hj;omega)]
   congr 1
   rw[Nat.mod_eq_sub_mod (by omega:z.length<=j)]
theorem zlp{z:List zA}{zv:Array Value}(hz:qB μ z zv.toList)(n:Nat):qB μ (rJ z n) ((Array.range (n*z.length)).map (zv[· % zv.size]!)).toList:=by
 have hl:=hz.length
 simp only[yca]at hl;refine qB.mk (by simp[zc0]) fun j a v ha hv=>?_
 have hj:j<n*z.length:=by rw[<- zc0];exact(yad.1 ha).1
 rw[zzy z n j hj]at ha;obtain⟨u,hu,hr⟩:=hz.get ha
 have hpos:0<z.length:=by
  rcases Nat.eq_zero_or_pos z.length with h0 | h0
  ·rw[h0]at hj;simp at hj
  ·exact h0
 have hm:j%z.length<z.length:=ybz _ hpos
 simp only[Array.toList_map,yav,Array.toList_range,List.getElem?_range hj,Option.map_some,Option.some.injEq]at hv;rw[<- hv,hl];have:zv[j%z.length]! = u:=by
  have h1:zv[j%z.length]?=some u:=by simpa using hu
  rw[getElem!_def,h1]
 rw[this];exact hr
theorem zep(hT:vG P C)(hH:oB B N μ H w)(hE:pF μ e ρ){t len:Nat}{parts:Array (Nat × Operand)}(h:eS t len parts C e H=.val v H'):zpu P B N μ w ρ ⟨dst,.buildSlice t len parts,type,pos,after,guard⟩ v H':=by
 have h:=pM h
 simp only[lA,lB,yac,lC,zC,bD]at h;obtain⟨ty,hty,el,hel,et,het,⟨hlt,hzs⟩,ps,hps,l,hl,h⟩:=h
 cases h;have hF:=hT.facts het
 obtain⟨z,hz,_,hzl⟩:=hF.zero (μ:=μ)
 have hzlen:=hzl.length
 simp only[yca]at hzlen;have hrel:=zlp hzl len
 rw[hzs]at hrel;obtain⟨out,ho,hr⟩:=zb3 (hE.parts hps) hrel hl
 have hol:out.size=l.length:=by simpa using hr.length
 refine⟨.slice (some ⟨w.heap.size,0,none⟩) len len,w.alloc (.cells out el),_,.inl ?_,hH.ext_le,by have:=hH.newTight hr el;rwa [Array.toArray_toList]at this,dM hH.size _,?_⟩
 ·have h1:¬ len*et.size > 2^24:=by omega
  by_cases h0:len*et.size=0
  ·have harr:((Array.range (len*et.size)).map ((#[]:Array Value)[· % (#[]:Array Value).size]!))=(Array.range (len*et.size)).map (z.cells[· % z.cells.size]!):=by rw[h0];simp
   simp only[execOp,Instr.buildSlice,Sem.run_bind,zF (jN (hT.facts hty) hel),Result.andThen_ok,hF.size,if_neg h1,if_pos h0,Sem.run_pure,harr,Array.toList_map,ho,qR]
  ·simp only[execOp,Instr.buildSlice,Sem.run_bind,zF (jN (hT.facts hty) hel),Result.andThen_ok,hF.size,if_neg h1,if_neg h0,Sem.run_pure,hz,Array.toList_map,ho,qR]
 ·rw[rA];exact .inl ⟨_,len,Mu.ext_same,rfl,yal _,fun _=>rfl,fun h=>by cases h⟩
theorem z08(hT:vG P C)(hE:pF μ e ρ)(o:Oper)(hf:wK o.op=true)(h:(bE o.op).f C e H=.val v H') :
  ∃l vs v' elem,H'=jF H l none/\(execOp ρ o).run P w=.ok (.value v') (w.alloc (.cells vs elem))/\qB μ l vs.toList/\∀(ν:Mu) (i:BI),ν H.next=some i->i.b=w.heap.size->i.tight=true->rA ν v v':=by
 obtain⟨dst,op,type,pos,after,guard⟩:=o
 cases op<;>first | (simp[wK]at hf;done) | skip
 case alloc t=>
  have h:=pM (show zds t C e H=.val v H' from h)
  simp only[lA]at h;obtain⟨ty,hty,h⟩:=h
  cases h;obtain⟨z,hz,_,hzl⟩:=(hT.facts hty).zero (μ:=μ)
  refine⟨_,z.cells,.pointer (some ⟨w.heap.size,0,none⟩),t,rfl,?_,hzl,fun ν i h1 h2 _=>by rw[rA];exact⟨i,h1,by rw[h2]⟩⟩
  simp only[execOp,Instr.alloc,Sem.run_bind,hz,Result.andThen_ok,xY,Sem.run_pure]
 case box t x=>
  have h:=pM (show z06 x C e H=.val v H' from h)
  simp only[lA]at h;obtain⟨a,ha,h⟩:=h
  cases h;refine⟨_,(ρ x).cells,.pointer (some ⟨w.heap.size,0,none⟩),t,rfl,?_,zal (hE _ _ ha),fun ν i h1 h2 _=>by rw[rA];exact⟨i,h1,by rw[h2]⟩⟩
  simp only[execOp,Instr.box,Sem.run_bind,xY,Result.andThen_ok,Sem.run_pure]
 case buildSlice t len parts=>
  have h:=pM (show eS t len parts C e H=.val v H' from h)
  simp only[lA,lB,yac,lC,zC,bD]at h;obtain⟨ty,hty,el,hel,et,het,⟨hlt,hzs⟩,ps,hps,l,hl,h⟩:=h
  cases h;have hF:=hT.facts het
  obtain⟨z,hz,_,hzl⟩:=hF.zero (μ:=μ)
  have hrel:=zlp hzl len
  rw[hzs]at hrel;obtain⟨out,ho,hr⟩:=zb3 (hE.parts hps) hrel hl
  refine⟨_,out,.slice (some ⟨w.heap.size,0,none⟩) len len,el,rfl,?_,hr,fun ν i h1 h2 h3=>by rw[rA];exact .inl ⟨i,len,h1,by rw[h2],yal _,fun _=>rfl,fun h=>by rw[h3]at h;cases h⟩⟩
  have h1:¬ len*et.size > 2^24:=by omega
  by_cases h0:len*et.size=0
  ·have harr:((Array.range (len*et.size)).map ((#[]:Array Value)[· % (#[]:Array Value).size]!))=(Array.range (len*et.size)).map (z.cells[· % z.cells.size]!):=by rw[h0];simp
   simp only[execOp,Instr.buildSlice,Sem.run_bind,zF (jN (hT.facts hty) hel),Result.andThen_ok,hF.size,if_neg h1,if_pos h0,Sem.run_pure,harr,Array.toList_map,ho,qR]
  ·simp only[execOp,Instr.buildSlice,Sem.run_bind,zF (jN (hT.facts hty) hel),Result.andThen_ok,hF.size,if_neg h1,if_neg h0,Sem.run_pure,hz,Array.toList_map,ho,qR]
theorem zq7{o:Op}(hf:wK o=true)(h:(bE o).f C e H=.val v H'):∃l,H'=jF H l none:=by
 cases o<;>first | (simp[wK]at hf;done) | skip
 case alloc t=>
  have h:=pM (show zds t C e H=.val v H' from h)
  simp only[lA]at h;obtain⟨ty,hty,h⟩:=h
  cases h;exact⟨_,rfl⟩
 case box t x=>
  have h:=pM (show z06 x C e H=.val v H' from h)
  simp only[lA]at h;obtain⟨a,ha,h⟩:=h
  cases h;exact⟨_,rfl⟩
 case buildSlice t len parts=>
  have h:=pM (show eS t len parts C e H=.val v H' from h)
  simp only[lA,lB]at h;obtain⟨ty,hty,el,hel,et,het,_,ps,hps,l,hl,h⟩:=h
  cases h;exact⟨_,rfl⟩
theorem zme{e':wD}(h:∀x,ev x e=ev x e'){o:Op}(hf:wK o=true)(H:qA):(bE o).f C e H=(bE o).f C e' H:=by
 cases o<;>first | (simp[wK]at hf;done) | rfl | skip
 case box t x=>show z06 x C e H=z06 x C e' H;simp only[z06,h]
 case buildSlice t len ps=>show eS t len ps C e H=eS t len ps C e' H;simp only[eS,evp,h]
theorem zwx(hT:vG P C)(hbase:B<=C.base)(hH:oB B N μ H w)(hE:pF μ e ρ){t:Nat}{a x:Operand}(h:zo7 t a x C e H=.val v H'):zpu P B N μ w ρ ⟨dst,.store t a x,type,pos,after,guard⟩ v H':=by
 have h:=pM h
 simp only[lA,lB,zC,bD,yW]at h;obtain⟨ty,hty,av,ha,p,rfl,xv,hx,hs,H1,h1,h⟩:=h
 cases h;have hF:=hT.facts hty
 have hp:=hE _ _ ha
 rw[rA]at hp;obtain⟨i,hi,hpv⟩:=hp
 have hc:=zal (hE _ _ hx)
 obtain⟨w',h2,h3,h4⟩:=zil (P:=P) hbase hH h1 hi hc
 have hcl:=hc.length
 simp only[yca]at hcl;refine⟨undef,w',μ,.inr ⟨?_,rfl⟩,μ.le_refl,h3,h4,zic⟩
 have h5:¬ (ρ x).cells.size≠ty.size:=by omega
 simp only[execOp,Instr.storeAt,hpv,Instr.sureAddr,Sem.run_bind,Sem.run_pure,Result.andThen_ok,storeVar,hF.size,Sem.run_ite,if_neg h5,h2]
theorem zmb(hH:oB B N μ H w){t:Nat}{r:Option Operand}(h:xX r C e H=.val v H'):zpu P B N μ w ρ ⟨dst,.makeMap t r,type,pos,after,guard⟩ v H':=by
 unfold xX at h;split at h
 ·injection h with h1 h2
  subst h1 h2
  refine⟨.map (some w.heap.size),w.alloc (.map #[] 0),_,.inl ?_,hH.ext_le,hH.newBlk (i:=⟨w.heap.size,true,0,0,false⟩) rfl rfl ⟨#[],0,rfl,.nil⟩,dM hH.size _,by rw[rA];exact⟨_,Mu.ext_same,rfl⟩⟩
  simp[execOp,Instr.makeMap]
 ·cases h
theorem zhf(hT:vG P C)(hH:oB B N μ H w)(hE:pF μ e ρ){t:Nat}{l c:Operand}(h:za0 t l c C e H=.val v H'):zpu P B N μ w ρ ⟨dst,.makeSlice t l c,type,pos,after,guard⟩ v H':=by
 have h:=pM h
 simp only[lA,lB,yac,cE,lC,zC,bD,cY]at h;obtain⟨ty,hty,el,hel,et,het,lv',hl,ln,⟨k1,rfl⟩,cv,hc,cn,⟨k2,rfl⟩,⟨⟨⟨h1,h2⟩,h3⟩,h4⟩,h⟩:=h
 cases h;have hF:=hT.facts het
 obtain⟨z,hz,_,hzl⟩:=hF.zero (μ:=μ)
 have hrel:=zlp hzl cn
 rw[h4]at hrel;have hlv:=hE _ _ hl
 rw[rA]at hlv;have hcv:=hE _ _ hc
 rw[rA]at hcv;obtain⟨inf,hinf,hsz,hby,_⟩:=hF.info
 refine⟨.slice (some ⟨w.heap.size,0,none⟩) ln cn,w.alloc (.cells ((Array.range (cn*et.size)).map (z.cells[· % z.cells.size]!)) el),_,.inl ?_,hH.ext_le,by have:=hH.newTight hrel el;rwa [Array.toArray_toList]at this,dM hH.size _,?_⟩
 ·have hw1:IntKind.i64.wrap (ln:Int)=ln:=dU (by simp[cG];omega)
  have hw2:IntKind.i64.wrap (cn:Int)=cn:=dU (by simp[cG];omega)
  have hb:(et.bytes:Int)*(cn:Int)=((cn*et.bytes:Nat):Int):=by rw[Int.mul_comm];simp
  have hc1:(((cn:Int)<0||decide ((et.bytes:Int)*(cn:Int) > 2^48))||decide ((ln:Int)<0)||decide ((ln:Int) > (cn:Int)))=false:=by
   rw[hb];simp;omega
  have hnn:¬ ((((cn:Int)<0||decide ((et.bytes:Int)*(cn:Int) > 2^48))||decide ((ln:Int)<0)||decide ((ln:Int) > (cn:Int)))=true):=by rw[hc1];simp
  by_cases h0:cn*et.size=0
  ·have harr:((Array.range (cn*et.size)).map ((#[]:Array Value)[· % (#[]:Array Value).size]!))=(Array.range (cn*et.size)).map (z.cells[· % z.cells.size]!):=by rw[h0];simp
   simp only[execOp,Instr.makeSlice,Sem.run_bind,zF (jN (hT.facts hty) hel),Result.andThen_ok,hlv,hcv,asInt,asIntOf,Sem.run_pure,yU hinf,hby,hw1,hw2,if_neg hnn,run_askRoom,hF.size,Int.toNat_natCast,if_pos h0,harr,qR]
  ·simp only[execOp,Instr.makeSlice,Sem.run_bind,zF (jN (hT.facts hty) hel),Result.andThen_ok,hlv,hcv,asInt,asIntOf,Sem.run_pure,yU hinf,hby,hw1,hw2,if_neg hnn,run_askRoom,hF.size,Int.toNat_natCast,if_neg h0,hz,qR]
 ·rw[rA];exact .inl ⟨_,cn,Mu.ext_same,rfl,yal _,fun _=>rfl,fun h=>by cases h⟩
end
end Go.Am
namespace Go.Am
open Go Go.RowKit
section
variable {P:Program}{C:iA}{B N:Nat}{μ:Mu}{H H':qA}{w:World}
variable {e:wD}{ρ:Operand->Value}{dst:Option Tmp}{type:TypeId}{pos:String}{after:Array Edge}{guard:Option (Nat × Bool)}{v:zA}
def z7q(μ:Mu)(p:zA × zA)(e:MapEntry):Prop:=rA μ p.1 e.key/\rA μ p.2 e.val
theorem zqz{a b:zA}{va vb:Value}(ha:rA μ a va)(hb:rA μ b vb)(h:zjt a b=some true):Instr.sameBits 10000 vb va=true:=by
 rcases zfx h with⟨k,x,y,rfl,rfl,hr⟩ | ⟨x,y,rfl,rfl,hr⟩ | ⟨x,y,rfl,rfl,hr⟩<;>rw[rA]at ha<;>rw[rA]at hb
 ·have:x=y:=by simpa using hr.symm
  rw[ha,hb,this];simp[Instr.sameBits]
 ·obtain⟨s,rfl,rfl⟩:=ha
  obtain⟨u,rfl,rfl⟩:=hb
  have h1:=eY ((lO _ _).1 hr.symm)
  rw[h1];show(u == u)=true
  show(u.data == u.data)=true
  simp
 ·have:x=y:=by simpa using hr.symm
  rw[ha,hb,this];simp[Instr.sameBits]
theorem zqe{D:TypeDesc}{k v:zA}{kv vv:Value}(hD:zhz D k)(hk:rA μ k kv)(hv:rA μ v vv){l:List (zA × zA)}{es:List MapEntry}(hl:zD (z7q μ) l es) :
  ∀ {i:Nat} {l':List (zA × zA)},rR k v l=some l' →
   (∃(j:Nat) (e0:MapEntry),Instr.findNow D kv es i=some (some (i+j,e0.val))/\es[j]?=some e0/\Instr.sameBits 10000 e0.key kv=true/\zD (z7q μ) l' (es.set j { e0 with key:=kv,val:=vv })) ∨
   (Instr.findNow D kv es i=some none/\∀born,zD (z7q μ) l' (es++[⟨kv,vv,born⟩])):=by
 induction hl with
 | nil=>intro i l' h;rw[rR]at h;cases h;exact .inr ⟨rfl,fun born=>.cons ⟨hk,hv⟩ .nil⟩
 | @cons p e l es hpe hrest ih=>
  intro i l' h;rw[rR,lA]at h;obtain⟨q,hq,h⟩:=h
  have h1:=zfb hD hk hpe.1 hq
  cases q with
  | true=>
   rw[cond_true]at h
   cases h;refine .inl ⟨0,e,by rw[Instr.findNow,h1];simp,by simp,zqz hk hpe.1 hq,?_⟩
   exact .cons ⟨hk,hv⟩ hrest
  | false=>
   rw[cond_false,lA]at h;obtain⟨r,hr,h⟩:=h
   cases h;rcases ih (i:=i+1) hr with⟨j,e0,h2,h3,h4,h5⟩ | ⟨h2,h3⟩
   ·refine .inl ⟨j+1,e0,?_,by simpa using h3,h4,?_⟩
    ·rw[Instr.findNow,h1];simp only[];rw[h2,show i+1+j=i+(j+1) by omega]
    ·exact .cons hpe h5
   ·exact .inr ⟨by rw[Instr.findNow,h1];exact h2,fun born=>.cons hpe (h3 born)⟩
theorem sV{r:Nat}{o o':Obj}(h:w.heap[r]?=some o)(hc:∀a b c,o≠.cells a b c):(setObj r o').run P w=.ok () (World.setBlk w r o'):=by
 simp only[setObj,Sem.run,h];rfl
theorem zjd(hT:vG P C)(hbase:B<=C.base)(hH:oB B N μ H w)(hE:pF μ e ρ){t:Nat}{m k x:Operand}(h:zaz t m k x C e H=.val v H') :
  ∃w',(Instr.mapUpdate t (ρ m) (ρ k) (ρ x)).run P w=.ok () w'/\oB B N μ H' w'/\Below N w w'/\v=rE:=by
 have h:=pM h
 simp only[lA,lB,za6,ybq]at h;obtain⟨ty,hty,ke,hke,kty,hkty,hkd,mv,hm,b,rfl,hbb,l,hl,kv,hk,hfit,xv,hx,l',hl',h⟩:=h
 cases h;have hKF:=hT.facts hkty
 obtain⟨D,hD⟩:=hKF.und
 have hfits:=zfv hKF hD hkd hfit
 have hD':(∃k,D=.int k)\/D=.string\/D=.bool:=by
  rcases hfits with⟨k,h,_⟩ | ⟨h,_⟩ | ⟨h,_⟩
  ·exact .inl ⟨k,h⟩
  ·exact .inr (.inl h)
  ·exact .inr (.inr h)
 have hmv:=hE _ _ hm
 rw[rA]at hmv;obtain⟨i,hi,hmv⟩:=hmv
 obtain⟨es,clock,h1,h2⟩:=hH.mapAt hl hi
 have hb:B<=b:=by
  have:¬ b<C.base:=fun k=>by rw[lC.2 k]at hbb;cases hbb
  omega
 have hown:=hH.own b i hb hi
 have hu:=zpj (hT.facts hty) hke
 have hck:=zd2 (P:=P) (w:=w) (empty:=false) (d:=9999) (kv:=ρ k) hD hD'
 have hfk:∀(q:Option (Nat × Value)),Instr.findNow D (ρ k) es.toList 0=some q->(Instr.findKey ke.1 (ρ k) es.toList).run P w=.ok q w:=by
  intro q hq;unfold Instr.findKey;simp only[Sem.run_bind,zF hD,Result.andThen_ok,hq,Sem.run_pure]
 rcases zqe (i:=0) hfits (hE _ _ hk) (hE _ _ hx) h2 hl' with⟨j,e0,h3,h4,h5,h6⟩ | ⟨h3,h4⟩
 ·have h4':es[j]?=some e0:=by simpa using h4
  have hj:j<es.size:=(yaf.1 h4').1
  refine⟨World.setBlk w i.b (.map (es.modify j fun e=>{ e with key:=ρ k,val:=ρ x }) clock),?_,hH.upd (lZ hl) hi hb ⟨_,clock,rfl,?_⟩,zT hown.1,rfl⟩
  ·have h7:=hfk _ h3
   simp only[yax]at h7;simp only[Instr.mapUpdate,Sem.run_bind,zF hu,Result.andThen_ok,hmv,oW h1 (by simp),hck,h7,h4',Option.map_some,Option.getD_some,Instr.keyThatStays,h5,if_true,Sem.run_pure,sV h1 (by simp)]
  ·have:(es.modify j fun e=>{ e with key:=ρ k,val:=ρ x }).toList=es.toList.set j { e0 with key:=ρ k,val:=ρ x }:=by
    apply List.ext_getElem?
    intro n;rw[Array.getElem?_toList,Array.getElem?_modify,ybx];by_cases e:j=n
    ·subst e
     rw[if_pos rfl,if_pos rfl,h4',if_pos (by simpa using hj)];rfl
    ·rw[if_neg e,if_neg e];simp
   rw[this];exact h6
 ·refine⟨World.setBlk w i.b (.map (es.push { key:=ρ k,val:=ρ x,born:=clock }) (clock+1)),?_,hH.upd (lZ hl) hi hb ⟨_,clock+1,rfl,?_⟩,zT hown.1,rfl⟩
  ·have h7:=hfk _ h3
   simp only[Instr.mapUpdate,Sem.run_bind,zF hu,Result.andThen_ok,hmv,oW h1 (by simp),hck,h7,sV h1 (by simp)]
  ·rw[Array.toList_push];exact h4 clock
theorem zfy(hT:vG P C)(hbase:B<=C.base)(hH:oB B N μ H w)(hE:pF μ e ρ){t:Nat}{m k x:Operand}(h:zaz t m k x C e H=.val v H') :
  zpu P B N μ w ρ ⟨dst,.mapUpdate t m k x,type,pos,after,guard⟩ v H'/\zpu P B N μ w ρ ⟨dst,.insert t m k x,type,pos,after,guard⟩ v H':=by
 obtain⟨w',h1,h2,h3,rfl⟩:=zjd (P:=P) hT hbase hH hE h
 constructor
 all_goals
  refine⟨undef,w',μ,.inr ⟨?_,rfl⟩,μ.le_refl,h2,h3,zic⟩
  simp only[execOp,Sem.run_bind,h1,Result.andThen_ok,Sem.run_pure]
theorem zbi(s:ByteArray):qB μ (lP (tE s)) (s.data.map fun b=>Value.int .u8 b.toNat).toList:=by
 refine qB.mk (by simp[lP,tE]) fun j a v ha hv=>?_
 unfold lP tE at ha;simp only[yav,Array.toList_map]at ha hv
 cases h:s.data.toList[j]? with
 | none=>rw[h]at ha;cases ha
 | some b=>
  rw[h]at ha hv;simp at ha hv;rw[<- ha,<- hv,rA]
theorem aZ(l:List Nat):(lP l).length=l.length:=by simp[lP]
theorem oB.newLoose(hH:oB B N μ H w){l:List zA}{cs:Array Value}{es:Nat}(hlen:l.length<=cs.size)(hl:∀(j:Nat) a,l[j]?=some a->∃v,cs[j]?=some v/\rA μ a v)(elem:TypeId)(fr:Nat × Nat)(hfr:fr.2<=fr.1\/cs.size<=fr.1)(hmod:l.length%es=0) :
  oB B N (μ.ext H.next ⟨w.heap.size,false,es,cs.size,false⟩) (jF H l (some es)) (w.alloc (.cells cs elem fr)):=by
 refine hH.newBlk rfl rfl ⟨cs,elem,fr,rfl,by rw[bD];exact hlen,.inr hfr,fun j v hv=>?_,rfl,rfl,rfl,by rw[bD];exact hmod⟩
 rw[Tr.get_ofList]at hv;obtain⟨u,hu,hr⟩:=hl j v hv
 exact⟨by rw[bD];exact(yad.1 hv).1,u,hu,hr.mono hH.ext_le.f _ _⟩
theorem z66(need old:Nat)(elem:TypeId)(t:Nat):need<=(Question.appendCap need old elem).cut t:=by simp[Question.cut]
theorem zac(need old:Nat)(elem:TypeId):∃c,need<=c/\(choose (.appendCap need old elem)).run P w=.ok c w.drew:=by
 refine⟨(Question.appendCap need old elem).cut (w.tape w.drawn (.appendCap need old elem)),z66 _ _ _ _,?_⟩
 rw[run_choose];simp[Question.forced]
theorem mX:Below N w w.drew:=(Below.refl N w).drew
theorem zbl(hH:oB B N μ H w){el:Nat}(s:ByteArray):∃w' cap,(Conv.stringToBytes el s).run P w=.ok (.slice (some ⟨w.heap.size,0,none⟩) s.size cap) w'/\s.size<=cap ∧
  oB B N (μ.ext H.next ⟨w.heap.size,false,1,cap,false⟩) (jF H (lP (tE s)) (some 1)) w'/\Below N w w':=by
 obtain⟨cap,hcap,hc⟩:=zac (P:=P) (w:=w) s.size 0 el
 let cs:Array Value:=(s.data.map fun b=>Value.int .u8 b.toNat)++Array.replicate (cap-s.size) (.int .u8 0)
 have hsz:cs.size=cap:=by simp[cs];show s.data.size+(cap-s.size)=cap;have:s.data.size=s.size:=rfl;omega
 have hdat:(s.data.map fun b=>Value.int .u8 b.toNat).size=s.size:=by simp
 have hpush:∀X:Obj,(w.drew.heap.push X)[w.heap.size]?=some X:=fun X=>by show(w.heap.push X)[w.heap.size]?=_;simp
 refine⟨w.drew.alloc (.cells cs el (cap,cap+1)),cap,?_,hcap,?_,(mX).trans (dM (by simpa using hH.size) _)⟩
 ·unfold Conv.stringToBytes
  have hfz:(w.drew.alloc (.cells cs el)).freeze ⟨w.heap.size,cap,none⟩ 1=w.drew.alloc (.cells cs el (cap,cap+1)):=by
   unfold World.freeze;rw[if_neg (by simp)]
   unfold World.alloc;congr 1
   apply Array.ext_getElem?
   intro k;rw[Array.getElem?_modify];by_cases e:k=w.heap.size
   ·subst e;rw[if_pos rfl,hpush,hpush];rfl
   ·rw[if_neg (fun h=>e h.symm)]
    simp only[Array.getElem?_push];rw[if_neg (by simpa using e),if_neg (by simpa using e)]
  have hshape:(w.drew.alloc (.cells cs el)).shape? w.heap.size=some (el,cs.size):=by
   unfold World.shape? World.alloc
   simp only[hpush]
  simp only[Sem.run_bind,hc,Result.andThen_ok,qR,markStringish,run_shape];have h2:(w.drew.alloc (.cells cs el)).shape? w.drew.heap.size=some (el,cap):=by rw[<- hsz];exact hshape
  simp only[show((s.data.map fun b=>Value.int .u8 (b.toNat:Int))++Array.replicate (cap-s.size) (Value.int .u8 0))=cs from rfl,h2,run_freeze,Result.andThen_ok,Sem.run_pure]
  rw[show(⟨w.drew.heap.size,cap,none⟩:Addr)=⟨w.heap.size,cap,none⟩ from rfl,hfz]
  rfl
 ·have:=(hH.drew).newLoose (l:=lP (tE s)) (cs:=cs) (es:=1) (by rw[aZ,iU,hsz];exact hcap) (fun j a ha=>?_) el (cap,cap+1) (.inr (by rw[hsz];exact yal _)) (Nat.mod_one _)
  ·rw[hsz]at this;exact this
  ·obtain⟨u,hu,hr⟩:=(zbi (μ:=μ) s).get ha
   refine⟨u,?_,hr⟩
   have hj:j<s.size:=by
    have:=(yad.1 ha).1
    rw[aZ,iU]at this;exact this
   show((s.data.map fun b=>Value.int .u8 (b.toNat:Int))++_)[j]?=_
   rw[Array.getElem?_append_left (by rw[hdat];exact hj)]
   simpa using hu
theorem zmc(hT:vG P C)(hH:oB B N μ H w)(hE:pF μ e ρ){s d:Nat}{x:Operand}(h:oQ s d x C e H=.val v H'):zpu P B N μ w ρ ⟨dst,.convert s d x,type,pos,after,guard⟩ v H':=by
 unfold oQ at h;split at h
 ·rename_i u hu
  injection h with h1 h2
  subst h1 h2
  exact(zoz hT hH hE hu).hv hH
 ·have h:=pM h
  simp only[lA,lB,iJ,cN,bD]at h;obtain⟨sy,hsy,ty,hty,el,hel,et,het,k,hk,rfl,a,ha,l,rfl,h⟩:=h
  cases h;have hv:=hE _ _ ha
  rw[rA]at hv;obtain⟨str,hxv,rfl⟩:=hv
  obtain⟨w',cap,h1,h2,h3,h4⟩:=zbl (P:=P) (el:=el) hH str
  obtain⟨su,hsu⟩:=(hT.facts hsy).und
  refine⟨.slice (some ⟨w.heap.size,0,none⟩) str.size cap,w',_,.inl ?_,hH.ext_le,h3,h4,?_⟩
  ·have h5:(convert s d (ρ x)).run P w=.ok (.slice (some ⟨w.heap.size,0,none⟩) str.size cap) w':=by
    rw[hxv];simp only[convert,Sem.run_bind,zF hsu,zF (jN (hT.facts hty) hel),Result.andThen_ok]
    cases su<;>simp only[zF (zht (hT.facts het) hk),Result.andThen_ok,h1]
   simp only[execOp,Sem.run_bind,h5,Result.andThen_ok,Sem.run_pure]
  ·rw[rA,iU]
   exact .inl ⟨_,cap,Mu.ext_same,rfl,h2,(fun h=>by cases h),(fun _=>by simp)⟩
end
end Go.Am
namespace Go.Am
open Go Go.RowKit
section
variable {P:Program}{C:iA}{B N:Nat}{μ:Mu}{H H':qA}{w:World}
variable {e:wD}{ρ:Operand->Value}{dst:Option Tmp}{type:TypeId}{pos:String}{after:Array Edge}{guard:Option (Nat × Bool)}{v:zA}
theorem oB.drop(hH:oB B N μ H w)(b:Nat)(hb:∀x t,μ.pd b≠some (x,t)):oB B N μ ⟨H.next,H.t.del b⟩ w:=by
 have hget:∀a,(H.t.del b).get a=if a=b then none else H.t.get a:=fun a=>Tr.get_del _ _ _
 have key:∀a x,(H.t.del b).get a=some x->a≠b/\H.t.get a=some x:=by
  intro a x h;rw[hget]at h;split at h
  ·cases h
  ·exact⟨‹_›,h⟩
 refine⟨hH.base,hH.glob,fun a x i ha hx=>hH.low a x i ha (key a x hx).2,hH.next,hH.size,fun a ha=>⟨(hH.fresh a ha).1,?_⟩,fun a x i hx=>hH.blk a x i (key a x hx).2,hH.own,fun a c x y i j hx hy=>hH.inj a c x y i j (key a x hx).2 (key c y hy).2,fun a x t ha=>?_⟩
 rotate_left
 ·obtain⟨h1,h2,h3⟩:=hH.pnd a x t ha
  exact⟨h1,by rw[hget,if_neg fun e=>hb x t (by rw[<- e];exact ha)];exact h2,h3⟩
 rw[hget];split
 ·rfl
 ·exact(hH.fresh a ha).2
theorem oB.adopt(hH:oB B N μ H w){y:jA}{o':Obj}{i:BI}(hN:N<=i.b/\i.b<w.heap.size/\i.ro=false)(hfree:∀a x j,B<=a->H.t.get a=some x->μ a=some j->j.b≠i.b)(hy:iH (μ.ext H.next i) i y o') :
  oB B N (μ.ext H.next i) (Am.newBlk H y) (World.setBlk w i.b o'):=by
 have hle:μ.le (μ.ext H.next i):=hH.ext_le
 have hget:∀a,(Am.newBlk H y).t.get a=if a=H.next then some y else H.t.get a:=fun a=>Tr.get_set _ _ _ _
 have hsz:(World.setBlk w i.b o').heap.size=w.heap.size:=by simp[World.setBlk]
 refine⟨hH.base,?_,?_,?_,?_,?_,?_,?_,?_,fun a x t ha=>?_⟩
 ·intro g hg;rw[Mu.ext_get,if_neg (by have:=hH.next;have:=hH.base;omega)];exact hH.glob g hg
 ·intro a x j ha hx hj
  rw[hget,if_neg (by have:=hH.next;omega)]at hx
  rw[Mu.ext_get,if_neg (by have:=hH.next;omega)]at hj
  exact hH.low a x j ha hx hj
 ·have:=hH.next;show B<=H.next+1;omega
 ·rw[hsz];exact hH.size
 ·intro a ha
  have ha':H.next+1<=a:=ha
  rw[hget,if_neg (by omega)]
  rw[Mu.ext_get,if_neg (by omega)]
  exact hH.fresh a (by omega)
 ·intro a x j hx h1
  rw[hget]at hx;rw[Mu.ext_get]at h1;split at hx
  ·rename_i e;subst e;cases hx
   rw[if_pos rfl]at h1;cases h1;exact⟨o',by rw[tV,if_pos ⟨rfl,hN.2.1⟩],hy⟩
  ·rename_i hne
   rw[if_neg hne]at h1;obtain⟨q,h2,h3⟩:=hH.blk a x j hx h1
   refine⟨q,?_,h3.mono hle⟩
   rw[tV,if_neg]
   ·exact h2
   ·rintro⟨e,_⟩
    by_cases hb:B<=a
    ·exact hfree a x j hb hx h1 e
    ·have h5:=(hH.low a x j (by omega) hx h1).1
     omega
 ·intro a j ha hj
  rw[Mu.ext_get]at hj;rw[hsz];split at hj
  ·cases hj;exact hN
  ·exact hH.own a j ha hj
 ·intro a b x z j k hx hz hj hk ha hb hjk
  rw[hget]at hx hz;rw[Mu.ext_get]at hj hk;by_cases ea:a=H.next
  ·by_cases eb:b=H.next
   ·rw[ea,eb]
   ·exfalso
    rw[if_pos ea]at hj;rw[if_neg eb]at hk hz
    cases hj;exact hfree b z k hb hz hk hjk.symm
  ·by_cases eb:b=H.next
   ·exfalso
    rw[if_neg ea]at hj hx;rw[if_pos eb]at hk
    cases hk;exact hfree a x j ha hx hj hjk
   ·rw[if_neg ea]at hx hj;rw[if_neg eb]at hz hk
    exact hH.inj a b x z j k hx hz hj hk ha hb hjk
 ·obtain⟨h1,h2,h3⟩:=hH.pnd a x t ha
  have hne:a≠H.next:=fun e=>by rw[e,(hH.fresh _ (yal _)).2]at h2;cases h2
  exact⟨by rw[Mu.ext_get,if_neg hne];exact h1,by rw[hget,if_neg hne];exact h2,h3⟩
theorem zv0{a:zA}{x:Value}(hx:rA μ a x){n:Nat}(h:zjh a=some n):(Builtin.lenOf x).run P w=.ok n w:=by
 unfold zjh at h;split at h
 ·rename_i s hs
  cases h;rw[yT]at hs;subst hs;rw[rA]at hx;rcases hx with⟨i,c,_,rfl,_⟩ | ⟨_,k,_,A,_,rfl,_⟩
  ·rfl
  ·rw[k];rfl
 ·split at h
  ·rename_i s hs
   rw[cN]at hs;subst hs;rw[rA]at hx;obtain⟨str,rfl,rfl⟩:=hx
   rw[bD,iU]at h
   cases h;rfl
  ·rw[lB,zC,fO.2.1]at h
   obtain⟨rfl,h⟩:=h
   cases h;rw[rA]at hx;subst hx;rfl
theorem zj0(hH:oB B N μ H w){a:zA}{x:Value}(hx:rA μ a x){size n:Nat}{l:List zA}(hn:zjh a=some n)(h:cS H size n a=some l) :
  ∃vs:List Value,(Builtin.firstCells size n x).run P w=.ok vs.toArray w/\qB μ l vs:=by
 unfold cS at h;split at h
 ·rename_i s hs
  rw[yT]at hs;subst hs;simp only[lA]at h;obtain⟨c,hc,h⟩:=h
  rw[rA]at hx;rcases hx with⟨i,c',hi,rfl,_⟩ | ⟨_,k,_,A,_,rfl,_⟩
  rotate_left
  ·have hn0:n=0:=by
    have hn:some s.2.2.1=some n:=hn
    exact(ybj hn).symm.trans k
   subst hn0;rw[Nat.zero_mul]at h
   cases h;exact⟨[],by show(loadCells A (0*size)).run P w=_;rw[Nat.zero_mul];rfl,.nil⟩
  obtain⟨vs,_,h2,h3,_⟩:=hH.manyAt (P:=P) hc hi h
  exact⟨vs,h3,h2⟩
 ·split at h
  ·rename_i s hs
   rw[cN]at hs;subst hs
   cases h;rw[rA]at hx;obtain⟨str,rfl,rfl⟩:=hx
   refine⟨((str.extract 0 n).data.map fun b=>Value.int .u8 b.toNat).toList,by rw[Array.toArray_toList];rfl,?_⟩
   have h1:xP (tE str) n=tE (str.extract 0 n):=by rw[jS,bZ];simp
   rw[h1];exact zbi _
  ·rw[lB,zC,fO.2.1]at h
   obtain⟨rfl,h⟩:=h
   cases h;rw[rA]at hx;subst hx;exact⟨[],rfl,.nil⟩
theorem zw0(newLen:Nat):∀(r c:Nat),c<newLen->Builtin.growBy newLen r c<=newLen+(newLen+768) / 4:=by
 intro r;induction r with
 | zero=>intro c h;rw[Builtin.growBy];omega
 | succ r ih=>
  intro c h;rw[Builtin.growBy,if_neg (by omega)]
  by_cases h2:c+(c+768) / 4<newLen
  ·exact ih _ h2
  ·cases r with
   | zero=>rw[Builtin.growBy];omega
   | succ r=>rw[Builtin.growBy,if_pos (by omega)];omega
theorem zqu(need cap:Nat)(h:cap<need):Builtin.nextslicecap need cap<=2*need+192:=by
 unfold Builtin.nextslicecap;split
 ·omega
 ·split
  ·omega
  ·have:=zw0 need 4 cap h;omega
structure zkr (et:vD) (len cap n:Nat) (new:List zA):Prop where
 small:len+n+cap<1000000000
 bytes:(len+n+cap)*et.bytes<1000000000
 b:et.bytes<1000000000
 size:et.size≠0
 new:new.length=n*et.size
 zero:et.zero.length=et.size
theorem oZ{et:vD}{len cap n:Nat}{new:List zA}(h:kN et len cap n new=true):zkr et len cap n new:=by
 unfold kN at h;simp only[yac,lC,ybq,beqf,zC,bD]at h;obtain⟨⟨⟨⟨⟨h1,h2⟩,h3⟩,h4⟩,h5⟩,h6⟩:=h
 exact⟨h1,h2,h3,h4,h5,h6⟩
theorem iZ(z:Array Value)(n:Nat):(Builtin.zeroCells z n).size=n*z.size:=by simp[Builtin.zeroCells]
theorem uY{st ut el:Nat}{u:TypeDesc}{et:vD}(hst:P.underlying st=some (.slice el))(hut:P.underlying ut=some u)(hu:∀k,u≠.int k)(hF:mJ P el et){base:Option Addr}{len cap n:Nat}{x:Value}{tys:Array TypeId}{args:Array Value}
  (ht0:tys[0]?=some st) (ht1:tys[1]?=some ut) (ha0:args[0]?=some (.slice base len cap)) (ha1:args[1]?=some x) (hn:(Builtin.lenOf x).run P w=.ok n w) (hlt:¬ len+n<=cap)
  (hs:len+n<1000000000) (hb:(len+n)*et.bytes<1000000000) (hbb:et.bytes<1000000000) {old new:Array Value} {z:Value} (hold:(Builtin.firstCells et.size len (.slice base len cap)).run P w.drew=.ok old w.drew) (hnew:(Builtin.firstCells et.size n x).run P w.drew=.ok new w.drew)
  (hz:∀w,(zeroValue el).run P w=.ok z w) :
  ∃newCap,len+n<=newCap/\(Builtin.append_ tys type args).run P w=.ok (.slice (some ⟨w.heap.size,0,none⟩) (len+n) newCap) (w.drew.alloc (.cells (old++new++Builtin.zeroCells z.cells (newCap-(len+n))) el)):=by
 obtain⟨inf,hinf,hsz,hby,_⟩:=hF.info
 obtain⟨newCap,hcap,hc⟩:=zac (P:=P) (w:=w) (len+n) cap el
 refine⟨newCap,hcap,?_⟩
 have h1:¬ (((len+n:Nat):Int) > IntKind.i64.max/\(False\/et.bytes=0)):=by
  have:IntKind.i64.max=9223372036854775807:=by decide
  rw[this];omega
 have h2:¬ Builtin.nextslicecap (len+n) cap*et.bytes > 2^48:=by
  have h3:=zqu (len+n) cap (by omega)
  have h4:Builtin.nextslicecap (len+n) cap*et.bytes<=(2*(len+n)+192)*et.bytes:=yaj _ h3
  have h5:(2*(len+n)+192)*et.bytes=2*((len+n)*et.bytes)+192*et.bytes:=by rw[yap,yak]
  omega
 unfold Builtin.append_;simp only[ht0,ht1,ha0,ha1,Sem.run_bind,zF hst,zF hut,Result.andThen_ok,hF.size,Sem.run_pure]
 cases u<;>first
  | exact absurd rfl (hu _)
  | simp only[yar,if_false,ybm,if_true,hn,if_neg hlt,Result.andThen_ok,yU hinf,hby,Sem.run_bind,Sem.run_ite,Sem.run_pure,if_neg h1,if_neg h2,hc,run_askRoom,hold,hnew,hz,qR,World.size_drew]
theorem vY{st ut el:Nat}{u:TypeDesc}{et:vD}(hst:P.underlying st=some (.slice el))(hut:P.underlying ut=some u)(hu:∀k,u≠.int k)(hF:mJ P el et){base:Option Addr}{len cap n:Nat}{x:Value}{tys:Array TypeId}{args:Array Value}
  (ht0:tys[0]?=some st) (ht1:tys[1]?=some ut) (ha0:args[0]?=some (.slice base len cap)) (ha1:args[1]?=some x) (hn:(Builtin.lenOf x).run P w=.ok n w) (hlt:len+n<=cap)
  {new:Array Value} {w':World} (hnew:(Builtin.firstCells et.size n x).run P w=.ok new w) (hst':(match base with | some a=>storeCells (a.add (len*et.size)) new.toList | none=>pure ():Sem Unit).run P w=.ok () w') :
  (Builtin.append_ tys type args).run P w=.ok (.slice base (len+n) cap) w':=by
 unfold Builtin.append_;simp only[ht0,ht1,ha0,ha1,Sem.run_bind,zF hst,zF hut,Result.andThen_ok,hF.size,Sem.run_pure]
 cases base with
 | none=>
  have e:w=w':=by simpa using hst'
  subst e
  cases u<;>first
   | exact absurd rfl (hu _)
   | simp only[yar,if_false,ybm,if_true,hn,if_pos hlt,Result.andThen_ok,Sem.run_bind,Sem.run_ite,Sem.run_pure,hnew]
 | some a=>
  simp only[]at hst'
  cases u<;>first
   | exact absurd rfl (hu _)
   | simp only[yar,if_false,ybm,if_true,hn,if_pos hlt,Result.andThen_ok,Sem.run_bind,Sem.run_ite,Sem.run_pure,hnew,hst']
theorem oB.newGrown(hH:oB B N μ H w){et:vD}{len cap n newCap:Nat}{new old:List zA}{vo vn:List Value}{z:Array Value}(hg:zkr et len cap n new)(hz:qB μ et.zero z.toList)(hcap:len+n<=newCap)(ho:qB μ old vo)(hol:old.length=len*et.size)(hn:qB μ new vn)(el:TypeId) :
  oB B N (μ.ext H.next ⟨w.heap.size,false,et.size,newCap*et.size,false⟩) (jF H (old++new) (some et.size)) (w.alloc (.cells (vo.toArray++vn.toArray++Builtin.zeroCells z (newCap-(len+n))) el)):=by
 have hzs:=hz.length
 simp only[yca]at hzs;have h1:=ho.length
 have h2:=hn.length
 have hsz:(vo.toArray++vn.toArray++Builtin.zeroCells z (newCap-(len+n))).size=newCap*et.size:=by
  simp only[Array.size_append,List.size_toArray,iZ,h1,h2,hol,hg.new,hzs,hg.zero];rw[<- yap,<- yap];congr 1;omega
 have:=hH.newLoose (l:=old++new) (cs:=vo.toArray++vn.toArray++Builtin.zeroCells z (newCap-(len+n))) (es:=et.size) ?_ ?_ el (0,0) (.inl (yal _)) ?_
 ·rw[hsz]at this;exact this
 ·rw[hsz,yah,hol,hg.new,<- yap];exact yaj _ hcap
 ·intro j a ha
  obtain⟨v,hv,hr⟩:=(ho.append hn).get ha
  refine⟨v,?_,hr⟩
  have hj:j<(vo++vn).length:=(yad.1 hv).1
  rw[Array.getElem?_append_left (by simpa using hj)]
  simpa using hv
 ·rw[yah,hol,hg.new,<- yap];exact Nat.mul_mod_left _ _
theorem z49(hbase:B<=C.base)(hH:oB B N μ H w){et:vD}{n:Nat}{new:List zA}{s:Nat × Nat × Nat × Nat}(h:oP C H et n new s=some (v,H')){i:BI}(hi:μ s.1=some i){vs:List Value}(hl:qB μ new vs) :
  v=.slice s.1 s.2.1 (s.2.2.1+n) s.2.2.2/\∃w',(storeCells (Addr.add ⟨i.b,s.2.1,none⟩ (s.2.2.1*et.size)) vs.toArray.toList).run P w=.ok () w'/\oB B N μ H' w'/\Below N w w':=by
 unfold oP at h;split at h
 ·cases h
  rw[qB]at hl;subst hl;exact⟨rfl,w,rfl,hH,Below.refl _ _⟩
 ·rw[lA]at h
  obtain⟨H1,h1,h⟩:=h
  cases h;obtain⟨w',h2,h3,h4⟩:=zil (P:=P) hbase hH h1 hi hl
  rw[zS];exact⟨rfl,w',h2,h3,h4⟩
theorem zy8{b:Nat}{p:Tr zA × Nat × Option Nat}(hH:oB B N μ H w)(h:nD H b=some p){i:BI}(hi:μ b=some i)(hl:p.2.2=none):i.tight=true:=by
 obtain⟨o,h2,h3⟩:=hH.blk _ _ _ (zW h) hi
 obtain⟨cs,elem,fr,_,_,_,_,h4⟩:=h3
 rw[hl]at h4;exact h4
theorem zjg{b:Nat}{cs:Array Value}{elem:TypeId}{fr:Nat × Nat}(h:w.heap[b]?=some (.cells cs elem fr)){n:Nat}(hn:n<=cs.size):(loadCells ⟨b,0,none⟩ n).run P w=.ok (cs.toList.take n).toArray w:=by
 have:=run_loadCells_list (P:=P) w ⟨b,0,none⟩ (cs.toList.take n) fun j v hv=>by
  rw[zS];rw[ycg]at hv;split at hv
  ·simp only[World.cell?,h];simpa using hv
  ·cases hv
 rwa [ycb,yca,Nat.min_eq_left hn]at this
theorem zdg{μ':Mu}{i j:BI}{c:Tr zA}{m es L:Nat}{cs cs2:Array Value}{elem el:TypeId}{fr fr2:Nat × Nat}(hle:μ.lw μ')(h:iH μ i (.cells c m (some es)) (.cells cs elem fr)){new:List zA}{vn:List Value}(hn:qB μ new vn)
  {tot:Nat} (hm:m<=tot) (htot:L+new.length=tot) (hsz:tot<=cs2.size) (hfr:fr2.2<=fr2.1\/cs2.size<=fr2.1) (hold:∀k,k<L->cs2[k]?=cs[k]?) (hnew:∀k,k<new.length->cs2[L+k]?=vn[k]?)
  (hj:j.tight=false/\j.es=es/\j.room=cs2.size) (hmod:tot%es=0):iH μ' j (.cells (c.setMany new L) tot (some es)) (.cells cs2 el fr2):=by
 obtain⟨cs0,elem0,fr0,e,h2,h3,h4,h5⟩:=h
 cases e
 refine⟨cs2,el,fr2,rfl,hsz,.inr hfr,fun k v hv=>?_,hj.1,hj.2.1,hj.2.2,hmod⟩
 rw[Tr.get_setMany]at hv;split at hv
 ·rename_i hk
  obtain⟨u,hu,hr⟩:=hn.get hv
  refine⟨by omega,u,?_,hr.mono hle _ _⟩
  have:=hnew (k-L) (by omega)
  rw[show L+(k-L)=k by omega]at this
  rw[this];exact hu
 ·rename_i hk
  obtain⟨a,u,hu,hr⟩:=h4 k v hv
  refine⟨by omega,u,?_,hr.mono hle _ _⟩
  rw[hold k (by omega)];exact hu
theorem zq4(hT:vG P C)(hbase:B<=C.base)(hH:oB B N μ H w)(hE:pF μ e ρ){c:Call}(hc:c.callee=.builtin .append)(h:za2 c C e H=.val v H'):zpu P B N μ w ρ ⟨dst,.call c,type,pos,after,guard⟩ v H':=by
 have h:=pM h
 simp only[lA,lB,vE,ybq,beqf]at h;obtain⟨st,hst,ty,hty,ut,hut,uty,huty,htag,p,hp,h⟩:=h
 obtain⟨X,Y,hXY,hX,hY⟩:=zgf hE hp
 unfold bM at h;simp only[lA]at h;obtain⟨el,hel,et,het,n,hn,new,hnew,h⟩:=h
 have hF:=hT.facts het
 obtain⟨z,hz,_,hzl⟩:=hF.zero (μ:=μ)
 have hU:=hT.facts huty
 obtain⟨U,hUu⟩:=hU.und
 have hU2:∀k,U≠.int k:=by
  intro k e;subst e;have h0:=hU.desc
  unfold mL at h0;rw[hUu]at h0;rw[<- h0]at htag;exact htag rfl
 have ht0:c.argTypes[0]?=some st:=by simpa using hst
 have ht1:c.argTypes[1]?=some ut:=by simpa using hut
 have ha0:(c.args.map ρ)[0]?=some (ρ X):=by rw[hXY];simp
 have ha1:(c.args.map ρ)[1]?=some (ρ Y):=by rw[hXY];simp
 have hln:=zv0 (P:=P) (w:=w) hY hn
 obtain⟨vn,hvn,hvl⟩:=zj0 (P:=P) hH hY hn hnew
 obtain⟨vn2,hvn2,hvl2⟩:=zj0 (P:=P) hH.drew hY hn hnew
 have run:∀ {v' w'},(Builtin.append_ c.argTypes type (c.args.map ρ)).run P w=.ok v' w'->(execOp ρ ⟨dst,.call c,type,pos,after,guard⟩).run P w=.ok (.value v') w':=by
  intro v' w' hr;rw[mW hc];simp only[builtin,Sem.run_bind,hr,Result.andThen_ok,Sem.run_pure]
 have hsl:=jN (hT.facts hty) hel
 split at h
 ·rename_i s hs
  rw[yT]at hs;rw[hs,rA]at hX;rcases hX with⟨i,cap',hi,hxv,hcap,htt,hrm⟩ | ⟨k1,k3,k4,A,rc,hxv,k2⟩
  rotate_left
  ·rw[hxv]at ha0
   rw[iC]at h;simp only[cE]at h;obtain⟨sb,so,sl,sc⟩:=s
   simp only at k1 k2 k3 k4
   subst k1 k3 k4
   simp only at h
   split at h
   ·rename_i hle
    have hn0:n=0:=by omega
    subst hn0;unfold oP at h;split at h
    ·cases h
     rw[qB]at hvl;subst hvl;refine⟨.slice (some A) 0 rc,w,μ,.inl (run ?_),μ.le_refl,hH,Below.refl _ _,by rw[rA];exact .inr ⟨rfl,rfl,rfl,A,rc,rfl,k2⟩⟩
     have:=vY (type:=type) (w':=w) hsl hUu hU2 hF ht0 ht1 ha0 ha1 hln (by omega) hvn rfl
     simpa using this
    ·rw[lA]at h
     obtain⟨H1,h1,_⟩:=h
     unfold fK at h1;rw[lB,ybq]at h1;have h2:=h1.1
     have:=hH.base
     rw[lC.2 (show 0<C.base by omega)]at h2
     cases h2
   ·rename_i hgt
    unfold nP at h;simp only[lB,lA]at h;obtain⟨hmark,hg,cc,hcc,h⟩:=h
    obtain⟨rfl,rfl⟩:so=0/\rc=0:=by
     rcases k2 with k2 | rfl
     ·exact k2
     ·cases hmark
    have hG:=oZ hg
    have hb1:(0+n)*et.bytes<1000000000:=Nat.lt_of_le_of_lt (yaj _ (by omega)) hG.bytes
    split at h
    ·rename_i hnone
     unfold rU at h;rw[lA]at h;obtain⟨old,hold,h⟩:=h
     cases h;simp only[Nat.zero_mul]at hold
     cases hold;obtain⟨nc,hnc,hr⟩:=uY (w:=w) hsl hUu hU2 hF ht0 ht1 ha0 ha1 hln (by omega) (by have:=hG.small;omega) hb1 hG.b (old := #[]) (new:=vn2.toArray) (z:=z) (by show(loadCells A (0*et.size)).run P w.drew=_;rw[Nat.zero_mul];rfl) hvn2 hz
     rw[eH];have hgr:=hH.drew.newGrown hG hzl hnc (qB.nil (μ:=μ)) (by simp) hvl2 el
     refine⟨_,_,_,.inl (run hr),hH.ext_le,hgr,mX.trans (dM hH.drew.size _),?_⟩
     rw[rA];exact .inl ⟨_,nc,Mu.ext_same,rfl,hnc,(fun h=>by cases h),(fun _=>by simp)⟩
    ·rename_i es hsome
     unfold iV at h;simp only[lB,yac,zC,cE,oG,ybq]at h;obtain⟨⟨⟨⟨⟨⟨h1,h2⟩,h3⟩,h4⟩,h5⟩,h6⟩,h⟩:=h
     have:=hH.base
     rw[lC.2 (show 0<C.base by omega)]at h6
     cases h6
  rw[hxv]at ha0;rw[iC]at h;simp only[cE]at h;split at h
  ·rename_i hle
   obtain⟨rfl,w',h1,h2,h3⟩:=z49 (P:=P) hbase hH h hi hvl
   refine⟨.slice (some ⟨i.b,s.2.1,none⟩) (s.2.2.1+n) cap',w',μ,.inl (run ?_),μ.le_refl,h2,h3,?_⟩
   ·exact vY hsl hUu hU2 hF ht0 ht1 ha0 ha1 hln (by omega) hvn h1
   ·rw[rA];exact .inl ⟨i,cap',hi,rfl,hcap,htt,hrm⟩
  ·rename_i hgt
   unfold nP at h;simp only[lB,lA]at h;obtain⟨_,hg,cc,hcc,h⟩:=h
   have hG:=oZ hg
   have hb1:(s.2.2.1+n)*et.bytes<1000000000:=Nat.lt_of_le_of_lt (yaj _ (by omega)) hG.bytes
   split at h
   ·rename_i hnone
    unfold rU at h;rw[lA]at h;obtain⟨old,hold,h⟩:=h
    cases h;have hti:=zy8 hH hcc hi hnone
    obtain⟨vo,_,hvo,hlo,_⟩:=hH.drew.manyAt (P:=P) hcc hi hold
    have hcc':=htt hti
    obtain⟨nc,hnc,hr⟩:=uY (w:=w) hsl hUu hU2 hF ht0 ht1 ha0 ha1 hln (by omega) (by have:=hG.small;omega) hb1 hG.b (old:=vo.toArray) (new:=vn2.toArray) (z:=z) hlo hvn2 hz
    rw[eH];refine⟨_,_,_,.inl (run hr),hH.ext_le,hH.drew.newGrown hG hzl hnc hvo (Tr.many_some _ _ _ _ hold).1 hvl2 el,mX.trans (dM hH.drew.size _),?_⟩
    rw[rA];exact .inl ⟨_,nc,Mu.ext_same,rfl,hnc,(fun h=>by cases h),(fun _=>by simp)⟩
   ·rename_i es hsome
    unfold iV at h;simp only[lB,yac,zC,cE,oG,ybq]at h;obtain⟨⟨⟨⟨⟨⟨h1,h2⟩,h3⟩,h4⟩,h5⟩,h6⟩,h⟩:=h
    subst h2;have hown:B<=s.1:=by
     have:¬ s.1<C.base:=fun k=>by rw[lC.2 k]at h6;cases h6
     omega
    have hNb:=hH.own s.1 i hown hi
    have hxs:=zW hcc
    obtain⟨o,g2,g3⟩:=hH.blk _ _ _ hxs hi
    have g3':=g3
    obtain⟨cs,elem,fr,rfl,g4,g5,g6,g7⟩:=g3
    have g5:=g5.resolve_left (by rw[hNb.2.2];simp)
    rw[hsome]at g7;obtain⟨g8,g9,g10,_⟩:=g7
    have hone:∀a∈new,a.one=true:=fun a ha=>ybc.1 h5 a ha
    have hrm':=hrm g8
    rw[h1,g9,g10]at hrm'
    rw[hsome]at g3'
    have hlen1:=hvl.length
    have hlen2:=hvl2.length
    have htotal:s.2.2.1*et.size+new.length=(s.2.2.1+n)*et.size:=by rw[hG.new,<- yap]
    have hH2:=hH.drop s.1 (fun x t e=>by have:=(hH.pnd _ _ _ e).1;rw[hi]at this;cases this)
    by_cases hroom:s.2.2.1+n<=cap'
    ·have hfit:(s.2.2.1+n)*et.size<=cs.size:=by
      have:(s.2.2.1+n)*et.size<=cap'*et.size:=yaj _ hroom
      omega
     obtain⟨cs',hs',hj',hr'⟩:=dZ (P:=P) (o:=s.2.2.1*et.size) vn 0 cs w g2 g5 (by omega) (hvl.one hone)
     have hst':(storeCells (Addr.add ⟨i.b,s.2.1,none⟩ (s.2.2.1*et.size)) vn.toArray.toList).run P w=.ok () (World.setBlk w i.b (.cells cs' elem fr)):=by
      rw[zS,h1,yax];exact hr'
     have hr:=vY (type:=type) hsl hUu hU2 hF ht0 ht1 ha0 ha1 hln hroom hvn (w':=World.setBlk w i.b (.cells cs' elem fr)) hst'
     simp only[Option.some.injEq,Prod.mk.injEq]at h;obtain⟨rfl,rfl⟩:=h
     refine⟨_,_,μ.ext H.next i,.inl (run hr),hH.ext_le,?_,zT hNb.1,?_⟩
     ·refine hH2.adopt hNb ?_ (zdg hH.ext_le.f g3' hvl h4 htotal (by omega) (by rw[hs'];exact g5) ?_ ?_ ⟨g8,g9,by rw[hs'];exact g10⟩ (Nat.mul_mod_left _ _))
      ·intro a x j ha hx hj hb
       have hx':(if a=s.1 then none else H.t.get a)=some x:=by rw[<- Tr.get_del];exact hx
       split at hx'
       ·cases hx'
       ·rename_i hne
        exact hne (hH.inj a s.1 x _ j i hx' hxs hj hi ha hown hb)
      ·intro k hk
       rw[hj',if_neg (by omega)]
      ·intro k hk
       rw[hj',if_pos (by omega)]
       congr 1;omega
     ·rw[rA]
      refine .inl ⟨i,cap',Mu.ext_same,by rw[h1],hroom,(fun h=>by rw[g8]at h;cases h),(fun _=>?_)⟩
      rw[g9,g10];omega
    ·have hlo:(Builtin.firstCells et.size s.2.2.1 (.slice (some ⟨i.b,s.2.1,none⟩) s.2.2.1 cap')).run P w.drew=.ok (cs.toList.take (s.2.2.1*et.size)).toArray w.drew:=by
      rw[h1];exact zjg (w:=w.drew) g2 (by omega)
     obtain⟨nc,hnc,hr⟩:=uY (w:=w) (type:=type) hsl hUu hU2 hF ht0 ht1 ha0 ha1 hln hroom (by have:=hG.small;omega) hb1 hG.b (new:=vn2.toArray) (z:=z) hlo hvn2 hz
     have hzs:=hzl.length
     simp only[yca]at hzs;have hol:(cs.toList.take (s.2.2.1*et.size)).length=s.2.2.1*et.size:=by rw[ycb,yca];omega
     have hsz2:((cs.toList.take (s.2.2.1*et.size)).toArray++vn2.toArray++Builtin.zeroCells z.cells (nc-(s.2.2.1+n))).size=nc*et.size:=by
      simp only[Array.size_append,List.size_toArray,iZ,hol,hlen2,hG.new,hzs,hG.zero];rw[<- yap,<- yap];congr 1;omega
     simp only[Option.some.injEq,Prod.mk.injEq]at h;obtain⟨rfl,rfl⟩:=h
     refine⟨_,_,μ.ext H.next ⟨w.heap.size,false,et.size,nc*et.size,false⟩,.inl (run hr),hH.ext_le,?_,mX.trans (dM hH.drew.size _),?_⟩
     ·refine hH2.drew.newBlk (H:=⟨H.next,H.t.del s.1⟩) rfl rfl (zdg hH.ext_le.f g3' hvl2 h4 htotal ?_ (.inl (yal _)) ?_ ?_ ⟨rfl,rfl,hsz2.symm⟩ (Nat.mul_mod_left _ _))
      ·rw[hsz2];exact yaj _ hnc
      ·intro k hk
       rw[Array.getElem?_append_left (by simp[hol];omega),Array.getElem?_append_left (by simp[hol];omega)]
       simp[hk]
      ·intro k hk
       rw[Array.getElem?_append_left (by simp only[Array.size_append,List.size_toArray,hol,hlen2];omega),Array.getElem?_append_right (by simp only[List.size_toArray,hol];omega)]
       simp only[List.size_toArray,hol,Nat.add_sub_cancel_left];simp
     ·rw[rA]
      exact .inl ⟨_,nc,Mu.ext_same,rfl,hnc,(fun h=>by cases h),(fun _=>by simp)⟩
 ·simp only[lB,zC,fO.2.1]at h
  obtain⟨hs,h⟩:=h
  rw[hs,rA]at hX;rw[hX]at ha0;unfold kM at h;rw[iC]at h;simp only[zC]at h;split at h
  ·rename_i hn0
   subst hn0
   cases h;refine⟨.slice none 0 0,w,μ,.inl (run ?_),μ.le_refl,hH,Below.refl _ _,by rw[rA]⟩
   have:=vY (type:=type) (w':=w) hsl hUu hU2 hF ht0 ht1 ha0 ha1 hln (by omega) hvn rfl
   simpa using this
  ·rename_i hn0
   simp only[lB]at h;obtain⟨hg,h⟩:=h
   cases h;have hG:=oZ hg
   have hb1:(0+n)*et.bytes<1000000000:=Nat.lt_of_le_of_lt (yaj _ (by omega)) hG.bytes
   obtain⟨nc,hnc,hr⟩:=uY (w:=w) hsl hUu hU2 hF ht0 ht1 ha0 ha1 hln (by omega) (by have:=hG.small;omega) hb1 hG.b (old := #[]) (new:=vn2.toArray) (z:=z) rfl hvn2 hz
   rw[yax]at hr hnc;have hgr:=hH.drew.newGrown hG hzl (by omega) (qB.nil (μ:=μ)) (by simp) hvl2 el (newCap:=nc)
   simp only[yax]at hgr;refine⟨_,_,_,.inl (run hr),hH.ext_le,hgr,mX.trans (dM hH.drew.size _),?_⟩
   rw[rA];exact .inl ⟨_,nc,Mu.ext_same,rfl,hnc,(fun h=>by cases h),(fun _=>by simp)⟩
end
end Go.Am
namespace Go.Am
open Go Go.RowKit
section
variable {P:Program}{C:iA}{B N:Nat}{μ:Mu}{H H':qA}{w:World}{I:World->Prop}
variable {e:wD}{ρ:Operand->Value}{dst:Option Tmp}{type:TypeId}{pos:String}{after:Array Edge}{guard:Option (Nat × Bool)}{v:zA}
def zh1 (P : Program) (C : iA) : Prop := ∀ f fn, C.fns.get f = some fn -> P.funcs[f]? = some fn /\ (fn.name == "runtime.NumGoroutine") = false
def zec(P:Program)(C:iA)(B N:Nat)(I:World->Prop):Prop:=∀f g,C.prims.get f=some g->∀args H v,g args H=some v->∀ μ w args',oB B N μ H w->I w->qB μ args args'.toList →
 (∃v',(callFunc f args').run P w=.ok (.value v') w/\rA μ v v') ∨
 ((callFunc f args').run P w=.ok (.enter f args') w/\Calls P f args' w fun e w'=>∃v',e=.returned v'/\rA μ v v'/\Below w.heap.size w w')
theorem zfe(hE:pF μ e ρ){c:Call}{f:Operand}(hc:c.callee=.value f){p:AFn × List zA × List zA}(h:bO f c.args e=some p) :
  ∃fn cap as,(resolve ρ c type).run P w=.ok { target:=.fn fn cap,args:=as } w/\zrt μ p.1 fn/\qB μ p.2.1 as.toList/\qB μ p.2.2 cap.toList:=by
 unfold bO at h;simp only[lA,zea,eH]at h;obtain⟨a,ha,q,rfl,as,has,h⟩:=h
 cases h;have hv:=hE _ _ ha
 rw[rA]at hv;obtain⟨fn,first,cap,hfv,hfn,h1,h2⟩:=hv
 refine⟨fn,cap,first++c.args.map ρ,?_,hfn,?_,h2⟩
 ·simp only[resolve,hc,hfv,Deferred.ofValue,Sem.run_pure]
 ·have h3:=hE.many has
  have:=h1.append h3
  simpa using this
theorem wY(hF:zh1 P C){f:Nat}{fn:Func}(hf:C.fns.get f=some fn)(hb:fn.body.isSome=true){args:Array Value}:(callFunc f args).run P w=.ok (.enter f args) w:=by
 obtain⟨h1,h2⟩:=hF f fn hf
 unfold callFunc;simp only[Sem.run_bind,run_program,Result.andThen_ok,h1,h2];have:fn.body.isNone=false:=by cases h:fn.body<;>simp[h]at hb ⊢
 simp[this]
def gK (P:Program)(C:iA)(B N:Nat)(μ:Mu)(H:qA)(w:World)(ρ:Operand->Value)(o:Oper):yK->Prop
 | .val v H'=>zpu P B N μ w ρ o v H'\/(H'=H/\∃f args',(execOp ρ o).run P w=.ok (.enter f args') w/\Calls P f args' w fun e w'=>∃v',e=.returned v'/\rA μ v v'/\Below w.heap.size w w')
 | .enter f args=>∀fn,C.fns.get f=some fn->fn.body.isSome=true->∃args',(execOp ρ o).run P w=.ok (.enter f args') w/\qB μ args args'.toList
 | .round l args=>∃i args',μ l=some i/\qB μ args args'.toList/\(execOp ρ o).run P w=(Instr.yield i.b args').run P w
 | .defer d=>(∃c,o.op=.defer c)/\∃d',(execOp ρ o).run P w=.ok (.defer d') w/\wS μ d d'
 | .panic v=>∃v',(execOp ρ o).run P w=.halt (.panic v') w/\rA μ v v'
 | .recover=>(execOp ρ o).run P w=.ok .recover w
 | .fail=>True
theorem zww(hF:zh1 P C)(hP:zec P C B N I)(hH:oB B N μ H w)(hI:I w)(hE:pF μ e ρ){c:Call}{f:Operand}(hc:c.callee=.value f) :
  gK P C B N μ H w ρ ⟨dst,.call c,type,pos,after,guard⟩ (zdr f c.args C e H):=by
 unfold zdr
 cases hr:bO f c.args e with
 | none=>exact trivial
 | some p=>
  obtain⟨fn,cap,as,h1,h2,h3,h3'⟩:=zfe (P:=P) (w:=w) (type:=type) hE hc hr
  have run:(execOp ρ ⟨dst,.call c,type,pos,after,guard⟩).run P w=(invoke (.fn fn cap) as).run P w:=by
   simp only[execOp,Sem.run_bind,h1,Result.andThen_ok]
  show gK P C B N μ H w ρ _ (callA C H p.2.1 p.2.2 p.1)
  obtain⟨fa,args,caps⟩:=p
  cases fa with
  | func g=>
   cases h2;have run2:(execOp ρ ⟨dst,.call c,type,pos,after,guard⟩).run P w=(callFunc g (as++cap)).run P w:=by rw[run];rfl
   have hl:qB μ (cF args caps) (as++cap).toList:=by rw[eH];simpa using h3.append h3'
   show gK P C B N μ H w ρ _ (zd4 C H (cF args caps) g (C.prims.get g))
   cases hp:C.prims.get g with
   | none=>
    show ∀fn,C.fns.get g=some fn->_
    intro fn hfn hb;exact⟨as++cap,by rw[run2];exact wY hF hfn hb,hl⟩
   | some pr=>
    cases hv:pr (cF args caps) H with
    | none=>simp only[zd4,hv];exact trivial
    | some v=>
     simp only[zd4,hv];rcases hP g pr hp _ H v hv μ w (as++cap) hH hI hl with⟨v',h4,h5⟩ | ⟨h4,h5⟩
     ·exact Or.inl ⟨v',w,μ,.inl (by rw[run2];exact h4),μ.le_refl,hH,Below.refl _ _,h5⟩
     ·exact Or.inr ⟨rfl,g,as++cap,by rw[run2];exact h4,h5⟩
  | yld l=>
   obtain⟨i,hi,rfl⟩:=h2
   show gK P C B N μ H w ρ _ (zkc l args caps)
   cases caps with
   | cons a b=>exact trivial
   | nil=>exact⟨i,as,hi,h3,by rw[run];rfl⟩
theorem z38(hT:vG P C)(hbase:B<=C.base)(hF:zh1 P C)(hP:zec P C B N I)(hH:oB B N μ H w)(hI:I w)(hE:pF μ e ρ)(o:Oper):gK P C B N μ H w ρ o ((bE o.op).f C e H):=by
 have light:(∃l:LOp,(bE o.op).f=lv l/\∀v,l C e H=some v->LOk P μ w ρ o v)->gK P C B N μ H w ρ o ((bE o.op).f C e H):=by
  rintro⟨l,h1,h2⟩
  rw[h1];unfold lv
  cases h:l C e H with
  | none=>exact trivial
  | some v=>exact Or.inl ((h2 v h).hv hH)
 have val:∀x:Option (zA × qA),(bE o.op).f C e H=dK x->(∀v H',dK x=.val v H'->zpu P B N μ w ρ o v H')->gK P C B N μ H w ρ o ((bE o.op).f C e H):=by
  intro x h1 h2;rw[h1]
  cases x with
  | none=>exact trivial
  | some p=>exact Or.inl (h2 p.1 p.2 rfl)
 obtain⟨dst,op,type,pos,after,guard⟩:=o
 cases op
 case move=>exact light ⟨_,rfl,fun v h=>zov (C:=C) (H:=H) hE h⟩
 case assign=>exact light ⟨_,rfl,fun v h=>zfs (C:=C) (H:=H) hE h⟩
 case pick=>exact light ⟨_,rfl,fun v h=>zou (C:=C) (H:=H) hE h⟩
 case load=>exact light ⟨_,rfl,fun v h=>zow hT hH hE h⟩
 case nilCheck=>exact light ⟨_,rfl,fun v h=>zv6 (C:=C) (H:=H) hE h⟩
 case binOp=>exact light ⟨_,rfl,fun v h=>zwg (H:=H) hT hE h⟩
 case unOp=>exact light ⟨_,rfl,fun v h=>z27 (C:=C) (H:=H) hE h⟩
 case makeInterface=>exact light ⟨_,rfl,fun v h=>zjo (H:=H) hT hE h⟩
 case makeFunc=>exact light ⟨_,rfl,fun v h=>zoy (C:=C) (H:=H) hE h⟩
 case slice=>exact light ⟨_,rfl,fun v h=>zjm hT hH hE h⟩
 case fieldAddr=>exact light ⟨_,rfl,fun v h=>zah (H:=H) hT hE h⟩
 case field=>exact light ⟨_,rfl,fun v h=>zjp (H:=H) hT hE h⟩
 case indexAddr=>exact light ⟨_,rfl,fun v h=>zag (H:=H) hT hE h⟩
 case index=>exact light ⟨_,rfl,fun v h=>zjn (H:=H) hT hE h⟩
 case extract=>exact light ⟨_,rfl,fun v h=>zdl (C:=C) (H:=H) hE h⟩
 case build=>exact light ⟨_,rfl,fun v h=>zjq (H:=H) hT hE h⟩
 case typeAssert=>exact light ⟨_,rfl,fun v h=>zft (H:=H) hT hE h⟩
 case lookup=>exact light ⟨_,rfl,fun v h=>zfr hT hH hE h⟩
 case convert s d x=>
  show gK P C B N μ H w ρ _ (oQ s d x C e H)
  cases h:oQ s d x C e H with
  | val v H'=>exact Or.inl (zmc hT hH hE h)
  | fail=>exact trivial
  | _=>
   exfalso
   unfold oQ at h;split at h
   ·cases h
   ·revert h;unfold dK;split<;>intro h<;>cases h
 case alloc=>exact val _ rfl fun v H' h=>zwz (e:=e) hT hH h
 case box=>exact val _ rfl fun v H' h=>z6r (C:=C) hH hE h
 case buildSlice=>exact val _ rfl fun v H' h=>zep hT hH hE h
 case store=>exact val _ rfl fun v H' h=>zwx hT hbase hH hE h
 case makeMap t r=>
  show gK P C B N μ H w ρ _ (xX r C e H)
  cases r with
  | none=>exact Or.inl (zmb (C:=C) (e:=e) hH rfl)
  | some x=>exact trivial
 case insert=>exact val _ rfl fun v H' h=>(zfy hT hbase hH hE h).2
 case mapUpdate=>exact val _ rfl fun v H' h=>(zfy hT hbase hH hE h).1
 case makeSlice=>exact val _ rfl fun v H' h=>zhf hT hH hE h
 case panic x=>
  show gK P C B N μ H w ρ _ (zwy x C e H)
  unfold zwy
  cases hx:ev x e with
  | none=>exact trivial
  | some a=>
   cases hf:a.asIface with
   | none=>simp only[sA,hf,z5o,z2v];exact trivial
   | some p=>
    simp only[sA,hf,z2v];have h1:=hE _ _ hx
    rw[zbj.1 hf,rA]at h1;obtain⟨x',h2,h3⟩:=h1
    refine⟨.iface p.1 x',?_,by rw[rA];exact⟨_,rfl,h3⟩⟩
    simp[execOp,h2,Instr.panic]
 case defer c=>
  show gK P C B N μ H w ρ _ ((zbz c c.callee).f C e H)
  cases hc:c.callee with
  | value f=>
   show gK P C B N μ H w ρ _ (z2v (ob (bO f c.args e) fun p=>some (.defer ⟨some p.1,0,cF p.2.1 p.2.2⟩)))
   cases hr:bO f c.args e with
   | none=>exact trivial
   | some p=>
    obtain⟨fn,cap,as,h1,h2,h3,h3'⟩:=zfe (P:=P) (w:=w) (type:=type) hE hc hr
    refine⟨⟨c,rfl⟩,{ target:=.fn fn cap,args:=as },by simp only[execOp,Sem.run_bind,h1,Result.andThen_ok,Sem.run_pure],⟨?_⟩⟩
    refine⟨fn,cap,as,rfl,h2,?_⟩
    show qB μ (cF p.2.1 p.2.2) _
    rw[eH];simpa using h3.append h3'
  | _=>exact trivial
 case call c=>
  show gK P C B N μ H w ρ _ ((za1 c c.callee).f C e H)
  cases hc:c.callee with
  | value f=>exact zww hF hP hH hI hE hc
  | builtin b=>
   cases b
   case append=>
    show gK P C B N μ H w ρ _ (za2 c C e H)
    cases h:za2 c C e H with
    | val v H'=>exact Or.inl (zq4 hT hbase hH hE hc h)
    | fail=>exact trivial
    | _=>exfalso;revert h;unfold za2 dK;split<;>intro h<;>cases h
   case len=>
    show gK P C B N μ H w ρ _ (lv (zox c) C e H)
    unfold lv
    cases h:zox c C e H with
    | none=>exact trivial
    | some v=>exact Or.inl ((zwd hT hH hE hc h).hv hH)
   case max=>
    show gK P C B N μ H w ρ _ (lv (zwa c) C e H)
    unfold lv
    cases h:zwa c C e H with
    | none=>exact trivial
    | some v=>exact Or.inl ((zv9 (C:=C) (H:=H) hE hc h).hv hH)
   case min=>
    show gK P C B N μ H w ρ _ (lv (zv8 c) C e H)
    unfold lv
    cases h:zv8 c C e H with
    | none=>exact trivial
    | some v=>exact Or.inl ((zv7 (C:=C) (H:=H) hE hc h).hv hH)
   case recover=>
    show(execOp ρ ⟨dst,.call c,type,pos,after,guard⟩).run P w=_
    rw[mW hc];rfl
   all_goals exact trivial
  | invoke r m=>exact trivial
 all_goals exact trivial
end
end Go.Am
namespace Go.Am
open Go Go.RowKit
inductive pG (μ:Mu):fD->Item->Prop
 | code (c:Code):pG μ (.code c) (.code c)
 | inBlock (id:Nat):pG μ (.inBlock id) (.inBlock id)
 | inLoop (c:Code):pG μ (.inLoop c) (.inLoop c)
 | inScope (c:Code):pG μ (.inScope c) (.inScope c)
 | ops (all:Array Oper) (i:Nat) (h:i<=all.size):pG μ (.ops all (all.toList.drop i)) (.inRegion all ((List.range all.size).drop i))
 | inRange (l:Nat) (i:BI) (h:μ l=some i):pG μ (.inRange l) (.inRangeFunc i.b)
 | endRange (l:Nat) (i:BI) (h:μ l=some i):pG μ (.endRange l) (.endRangeFunc i.b)
 | beginRound:pG μ .beginRound .beginRound
theorem pG.mono{μ ν:Mu}(h:μ.lw ν){a:fD}{b:Item}(k:pG μ a b):pG ν a b:=by
 cases k with
 | code c=>exact .code c
 | inBlock id=>exact .inBlock id
 | inLoop c=>exact .inLoop c
 | inScope c=>exact .inScope c
 | ops all i hi=>exact .ops all i hi
 | inRange l i hl=>exact .inRange l i (h _ _ hl)
 | endRange l i hl=>exact .endRange l i (h _ _ hl)
 | beginRound=>exact .beginRound
structure lT (μ:Mu) (p:kT) (e:PanicEntry):Prop where
 v:rA μ p.v e.v
 recovered:e.recovered=p.recovered
 goexit:e.goexit=false
theorem lT.mono{μ ν:Mu}(h:μ.lw ν){p:kT}{e:PanicEntry}(k:lT μ p e):lT ν p e:=⟨k.v.mono h _ _,k.recovered,k.goexit⟩
def zed(μ:Mu):zes->FrameMode->Prop
 | .run,.run=>True
 | .returning,.returning=>True
 | .panicking c,.panicking d=>zD (lT μ) c d
 | _,_=>False
theorem zed.mono{μ ν:Mu}(h:μ.lw ν){a:zes}{b:FrameMode}(k:zed μ a b):zed ν a b:=by
 cases a<;>cases b<;>first | exact zD.mono (fun _ _ r=>lT.mono h r) k | exact k
def mT(μ:Mu):Option Nat->Option Nat->Prop
 | none,none=>True
 | some l,some m=>∃i,μ l=some i/\m=i.b
 | _,_=>False
theorem mT.mono{μ ν:Mu}(h:μ.lw ν){a b:Option Nat}(k:mT μ a b):mT ν a b:=by
 cases a<;>cases b<;>first | (obtain⟨i,h1,h2⟩:=k;exact⟨i,h _ _ h1,h2⟩) | exact k
structure bG (μ:Mu) (R:jI) (fr:Frame):Prop where
 fn:fr.fn=R.fn
 size:fr.tmps.size=R.n
 defers:zD (wS μ) R.defers fr.defers
 mode:zed μ R.mode fr.mode
 kind:fr.kind=if R.deferred then .deferred else .normal
 round:mT μ R.roundOf fr.roundOf
theorem bG.mono{μ ν:Mu}(h:μ.lw ν){R:jI}{fr:Frame}(k:bG μ R fr):bG ν R fr:=
 ⟨k.fn,k.size,k.defers.mono fun _ _ r=>r.mono h,k.mode.mono h,k.kind,k.round.mono h⟩
def vL(o:Oper)(j:Nat):Prop:=∃e∈o.after.toList,Region.binds .any e=true/\e.on=j
def z17(ops:Array Oper):(Nat->Bool)->List Nat->Prop
 | S,[]=>∀i,i<ops.size->S i=true
 | S,i::rest=>∃o,ops[i]?=some o/\S i=false/\(∀j,vL o j->S j=true)/\z17 ops (fun k=>S k||k == i) rest
theorem zuo{ops:Array Oper}{listed:Array Bool}{i:Nat}(h:i∈Region.ready .any ops listed):∃o,ops[i]?=some o/\listed.getD i true=false/\∀j,vL o j->listed.getD j false=true:=by
 unfold Region.ready at h;rw[List.mem_filter]at h;obtain⟨h1,h2⟩:=h
 simp only[yac,ybq]at h2;obtain⟨h2,h3⟩:=h2
 cases ho:ops[i]? with
 | none=>rw[ho]at h3;simp at h3
 | some o=>
  rw[ho]at h3;refine⟨o,rfl,h2,?_⟩
  rintro j ⟨e,he,hb,rfl⟩
  simp only[Option.map_some,Option.getD_some,Array.all_eq_true']at h3;have:=h3 e (by simpa using he)
  rw[hb]at this;simpa using this
theorem zz0{ops:Array Oper}{listed:Array Bool}{i:Nat}{o:Oper}(ho:ops[i]?=some o)(h1:listed.getD i true=false)(h2:∀j,vL o j->listed.getD j false=true):i∈Region.ready .any ops listed:=by
 unfold Region.ready;rw[List.mem_filter];refine⟨by rw[List.mem_range];exact(yaf.1 ho).1,?_⟩
 rw[h1,ho];simp only[ybm,ybo,Option.map_some,Option.getD_some,Array.all_eq_true'];intro e he
 cases hb:Region.binds .any e with
 | false=>rfl
 | true=>simpa using h2 e.on ⟨e,by simpa using he,hb,rfl⟩
def Back (ops:Array Oper):Prop:=∀i o,ops[i]?=some o->∀j,vL o j->j<i
theorem zxu{p q:Nat->Bool}(hqp:∀k,q k=true->p k=true){i:Nat}(hp:p i=true)(hq:q i=false):∀l:List Nat,i∈l->l.countP q+1<=l.countP p:=by
 have le:∀l:List Nat,l.countP q<=l.countP p:=fun l=>List.countP_mono_left fun k _ h=>hqp k h
 intro l;induction l with
 | nil=>intro h;cases h
 | cons k l ih=>
  intro h;rw[List.countP_cons,List.countP_cons];rcases yat.1 h with rfl | h
  ·rw[hp,hq];have:=le l;simp;omega
  ·have:=ih h
   cases hk:q k with
   | true=>rw[hqp k hk];simp;omega
   | false=>simp;omega
theorem zzu{ops:Array Oper}(hb:Back ops):∀(fuel t:Nat) (listed:Array Bool),listed.size=ops.size →
  (List.range ops.size).countP (fun i => !listed.getD i true)<=fuel →
  z17 ops (fun i=>listed.getD i false) (Region.linearise.go .any ops fuel t listed []):=by
 intro fuel;induction fuel with
 | zero=>
  intro t listed hs hc;simp only[Region.linearise.go,List.reverse_nil];intro i hi;have h0:=Nat.le_zero.1 hc
  rw[List.countP_eq_zero]at h0;have:=h0 i (List.mem_range.2 hi)
  simp only[Bool.not_eq_true,Bool.not_eq_false']at this;have hi':i<listed.size:=by omega
  simpa[Array.getD,hi']using this
 | succ fuel ih=>
  intro t listed hs hc;simp only[Region.linearise.go];change z17 ops _ (match (Region.ready .any ops listed)[t%(Region.ready .any ops listed).length]? with
   | some i=>Region.linearise.go .any ops fuel (t / (Region.ready .any ops listed).length) (listed.setIfInBounds i true) [i]
   | none=>[].reverse)
  cases hi:(Region.ready .any ops listed)[t%(Region.ready .any ops listed).length]? with
  | none=>
   have hnil:Region.ready .any ops listed=[]:=by
    cases hr:Region.ready .any ops listed with
    | nil=>rfl
    | cons x xs=>
     rw[hr]at hi;have hlt:t%(x::xs).length<(x::xs).length:=ybz _ (by simp)
     rw[List.getElem?_eq_none_iff]at hi;omega
   show ∀i,i<ops.size->listed.getD i false=true
   intro i;induction i using Nat.strongRecOn with
   | _ i ihi=>
    intro hlt;refine Classical.byContradiction fun hne=>?_
    have ho:ops[i]?=some ops[i]:=by simp[hlt]
    have hil:i<listed.size:=by omega
    have h1:listed.getD i true=false:=by
     have:listed.getD i false=false:=by simpa using hne
     simpa[Array.getD,hil]using this
    have:=zz0 ho h1 fun j hj=>ihi j (hb i _ ho j hj) (Nat.lt_trans (hb i _ ho j hj) hlt)
    rw[hnil]at this;cases this
  | some i=>
   simp only[];rw[linearise_go_acc,List.reverse_singleton,List.singleton_append];obtain⟨o,ho,h1,h2⟩:=zuo (ybw hi)
   have hlt:i<ops.size:=(yaf.1 ho).1
   have hil:i<listed.size:=by omega
   refine⟨o,ho,by simpa[Array.getD,hil]using h1,h2,?_⟩
   have key:(fun k=>listed.getD k false||k == i)=fun k=>(listed.setIfInBounds i true).getD k false:=by
    funext k
    simp only[yby,ybt];by_cases e:i=k
    ·subst e;simp[hil]
    ·rw[if_neg e]
     have:(k == i)=false:=by simp;exact fun h=>e h.symm
     simp[this]
   rw[key];refine ih _ _ (by simpa using hs) ?_
   have hcnt:(List.range ops.size).countP (fun k => !(listed.setIfInBounds i true).getD k true)+1<=(List.range ops.size).countP (fun k => !listed.getD k true):=by
    refine zxu (fun k hk=>?_) (i:=i) ?_ ?_ _ (List.mem_range.2 hlt)
    ·simp only[ybq,yby,ybt]at hk ⊢
     split at hk
     ·rename_i e;subst e;simp at hk
     ·exact hk
    ·simpa using h1
    ·simp[yby,hil]
   omega
end Go.Am
