/- Conversions, slices, indexes, maps, lengths; all the light operations together. -/
import Derived.Below
import Derived.Laws.BytesString
import Derived.Orders
import Derived.Test.YtefajchlhjcgpaaGreatDoorP01
set_option linter.all false
noncomputable section
namespace Go.Am
open Go
section
variable {P:Program}{C:fA}{B N:Nat}{μ:Mu}{H:sA}{w:World}
variable {e:mD}{j:Operand->Value}{dst:Option Tmp}{type:TypeId}{z:String}{f:Array Edge}{g:Option (Nat × Bool)}{v:O}
theorem ZL{a:O}{n:Nat}(h:lZ a=some n):a=.e .u8 (n:Int)/\n<256:=by
 grind [lZ,mA,Bq,qB,hO,Si,eC]
theorem ZG(l:List Nat):∀s:ByteArray,(∀n∈l,n<256)->rG ((l.map λn:Nat=>(n:Int)).foldl (λr n=>r.push (UInt8.ofNat n.toNat)) s)=rG s++l:=by
 induction l with
 | nil=>simp_all
 | cons n l b=>
  intro s h;rw[L1,List.foldl_cons,b _ λm a=>h m (by simp[a])];have:rG (s.push (UInt8.ofNat (n:Int).toNat))=rG s++[n]:=by
   simp_all [rG]
  simp_all
theorem zcj{μ:Mu}:∀ {l:List O} {r:List Nat} {b:List Value},jH lZ l=some r->bB μ l b->b=r.map (λn:Nat=>Value.int .u8 (n:Int))/\∀n∈r,n<256:=by
 intro l;induction l with
 | nil=>grind [Lb,bB]
 | cons a l c=>
  grind [iQ,mA,bB,ZL,rA]
theorem YW(p:lB B N μ H w){a:O}{x:Value}(b:rA μ a x)(h:Lt H a=some v):∃v',(Conv.bytesToString x).run P w=.ok v' w/\rA μ v v'/\∃A l c,x=.slice A l c:=by
 unfold Lt at h;split at h
 .rename_i s j;rw[It]at j;subst j;simp only[mA]at h;obtain⟨c,q,l,d,r,g,h⟩:=h;cases h;rw[rA]at b;rcases b with⟨i,e,t,rfl,_⟩ | ⟨_,k,_,A,_,rfl,_⟩
  rotate_left
  .rw[k]at d;cases d;cases g;refine⟨_,run_bytesToString w _ _ _ [] rfl,?_,_,_,_,rfl⟩;rw[rA];exact⟨_,rfl,rfl⟩
  obtain⟨z,_,m,u,_⟩:=p.ba (P:=P) q t d;obtain⟨y,o⟩:=zcj g m;refine⟨_,run_bytesToString w _ _ _ (r.map λn:Nat=>(n:Int)) (by simp_all),?_,_,_,_,rfl⟩;rw[rA];exact⟨_,rfl,by rw[ZG _ _ o];simp[rG]⟩
 .simp only[qB,zD]at h;obtain⟨f,h⟩:=h;cases h;rw[bZ.2.1]at f;subst f;rw[rA]at b;subst b;exact⟨.string .empty,rfl,by rw[rA];exact⟨_,rfl,rfl⟩,_,_,_,rfl⟩
def zo8(m:nG P C)(E:lB B N μ H w){s d:Nat}{i f:jD}(I:C.b.c s=some i)(F:C.b.c d=some f){a:O}{x:Value}(e:rA μ a x)(h:rW C i f a H=some v) :
  ∃v',(convert s d x).run P w=.ok v' w/\rA μ v v':=by
 have u:=m.a I;have j:=m.a F;obtain⟨K,g⟩:=u.c;unfold rW at h;split at h
 .rename_i k q;simp only[mA,GU]at h;obtain⟨n,⟨M,rfl⟩,h⟩:=h;cases h;rw[rA]at e;subst e;refine⟨.int k (k.wrap n),?_,by rw[rA,vS]⟩;simp only[convert,C2,vG g,vG (FU j q),C3];rfl
 .simp only[qB]at h;obtain⟨b,h⟩:=h;rw[bD]at h;split at h
  .rename_i J;cases h;cases v<;>simp[O.aa,Nat.beq]at J;have r:=e;rw[rA]at e;obtain⟨t,rfl,_⟩:=e;refine⟨.string t,?_,r⟩;simp only[convert,C2,vG g,vG (Zd j b),C3];cases K<;>rfl
  .simp only[mA,qB,hO]at h;obtain⟨y,o,L,p,k,q,rfl,h⟩:=h;obtain⟨v',z,D,A,l,c,rfl⟩:=YW (P:=P) E e h;exact⟨v',by rw[run_convert_bytes_string w s d y A l c (fX u o) (FU (m.a p) q) (Zd j b)];exact z,D⟩
theorem OB(l:nG P C)(k:lB B N μ H w)(i:iG μ e j){s d:Nat}{x:Operand}(h:eS s d x C e H=some v):aJ P μ w j ⟨dst,.convert s d x,type,z,f,g⟩ v:=by
 unfold eS at h;simp only[mA]at h;obtain⟨a,m,p,o,b,n,h⟩:=h;obtain⟨q,r,c⟩:=zo8 l k o n (i _ _ m) h;exact⟨q,by grind [execOp,Sem.run_bind,Result.andThen_ok,Sem.run_pure],c⟩
theorem Zw{y:Nat}{a:O}{n:Nat}(h:Bm y a=some n):(∃k,a=.e k (n:Int))/\n<=y:=by
 grind [Bm,mA,AA,qB,mF]
theorem Wb{y y':Nat}{a:O}{x:Value}(d:rA μ a x){n:Nat}(h:Bm y a=some n)(e:y<=y')(b:BoundsCode):(Instr.sliceBound x y' b).run P w=.ok n w:=by
 obtain⟨⟨k,rfl⟩,c⟩:=Zw h
 grind [rA,Instr.sliceBound,asIntOf,Sem.run_pure]
def Rf{isSlice:Bool}{g cap cap':Nat}(m:cap<=cap'){lo hi:Option O}{d f:Option Value}
  (i:vk μ lo d) (j:vk μ hi f)
  {p:Nat × Nat} (h:xT g cap lo hi=some p):(Instr.sliceBounds isSlice g cap' d f none).run P w=.ok (p.1,p.2,cap') w/\p.1<=p.2/\(p.2<=cap\/p.2=g):=by
 unfold xT at h;simp only[mA]at h;obtain⟨k,e,l,c,h⟩:=h;cases h;have n:k<=cap\/k=g:=by
  cases hi with
  | none=>right;cases e;rfl
  | some a=>left;exact(Zw e).2
 have o:l<=k:=by
  cases lo with
  | none=>cases c;omega
  | some a=>exact(Zw c).2
 refine⟨?_,o,n⟩;unfold Instr.sliceBounds
 cases hi with
 | none=>
  cases f with
  | some v=>exact j.elim
  | none=>
   cases e
   cases lo with
   | none=>
    cases d with
    | some v=>exact i.elim
    | none=>cases c;simp
   | some a=>
    cases d with
    | none=>exact i.elim
    | some v=>simp[Wb (P:=P) (w:=w) i c (B4 _)]
 | some b=>
  cases f with
  | none=>exact j.elim
  | some u=>
   cases lo with
   | none=>
    cases d with
    | some v=>exact i.elim
    | none=>cases c;simp[Wb (P:=P) (w:=w) j e m]
   | some a=>
    cases d with
    | none=>exact i.elim
    | some v=>simp[Wb (P:=P) (w:=w) j e m,Wb (P:=P) (w:=w) i c (B4 _)]
theorem JF{b a cap l:Nat}{d:Bool}(g:lB B N μ H w){i:BI}(hi:μ b=some i)(h:mQ H b a cap l d=true) :
  i.a=true\/(i.a=false/\d=false/\i.d=a/\(cap≠l\/l=0)):=by
 unfold mQ at h;split at h
 .rename_i c j;obtain⟨o,n,f⟩:=g.am _ _ _ (Ga j) hi;obtain⟨k,e,m,_,_,_,_,p⟩:=f
  grind [R5]
 .cases h
def zcl{c cap:Nat}{lo hi:Option O}{p:Nat × Nat}(h:xT c cap lo hi=some p):p.1<=p.2:=by
 unfold xT at h;simp only[mA]at h;obtain⟨e,d,l,b,h⟩:=h;cases h
 cases lo with
 | none=>cases b;omega
 | some a=>exact(Zw b).2
theorem JE(o:nG P C)(y:lB B N μ H w){e:Bool}{el b off k cap cap':Nat}{lo hi:Option O}{i:BI}(g:μ b=some i)
  (q:cap<=cap') (E:i.a=true->cap'=cap) (D:i.a=false->e=false->off+cap'*i.d<=i.c) (h:oS C H e el b off k cap lo hi=some v) :
  ∃p c,xT k cap lo hi=some p/\(sizeOf el).run P w=.ok c w ∧
   rA μ v (.slice (some (if cap'=p.1 then⟨i.b,off,none⟩else Addr.add ⟨i.b,off,none⟩ (p.1*c))) (p.2-p.1) (cap'-p.1)):=by
 unfold oS at h;simp only[mA]at h;obtain⟨d,f,p,n,h⟩:=h;rw[bD]at h;split at h
 .rename_i a;cases h;simp only[B3,mF]at a;obtain⟨⟨m,s⟩,a⟩:=a;have z:cap=p.1:=by
   grind [iP,zD]
  refine⟨p,d.b,n,(o.a f).a,?_⟩
  simp_all [rA]
 simp only[qB,B3,mF]at h;obtain⟨⟨m,A⟩,h⟩:=h;cases h;have r:=zcl n;refine⟨p,d.b,n,(o.a f).a,?_⟩;rw[rA];have j:(if cap'=p.1 then(⟨i.b,off,none⟩:Addr)else Addr.add ⟨i.b,off,none⟩ (p.1*d.b))=⟨i.b,(bif Nat.beq cap p.1 then off else off+p.1*d.b),none⟩:=by
  grind [Dj,zD,JF]
 refine .inl ⟨i,cap'-p.1,g,by rw[j],by omega,λl=>by rw[E l],λl=>?_⟩;rcases JF y g A with F | ⟨_,t,u,I⟩
 .simp_all
 .have x:=D l t;rw[bD];simp only[zD];rw[u]at x ⊢;have J:p.1*d.b+(cap'-p.1)*d.b=cap'*d.b:=by rw[<- D7];grind
  grind
theorem NN(M:nG P C)(hH:lB B N μ H w)(X:iG μ e j){t:Nat}{x:Operand}{lo hi mx:Option Operand}(h:(Sv t x lo hi mx).f C e H=some v) :
  aJ P μ w j ⟨dst,.slice t x lo hi mx,type,z,f,g⟩ v:=by
 unfold Sv at h;split at h
 .simp only[Ev,mA]at h;obtain⟨a,ha,l,hl,u,hu,ty,a7,h⟩:=h;have D:=X _ _ ha;have J:=X.g hl;have K:=X.g hu;have L:=M.a a7;have k:∀ {v'},(Instr.sliceAt t (j x) (lo.map j) (hi.map j) none).run P w=.ok v' w->(execOp j ⟨dst,.slice t x lo hi none,type,z,f,g⟩).run P w=.ok (.value v') w:=by
   grind [execOp,Sem.run_bind,Result.andThen_ok,Sem.run_pure]
  unfold gP at h;split at h
  .rename_i s hs;rw[Bp]at hs;subst hs;rw[qB]at h;obtain⟨S,h⟩:=h;unfold Re at h;simp only[mA,dD,vU,eV]at h;obtain⟨p,m,h⟩:=h;cases h;rw[rA]at D;obtain⟨a8,d,rfl⟩:=D;rw[Ph]at m;obtain⟨n,_⟩:=Rf (P:=P) (w:=w) (isSlice:=false) (B4 _) J K m;refine⟨.string (a8.extract p.1 p.2),k ?_,by grind [rA,TG]⟩;have b:=Zd L S
   simp_all [Instr.sliceAt,vG,Instr.slice]
  .split at h
   .rename_i r hr;rw[It]at hr;subst hr;simp only[mA]at h;obtain⟨el,o,h⟩:=h;rw[rA]at D;rcases D with⟨i,cap',E,d,hc,ht,a6⟩ | ⟨k1,k3,k4,A,c,d,k2⟩
    rotate_left
    .unfold oS at h;simp only[mA]at h;obtain⟨et,a1,p,m,h⟩:=h;rw[bD]at h;obtain⟨n,h6,U⟩:=Rf (P:=P) (w:=w) (isSlice:=true) (cap':=c) (by omega) J K m;have I:p.2=0:=by rcases U with U | U<;>omega
     have F:p.1=0:=by omega
     have Q:¬ (Nat.ble p.2 r.2.2.2&&Nat.ble p.1 p.2&&iP H r.1 et.b r.2.2.2 p.1 false)=true:=by
      grind [iP]
     rw[A3 Q]at h;simp only[qB,B3,mF]at h;obtain⟨_,h⟩:=h;cases h;rw[k3]at n;refine⟨.slice (some A) 0 c,k ?_,?_⟩
     .have b:=fX L o;simp only[Instr.sliceAt,C2,vG b,C3,Instr.slice,d,n,E4,(M.a a1).a,F,I];simp[Addr.add]
     grind [rA]
    obtain⟨p,T,m,h4,W⟩:=JE (P:=P) (w:=w) M hH E hc ht (λa _=>a6 a) h;obtain⟨n,_⟩:=Rf (P:=P) (w:=w) (isSlice:=true) hc J K m;refine⟨_,k ?_,W⟩;have b:=fX L o;simp only[Instr.sliceAt,C2,vG b,C3,Instr.slice,d,n,E4,h4];congr 2;split<;>rfl
   .split at h
    .rename_i q hq;rw[Ma]at hq;subst hq;simp only[mA]at h;obtain⟨ar,Z,h⟩:=h;rw[rA]at D;obtain⟨i,E,d⟩:=D;obtain⟨p,T,m,h4,W⟩:=JE (P:=P) (w:=w) M hH E (B4 _) (λ_=>rfl) (λ_ h=>by cases h) h;obtain⟨n,_⟩:=Rf (P:=P) (w:=w) (isSlice:=false) (B4 _) J K m;refine⟨_,k ?_,W⟩;have b:=Ze L Z
     simp_all [Instr.sliceAt,vG,Instr.sureAddr]
    .simp only[qB,zD,mA]at h;obtain⟨y,el,o,aa,R,p,m,h⟩:=h;cases h;rw[bZ.2.1]at y;subst y;rw[rA]at D;obtain⟨n,h6,U⟩:=Rf (P:=P) (w:=w) (isSlice:=true) (B4 0) J K m;have I:p.2=0:=by omega
     have F:p.1=0:=by omega
     rw[F,I]at n;refine⟨.slice none 0 0,k ?_,by rw[rA]⟩;have b:=fX L o;simp only[Instr.sliceAt,C2,vG b,C3,Instr.slice,D,n,E4,(M.a R).a];simp
 .cases h
end
end Go.Am
namespace Go.Am
open Go
variable {d t:Nat}{i x:Operand}{g:Array Field}{empty ok r:Bool}{ty:jD}{D:TypeDesc}{a b k:O}{kv Q L:Value}{l:List (O × O)}{es:List MapEntry}{M:Type}{f:Nat × Nat × Nat}{J:List (Nat × Nat × Nat)}{c:Call}
section
variable {P:Program}{C:fA}{B N:Nat}{μ:Mu}{H:sA}{w:World}
variable {e:mD}{I:Operand->Value}{dst:Option Tmp}{type:TypeId}{K:String}{E:Array Edge}{F:Option (Nat × Bool)}{v:O}
theorem NU(m:nG P C)(z:iG μ e I)  (h:Ar t x i C e H=some v):aJ P μ w I ⟨dst,.indexAddr t x i,type,K,E,F⟩ v:=by
 unfold Ar at h;simp only[mA,AA]at h;obtain⟨ty,u,a,J,Q,L,n,⟨k,rfl⟩,h⟩:=h;have A:=m.a u;have f:=z _ _ J;have c:=z _ _ L;rw[rA]at c;split at h
 .rename_i s B;rw[It]at B;subst B;simp only[mA,qB,eC]at h;obtain⟨N,q,g,b,r,h⟩:=h;cases h;rw[rA]at f;rcases f with⟨j,y,M,d,_⟩ | ⟨_,k,_⟩
  rotate_left
  .omega
  refine⟨.pointer (some ⟨j.b,s.2.1+n*g.b,none⟩),?_,by grind [rA]⟩;have l:(0:Int)<=(n:Int)/\(n:Int)<(s.2.2.1:Int):=⟨by omega,by omega⟩;simp only[execOp,Instr.indexAt,c,d,asIntOf,C2,E4,C3,vG (fX A q),(m.a b).a,Sem.run_ite,A5 l,Int.toNat_natCast,Dj]
 .simp only[mA,Ma,qB,eC]at h;obtain⟨p,rfl,D,o,g,b,r,h⟩:=h;cases h;rw[rA]at f;obtain⟨j,M,d⟩:=f;refine⟨.pointer (some ⟨j.b,p.2+n*g.b,none⟩),?_,by grind [rA]⟩;have l:(0:Int)<=(n:Int)/\(n:Int)<(D.1:Int):=⟨by omega,by omega⟩;simp only[execOp,Instr.indexAt,c,d,asIntOf,C2,E4,C3,vG (Ze A o),Instr.sureAddr,(m.a b).a,Sem.run_ite,A5 l,Int.toNat_natCast,Dj]
def NS(j:nG P C)(q:iG μ e I)  (h:As t x i C e H=some v):aJ P μ w I ⟨dst,.index t x i,type,K,E,F⟩ v:=by
 unfold As at h;simp only[mA,AA]at h;obtain⟨ty,p,a,L,X,M,n,⟨k,rfl⟩,h⟩:=h;have r:=j.a p;have g:=q _ _ L;have c:=q _ _ M;rw[rA]at c;split at h
 .rename_i s z;rw[Bp]at z;subst z;simp only[qB,mA,xI]at h;obtain⟨f,b,y,h⟩:=h;cases h;rw[rA]at g;obtain⟨S,d,rfl⟩:=g;rw[zck,Z8]at y;obtain⟨u,R,rfl⟩:=y;refine⟨.int .u8 u.toNat,?_,by rw[rA];rfl⟩;simp only[execOp,Instr.index,c,d,asIntOf,C2,E4,C3,vG (Zd r f),Int.natCast_nonneg,if_true,Int.toNat_natCast,R]
 .simp only[mA,Pl,qB,eC]at h;obtain⟨l,rfl,A,m,W,o,Q,h⟩:=h;rw[rA]at g;obtain⟨U,d,N⟩:=g;obtain⟨T,D,J⟩:=Rx (P:=P) (w:=w) j N h;refine⟨T,?_,J⟩;have B:(0:Int)<=(n:Int)/\(n:Int)<(A.1:Int):=⟨by omega,by omega⟩;simp only[execOp,Instr.index,c,d,asIntOf,C2,E4,C3,vG (Ze r m),(j.a o).a,Sem.run_ite,A5 B,Int.toNat_natCast,D]
theorem WL(l:List Value):∀(off k:Nat) (cs:Array Value),off+k+l.length<=cs.size →
  ((l.zipIdx k).foldl (λcs (c,j)=>cs.setIfInBounds (off+j) c) cs).toList=cs.toList.take (off+k)++l++cs.toList.drop (off+k+l.length):=by
 induction l with
 | nil=>simp_all
 | cons a l d=>
  intro off k cs h;rw[List.zipIdx_cons,List.foldl_cons,d off (k+1) _ (by grind)];have b:off+k<cs.toList.length:=by grind
  simp only[Array.toList_setIfInBounds];rw[List.take_set,List.drop_set_of_lt (by omega)];rw[show off+(k+1)=off+k+1 by omega,List.take_succ_eq_append_getElem b,List.set_append_right _ _ (by grind)];simp only[D5,mj,P6,D6];rw[Nat.min_eq_left (by omega),Nat.sub_self]
  grind
theorem Yw{c:Nat->Option (Nat × Nat)}{ps:List (Nat × O)}{s:List (Nat × Value)}(v:qE (λp q=>p.1=q.1/\rA μ p.2 q.2) ps s) :
  ∀ {a r:List O} {cs:Array Value},bB μ a cs.toList->yO c ps a=some r->∃j,Instr.fill c cs s=some j/\bB μ r j.toList:=by
 induction v with
 | ac=>intro a r cs e h;rw[yO]at h;cases h;exact⟨cs,rfl,e⟩
 | @aa p q ps s o _ x=>
  intro a r cs e h;rw[yO]at h;simp only[mA]at h;obtain⟨k,n,y,b,h⟩:=h;unfold pZ at b;simp only[qB,B3,zD,mF,dD,wI,eV,vU]at b;obtain⟨⟨z,A⟩,b⟩:=b;cases b;obtain⟨i,l⟩:=q;obtain⟨rfl,w⟩:=o;have g:=Zq w;have f:=g.d;have m:=e.d;simp only[P6]at f m;rw[Instr.fill,n];simp only[];have B:¬ (l.cells.size≠k.2||decide (k.1+l.cells.size > cs.size))=true:=by
   simp_all
  have t:¬ ((decide (l.cells.size≠k.2)||decide (k.1+l.cells.size > cs.size))=true):=by omega
  obtain⟨d,C⟩:=k;rw[A3 t];refine x ?_ h;have u:=WL l.cells.toList d 0 cs (by grind);rw[<- Array.foldl_toList,Array.toList_zipIdx,u];simp only[L9,P6];have:=((e.aa d).o g).o (e.z (d+p.2.s.length))
  simp_all
theorem zau (h:∀f∈g.toList,∃i,P.info? f.type=some i):(g.mapM λf=>(do pure (f.offset,<- sizeOf f.type):Sem (Nat × Nat))).run P w=.ok (g.map λf=>(f.offset,P.cellsOf f.type)) w:=by
 obtain⟨l⟩:=g;rw[List.mapM_toArray];simp only[Sem.run_map,List.map_toArray];have a:∀l:List Field,(∀f∈l,∃i,P.info? f.type=some i)->(l.mapM λf=>(do pure (f.offset,<- sizeOf f.type):Sem (Nat × Nat))).run P w=.ok (l.map λf=>(f.offset,P.cellsOf f.type)) w:=by
  intro l;induction l with
  | nil=>intro _;rfl
  | cons f l b=>
   simp_all [sizeOf,Kf,Program.cellsOf]
 simp_all
theorem OC(r:nG P C)(y:iG μ e I) {a:Array (Nat × Operand)}(h:Cu t a C e H=some v):aJ P μ w I ⟨dst,.build t a,type,K,E,F⟩ v:=by
 unfold Cu at h;simp only[mA]at h;obtain⟨ty,q,Q,p,h⟩:=h;have d:=r.a q;have u:=y.c p;obtain⟨z,L,_,c⟩:=d.e (μ:=μ);split at h
 .rename_i J n;simp only[mA,xI]at h;obtain⟨l,j,h⟩:=h;cases h;obtain⟨g,A,rfl⟩:=Lr d n;have o:(λi:Nat=>ob ((g.toList.map λf=>(f.offset,f.type,P.cellsOf f.type))[i]?) fun(x:Nat × Nat × Nat)=>some (x.1,x.2.2))=λi=>(g.map λf=>(f.offset,P.cellsOf f.type))[i]?:=by
   funext i;rw[G4];simp only[Array.getElem?_map];have:g.toList[i]?=g[i]?:=by simp
   rw[this];cases g[i]?<;>rfl
  rw[o]at j;obtain⟨b,s,D⟩:=Yw u c j;refine⟨.agg b,?_,by grind [rA]⟩;have B:=zau (P:=P) (w:=w) (g:=g) (by have:=d.k;rwa [QU A]at this)
  simp_all [execOp,Instr.build,vG]
 .simp only[mA]at h;obtain⟨M,k,N,m,l,j,h⟩:=h;cases h;obtain⟨b,s,D⟩:=Yw u c j;refine⟨.agg b,?_,by grind [rA]⟩;simp only[execOp,Instr.build,C2,L,C3,vG (Ze d k),(r.a m).a,Array.toList_map,s,E4]
def OE(y:nG P C)(u:iG μ e I) {D b:Nat} (h:Ax x b ok C e H=some v):aJ P μ w I ⟨dst,.typeAssert x D b ok,type,K,E,F⟩ v:=by
 unfold Ax at h;simp only[mA,qB]at h;obtain⟨ty,n,B,a,A,h⟩:=h;have o:=y.a n;have k:=u _ _ A;obtain⟨d,l,m⟩:=RW o B;obtain⟨z,s,j,_⟩:=o.e (μ:=μ);split at h
 .rename_i p q;rw[TP]at q;subst q;rw[rA]at k;obtain⟨t,i,r⟩:=k;rw[bD]at h;split at h
  .rename_i f;rw[zD]at f;cases h;refine⟨if ok then .tuple #[t,.bool true]else t,?_,?_⟩
   .simp only[execOp,Instr.typeAssert,i,C2,vG l,C3];cases d<;>first | exact absurd rfl (m _) | simp[f]
   .cases ok
    .exact r
    .rw[cond_true,A5 rfl,rA];exact⟨_,rfl,.e r (.g (by rw[rA]))⟩
  .rename_i g;rw[zD]at g;rw[qB]at h;obtain⟨rfl,h⟩:=h;cases h;refine⟨.tuple #[z,.bool false],?_,by rw[rA];exact⟨_,rfl,.e j (.g (by rw[rA]))⟩⟩;simp only[execOp,Instr.typeAssert,i,C2,vG l,C3];cases d<;>first | exact absurd rfl (m _) | simp[g,s]
 .simp only[qB,B3,zD]at h;obtain⟨⟨c,rfl⟩,h⟩:=h;cases h;rw[bZ.2.2.2.2]at c;subst c;rw[rA]at k;refine⟨.tuple #[z,.bool false],?_,by rw[rA];exact⟨_,rfl,.e j (.g (by rw[rA]))⟩⟩;simp only[execOp,Instr.typeAssert,k,C2,vG l,C3];cases d<;>first | exact absurd rfl (m _) | simp[s]
theorem OW  (b:bO P t ty)(h:zZ ty.a=true):P.underlying t=some .bool\/P.underlying t=some .string\/∃k,P.underlying t=some (.int k):=by
 obtain⟨D,d⟩:=b.c;have a:=b.b;unfold aS at a;rw[d]at a;rw[<- a]at h;have c:=mF.1 h;cases D<;>simp[jE.l]at c
 all_goals simp_all
def Ve(D:TypeDesc)(a:O):Prop:=(∃k,D=.int k/\a.aa=1)\/(D=.string/\a.aa=2)\/(D=.bool/\a.aa=0)
def Ve.j   (h:Ve D a)(e:iJ a b=some r):qU a b=some r:=by
 rcases Tb e with⟨x,y,rfl,rfl,_⟩ | ⟨_,e⟩
 .rcases h with⟨_,_,c⟩ | ⟨_,c⟩ | ⟨_,c⟩<;>simp[O.aa]at c
 .exact e
theorem JU   (f:Ve D a)(c:rA μ a Q)(d:rA μ b L) (h:qU a b=some r):Instr.sameNow D Q L=some r:=by
 rcases Oe h with⟨k,x,y,rfl,rfl,rfl⟩ | ⟨x,y,rfl,rfl,rfl⟩ | ⟨x,y,rfl,rfl,rfl⟩<;>rw[rA]at c<;>rw[rA]at d <;>
  rcases f with⟨i,rfl,e⟩ | ⟨rfl,e⟩ | ⟨rfl,e⟩<;>simp[O.aa]at e
 .grind [Instr.sameNow]
 .obtain⟨s,rfl,rfl⟩:=c;obtain⟨u,rfl,rfl⟩:=d;have:(s == u)=sF (rG s) (rG u):=by
   rw[Bool.eq_iff_iff,eJ];have g:(s == u)=(s.data == u.data):=rfl
   grind [rG,Zu]
  grind [Instr.sameNow]
 .rw[c,d];rfl
theorem zbu   (b:Ve D k)(d:rA μ k kv)  (f:qE (λp e=>rA μ p.1 e.key/\rA μ p.2 e.val) l es) :
  ∀ {i:Nat} {r:Option O},rN k l=some r->match r with
   | none=>Instr.findNow D kv es i=some none
   | some v=>∃j v',Instr.findNow D kv es i=some (some (j,v'))/\rA μ v v':=by
 induction f with
 | ac=>intro i r h;rw[rN]at h;cases h;rfl
 | @aa p e l es a _ m=>
  intro i r h;rw[rN,mA]at h;obtain⟨q,g,h⟩:=h;have c:=JU b d a.1 (b.j g)
  cases q with
  | true=>
   rw[cond_true]at h;cases h;exact⟨i,e.val,by rw[Instr.findNow,c],a.2⟩
  | false=>
   simp_all [Instr.findNow]
theorem SU     (b:P.underlying t=some D)(a:(∃k,D=.int k)\/D=.string\/D=.bool):(Instr.checkKey empty (d+1) t kv).run P w=.ok () w:=by
 rw[Instr.checkKey,C2,vG b,C3];rcases a with⟨k,rfl⟩ | rfl | rfl<;>rfl
theorem Zx{b:Nat} (h:pN H b=some l):H.t.c b=some (.aj l):=by
 unfold pN at h;rw[mA]at h;obtain⟨x,a,h⟩:=h;cases x<;>simp[uA.e]at h
 simp_all
theorem lB.bg(f:lB B N μ H w){b:Nat} (h:pN H b=some l){i:BI}(hi:μ b=some i) :
  ∃es a c,w.heap[i.b]?=some (.map es a)/\Ps l c/\qE (λp e=>rA μ p.1 e.key/\rA μ p.2 e.val) c es.toList:=by
 obtain⟨o,g,d⟩:=f.am _ _ _ (Zx h) hi;obtain⟨es,a,c,rfl,j,k⟩:=d
 grind
theorem Rn{r:Nat}{o:Obj}(h:w.heap[r]?=some o)(d:∀a b c,o≠.cells a b c):(getObj r).run P w=.ok o w:=by
 grind [getObj,Sem.run]
def DW   (d:bO P t ty)(b:P.underlying t=some D)(e:zZ ty.a=true) (h:Le ty.a k=true):Ve D k:=by
 have c:=d.b;unfold aS at c;rw[b]at c;rw[<- c]at h;unfold Le at h;rw[zD]at h;rcases OW d e with a | a | ⟨f,a⟩
 .rw[b]at a;cases a;exact .inr (.inr ⟨rfl,h.symm⟩)
 .rw[b]at a;cases a;exact .inr (.inl ⟨rfl,h.symm⟩)
 .rw[b]at a;cases a;exact .inl ⟨f,rfl,h.symm⟩
def JX{M:Type}{g:M->PUnit->Sem (ForInStep PUnit)}:∀(l:List M),(∀a∈l,(g a ⟨⟩).run P w=.ok (.yield ⟨⟩) w)->(forIn l PUnit.unit g).run P w=.ok ⟨⟩ w
 | [],_=>rfl
 | a::l,h=>by
  rw[List.forIn_cons,C2,h a (.head _),C3];exact JX l λx b=>h x (.tail _ b)
theorem vm {l r:List M}{a:M}{i:Nat}(h:a::r=l.drop i):l[i]?=some a/\r=l.drop (i+1):=by
 have b:(l.drop i)[0]?=some a:=by grind
 rw[lm]at b;refine⟨by omega,?_⟩;have:r=(l.drop i).drop 1:=by grind
 rw[this,List.drop_drop]
theorem QK  {i:Nat}(h:Fk C (f::J) i=true):f.1=i/\(∃ty,C.b.c f.2.1=some ty/\zZ ty.a=true)/\Fk C J (i+1)=true:=by
 grind [Fk,zD]
theorem QO  {l:List O}(h:Fm C (f::J) l=true):∃v r ty,l=v::r/\C.b.c f.2.1=some ty/\Le ty.a v=true/\Fm C J r=true:=by
 cases l with
 | nil=>cases h
 | cons v r=>
  grind [Fm]
theorem zjd{d:jE}  (g:zZ d=true)(i:Le d a=true)(h:qU a b=some r):Tt d a b=some r:=by
 have e:=mF.1 g;have f:d.l=a.aa:=zD.1 i;rcases Oe h with⟨k,x,y,rfl,rfl,c⟩ | ⟨x,y,rfl,rfl,c⟩ | ⟨x,y,rfl,rfl,c⟩<;>cases d<;>simp[jE.l,O.aa]at e f<;>exact h
def OV{d:jE}(h:zZ d=true):d.h=false/\d.b=none:=by
 have a:=mF.1 h;cases d<;>simp[jE.l]at a<;>exact⟨rfl,rfl⟩
theorem OI{g j:List O}:∀(J:List (Nat × Nat × Nat)) (i:Nat) (r:Bool),Fk C J i=true->Fm C J (g.drop i)=true->cY (g.drop i) (j.drop i)=some r->Pn C (P7 C 1) g j J=some r
 | [],i,r,_,d,h=>by
  generalize g.drop i=l at d h;generalize j.drop i=m at h
  cases l with
  | cons v l=>cases d
  | nil=>cases m with
   | cons v m=>cases h
   | nil=>cases h;rfl
 | f::J,i,r,e,d,h=>by
  obtain⟨E,⟨ty,t,n⟩,e⟩:=QK e;obtain⟨v,l,D,u,c,w,d⟩:=QO d;rw[t]at c;cases c;obtain⟨y,A⟩:=vm u.symm;rw[u]at h
  cases k:j.drop i with
  | nil=>rw[k]at h;cases h
  | cons b m=>
   obtain⟨z,B⟩:=vm k.symm;rw[k]at h;simp only[cY,mA]at h;obtain⟨q,F,s,p,h⟩:=h;cases h;obtain⟨H,I⟩:=OV n;have x:∀ {l:List O} {a:O},l[i]?=some a->eT C f.2.1 l f.1=some a:=by
    grind [eT,lA,xI]
   have o:P7 C 1 f.2.1 v b=some q:=by
    grind [P7,lA,zjd]
   rw[Pn,x y,lA,x z,lA,o,lA];rw[A]at d p;rw[B]at p
   cases q with
   | false=>rfl
   | true=>rw[cond_true,OI J (i+1) s e d p];rfl
theorem EH (h:aY C ty=true):zZ ty.a=true\/∃J,zZ ty.a=false/\ty.a.b=some J/\ty.e=true/\Fk C J 0=true:=by
 grind [aY]
theorem DY  (a:zZ ty.a=true)(h:xW C ty k=true):Le ty.a k=true:=by
 grind [xW]
theorem DX   (b:zZ ty.a=false)(a:ty.a.b=some J)(h:xW C ty k=true):∃l,k=.i l/\Fm C J l=true:=by
 grind [xW,Pl]
def OP(i:nG P C)  (g:C.b.c t=some ty) (d:ty.a.b=some J)(f:ty.e=true)(c:Fk C J 0=true){l:List O}(a:Fm C J l=true)  (j:rA μ (.i l) Q)(k:rA μ b L) (h:iJ (.i l) b=some r) :
  (Op.equal t Q L).run P w=.ok r w:=by
 refine ztc i 2 10000 t (.i l) b _ _ r (by decide) j k ?_;rcases Tb h with⟨x,y,e,rfl,h⟩ | ⟨m,_⟩
 .cases e;rw[P7,g,lA,d];simp only[O.ak,lA];rw[f];exact OI J 0 r c a h
 .cases m
theorem YF   (o:∀(b:O) (L:Value) (r:Bool),rA μ b L->iJ k b=some r->(Op.equal t kv L).run P w=.ok r w)  (n:qE (λp e=>rA μ p.1 e.key/\rA μ p.2 e.val) l es) :
  ∀ {i:Nat} {r:Option O},rN k l=some r->match r with
   | none=>(Instr.findAsking t kv es i).run P w=.ok none w
   | some v=>∃j a,(Instr.findAsking t kv es i).run P w=.ok (some (i+j,a.val)) w/\es[j]?=some a/\rA μ v a.val:=by
 induction n with
 | ac=>intro i r h;rw[rN]at h;cases h;rfl
 | @aa p e l es c _ s=>
  intro i r h;rw[rN,mA]at h;obtain⟨q,d,h⟩:=h;have m:=o _ _ _ c.1 d
  cases q with
  | true=>
   rw[cond_true]at h;cases h;exact⟨0,e,by simp_all [Instr.findAsking],rfl,c.2⟩
  | false=>
   rw[cond_false]at h;have:=s (i:=i+1) h;rw[Instr.findAsking,C2,m,C3];simp only[F5,if_false]
   cases r with
   | none=>exact this
   | some v=>
    obtain⟨j,a,f,u,g⟩:=this;exact⟨j+1,a,by rw[f,show i+1+j=i+(j+1) by omega],by simp_all,g⟩
theorem QQ  (a:P.underlying t=some (.struct g))(kv:Value)(es:List MapEntry):(Instr.findKey t kv es).run P w=(Instr.findAsking t kv es).run P w:=by
 unfold Instr.findKey;rw[C2,vG a,C3]
 cases es with
 | nil=>simp only[Instr.findNow,Instr.findAsking]
 | cons e es=>simp only[Instr.findNow,Instr.sameNow]
theorem zbv(y:nG P C)  (n:C.b.c t=some ty)(I:aY C ty=true)  (c:xW C ty k=true)(m:rA μ k kv)  (z:qE (λp e=>rA μ p.1 e.key/\rA μ p.2 e.val) l es){r:Option O}(A:rN k l=some r) :
  match r with
  | none=>(Instr.findKey t kv es).run P w=.ok none w
  | some v=>∃j v',(Instr.findKey t kv es).run P w=.ok (some (j,v')) w/\rA μ v v':=by
 have o:=y.a n;rcases EH I with a | ⟨J,a,f,u,s⟩
 .obtain⟨D,E⟩:=o.c;have d:=DW o E a (DY a c);have B:=zbu d m z (i:=0) A;have H:∀(q:Option (Nat × Value)),Instr.findNow D kv es 0=some q->(Instr.findKey t kv es).run P w=.ok q w:=by
   simp_all [Instr.findKey,vG]
  grind
 .obtain⟨x,rfl,K⟩:=DX a f c;obtain⟨g,M,rfl⟩:=Lr o f;have B:=YF (P:=P) (w:=w) (t:=t) (kv:=kv) (λb L r F h=>OP y n f u s K m F h) z (i:=0) A
  grind [QQ]
theorem SV(y:nG P C)  (B:C.b.c t=some ty)(S:aY C ty=true)  (e:xW C ty k=true)(p:rA μ k kv)   : (Instr.checkKey empty (d+2) t kv).run P w=.ok () w:=by
 have u:=y.a B;rcases EH S with c | ⟨J,c,o,T,Q⟩
 .obtain⟨D,E⟩:=u.c;have m:=DW u E c (DY c e);have s:(∃k,D=.int k)\/D=.string\/D=.bool:=by
   rcases m with⟨k,h,_⟩ | ⟨h,_⟩ | ⟨h,_⟩
   all_goals simp_all
  exact SU E s
 .obtain⟨x,rfl,hx⟩:=DX c o e;obtain⟨g,R,rfl⟩:=Lr u o;rw[rA]at p;obtain⟨I,rfl,z⟩:=p;rw[Instr.checkKey,C2,vG R,C3];simp only[];have U:∀(n:List Field) (i:Nat),Fk C (n.map λf=>(f.offset,f.type,P.cellsOf f.type)) i=true->Fm C (n.map λf=>(f.offset,f.type,P.cellsOf f.type)) (x.drop i)=true →
    ∀f∈n,∃v,(part f.type I f.offset).run P w=.ok v w/\(Instr.checkKey empty (d+1) f.type v).run P w=.ok () w:=by
   intro n;induction n with
   | nil=>simp_all
   | cons Z n ih=>
    intro i q r f F;rw[L1]at q r;obtain⟨K,⟨M,a,j⟩,q⟩:=QK q;obtain⟨v,l,W,L,b,A,r⟩:=QO r;obtain⟨gx,lx⟩:=vm L.symm;simp only[]at K a b;rw[a]at b;cases b;rcases C6.1 F with rfl | F
    .obtain⟨p1,_⟩:=OV j;obtain⟨X,N,_⟩:=Rx (P:=P) (w:=w) y z (t:=f.type) (off:=f.offset) (v:=v) (by grind [eT,lA,xI]);refine⟨X,N,?_⟩;rcases OW (y.a a) j with H | H | ⟨kk,H⟩
     all_goals grind [SU]
    grind
  rw[C2,<- Array.forIn_toList,JX]
  all_goals grind [Sem.run_bind,Result.andThen_ok,Sem.run_pure]
theorem NQ(s:nG P C)(hH:lB B N μ H w)(hE:iG μ e I)   (h:Ap t x i ok C e H=some v):aJ P μ w I ⟨dst,.lookup t x i ok,type,K,E,F⟩ v:=by
 unfold Ap at h;simp only[mA,qB]at h;obtain⟨ty,X,ke,W,a8,f,D,a1,A,m,hm,es,c,k,hk,g,r,hr,h⟩:=h;have hF:=s.a X;have a6:=s.a f;have U:=s.a A;have R:=hE _ _ hm;have J:=hE _ _ hk;have L:∃(Q:Array MapEntry) (n:List (O × O)),Ps es n/\qE (λp e=>rA μ p.1 e.key/\rA μ p.2 e.val) n Q.toList/\((I x=.map none/\Q = #[])\/∃b a,I x=.map (some b)/\w.heap[b]?=some (.map Q a)):=by
  unfold Ak at c;split at c
  .rename_i b hb;rw[AB]at hb;subst hb;rw[rA]at R;obtain⟨j,hj,a7⟩:=R;obtain⟨Q,a,l',Z,h0,S⟩:=hH.bg c hj
   grind
  .simp only[qB,zD]at c;obtain⟨l,c⟩:=c;cases c;rw[bZ.2.2.1]at l;subst l;rw[rA]at R;exact⟨#[],[],.inl rfl,.ac,.inl ⟨R,rfl⟩⟩
 obtain⟨Q,n,o,Z,S⟩:=L;have h3:=zbv (P:=P) (w:=w) s f D g J Z (zbx o hr);have hu:=RX hF W;obtain⟨z,hz,M,_⟩:=U.e (μ:=μ);have y:=λb=>SV (P:=P) (w:=w) (empty:=b) (d:=9998) (kv:=I i) s f D g J
 cases r with
 | none=>
  cases h;refine⟨if ok then .tuple #[z,.bool false]else z,?_,?_⟩
  .have h4:=h3;simp only[execOp,Instr.lookup];rcases S with⟨q,rfl⟩ | ⟨b,a,q,T⟩
   .simp_all [vG]
   .simp only[C2,vG hu,C3,q,Rn T (by simp),E4,y,h4,hz]
  .cases ok
   .exact M
   .rw[cond_true,A5 rfl,rA];exact⟨_,rfl,.e M (.g (by rw[rA]))⟩
 | some u=>
  obtain⟨j,v',T,q⟩:=h3;cases h;refine⟨if ok then .tuple #[v',.bool true]else v',?_,?_⟩
  .simp only[execOp,Instr.lookup];rcases S with⟨h7,rfl⟩ | ⟨b,a,h7,h8⟩
   .simp_all [vG]
   .simp only[C2,vG hu,C3,h7,Rn h8 (by simp),E4,y,T]
  .cases ok
   .exact q
   .rw[cond_true,A5 rfl,rA];exact⟨_,rfl,.e q (.g (by rw[rA]))⟩
theorem CB{s:Sem Value}{v':Value}(h:s.run P w=.ok v' w):(do pure (Next.value (<- s)):Sem Next).run P w=.ok (.value v') w:=by
 simp_all
theorem Rp{b:Builtin} (a:c.callee=.builtin b):(execOp I ⟨dst,.call c,type,K,E,F⟩).run P w=(builtin b c.argTypes type (c.args.map fun | .const _=>true | _=>false) (c.args.map I)).run P w:=by
 grind [execOp,resolve,invoke]
theorem qE.j{a:Type}{R:M->a->Prop}{l:List M}{m:List a}(h:qE R l m):m.length=l.length:=by
 induction h with
 | ac=>rfl
 | aa _ _ b=>simp[b]
theorem zhz(hT:nG P C)(Z:lB B N μ H w)(X:iG μ e I) (hc:c.callee=.builtin .len)(h:sU c C e H=some v):aJ P μ w I ⟨dst,.call c,type,K,E,F⟩ v:=by
 unfold sU at h;simp only[mA,xI]at h;obtain⟨t,ht,x,hx,ty,L,a,ha,n,d,h⟩:=h;cases h;have S:=hT.a L;have m:=X _ _ ha;obtain⟨D,R⟩:=S.c;have o:=S.b;unfold aS at o;rw[R]at o;have J:c.argTypes[0]?=some t:=by simp_all
 have M:(c.args.map I)[0]?=some (I x):=by
  simp_all
 refine⟨.int .i64 n,?_,by rw[rA];rfl⟩;rw[Rp hc];refine CB ?_;simp only[Builtin.len_,J,M,C2,vG R,C3];unfold dY at d;rw[<- o]at d;split at d
 .rename_i s u;rw[Bp]at u;subst u;simp only[qB,dD]at d;obtain⟨g,d⟩:=d;cases d;rw[rA]at m;obtain⟨a1,i,rfl⟩:=m;rw[i,Ph];cases D<;>simp[jE.c,jE.l,Nat.beq]at g;rfl
 .split at d
  .rename_i s u;rw[It]at u;subst u;simp only[qB,zD]at d;obtain⟨g,d⟩:=d;cases d;rw[rA]at m;rcases m with⟨j,Q,T,i,_⟩ | ⟨_,k,_,A,_,i,_⟩
   rotate_left
   .rw[i,k];cases D<;>simp[jE.l]at g;rfl
   rw[i];cases D<;>simp[jE.l]at g;rfl
  .split at d
   .rename_i ar q;cases d;cases D<;>simp[jE.g]at q;subst q;rfl
   .split at d
    .rename_i b g;rw[AB]at g;subst g;simp only[qB,zD,mA,dD]at d;obtain⟨g,l,hl,d⟩:=d;cases d;rw[rA]at m;obtain⟨j,T,i⟩:=m;obtain⟨rs,y,l',U,o,W⟩:=Z.bg hl T;rw[i];have z:=W.j;have r:l'.length=l.length:=by
      rcases o with rfl | ⟨p,_⟩
      .rfl
      .exact p.length_eq.symm
     rw[r]at z;simp only[P6]at z;cases D<;>simp[jE.l]at g;simp only[C2,Rn U (by simp),C3,z];rfl
    .simp only[qB,H5,B3,zD]at d;obtain⟨g,d⟩:=d;cases d;rcases g with⟨g,f⟩ | ⟨g,f⟩
     .rw[bZ.2.1]at f;subst f;rw[rA]at m;rw[m];cases D<;>simp[jE.l]at g;rfl
     .rw[bZ.2.2.1]at f;subst f;rw[rA]at m;rw[m];cases D<;>simp[jE.l]at g;rfl
def AT {p:O × O}(f:iG μ e I)(h:L4 c e=some p):∃x y,c.args = #[x,y]/\rA μ p.1 (I x)/\rA μ p.2 (I y):=by
 unfold L4 at h;split at h
 .rename_i x y d;simp only[mA]at h;obtain⟨a,g,b,i,h⟩:=h;cases h;refine⟨x,y,?_,f _ _ g,f _ _ i⟩;rw[<- mf,d]
 .cases h
theorem zhw(i:iG μ e I) (l:c.callee=.builtin .max)(h:Ao c C e H=some v):aJ P μ w I ⟨dst,.call c,type,K,E,F⟩ v:=by
 unfold Ao at h;simp only[mA,Bq]at h;obtain⟨p,m,a,j,b,k,h⟩:=h;cases h;obtain⟨x,y,d,f,g⟩:=AT i m;rw[j,rA]at f;rw[k,rA]at g;refine⟨.int a.1 (if b.2 > a.2 then b.2 else a.2),?_,?_⟩
 .rw[Rp l,d];refine CB ?_;simp[Builtin.max_,f,g,Builtin.max2]
 grind [rA,Lg]
theorem zhv(i:iG μ e I) (l:c.callee=.builtin .min)(h:An c C e H=some v):aJ P μ w I ⟨dst,.call c,type,K,E,F⟩ v:=by
 unfold An at h;simp only[mA,Bq]at h;obtain⟨p,m,a,j,b,k,h⟩:=h;cases h;obtain⟨x,y,d,f,g⟩:=AT i m;rw[j,rA]at f;rw[k,rA]at g;refine⟨.int a.1 (if b.2<a.2 then b.2 else a.2),?_,?_⟩
 .rw[Rp l,d];refine CB ?_;simp[Builtin.min_,f,g,Builtin.min2]
 grind [rA,Lg]
theorem zkx(d:nG P C)(f:lB B N μ H w)(a:iG μ e I){o:Oper}(h:(jG o.op).f C e H=some v):aJ P μ w I o v:=by
 obtain⟨dst,g,type,K,E,F⟩:=o;cases g
 case move=>exact NP (C:=C) (H:=H) a h
 case assign=>exact OD (C:=C) (H:=H) a h
 case pick=>exact NO (C:=C) (H:=H) a h
 case load=>exact NR (C:=C) (H:=H) d f a h
 case nilCheck=>exact zhu (C:=C) (H:=H) a h
 case binOp=>exact zh1 (C:=C) (H:=H) d a h
 case unOp=>exact zre (C:=C) (H:=H) a h
 case convert=>exact OB (C:=C) (H:=H) d f a h
 case makeInterface=>exact NV (C:=C) (H:=H) d a h
 case makeFunc=>exact NW (C:=C) (H:=H) a h
 case slice=>exact NN (C:=C) (H:=H) d f a h
 case fieldAddr=>exact NZ (C:=C) (H:=H) d a h
 case field=>exact NX (C:=C) (H:=H) d a h
 case indexAddr=>exact NU (C:=C) (H:=H) d a h
 case index=>exact NS (C:=C) (H:=H) d a h
 case extract=>exact OA (C:=C) (H:=H) a h
 case build=>exact OC (C:=C) (H:=H) d a h
 case typeAssert=>exact OE (C:=C) (H:=H) d a h
 case lookup=>exact NQ (C:=C) (H:=H) d f a h
 case call c=>
  have h:(lX c c.callee).f C e H=some v:=h;unfold lX at h;split at h
  .rename_i b i;cases b<;>simp only[Xv]at h
   case len=>grind [zhz]
   case max=>grind [zhw]
   case min=>grind [zhv]
   all_goals cases h
  .cases h
 all_goals
  have h:Ew C e H=some v:=h;cases h
end
end Go.Am
namespace Go.Am
open Go Go.RowKit
section
variable {a b g n off:Nat}{i:BI}{ν:Mu}{l:List O}{x:uA}{o:Obj}{elem t:TypeId}{D:Nat × Nat}{A:List Value}
def Mu.p(μ:Mu)(a:Nat)(i:BI):Mu:=⟨λb=>if b=a then some i else μ b,μ.n⟩
theorem Mu.e{μ:Mu}   : (μ.p a i) b=if b=a then some i else μ b:=rfl
theorem Mu.s{μ:Mu}  (h:μ a=none):μ.le (μ.p a i):=by
 refine⟨?_,rfl⟩
 grind [Mu.e]
theorem Mu.d{μ:Mu}   : μ.p a i a=some i:=by simp[Mu.p]
theorem cF.c{μ:Mu}(h:μ.l ν) {tm:Tm}{tmps:Array Value}(k:cF μ n tm tmps):cF ν n tm tmps:=⟨k.1,λi v a=>(k.2 i v a).d h _ _⟩
theorem Vc.m{μ:Mu}(h:μ.l ν){l:yP}{r:Loop}(k:Vc μ l r):Vc ν l r:=
 ⟨k.f,k.a,k.g,k.j.c h,k.b,k.c,k.e,by obtain⟨i,a,b⟩:=k.d;exact⟨i,h _ _ a,b⟩⟩
theorem qE.c{c d:Type}{R S:c->d->Prop}(h:∀a b,R a b->S a b){l:List c}{m:List d}(k:qE R l m):qE S l m:=by
 induction k with
 | ac=>exact .ac
 | aa a _ e=>exact .aa (h _ _ a) e
theorem Gj.c{μ:Mu}(h:μ.l ν){d:kI}{e:Deferred}(k:Gj μ d e):Gj ν d e:=by
 refine⟨?_⟩;have:=k.a;revert this
 cases d.b with
 | none=>rintro⟨i,b,c⟩;exact⟨i,h _ _ b,c⟩
 | some f=>rintro⟨j,a,g,b,c,l⟩;exact⟨j,a,g,b,c.a h,bB.q h _ _ l⟩
theorem kK.f{μ:Mu}(h:μ.l ν)   (k:kK μ i x o):kK ν i x o:=by
 cases x with
 | aa c n q=>
  obtain⟨t,elem,w,g,e,z,A,B⟩:=k;refine⟨t,elem,w,g,e,z,λj v C=>?_,B⟩;obtain⟨a,D,c,d⟩:=A j v C;exact⟨a,D,c,d.d h _ _⟩
 | aj l=>obtain⟨u,f,m,g,y,e⟩:=k;exact⟨u,f,m,g,y,e.c λa b r=>⟨r.1.d h _ _,r.2.d h _ _⟩⟩
 | ac l=>obtain⟨r,g,e⟩:=k;exact⟨r,g,e.m h⟩
 | ah l=>
  obtain⟨m,g,e⟩:=k;refine⟨m,g,?_⟩;revert e;cases l<;>cases m<;>intro e<;>first | trivial | exact e.elim | grind [qE.c,Gj.c]
 | ak s p=>exact k
section
variable {P:Program}{C:fA}{B N:Nat}{μ:Mu}{H:sA}{w:World}
theorem lB.lt(c:lB B N μ H w)  (h:μ a=some i):a<H.a:=by
 refine Nat.lt_of_not_le λb=>?_;rw[(c.r a b).1]at h;cases h
theorem lB.ap(d:lB B N μ H w){x:uA}{o:Obj}{i:BI}(p:i.b=w.heap.size)(C:i.e=false)(K:kK (μ.p H.a i) i x o):lB B N (μ.p H.a i) (B2 H x) (w.alloc o):=by
 have A:μ.le (μ.p H.a i):=Mu.s (d.r _ (B4 _)).1;have f:∀a,(Am.B2 H x).t.c a=if a=H.a then some x else H.t.c a:=λa=>G.aa _ _ _ _;refine⟨d.ak,?_,?_,?_,?_,?_,?_,?_,?_,λa y t l=>?_⟩
 .intro g J;rw[Mu.e,A3 (by have:=d.ah;have:=d.ak;omega)];exact d.ac g J
 .intro a y j l h c;rw[f,A3 (by have:=d.ah;omega)]at h;rw[Mu.e,A3 (by have:=d.ah;omega)]at c;exact d.aw a y j l h c
 .have:=d.ah;show B<=H.a+1;omega
 .have:=d.aa;simp;omega
 .intro a l;have I:H.a+1<=a:=l;rw[f,A3 (by omega)];rw[Mu.e,A3 (by omega)];exact d.r a (by omega)
 .intro a y j h c;rw[f]at h;rw[Mu.e]at c;split at h
  .rename_i e;subst e;cases h;rw[A5 rfl]at c;cases c;refine⟨o,?_,K⟩;rw[p];show(w.heap.push o)[w.heap.size]?=some o;simp
  .rename_i r;rw[A3 r]at c;obtain⟨q,u,E⟩:=d.am a y j h c;refine⟨q,?_,E.f A⟩
   all_goals grind [Below.heap_alloc]
 .intro a j l c;rw[Mu.e]at c;split at c
  .cases c;rw[p];exact⟨d.aa,by simp,C⟩
  .have:=d.aj a j l c;exact⟨this.1,by simp;omega,this.2.2⟩
 .intro a b y z j k h D c m l F v;rw[f]at h D;rw[Mu.e]at c m;by_cases s:a=H.a
  .by_cases n:b=H.a
   .rw[s,n]
   .exfalso;rw[A5 s]at c;rw[A3 n]at m;cases c;have:=(d.aj b k F m).2.1;omega
  .by_cases n:b=H.a
   .exfalso;rw[A3 s]at c;rw[A5 n]at m;cases m;have:=(d.aj a j l c).2.1;omega
   .rw[A3 s]at h c;rw[A3 n]at D m;exact d.inj a b y z j k h D c m l F v
 .obtain⟨L,u,E⟩:=d.ax a y t l;have r:a≠H.a:=λe=>by rw[e,(d.r _ (B4 _)).2]at u;cases u
  grind [Mu.e]
def lB.au(a:lB B N μ H w):lB B N μ H w.drew:=⟨a.ak,a.ac,a.aw,a.ah,a.aa,a.r,a.am,a.aj,a.inj,a.ax⟩
def World.c(w:World)(g:Nat)(o:Obj):World:={ w with heap:=w.heap.setIfInBounds g o }
theorem WN(w:World)(g:Nat)(a b:Obj):World.c (World.c w g a) g b=World.c w g b:=by
 unfold World.c;simp
theorem Ke(w:World)(g k:Nat)(o:Obj):(World.c w g o).heap[k]?=if k=g/\g<w.heap.size then some o else w.heap[k]?:=by
 grind [World.c]
theorem JQ{j:Nat}{cur:Array Value}  {v:Value}(h:w.heap[g]?=some (.cells cur t D)):w.setCell ⟨g,j,none⟩ v=World.c w g (.cells (cur.setIfInBounds j v) t D):=by
 unfold World.setCell World.c;congr 1
 grind
theorem JW{o:Nat}   : ∀(A:List Value) (i:Nat) (cur:Array Value) (w:World),w.heap[g]?=some (.cells cur t D)->(D.2<=D.1\/cur.size<=D.1) →
  o+i+A.length<=cur.size->(∀v∈A,v.oneCell'=true) →
  ∃a,a.size=cur.size/\(∀j:Nat,a[j]?=if o+i<=j/\j<o+i+A.length then A[j-(o+i)]? else cur[j]?) ∧
   (storeCells ⟨g,o,none⟩ A i).run P w=.ok () (World.c w g (.cells a t D)):=by
 intro A;induction A with
 | nil=>
  intro i cur w h _ _ _;refine⟨cur,rfl,λj=>by rw[A3 (by simp)],?_⟩;have:World.c w g (.cells cur t D)=w:=by
   unfold World.c;have:w.heap.setIfInBounds g (.cells cur t D)=w.heap:=by
    grind
   rw[this]
  rw[this];rfl
 | cons v A l=>
  intro i cur w h d b c;simp only[D6]at b;have e:g<w.heap.size:=(H4.1 h).1;have m:w.cell? ⟨g,o+i,none⟩=some (cur[o+i]'(by omega)):=by simp[World.cell?,h]
  have n:w.frozen? ⟨g,o+i,none⟩=false:=by
   grind [World.frozen?]
  have f:(store (Addr.add ⟨g,o,none⟩ i) v).run P w=.ok () (World.c w g (.cells (cur.setIfInBounds (o+i) v) t D)):=by
   grind [Dj,run_store,JQ]
  obtain⟨a,r,p,q⟩:=l (i+1) (cur.setIfInBounds (o+i) v) (World.c w g (.cells (cur.setIfInBounds (o+i) v) t D)) (by rw[Ke,A5 ⟨rfl,e⟩]) (by simp_all) (by grind) (λu k=>c u (by simp[k]))
  grind [storeCells,Sem.run_bind,Result.andThen_ok,WN]
theorem lB.be(d:lB B N μ H w) {x':uA} {o':Obj}(J:H.t.c a=some x)(hi:μ a=some i)(o:B<=a)(f:kK μ i x' o'):lB B N μ (A7 H a x') (World.c w i.b o'):=by
 have g:∀b,(Am.A7 H a x').t.c b=if b=a then some x' else H.t.c b:=λb=>G.aa _ _ _ _;have I:=(d.aj a i o hi).2.1;refine⟨d.ak,d.ac,?_,d.ah,?_,?_,?_,?_,?_,λb y t f=>?_⟩
 .intro b y j f h l;rw[g,A3 (by omega)]at h;exact d.aw b y j f h l
 .have:=d.aa;grind [World.c]
 .intro b f;have p:H.a<=b:=f;have:=d.lt hi;rw[g,A3 (by omega)];exact d.r b p
 .intro b y j h n;rw[g]at h;split at h
  .grind [Ke]
  .rename_i s;obtain⟨q,C,D⟩:=d.am b y j h n;refine⟨q,?_,D⟩;rw[Ke,A3]
   .exact C
   .rintro⟨e,_⟩;by_cases f:B<=b
    .exact s (d.inj b a y x j i h J n hi f o e)
    .have M:=(d.aw b y j (by omega) h n).1;have P:=(d.aj a i o hi).1;omega
 .intro b j f l;have:=d.aj b j f l;grind [World.c]
 .intro b c y z j k h K l F f E r;have m:∀b y,(Am.A7 H a x').t.c b=some y->∃A,H.t.c b=some A:=by
   grind
  obtain⟨A,u⟩:=m b y h;obtain⟨L,v⟩:=m c z K;exact d.inj b c A L j k u v l F f E r
 .obtain⟨n,C,D⟩:=d.ax b y t f
  grind
def Dg  (h:N<=g):Below N w (World.c w g o):=
 ⟨rfl,rfl,rfl,by simp[World.c],λk a=>by rw[Ke,A3 (by omega)]⟩
theorem bB.ac  : ∀ {A:List Value},bB μ l A->(∀a∈l,a.z=true)->∀v∈A,v.oneCell'=true:=by
 induction l with
 | nil=>grind [bB]
 | cons a l e=>
  intro A h k v b;rw[bB]at h;obtain⟨u,r,rfl,c,d⟩:=h;rcases C6.1 b with rfl | b
  .exact c.g (k a (by simp))
  grind
theorem kK.m {c:G O} {a:Option Lo}{cs cs':Array Value} {d:Nat × Nat}(h:kK μ i (.aa c n a) (.cells cs elem d))  (g:bB μ l A)
   (m:off+l.length<=n) (z:cs'.size=cs.size) (x:∀j:Nat,cs'[j]?=if off<=j/\j<off+A.length then A[j-off]? else cs[j]?):kK μ i (.aa (c.am l off) n a) (.cells cs' elem d):=by
 obtain⟨o,b,p,e,r,s,t,w⟩:=h;cases e;have k:=g.d;refine⟨cs',elem,d,rfl,by omega,by simp_all,λj v f=>?_,by simp_all⟩;rw[G.ap]at f;split at f
 .rename_i q;obtain⟨u,B,y⟩:=g.w f
  grind
 grind
theorem IV(n:B<=C.a)(m:lB B N μ H w)  {H':sA}(h:gK C H b off l=some H') (hi:μ b=some i) (p:bB μ l A) :
  ∃w',(storeCells ⟨i.b,off,none⟩ A).run P w=.ok () w'/\lB B N μ H' w'/\Below N w w':=by
 unfold gK at h;simp only[qB,mA,B3,mF,dD,gI,E7]at h;obtain⟨J,c,z,⟨q,d⟩,h⟩:=h;cases h;have e:B<=b:=by
  grind [eC]
 have t:=Ga z;obtain⟨o,x,r⟩:=m.am _ _ _ t hi;have j:=r;obtain⟨u,elem,F,rfl,I,k,_,_⟩:=r;have f:∀a∈l,a.z=true:=λa y=>C8.1 d a y;have s:=p.d;have g:=m.aj b i e hi;have k:=k.resolve_left (by simp_all);obtain⟨v,E,K,D⟩:=JW (P:=P) (o:=off) A 0 u w x k (by omega) (p.ac f);exact⟨_,D,m.be t hi e (j.m p q E (by omega)),Dg g.1⟩
theorem bB.y  (a:bB μ l A) (d:i.a=true)  : kK μ i (.aa (G.ac l) (vB l) none) (.cells A.toArray elem (0,0)):=by
 have b:=a.d;refine⟨A.toArray,elem,(0,0),rfl,by grind [dD],.inr (.inl (B4 _)),λj v c=>?_,d⟩;rw[G.o]at c;obtain⟨u,f,e⟩:=a.w c
 grind [dD]
def lB.ay(a:lB B N μ H w)  (b:bB μ l A)(elem:TypeId) :
  lB B N (μ.p H.a ⟨w.heap.size,true,0,0,false⟩) (sG H l none) (w.alloc (.cells A.toArray elem)):=
 a.ap rfl rfl ((bB.q (Mu.s (a.r _ (B4 _)).1).f _ _ b).y rfl)
theorem lB.bn(a:lB B N μ H w)  (b:bB μ l A)(elem:TypeId) :
  lB B N (μ.p H.a ⟨w.heap.size,false,1,A.length,false⟩) (sG H l (some (.a elem))) (w.alloc (.cells A.toArray elem)):=by
 have h:=(bB.q (Mu.s (a.r _ (B4 _)).1 (i:=⟨w.heap.size,false,1,A.length,false⟩)).f _ _ b);have d:=b.d;refine a.ap rfl rfl ⟨A.toArray,elem,(0,0),rfl,by grind [dD],.inr (.inl (B4 _)),λj v c=>?_,rfl,rfl,by simp,λt e=>by grind⟩;rw[G.o]at c;obtain⟨u,g,f⟩:=h.w c
 grind [dD]
def jW(h:N<=w.heap.size)(o:Obj):Below N w (w.alloc o):=(Below.refl N w).alloc h o
def Mu.u(μ:Mu)(a:Nat)(x:uA × Nat × Nat):Mu:=⟨μ.m,λb=>if b=a then some x else μ.n b⟩
def Mu.q(μ:Mu)(a:Nat)(i:BI):Mu:=⟨λb=>if b=a then some i else μ b,λb=>if b=a then none else μ.n b⟩
theorem lB.bz(f:lB B N μ H w) {t:Nat × Nat}:lB B N (μ.u H.a (x,t)) (Am.B2 H x) w:=by
 have c:∀a,(Am.B2 H x).t.c a=if a=H.a then some x else H.t.c a:=λa=>G.aa _ _ _ _;have v:=f.r _ (B4 _);have d:∀a i,μ a=some i->a≠H.a:=λa i h e=>by simp_all
 have A:∀i y o,kK μ i y o->kK (μ.u H.a (x,t)) i y o:=λi y o h=>kK.f (μ:=μ) (ν:=μ.u H.a (x,t)) (λ_ _ h=>h) h;refine⟨f.ak,f.ac,λa y i g l k=>?_,by have:=f.ah;show B<=H.a+1;omega,f.aa,λa g=>?_,λa y i l k=>?_,f.aj,λa b y z i j l p k n=>?_,λa y s g=>?_⟩
 .rw[c,A3 (d a i k)]at l;exact f.aw a y i g l k
 .have u:H.a+1<=a:=g;have:=f.r a (by omega);exact⟨this.1,by grind⟩
 .rw[c,A3 (d a i k)]at l;obtain⟨o,m,q⟩:=f.am a y i l k
  simp_all
 .rw[c,A3 (d a i k)]at l;rw[c,A3 (d b j n)]at p;exact f.inj a b y z i j l p k n
 .change (if a=H.a then some (x,t)else μ.n a)=some (y,s)at g;split at g
  .rename_i e;cases g;subst e;exact⟨v.1,by rw[c,A5 rfl],f.ah⟩
  .rename_i e;obtain⟨m,q,r⟩:=f.ax a y s g;exact⟨m,by simp_all,r⟩
theorem lB.b8(f:lB B N μ H w)  {t:Nat × Nat}  (K:μ.n a=some (x,t))(p:i.b=w.heap.size)(D:i.e=false)(L:kK (μ.q a i) i x o):lB B N (μ.q a i) H (w.alloc o):=by
 obtain⟨R,P,S⟩:=f.ax a x t K;have r:∀b,(μ.q a i) b=if b=a then some i else μ b:=λ_=>rfl;have C:μ.l (μ.q a i):=λb j d=>by
  grind
 have v:=f.ak;refine⟨f.ak,λg J=>by rw[r,A3 (by omega)];exact f.ac g J,λb y j h m d=>?_,f.ah,by have:=f.aa;simp;omega,λb h=>?_,λb y j m d=>?_,λb j h d=>?_,λb c y z j k m M d l h F A=>?_,λb y s h=>?_⟩
 .rw[r,A3 (by omega)]at d;exact f.aw b y j h m d
 .have:=f.r b h
  grind
 .rw[r]at d;split at d
  .rename_i e;subst e;cases d;rw[P]at m;cases m;exact⟨o,by rw[p];show(w.heap.push o)[w.heap.size]?=some o;simp,L⟩
  .obtain⟨q,I,E⟩:=f.am b y j m d;refine⟨q,?_,E.f C⟩
   all_goals grind [Below.heap_alloc]
 .rw[r]at d;split at d
  .cases d;rw[p];exact⟨f.aa,by simp,D⟩
  .have:=f.aj b j h d;exact⟨this.1,by simp;omega,this.2.2⟩
 .rw[r]at d l;by_cases u:b=a
  .by_cases n:c=a
   .rw[u,n]
   .exfalso;rw[A5 u]at d;rw[A3 n]at l;cases d;have:=(f.aj c k F l).2.1;omega
  .by_cases n:c=a
   .exfalso;rw[A3 u]at d;rw[A5 n]at l;cases l;have:=(f.aj b j h d).2.1;omega
   .rw[A3 u]at d;rw[A3 n]at l;exact f.inj b c y z j k m M d l h F A
 .change (if b=a then none else μ.n b)=some (y,s)at h;split at h
  .cases h
  .rename_i e;obtain⟨Q,I,E⟩:=f.ax b y s h
   simp_all
theorem lB.d(a:lB B N μ H w)  : μ.le (μ.p H.a i):=Mu.s (a.r _ (B4 _)).1
end
end
section
variable {o:Op}{x:Operand}{elem:TypeId}{t:Nat}
section
variable {P:Program}{C:fA}{B N:Nat}{μ:Mu}{H H':sA}{w:World}
variable {e:mD}{f:Operand->Value}{dst:Option Tmp}{type:TypeId}{g:String}{b:Array Edge}{d:Option (Nat × Bool)}{v:O}
def aU (P:Program)(B N:Nat)(μ:Mu)(w:World)(f:Operand->Value)(o:Oper)(v:O)(H':sA):Prop:=
 ∃c b a,((execOp f o).run P w=.ok (.value c) b\/((execOp f o).run P w=.ok .skip b/\c=undef))/\μ.le a/\lB B N a H' b/\Below N w b/\rA a v c
def aJ.a(c:lB B N μ H w){o:Oper}(h:aJ P μ w f o v):aU P B N μ w f o v H:=by
 obtain⟨d,a,b⟩:=h;exact⟨d,w,μ,.inl a,μ.g,c,Below.refl _ _,b⟩
theorem oV{x:Option (O × sA)}{v:O}{H':sA}(h:kN x=.aa v H'):x=some (v,H'):=by
 unfold kN at h;grind
def Ef {cs:Array Value}:(newRow elem cs).run P w=.ok ⟨w.heap.size,0,none⟩ (w.alloc (.cells cs elem)):=by
 simp[newRow]
def Wi {v:Value}:(newVar elem v).run P w=.ok ⟨w.heap.size,0,none⟩ (w.alloc (.cells v.cells elem)):=Ef
def HU:rA μ aD undef:=by rw[aD,rA];exact⟨_,rfl,.p⟩
theorem zao {e:Lo}(h:bL C t=some e):e=.a t:=by
 grind [bL]
def lB.bj(a:lB B N μ H w){l:List O}{c:List Value}(b:bB μ l c)  :
  ∃i:BI,i.b=w.heap.size/\lB B N (μ.p H.a i) (sG H l (bL C t)) (w.alloc (.cells c.toArray t)):=by
 cases d:bL C t with
 | none=>exact⟨_,rfl,a.ay b t⟩
 | some e=>
  have:=zao d;subst this;exact⟨_,rfl,a.bn b t⟩
theorem ziq(k:nG P C)(a:lB B N μ H w) (h:Ij t C e H=.aa v H'):aU P B N μ w f ⟨dst,.alloc t,type,g,b,d⟩ v H':=by
 have h:=oV h;simp only[mA]at h;obtain⟨o,c,h⟩:=h;cases h;obtain⟨z,n,_,j⟩:=(k.a c).e (μ:=μ);obtain⟨i,m,l⟩:=a.bj (C:=C) (t:=t) j;refine⟨.pointer (some ⟨w.heap.size,0,none⟩),w.alloc (.cells z.cells t),_,.inl ?_,a.d,by rwa [Array.toArray_toList]at l,jW a.aa _,by grind [rA,Mu.d]⟩
 simp_all [execOp,Instr.alloc,Wi]
theorem zwz(c:lB B N μ H w)(j:iG μ e f)  (h:Ff t x C e H=.aa v H'):aU P B N μ w f ⟨dst,.box t x,type,g,b,d⟩ v H':=by
 have h:=oV h;simp only[mA]at h;obtain⟨a,k,h⟩:=h;cases h;obtain⟨i,m,l⟩:=c.bj (C:=C) (t:=t) (Zq (j _ _ k));refine⟨.pointer (some ⟨w.heap.size,0,none⟩),w.alloc (.cells (f x).cells t),_,.inl ?_,c.d,by rwa [Array.toArray_toList]at l,jW c.aa _,by grind [rA,Mu.d]⟩
 simp_all [execOp,Instr.box,Wi]
theorem WV(z:List O):∀n,(kJ z n).length=n*z.length:=by
 intro n;induction n with
 | zero=>simp[kJ]
 | succ n a=>grind [kJ,wI]
theorem zmo(z:List O):∀(n j:Nat),j<n*z.length->(kJ z n)[j]?=z[j%z.length]?:=by
 intro n;induction n with
 | zero=>omega
 | succ n a=>
  grind [kJ,wI,Nat.mod_eq_of_lt,List.getElem?_append_right,Nat.mod_eq_sub_mod]
theorem CN{z:List O}{b:Array Value}(d:bB μ z b.toList)(n:Nat):bB μ (kJ z n) ((Array.range (n*z.length)).map (b[· % b.size]!)).toList:=by
 have f:=d.d;simp only[P6]at f;refine bB.mk (by simp[WV]) λj a v c i=>?_;have e:j<n*z.length:=by grind
 rw[zmo z n j e]at c;obtain⟨u,h,g⟩:=d.w c
 grind
theorem YC(u:nG P C)(s:lB B N μ H w)(K:iG μ e f){a:Nat}{c:Array (Nat × Operand)}(h:Ii t a c C e H=.aa v H'):aU P B N μ w f ⟨dst,.buildSlice t a c,type,g,b,d⟩ v H':=by
 have h:=oV h;simp only[mA,qB,B3,eC,zD,dD]at h;obtain⟨T,n,D,m,q,x,⟨M,A⟩,S,y,l,L,h⟩:=h;cases h;have r:=u.a x;obtain⟨z,R,_,o⟩:=r.e (μ:=μ);have j:=o.d;simp only[P6]at j;have i:=CN o a;rw[A]at i;obtain⟨p,I,J⟩:=Yw (K.c y) i L;have Q:p.size=l.length:=by simpa using J.d
 refine⟨.slice (some ⟨w.heap.size,0,none⟩) a a,w.alloc (.cells p D),_,.inl ?_,s.d,by have:=s.ay J D;rwa [Array.toArray_toList]at this,jW s.aa _,?_⟩
 .have F:¬ a*q.b > 2^24:=by omega
  by_cases E:a*q.b=0
  .have k:((Array.range (a*q.b)).map ((#[]:Array Value)[· % (#[]:Array Value).size]!))=(Array.range (a*q.b)).map (z.cells[· % z.cells.size]!):=by grind
   simp only[execOp,Instr.buildSlice,C2,vG (fX (u.a n) m),C3,r.a,A3 F,A5 E,E4,k,Array.toList_map,I,Ef]
  .simp only[execOp,Instr.buildSlice,C2,vG (fX (u.a n) m),C3,r.a,A3 F,A3 E,E4,R,Array.toList_map,I,Ef]
 simp_all [rA,Mu.d]
theorem zom(y:nG P C)(K:iG μ e f)(o:Oper)(S:zO o.op=true)(s:Eu C o.op=none)(h:(iF o.op).f C e H=.aa v H') :
  ∃l N v' elem,H'=sG H l none/\(execOp f o).run P w=.ok (.value v') (w.alloc (.cells N elem))/\bB μ l N.toList/\∀(ν:Mu) (i:BI),ν H.a=some i->i.b=w.heap.size->i.a=true->rA ν v v':=by
 obtain⟨dst,X,type,g,b,d⟩:=o;cases X<;>first | (simp[zO]at S;done) | skip
 case alloc t=>
  have h:=oV (show Ij t C e H=.aa v H' from h);rw[show bL C t=none from s]at h;simp only[mA]at h;obtain⟨Z,j,h⟩:=h;cases h;obtain⟨z,M,_,m⟩:=(y.a j).e (μ:=μ);refine⟨_,z.cells,.pointer (some ⟨w.heap.size,0,none⟩),t,rfl,?_,m,fun ν i p J _=>by grind [rA]⟩
  simp_all [execOp,Instr.alloc,Wi]
 case box t x=>
  have h:=oV (show Ff t x C e H=.aa v H' from h);rw[show bL C t=none from s]at h;simp only[mA]at h;obtain⟨a,R,h⟩:=h;cases h;refine⟨_,(f x).cells,.pointer (some ⟨w.heap.size,0,none⟩),t,rfl,?_,Zq (K _ _ R),fun ν i p J _=>by grind [rA]⟩
  simp_all [execOp,Instr.box,Wi]
 case buildSlice t c n=>
  have h:=oV (show Ii t c n C e H=.aa v H' from h);simp only[mA,qB,B3,eC,zD,dD]at h;obtain⟨Z,j,Q,r,u,B,⟨U,E⟩,ps,D,l,T,h⟩:=h;cases h;have A:=y.a B;obtain⟨z,M,_,m⟩:=A.e (μ:=μ);have k:=CN m c;rw[E]at k;obtain⟨F,L,W⟩:=Yw (K.c D) k T;refine⟨_,F,.slice (some ⟨w.heap.size,0,none⟩) c c,Q,rfl,?_,W,fun ν i p J h3=>by simp_all [rA]⟩;have p:¬ c*u.b > 2^24:=by omega
  by_cases I:c*u.b=0
  .have q:((Array.range (c*u.b)).map ((#[]:Array Value)[· % (#[]:Array Value).size]!))=(Array.range (c*u.b)).map (z.cells[· % z.cells.size]!):=by grind
   simp only[execOp,Instr.buildSlice,C2,vG (fX (y.a j) r),C3,A.a,A3 p,A5 I,E4,q,Array.toList_map,L,Ef]
  .simp only[execOp,Instr.buildSlice,C2,vG (fX (y.a j) r),C3,A.a,A3 p,A3 I,E4,M,Array.toList_map,L,Ef]
theorem zbs (d:zO o=true)(b:Eu C o=none)(h:(iF o).f C e H=.aa v H'):∃l,H'=sG H l none:=by
 cases o<;>first | (simp[zO]at d;done) | skip
 case alloc t=>
  have h:=oV (show Ij t C e H=.aa v H' from h);rw[show bL C t=none from b]at h;grind [mA]
 case box t x=>
  have h:=oV (show Ff t x C e H=.aa v H' from h);rw[show bL C t=none from b]at h;grind [mA]
 case buildSlice t c a=>
  have h:=oV (show Ii t c a C e H=.aa v H' from h)
  grind [mA,qB]
theorem YD{b:mD}(h:∀x,ev x e=ev x b) (d:zO o=true)(H:sA):(iF o).f C e H=(iF o).f C b H:=by
 cases o<;>first | (simp[zO]at d;done) | rfl | skip
 case box t x=>show Ff t x C e H=Ff t x C b H;grind [Ff]
 case buildSlice t a c=>show Ii t a c C e H=Ii t a c C b H;grind [Ii,I5]
def PT(D:nG P C)(c:B<=C.a)(A:lB B N μ H w)(m:iG μ e f) {a:Operand}(h:Th t a x C e H=.aa v H'):aU P B N μ w f ⟨dst,.store t a x,type,g,b,d⟩ v H':=by
 have h:=oV h;simp only[mA,qB,zD,dD,Ma]at h;obtain⟨J,l,M,E,p,rfl,R,I,Q,L,q,h⟩:=h;cases h;have z:=D.a l;have o:=m _ _ E;rw[rA]at o;obtain⟨i,F,k⟩:=o;have n:=Zq (m _ _ I);obtain⟨K,r,s,u⟩:=IV (P:=P) c A q F n;have j:=n.d;simp only[P6]at j;refine⟨undef,K,μ,.inr ⟨?_,rfl⟩,μ.g,s,u,HU⟩;have y:¬ (f x).cells.size≠J.b:=by omega
 simp only[execOp,Instr.storeAt,k,Instr.sureAddr,C2,E4,C3,storeVar,z.a,Sem.run_ite,A3 y,r]
theorem YA(a:lB B N μ H w) {r:Option Operand}(h:Tj r C e H=.aa v H'):aU P B N μ w f ⟨dst,.makeMap t r,type,g,b,d⟩ v H':=by
 unfold Tj at h;split at h
 .injection h with h1 h2;subst h1 h2;refine⟨.map (some w.heap.size),w.alloc (.map #[] 0),_,.inl ?_,a.d,a.ap (i:=⟨w.heap.size,true,0,0,false⟩) rfl rfl ⟨#[],0,[],rfl,.inl rfl,.ac⟩,jW a.aa _,by simp_all [rA,Mu.d]⟩;simp[execOp,Instr.makeMap]
 .cases h
theorem XZ(E:nG P C)(D:lB B N μ H w)(L:iG μ e f) {l c:Operand}(h:EM t l c C e H=.aa v H'):aU P B N μ w f ⟨dst,.makeSlice t l c,type,g,b,d⟩ v H':=by
 have h:=oV h;simp only[mA,qB,B3,mF,eC,zD,dD,AA]at h;obtain⟨ty,u,J,r,i,F,X,S,o,⟨k1,rfl⟩,Z,Q,a,⟨k2,rfl⟩,⟨⟨⟨h1,h2⟩,h3⟩,M⟩,h⟩:=h;cases h;have A:=E.a F;obtain⟨z,U,_,I⟩:=A.e (μ:=μ);have k:=CN I a;rw[M]at k;have n:=L _ _ S;rw[rA]at n;have m:=L _ _ Q;rw[rA]at m;obtain⟨W,j,T,q,_⟩:=A.g;refine⟨.slice (some ⟨w.heap.size,0,none⟩) o a,w.alloc (.cells ((Array.range (a*i.b)).map (z.cells[· % z.cells.size]!)) J),_,.inl ?_,D.d,by have:=D.ay k J;rwa [Array.toArray_toList]at this,jW D.aa _,?_⟩
 .have x:IntKind.i64.wrap (o:Int)=o:=Ji (by grind [zI]);have y:IntKind.i64.wrap (a:Int)=a:=Ji (by grind [zI]);have hb:(i.d:Int)*(a:Int)=((a*i.d:Nat):Int):=by grind
  have R:(((a:Int)<0||decide ((i.d:Int)*(a:Int) > 2^48))||decide ((o:Int)<0)||decide ((o:Int) > (a:Int)))=false:=by
   grind
  have s:¬ ((((a:Int)<0||decide ((i.d:Int)*(a:Int) > 2^48))||decide ((o:Int)<0)||decide ((o:Int) > (a:Int)))=true):=by simp_all
  by_cases K:a*i.b=0
  .have p:((Array.range (a*i.b)).map ((#[]:Array Value)[· % (#[]:Array Value).size]!))=(Array.range (a*i.b)).map (z.cells[· % z.cells.size]!):=by grind
   simp only[execOp,Instr.makeSlice,C2,vG (fX (E.a u) r),C3,n,m,asInt,asIntOf,E4,Kf j,q,x,y,A3 s,run_askRoom,A.a,Int.toNat_natCast,A5 K,p,Ef]
  .simp only[execOp,Instr.makeSlice,C2,vG (fX (E.a u) r),C3,n,m,asInt,asIntOf,E4,Kf j,q,x,y,A3 s,run_askRoom,A.a,Int.toNat_natCast,A3 K,U,Ef]
 simp_all [rA,Mu.d]
end
end
section
section
variable {P:Program}{C:fA}{B N:Nat}{μ:Mu}{H H':sA}{w:World}
variable {e:mD}{f:Operand->Value}{dst:Option Tmp}{type:TypeId}{E:String}{z:Array Edge}{A:Option (Nat × Bool)}{v:O}
def Pw(μ:Mu)(p:O × O)(e:MapEntry):Prop:=rA μ p.1 e.key/\rA μ p.2 e.val
theorem OT{n:Nat}{a b:O}{f g:Value}(d:rA μ a f)(e:rA μ b g)(h:qU a b=some true):Instr.sameBits n g f=true:=by
 rcases Oe h with⟨k,x,y,rfl,rfl,c⟩ | ⟨x,y,rfl,rfl,c⟩ | ⟨x,y,rfl,rfl,c⟩<;>rw[rA]at d<;>rw[rA]at e
 .grind [Instr.sameBits]
 .obtain⟨s,rfl,rfl⟩:=d;obtain⟨u,rfl,rfl⟩:=e;have i:=Zu ((eJ _ _).1 c.symm);rw[i];have j:(u == u)=true:=by
   show(u.data == u.data)=true;simp
  grind [Instr.sameBits]
 grind [Instr.sameBits]
theorem ON{n:Nat}:∀ {x y:List O} {c d:List Value},bB μ x c->bB μ y d->cY x y=some true->d.length=c.length/\((d.zip c).all fun(a,b)=>Instr.sameBits n a b)=true
 | [],[],c,d,e,f,_=>by
  simp_all [bB]
 | a::x,b::y,c,d,e,f,h=>by
  simp only[cY,mA]at h;obtain⟨r,p,s,j,h⟩:=h;cases r<;>cases s<;>simp at h;rw[bB]at e f;obtain⟨u,q,rfl,m,g⟩:=e;obtain⟨v,t,rfl,o,i⟩:=f;obtain⟨k,l⟩:=ON (n:=n) g i j
  grind [List.zip_cons_cons,OT]
 | [],_::_,_,_,_,_,h=>by cases h
 | _::_,[],_,_,_,_,h=>by cases h
theorem zbl{a b:O}{e f:Value}(c:rA μ a e)(d:rA μ b f)(h:iJ a b=some true):Instr.sameBits 10000 f e=true:=by
 rcases Tb h with⟨x,y,rfl,rfl,h⟩ | ⟨_,h⟩
 .rw[rA]at c d;obtain⟨j,rfl,g⟩:=c;obtain⟨k,rfl,i⟩:=d;obtain⟨l,m⟩:=ON (n:=9999) g i h
  grind [Instr.sameBits]
 grind [OT]
theorem JO{k v:O}{kv o:Value}(n:rA μ k kv)(y:rA μ v o){F:List MapEntry->Nat->Sem (Option (Nat × Value))}(g:∀i,(F [] i).run P w=.ok none w)
  (m:∀(p:O) (e:MapEntry) (es:List MapEntry) (i:Nat) (q:Bool),rA μ p e.key->iJ k p=some q->(F (e::es) i).run P w=if q then .ok (some (i,e.val)) w else(F es (i+1)).run P w) {l:List (O × O)} {es:List MapEntry} (B:qE (Pw μ) l es) :
  ∀ {i:Nat} {f:List (O × O)},lQ k v l=some f →
   (∃(j:Nat) (d:MapEntry),(F es i).run P w=.ok (some (i+j,d.val)) w/\es[j]?=some d/\Instr.sameBits 10000 d.key kv=true/\qE (Pw μ) f (es.set j { d with key:=kv,val:=o })) ∨
   ((F es i).run P w=.ok none w/\∀a,qE (Pw μ) f (es++[⟨kv,o,a⟩])):=by
 induction B with
 | ac=>intro i f h;rw[lQ]at h;cases h;exact .inr ⟨g i,λa=>.aa ⟨n,y⟩ .ac⟩
 | @aa p e l es b c D=>
  intro i f h;rw[lQ,mA]at h;obtain⟨q,x,h⟩:=h;have s:=m p.1 e es i q b.1 x
  cases q with
  | true=>
   rw[cond_true]at h;cases h;refine .inl ⟨0,e,by grind,by simp,zbl n b.1 x,?_⟩;exact .aa ⟨n,y⟩ c
  | false=>
   rw[cond_false,mA]at h;obtain⟨r,C,h⟩:=h;cases h;simp only[F5,if_false]at s;rcases D (i:=i+1) C with⟨j,d,t,u,z,A⟩ | ⟨t,u⟩
   .refine .inl ⟨j+1,d,?_,by simp_all,z,?_⟩
    .rw[s,t,show i+1+j=i+(j+1) by omega]
    .exact .aa b A
   .exact .inr ⟨by simp_all,λa=>.aa b (u a)⟩
theorem zfp(N:nG P C){t:Nat}{ty:jD}(u:C.b.c t=some ty)(H:aY C ty=true){k v:O}{kv L:Value}(c:xW C ty k=true)(y:rA μ k kv)(R:rA μ v L){l K:List (O × O)}{es:List MapEntry}(Q:qE (Pw μ) l es)(h:lQ k v l=some K) :
  (∃(j:Nat) (n:MapEntry),(Instr.findKey t kv es).run P w=.ok (some (j,n.val)) w/\es[j]?=some n/\Instr.sameBits 10000 n.key kv=true/\qE (Pw μ) K (es.set j { n with key:=kv,val:=L })) ∨
   ((Instr.findKey t kv es).run P w=.ok none w/\∀o,qE (Pw μ) K (es++[⟨kv,L,o⟩])):=by
 have B:=N.a u;rcases EH H with b | ⟨fs,b,m,I,E⟩
 .obtain⟨D,U⟩:=B.c;have a:=DW B U b (DY b c);have W:∀(q:Option (Nat × Value)),Instr.findNow D kv es 0=some q->(Instr.findKey t kv es).run P w=.ok q w:=by
   simp_all [Instr.findKey,vG]
  have M : ∀ (q : Option (Nat × Value)), ((λes i => (match Instr.findNow D kv es i with | some r => pure r | none => stuck "" : Sem (Option (Nat × Value)))) es 0).run P w = .ok q w -> Instr.findNow D kv es 0 = some q := by
   intro q d;simp only[]at d
   cases Z:Instr.findNow D kv es 0 with
   | none=>simp_all
   | some r=>rw[Z]at d;simp only[E4]at d;injection d with s _;rw[s]
  have f : ∀ (p : O) (e : MapEntry) (es : List MapEntry) (i : Nat) (q : Bool), rA μ p e.key -> iJ k p = some q -> ((λes i => (match Instr.findNow D kv es i with | some r => pure r | none => stuck "" : Sem (Option (Nat × Value)))) (e :: es) i).run P w = if q then .ok (some (i, e.val)) w else ((λes i => (match Instr.findNow D kv es i with | some r => pure r | none => stuck "" : Sem (Option (Nat × Value)))) es (i + 1)).run P w := by
   intro p e es i q J d;have s:=JU a y J (a.j d);simp only[Instr.findNow,s];cases q<;>rfl
  rcases JO (P := P) (w := w) (F := λes i => match Instr.findNow D kv es i with | some r => pure r | none => stuck "") y R (λi => rfl) f Q (i := 0) h with ⟨j, n, z, A, S, T⟩ | ⟨z, A⟩
  all_goals grind
 .obtain⟨x,rfl,hx⟩:=DX b m c;obtain⟨g,X,rfl⟩:=Lr B m;rw[QQ X];have f:∀(p:O) (e:MapEntry) (es:List MapEntry) (i:Nat) (q:Bool),rA μ p e.key->iJ (.i x) p=some q->(Instr.findAsking t kv (e::es) i).run P w=if q then .ok (some (i,e.val)) w else(Instr.findAsking t kv es (i+1)).run P w:=by
   intro p e es i q J d;have s:=OP (P:=P) (w:=w) N u m I E hx y J d;simp only[Instr.findAsking,C2,s,C3];cases q<;>rfl
  rcases JO (P:=P) (w:=w) (F:=λes i=>Instr.findAsking t kv es i) y R (λi=>rfl) f Q (i:=0) h with⟨j,n,z,A,S,T⟩ | ⟨z,A⟩
  all_goals grind
def Nc{r:Nat}{o o':Obj}(h:w.heap[r]?=some o)(d:∀a b c,o≠.cells a b c):(setObj r o').run P w=.ok () (World.c w r o'):=by
 simp only[setObj,Sem.run,h];rfl
theorem XV(D:nG P C)(J:B<=C.a)(A:lB B N μ H w)(z:iG μ e f){t:Nat}{m k x:Operand}(h:Ih t m k x C e H=.aa v H') :
  ∃w',(Instr.mapUpdate t (f m) (f k) (f x)).run P w=.ok () w'/\lB B N μ H' w'/\Below N w w'/\v=aD:=by
 have h:=oV h;simp only[mA,qB,AB,E7]at h;obtain⟨ty,Q,ke,K,a7,g,s,mv,hm,b,rfl,a1,l,L,kv,T,n,xv,hx,l',M,h⟩:=h;cases h;have Z:=D.a g;have p:=z _ _ hm;rw[rA]at p;obtain⟨i,E,p⟩:=p;obtain⟨r,a,lp,h1,q,U⟩:=A.bg L E;obtain⟨y,u,c⟩:=WK q M;have I:B<=b:=by
  grind [eC]
 have o:=A.aj b i I E;have hu:=RX (D.a Q) K;have a6:=SV (P:=P) (w:=w) (empty:=false) (d:=9998) (kv:=f k) D g s n (z _ _ T);rcases zfp (P:=P) (w:=w) D g s n (z _ _ T) (z _ _ hx) U u with⟨j,R,W,S,h5,X⟩ | ⟨W,S⟩
 .have F:r[j]?=some R:=by simp_all
  have hj:j<r.size:=(H4.1 F).1;refine⟨World.c w i.b (.map (r.modify j λe=>{ e with key:=f k,val:=f x }) a),?_,A.be (Zx L) E I ⟨_,a,y,rfl,c,?_⟩,Dg o.1,rfl⟩
  .simp_all [Instr.mapUpdate,vG,Rn,Instr.keyThatStays,Nc]
  .have:(r.modify j λe=>{ e with key:=f k,val:=f x }).toList=r.toList.set j { R with key:=f k,val:=f x }:=by
    apply List.ext_getElem?
    grind
   rw[this];exact X
 .refine⟨World.c w i.b (.map (r.push { key:=f k,val:=f x,born:=a }) (a+1)),?_,A.be (Zx L) E I ⟨_,a+1,y,rfl,c,?_⟩,Dg o.1,rfl⟩
  .simp_all [Instr.mapUpdate,vG,Rn,Nc]
  .rw[Array.toList_push];exact S a
theorem Yi(i:nG P C)(a:B<=C.a)(g:lB B N μ H w)(d:iG μ e f){t:Nat}{m k x:Operand}(h:Ih t m k x C e H=.aa v H') :
  aU P B N μ w f ⟨dst,.mapUpdate t m k x,type,E,z,A⟩ v H'/\aU P B N μ w f ⟨dst,.insert t m k x,type,E,z,A⟩ v H':=by
 obtain⟨j,l,b,c,rfl⟩:=XV (P:=P) i a g d h;constructor
 all_goals
  refine⟨undef,j,μ,.inr ⟨?_,rfl⟩,μ.g,b,c,HU⟩
  grind [execOp,Sem.run_bind,Result.andThen_ok,Sem.run_pure]
theorem TI(s:ByteArray):bB μ (De (rG s)) (s.data.map λb=>Value.int .u8 b.toNat).toList:=by
 grind [bB.mk,De,rG,rA]
theorem ZJ(l:List Nat):(De l).length=l.length:=by simp[De]
theorem lB.bc(e:lB B N μ H w){l:List O}{cs:Array Value}{lo:Lo}(f:l.length<=cs.size)(h:∀(j:Nat) a,l[j]?=some a->∃v,cs[j]?=some v/\rA μ a v)(elem:TypeId)(b:Nat × Nat)(d:b.2<=b.1\/cs.size<=b.1)(c:∀t,lo=.a t->elem=t) :
  lB B N (μ.p H.a ⟨w.heap.size,false,lo.c,cs.size,false⟩) (sG H l (some lo)) (w.alloc (.cells cs elem b)):=by
 refine e.ap rfl rfl ⟨cs,elem,b,rfl,by grind [dD],.inr d,λj v g=>?_,rfl,rfl,rfl,c⟩;rw[G.o]at g;obtain⟨u,k,i⟩:=h j v g;exact⟨by grind [dD],u,k,i.d e.d.f _ _⟩
def zxo(a old:Nat)(elem:TypeId)(t:Nat):a<=(Question.appendCap a old elem).cut t:=by simp[Question.cut]
theorem JY(a old:Nat)(elem:TypeId):∃c,a<=c/\(choose (.appendCap a old elem)).run P w=.ok c w.drew:=by
 simp_all [zxo,Question.forced]
def Lz:Below N w w.drew:=(Below.refl N w).drew
theorem VM(h:lB B N μ H w){el:Nat}(s:ByteArray):∃w' cap,(Conv.stringToBytes el s).run P w=.ok (.slice (some ⟨w.heap.size,0,none⟩) s.size cap) w'/\s.size<=cap ∧
  lB B N (μ.p H.a ⟨w.heap.size,false,1,cap,false⟩) (sG H (De (rG s)) (some (.a el))) w'/\Below N w w':=by
 obtain⟨cap,c,n⟩:=JY (P:=P) (w:=w) s.size 0 el
 let cs:Array Value:=(s.data.map λb=>Value.int .u8 b.toNat)++Array.replicate (cap-s.size) (.int .u8 0)
 have g:cs.size=cap:=by simp[cs];omega
 have i:(s.data.map λb=>Value.int .u8 b.toNat).size=s.size:=by simp
 have f:∀X:Obj,(w.drew.heap.push X)[w.heap.size]?=some X:=λX=>by show(w.heap.push X)[w.heap.size]?=_;simp
 refine⟨w.drew.alloc (.cells cs el (cap,cap+1)),cap,?_,c,?_,(Lz).trans (jW (by simpa using h.aa) _)⟩
 .unfold Conv.stringToBytes;have o:(w.drew.alloc (.cells cs el)).freeze ⟨w.heap.size,cap,none⟩ 1=w.drew.alloc (.cells cs el (cap,cap+1)):=by
   unfold World.freeze;rw[A3 (by simp)];unfold World.alloc;congr 1
   grind
  have d:(w.drew.alloc (.cells cs el)).shape? w.heap.size=some (el,cs.size):=by
   grind [World.shape?,World.alloc]
  simp only[C2,n,C3,Ef,markStringish,run_shape];have k:(w.drew.alloc (.cells cs el)).shape? w.drew.heap.size=some (el,cap):=by simp_all
  simp only[show((s.data.map λb=>Value.int .u8 (b.toNat:Int))++Array.replicate (cap-s.size) (Value.int .u8 0))=cs from rfl,k,run_freeze,C3,E4]
  simp_all
 .have:=(h.au).bc (l:=De (rG s)) (cs:=cs) (lo:=.a el) (by grind [ZJ,Ph]) (λj a m=>?_) el (cap,cap+1) (.inr (by omega)) (λt e=>by grind)
  .rw[g]at this;exact this
  .obtain⟨u,q,p⟩:=(TI (μ:=μ) s).w m
   grind
theorem YB(i:nG P C)(g:lB B N μ H w)(y:iG μ e f){s d:Nat}{x:Operand}(h:Cy s d x C e H=.aa v H'):aU P B N μ w f ⟨dst,.convert s d x,type,E,z,A⟩ v H':=by
 unfold Cy at h;split at h
 .rename_i u M;injection h with j t;subst j t;exact(OB i g y M).a g
 .have h:=oV h;simp only[mA,qB,hO,Bp,dD]at h;obtain⟨T,p,U,q,el,m,R,n,k,L,rfl,a,K,l,rfl,h⟩:=h;cases h;have D:=y _ _ K;rw[rA]at D;obtain⟨b,r,rfl⟩:=D;obtain⟨F,c,j,t,I,J⟩:=VM (P:=P) (el:=el) g b;obtain⟨Q,o⟩:=(i.a p).c;refine⟨.slice (some ⟨w.heap.size,0,none⟩) b.size c,F,_,.inl ?_,g.d,I,J,?_⟩
  .have S:(convert s d (f x)).run P w=.ok (.slice (some ⟨w.heap.size,0,none⟩) b.size c) F:=by
    rw[r];simp only[convert,C2,vG o,vG (fX (i.a q) m),C3];cases Q<;>simp only[vG (FU (i.a n) L),C3,j]
   grind [execOp,Sem.run_bind,Result.andThen_ok,Sem.run_pure]
  simp_all [rA,Ph,Mu.d]
end
end
section
variable {i:BI}{a:O}{x:Value}{b cap el D n R S:Nat}{E:jD}{new:List O}{u:TypeDesc}{base:Option Addr}{F:Array TypeId}{args cs:Array Value}{K:List Value}{elem:TypeId}{Q:Nat × Nat}
section
variable {P:Program}{C:fA}{B N:Nat}{μ:Mu}{H H':sA}{w:World}
variable {e:mD}{M:Operand->Value}{dst:Option Tmp}{type:TypeId}{T:String}{I:Array Edge}{J:Option (Nat × Bool)}{v:O}
theorem lB.bt(d:lB B N μ H w)(b:Nat)(o:∀x t,μ.n b≠some (x,t)):lB B N μ ⟨H.a,H.t.q b⟩ w:=by
 have g:∀a,(H.t.q b).c a=if a=b then none else H.t.c a:=λa=>G.e _ _ _;have e:∀a x,(H.t.q b).c a=some x->a≠b/\H.t.c a=some x:=by
  simp_all
 refine⟨d.ak,d.ac,λa x i f h=>d.aw a x i f (e a x h).2,d.ah,d.aa,λa f=>⟨(d.r a f).1,?_⟩,λa x i h=>d.am a x i (e a x h).2,d.aj,λa c x y i j h k=>d.inj a c x y i j (e a x h).2 (e c y k).2,λa x t f=>?_⟩
 rotate_left
 .obtain⟨l,m,n⟩:=d.ax a x t f
  grind
 rw[g];split
 .rfl
 .exact(d.r a f).2
theorem lB.b7(c:lB B N μ H w){y:uA}{o':Obj} (L:N<=i.b/\i.b<w.heap.size/\i.e=false)(p:∀a x j,B<=a->H.t.c a=some x->μ a=some j->j.b≠i.b)(M:kK (μ.p H.a i) i y o') :
  lB B N (μ.p H.a i) (Am.B2 H y) (World.c w i.b o'):=by
 have u:μ.le (μ.p H.a i):=c.d;have d:∀a,(Am.B2 H y).t.c a=if a=H.a then some y else H.t.c a:=λa=>G.aa _ _ _ _;have v:(World.c w i.b o').heap.size=w.heap.size:=by simp[World.c]
 refine⟨c.ak,?_,?_,?_,?_,?_,?_,?_,?_,λa x t l=>?_⟩
 .intro g J;rw[Mu.e,A3 (by have:=c.ah;have:=c.ak;omega)];exact c.ac g J
 .intro a x j l f h;rw[d,A3 (by have:=c.ah;omega)]at f;rw[Mu.e,A3 (by have:=c.ah;omega)]at h;exact c.aw a x j l f h
 .have:=c.ah;show B<=H.a+1;omega
 .omega
 .intro a l;have I:H.a+1<=a:=l;rw[d,A3 (by omega)];rw[Mu.e,A3 (by omega)];exact c.r a (by omega)
 .intro a x j f m;rw[d]at f;rw[Mu.e]at m;split at f
  .grind [Ke]
  .rename_i n;rw[A3 n]at m;obtain⟨q,o,C⟩:=c.am a x j f m;refine⟨q,?_,C.f u⟩;rw[Ke,A3]
   .exact o
   .rintro⟨e,_⟩;by_cases D:B<=a
    .grind
    .have K:=(c.aw a x j (by omega) f m).1;omega
 .intro a j l h;rw[Mu.e]at h;rw[v];split at h
  .simp_all
  .exact c.aj a j l h
 .intro a b x z j k f A h s l D r;rw[d]at f A;rw[Mu.e]at h s;by_cases E:a=H.a
  .grind
  .by_cases F:b=H.a
   .grind
   .rw[A3 E]at f h;rw[A3 F]at A s;exact c.inj a b x z j k f A h s l D r
 .obtain⟨m,o,C⟩:=c.ax a x t l;have n:a≠H.a:=λe=>by rw[e,(c.r _ (B4 _)).2]at o;cases o
  grind [Mu.e]
def zhn  (b:rA μ a x) (h:Hz a=some n):(Builtin.lenOf x).run P w=.ok n w:=by
 unfold Hz at h;split at h
 .rename_i s d;cases h;rw[It]at d;subst d;rw[rA]at b;rcases b with⟨i,c,_,rfl,_⟩ | ⟨_,k,_,A,_,rfl,_⟩
  .rfl
  .rw[k];rfl
 .split at h
  .rename_i s d;rw[Bp]at d;subst d;rw[rA]at b;obtain⟨e,rfl,rfl⟩:=b;rw[dD,Ph]at h;cases h;rfl
  .rw[qB,zD,bZ.2.1]at h;obtain⟨rfl,h⟩:=h;cases h;rw[rA]at b;subst b;rfl
theorem QP(r:lB B N μ H w)  (e:rA μ a x){d:Nat}{l:List O}(o:Hz a=some n)(h:qZ H d n a=some l) :
  ∃g:List Value,(Builtin.firstCells d n x).run P w=.ok g.toArray w/\bB μ l g:=by
 unfold qZ at h;split at h
 .rename_i s f;rw[It]at f;subst f;simp only[mA]at h;obtain⟨c,t,h⟩:=h;rw[rA]at e;rcases e with⟨i,v,u,rfl,_⟩ | ⟨_,k,_,A,_,rfl,_⟩
  rotate_left
  .have j:n=0:=by
    have o:some s.2.2.1=some n:=o
    simp_all
   subst j;rw[Nat.zero_mul]at h;cases h;exact⟨[],by show(loadCells A (0*d)).run P w=_;rw[Nat.zero_mul];rfl,.p⟩
  obtain⟨g,_,p,q,_⟩:=r.ba (P:=P) t u h;exact⟨g,q,p⟩
 .split at h
  .rename_i s f;rw[Bp]at f;subst f;cases h;rw[rA]at e;obtain⟨m,rfl,rfl⟩:=e;refine⟨((m.extract 0 n).data.map λb=>Value.int .u8 b.toNat).toList,by rw[Array.toArray_toList];rfl,?_⟩
   grind [eV,TG,TI]
  .rw[qB,zD,bZ.2.1]at h;obtain⟨rfl,h⟩:=h;cases h;rw[rA]at e;subst e;exact⟨[],rfl,.p⟩
theorem zis(a:Nat):∀(r c:Nat),c<a->Builtin.growBy a r c<=a+(a+768) / 4:=by
 intro r;induction r with
 | zero=>grind [Builtin.growBy]
 | succ r d=>
  intro c h;rw[Builtin.growBy,A3 (by omega)];by_cases b:c+(c+768) / 4<a
  .grind
  .cases r with
   | zero=>rw[Builtin.growBy];omega
   | succ r=>grind [Builtin.growBy]
theorem zbc(a cap:Nat)(h:cap<a):Builtin.nextslicecap a cap<=2*a+192:=by
 grind [Builtin.nextslicecap,zis]
structure UN (E:jD) (D cap n:Nat) (new:List O):Prop where
 a:D+n+cap<1000000000
 c:(D+n+cap)*E.d<1000000000
 b:E.d<1000000000
 size:E.b≠0
 d:new.length=n*E.b
 e:E.c.length=E.b
def EN   (h:sZ E D cap n new=true):UN E D cap n new:=by
 unfold sZ at h;simp only[B3,eC,E7,R5,zD,dD]at h;obtain⟨⟨⟨⟨⟨a,b⟩,c⟩,d⟩,e⟩,f⟩:=h;exact⟨a,b,c,d,e,f⟩
def HK(z:Array Value)(n:Nat):(Builtin.zeroCells z n).size=n*z.size:=by simp[Builtin.zeroCells]
theorem Wm   (i:P.underlying R=some (.slice el))(m:P.underlying S=some u)(A:∀k,u≠.int k)(o:bO P el E)
  (j:F[0]?=some R) (l:F[1]?=some S) (e:args[0]?=some (.slice base D cap)) (f:args[1]?=some x) (v:(Builtin.lenOf x).run P w=.ok n w) (h:¬ D+n<=cap)
  (J:D+n<1000000000) (I:(D+n)*E.d<1000000000) (s:E.d<1000000000) {old new:Array Value} {z:Value} (d:(Builtin.firstCells E.b D (.slice base D cap)).run P w.drew=.ok old w.drew) (c:(Builtin.firstCells E.b n x).run P w.drew=.ok new w.drew)
  (B:∀w,(zeroValue el).run P w=.ok z w) :
  ∃newCap,D+n<=newCap/\(Builtin.append_ F type args).run P w=.ok (.slice (some ⟨w.heap.size,0,none⟩) (D+n) newCap) (w.drew.alloc (.cells (old++new++Builtin.zeroCells z.cells (newCap-(D+n))) el)):=by
 obtain⟨C,b,y,g,_⟩:=o.g;obtain⟨newCap,a,t⟩:=JY (P:=P) (w:=w) (D+n) cap el;refine⟨newCap,a,?_⟩;have p:¬ (((D+n:Nat):Int) > IntKind.i64.max/\(False\/E.d=0)):=by
  have:IntKind.i64.max=9223372036854775807:=by decide
  omega
 have q:¬ Builtin.nextslicecap (D+n) cap*E.d > 2^48:=by
  have r:=zbc (D+n) cap (by omega);have H:Builtin.nextslicecap (D+n) cap*E.d<=(2*(D+n)+192)*E.d:=D4 _ r
  grind
 unfold Builtin.append_;simp only[j,l,e,f,C2,vG i,vG m,C3,o.a,E4];cases u<;>first
  | exact absurd rfl (A _)
  | simp only[F5,if_false,L0,if_true,v,A3 h,C3,Kf b,g,C2,Sem.run_ite,E4,A3 p,A3 q,t,run_askRoom,d,c,B,Ef,World.size_drew]
theorem Wl   (d:P.underlying R=some (.slice el))(g:P.underlying S=some u)(o:∀k,u≠.int k)(j:bO P el E)
  (e:F[0]?=some R) (f:F[1]?=some S) (b:args[0]?=some (.slice base D cap)) (c:args[1]?=some x) (m:(Builtin.lenOf x).run P w=.ok n w) (l:D+n<=cap)
  {new:Array Value} {w':World} (h:(Builtin.firstCells E.b n x).run P w=.ok new w) (i:(match base with | some a=>storeCells (a.add (D*E.b)) new.toList | none=>pure ():Sem Unit).run P w=.ok () w') :
  (Builtin.append_ F type args).run P w=.ok (.slice base (D+n) cap) w':=by
 unfold Builtin.append_;simp only[e,f,b,c,C2,vG d,vG g,C3,j.a,E4];grind [Result.andThen_ok,Sem.run_bind,Sem.run_pure]
@[simp] theorem Lo.d (n:Nat):(Lo.b n).c=n:=rfl
@[simp] theorem Lo.f (n:Nat):(Lo.a n).c=1:=rfl
theorem Pb(e:Nat)(E:jD):(wO e E).c=E.b:=by
 unfold wO;rw[bD];split
 all_goals simp_all
theorem zj4{e t:Nat} (h:wO e E=.a t):e=t:=by
 grind [wO]
theorem DN{a b:Lo}:M8 a b=true ↔ a=b:=by
 cases a<;>cases b<;>simp[M8,zD]
theorem lB.az(o:lB B N μ H w) {newCap:Nat}{old:List O}{e:List Value}{z:Array Value}(f:UN E D cap n new)(q:bB μ E.c z.toList)(b:D+n<=newCap)(i:bB μ old e)(c:old.length=D*E.b)(h:bB μ new K)(el:TypeId) :
  lB B N (μ.p H.a ⟨w.heap.size,false,E.b,newCap*E.b,false⟩) (sG H (old++new) (some (wO el E))) (w.alloc (.cells (e.toArray++K.toArray++Builtin.zeroCells z (newCap-(D+n))) el)):=by
 have d:=q.d;simp only[P6]at d;have k:=i.d;have m:=h.d;have g:(e.toArray++K.toArray++Builtin.zeroCells z (newCap-(D+n))).size=newCap*E.b:=by
  simp only[Array.size_append,List.size_toArray,HK,k,m,c,f.d,d,f.e];rw[<- D7,<- D7];simp_all
 have:=o.bc (l:=old++new) (cs:=e.toArray++K.toArray++Builtin.zeroCells z (newCap-(D+n))) (lo:=wO el E) ?_ ?_ el (0,0) (.inl (B4 _)) λt=>zj4
 .grind [Pb]
 .rw[g,E1,c,f.d,<- D7];exact D4 _ b
 .intro j a p;obtain⟨v,s,r⟩:=(i.o h).w p
  grind
theorem zuz(a:B<=C.a)(c:lB B N μ H w)   {s:Nat × Nat × Nat × Nat}(h:Cz C H E n new s=some (v,H')) (hi:μ s.1=some i){d:List Value}(b:bB μ new d) :
  v=.m s.1 s.2.1 (s.2.2.1+n) s.2.2.2/\∃w',(storeCells (Addr.add ⟨i.b,s.2.1,none⟩ (s.2.2.1*E.b)) d.toArray.toList).run P w=.ok () w'/\lB B N μ H' w'/\Below N w w':=by
 unfold Cz at h;split at h
 .cases h;rw[bB]at b;subst b;exact⟨rfl,w,rfl,c,Below.refl _ _⟩
 .rw[mA]at h;obtain⟨f,e,h⟩:=h;cases h;obtain⟨w',g,j,k⟩:=IV (P:=P) a c e hi b
  grind [Dj]
theorem zlo {p:G O × Nat × Option Lo}(c:lB B N μ H w)(h:eD H b=some p) (hi:μ b=some i)(f:p.2.2=none):i.a=true:=by
 obtain⟨o,d,a⟩:=c.am _ _ _ (Ga h) hi;obtain⟨cs,elem,Q,_,_,_,_,e⟩:=a
 simp_all
theorem XW    (h:w.heap[b]?=some (.cells cs elem Q)) (a:n<=cs.size):(loadCells ⟨b,0,none⟩ n).run P w=.ok (cs.toList.take n).toArray w:=by
 have:=run_loadCells_list (P:=P) w ⟨b,0,none⟩ (cs.toList.take n) λj v c=>by
  grind [Dj,World.cell?]
 rwa [mj,P6,Nat.min_eq_left a]at this
theorem MS{n:Mu}{j:BI}{c:G O}{m L:Nat}{es:Lo}{b:Array Value}{el:TypeId}{d:Nat × Nat}(g:μ.l n)(h:kK μ i (.aa c m (some es)) (.cells cs elem Q))  (E:bB μ new K)
  {f:Nat} (M:m<=f) (z:L+new.length=f) (w:f<=b.size) (q:d.2<=d.1\/b.size<=d.1) (y:∀k,k<L->b[k]?=cs[k]?) (x:∀k,k<new.length->b[L+k]?=K[k]?)
  (r:j.a=false/\j.d=es.c/\j.c=b.size) (l:∀t,es=.a t->el=t):kK n j (.aa (c.am new L) f (some es)) (.cells b el d):=by
 obtain⟨A,p,B,e,H,I,C,J⟩:=h;cases e;refine⟨b,el,d,rfl,w,.inr q,λk v o=>?_,r.1,r.2.1,r.2.2,l⟩;rw[G.ap]at o;split at o
 .rename_i D;obtain⟨u,F,s⟩:=E.w o;refine⟨by omega,u,?_,s.d g _ _⟩
  grind
 .rename_i D;obtain⟨a,u,F,s⟩:=C k v o;refine⟨by omega,u,?_,s.d g _ _⟩
  grind
theorem zbm(hT:nG P C)(ao:B<=C.a)(b:lB B N μ H w)(hE:iG μ e M){c:Call}(hc:c.callee=.builtin .append)(h:Oi c C e H=.aa v H'):aU P B N μ w M ⟨dst,.call c,type,T,I,J⟩ v H':=by
 have h:=oV h;simp only[mA,qB,xI,E7,R5]at h;obtain⟨R,br,ty,bi,S,bs,bt,b2,al,p,hp,h⟩:=h;obtain⟨X,Y,bn,hX,hY⟩:=AT hE hp;unfold Br at h;simp only[mA]at h;obtain⟨el,b7,E,b8,n,hn,new,aj,h⟩:=h;have hF:=hT.a b8;obtain⟨z,hz,_,ai⟩:=hF.e (μ:=μ);have hU:=hT.a b2;obtain⟨U,g⟩:=hU.c;have l:∀k,U≠.int k:=by
  intro k e;subst e;have h0:=hU.b;unfold aS at h0;rw[g]at h0;rw[<- h0]at al;exact al rfl
 have y:c.argTypes[0]?=some R:=by simp_all
 have D:c.argTypes[1]?=some S:=by simp_all
 have d:(c.args.map M)[0]?=some (M X):=by simp_all
 have m:(c.args.map M)[1]?=some (M Y):=by simp_all
 have q:=zhn (P:=P) (w:=w) hY hn;obtain⟨K,ah,ab⟩:=QP (P:=P) b hY hn aj;obtain⟨ad,a7,F⟩:=QP (P:=P) b.au hY hn aj;have L:∀ {v' w'},(Builtin.append_ c.argTypes type (c.args.map M)).run P w=.ok v' w'->(execOp M ⟨dst,.call c,type,T,I,J⟩).run P w=.ok (.value v') w':=by
  simp_all [Rp,builtin]
 have u:=fX (hT.a bi) b7;split at h
 .rename_i s hs;rw[It]at hs;rw[hs,rA]at hX;rcases hX with⟨i,a1,hi,au,bk,bh,bf⟩ | ⟨k1,k3,k4,A,rc,au,k2⟩
  rotate_left
  .rw[au]at d;rw[bD]at h;simp only[mF]at h;obtain⟨sb,so,sl,sc⟩:=s;simp only at k1 k2 k3 k4;subst k1 k3 k4;simp only at h;split at h
   .rename_i ba;have ag:n=0:=by omega
    subst ag;unfold Cz at h;split at h
    .cases h;rw[bB]at ab;subst ab;refine⟨.slice (some A) 0 rc,w,μ,.inl (L ?_),μ.g,b,Below.refl _ _,by grind [rA]⟩;have:=Wl (type:=type) (w':=w) u g l hF y D d m q (by omega) ah rfl;omega
    .rw[mA]at h;obtain⟨H1,h1,_⟩:=h;unfold gK at h1;rw[qB,E7]at h1;have h2:=h1.1;have:=b.ak
     grind [eC]
   .rename_i b9;unfold Bb at h;simp only[qB,mA]at h;obtain⟨bc,hg,cc,ae,h⟩:=h;obtain⟨rfl,rfl⟩:so=0/\rc=0:=by
     rcases k2 with k2 | rfl
     all_goals simp_all
    have f:=EN hg;have a8:(0+n)*E.d<1000000000:=K8 (D4 _ (by omega)) f.c;split at h
    .rename_i ac;unfold Oj at h;rw[mA]at h;obtain⟨old,r,h⟩:=h;cases h;simp only[Nat.zero_mul]at r;cases r;obtain⟨nc,aa,hr⟩:=Wm (w:=w) u g l hF y D d m q (by omega) (by have:=f.a;omega) a8 f.b (old := #[]) (new:=ad.toArray) (z:=z) (by show(loadCells A (0*E.b)).run P w.drew=_;rw[Nat.zero_mul];rfl) a7 hz;rw[wI];have af:=b.au.az f ai aa (bB.p (μ:=μ)) (by simp) F el;refine⟨_,_,_,.inl (L hr),b.d,af,Lz.trans (jW b.au.aa _),?_⟩
     simp_all [rA,Mu.d]
    .rename_i es Z;unfold Lj at h;simp only[qB,B3,zD,mF,gI,E7]at h;obtain⟨⟨⟨⟨⟨⟨h1,h2⟩,h3⟩,h4⟩,h5⟩,h6⟩,h⟩:=h;have:=b.ak
     grind [eC]
  rw[au]at d;rw[bD]at h;simp only[mF]at h;split at h
  .rename_i ba;obtain⟨rfl,w',h1,h2,h3⟩:=zuz (P:=P) ao b h hi ab;refine⟨.slice (some ⟨i.b,s.2.1,none⟩) (s.2.2.1+n) a1,w',μ,.inl (L ?_),μ.g,h2,h3,?_⟩
   .exact Wl u g l hF y D d m q (by omega) ah h1
   grind [rA]
  .rename_i b9;unfold Bb at h;simp only[qB,mA]at h;obtain⟨_,hg,cc,ae,h⟩:=h;have f:=EN hg;have a8:(s.2.2.1+n)*E.d<1000000000:=K8 (D4 _ (by omega)) f.c;split at h
   .rename_i ac;unfold Oj at h;rw[mA]at h;obtain⟨old,r,h⟩:=h;cases h;have bg:=zlo b ae hi ac;obtain⟨vo,_,bj,aq,_⟩:=b.au.ba (P:=P) ae hi r;have bl:=bh bg;obtain⟨nc,aa,hr⟩:=Wm (w:=w) u g l hF y D d m q (by omega) (by have:=f.a;omega) a8 f.b (old:=vo.toArray) (new:=ad.toArray) (z:=z) aq a7 hz;rw[wI];refine⟨_,_,_,.inl (L hr),b.d,b.au.az f ai aa bj (G.w _ _ _ _ r).1 F el,Lz.trans (jW b.au.aa _),?_⟩
    simp_all [rA,Mu.d]
   .rename_i es Z;unfold Lj at h;simp only[qB,B3,zD,mF,gI,E7]at h;obtain⟨⟨⟨⟨⟨⟨h1,h2⟩,h3⟩,h4⟩,h5⟩,h6⟩,h⟩:=h;have h2:=DN.1 h2;subst h2;have ak:B<=s.1:=by
     grind [eC]
    have ax:=b.aj s.1 i ak hi;have b3:=Ga ae;obtain⟨o,g2,g3⟩:=b.am _ _ _ b3 hi;have am:=g3;obtain⟨cs,elem,Q,rfl,g4,g5,g6,g7⟩:=g3;have g5:=g5.resolve_left (by simp_all);rw[Z]at g7;obtain⟨g8,g9,b5,b6⟩:=g7;rw[Pb]at g9;have ay:∀a∈new,a.z=true:=λa ha=>C8.1 h5 a ha;have az:=bf g8;rw[h1,g9,b5]at az;rw[Z]at am;have bb:=ab.d;have ap:=F.d;have a6:s.2.2.1*E.b+new.length=(s.2.2.1+n)*E.b:=by rw[f.d,<- D7]
    have aw:=b.bt s.1 (λx t e=>by have:=(b.ax _ _ _ e).1;simp_all);by_cases W:s.2.2.1+n<=a1
    .have bm:(s.2.2.1+n)*E.b<=cs.size:=by
      have:(s.2.2.1+n)*E.b<=a1*E.b:=D4 _ W;omega
     obtain⟨av,bq,bo,bp⟩:=JW (P:=P) (o:=s.2.2.1*E.b) K 0 cs w g2 g5 (by omega) (ab.ac ay);have b0:(storeCells (Addr.add ⟨i.b,s.2.1,none⟩ (s.2.2.1*E.b)) K.toArray.toList).run P w=.ok () (World.c w i.b (.cells av elem Q)):=by
      grind [Dj]
     have hr:=Wl (type:=type) u g l hF y D d m q W ah (w':=World.c w i.b (.cells av elem Q)) b0;simp only[Option.some.injEq,Prod.mk.injEq]at h;obtain⟨rfl,rfl⟩:=h;refine⟨_,_,μ.p H.a i,.inl (L hr),b.d,?_,Dg ax.1,?_⟩
     .refine aw.b7 ax ?_ (MS b.d.f am ab h4 a6 (by omega) (by omega) ?_ ?_ ⟨g8,by grind [Pb],by omega⟩ b6)
      .intro a x j ha hx hj hb;have ar:(if a=s.1 then none else H.t.c a)=some x:=by grind [G.e]
       split at ar
       .cases ar
       .rename_i bd;exact bd (b.inj a s.1 x _ j i ar b3 hj hi ha ak hb)
      all_goals grind
     grind [rA,Mu.d]
    .have aq:(Builtin.firstCells E.b s.2.2.1 (.slice (some ⟨i.b,s.2.1,none⟩) s.2.2.1 a1)).run P w.drew=.ok (cs.toList.take (s.2.2.1*E.b)).toArray w.drew:=by
      rw[h1];exact XW (w:=w.drew) g2 (by omega)
     obtain⟨nc,aa,hr⟩:=Wm (w:=w) (type:=type) u g l hF y D d m q W (by have:=f.a;omega) a8 f.b (new:=ad.toArray) (z:=z) aq a7 hz;have b4:=ai.d;simp only[P6]at b4;have be:(cs.toList.take (s.2.2.1*E.b)).length=s.2.2.1*E.b:=by grind
     have b1:((cs.toList.take (s.2.2.1*E.b)).toArray++ad.toArray++Builtin.zeroCells z.cells (nc-(s.2.2.1+n))).size=nc*E.b:=by
      simp only[Array.size_append,List.size_toArray,HK,be,ap,f.d,b4,f.e];rw[<- D7,<- D7];simp_all
     simp only[Option.some.injEq,Prod.mk.injEq]at h;obtain⟨rfl,rfl⟩:=h;refine⟨_,_,μ.p H.a ⟨w.heap.size,false,E.b,nc*E.b,false⟩,.inl (L hr),b.d,?_,Lz.trans (jW b.au.aa _),?_⟩
     .refine aw.au.ap (H:=⟨H.a,H.t.q s.1⟩) rfl rfl (MS b.d.f am F h4 a6 ?_ (.inl (B4 _)) ?_ ?_ ⟨rfl,(Pb _ _).symm,b1.symm⟩ λt=>zj4)
      all_goals grind
     simp_all [rA,Mu.d]
 .simp only[qB,zD,bZ.2.1]at h;obtain⟨hs,h⟩:=h;rw[hs,rA]at hX;rw[hX]at d;unfold jX at h;rw[bD]at h;simp only[zD]at h;split at h
  .rename_i ag;subst ag;cases h;refine⟨.slice none 0 0,w,μ,.inl (L ?_),μ.g,b,Below.refl _ _,by rw[rA]⟩;have:=Wl (type:=type) (w':=w) u g l hF y D d m q (by omega) ah rfl;omega
  .rename_i ag;simp only[qB]at h;obtain⟨hg,h⟩:=h;cases h;have f:=EN hg;have a8:(0+n)*E.d<1000000000:=K8 (D4 _ (by omega)) f.c;obtain⟨nc,aa,hr⟩:=Wm (w:=w) u g l hF y D d m q (by omega) (by have:=f.a;omega) a8 f.b (old := #[]) (new:=ad.toArray) (z:=z) rfl a7 hz;rw[D8]at hr aa;have af:=b.au.az f ai (by omega) (bB.p (μ:=μ)) (by simp) F el (newCap:=nc);simp only[D8]at af;refine⟨_,_,_,.inl (L hr),b.d,af,Lz.trans (jW b.au.aa _),?_⟩
   simp_all [rA,Mu.d]
end
end
section
variable {c:Call}{f:Operand}
section
variable {P:Program}{C:fA}{B N:Nat}{μ:Mu}{H H':sA}{w:World}{I:World->Prop}
variable {e:mD}{j:Operand->Value}{dst:Option Tmp}{type:TypeId}{u:String}{k:Array Edge}{n:Option (Nat × Bool)}{v:O}
def Jd (P : Program) (C : fA) : Prop := ∀ f a, C.d.c f = some a -> P.funcs[f]? = some a /\ (a.name == "runtime.NumGoroutine") = false
def Pq(P:Program)(C:fA)(B N:Nat)(I:World->Prop):Prop:=∀f g,C.c.c f=some g->∀b H v H',g b H=some (v,H')->∀ μ w a,lB B N μ H w->I w->bB μ b a.toList →
 (H'=H/\∃d,(callFunc f a).run P w=.ok (.value d) w/\rA μ v d) ∨
 ((callFunc f a).run P w=.ok (.enter f a) w/\Calls P f a w λe h=>∃d c,e=.returned d/\μ.le c/\lB B N c H' h/\Below N w h/\rA c v d)
theorem KG(i:iG μ e j)  (s:c.callee=.value f){p:L2 × List O × List O}(h:pV f c.args e=some p) :
  ∃fn cap b,(resolve j c type).run P w=.ok { target:=.fn fn cap,args:=b } w/\Pu μ p.1 fn/\bB μ p.2.1 b.toList/\bB μ p.2.2 cap.toList:=by
 unfold pV at h;simp only[mA,TQ,wI]at h;obtain⟨a,o,q,rfl,b,d,h⟩:=h;cases h;have k:=i _ _ o;rw[rA]at k;obtain⟨fn,first,cap,r,g,l,m⟩:=k
 refine⟨fn,cap,first++c.args.map j,?_,g,?_,m⟩
 .grind [resolve,Deferred.ofValue,Sem.run_pure]
 .have n:=i.d d;have:=l.o n
  simp_all
theorem Wk(c:Jd P C){f:Nat}{fn:Func}(e:C.d.c f=some fn)(d:fn.body.isSome=true){args:Array Value}:(callFunc f args).run P w=.ok (.enter f args) w:=by
 obtain⟨a,b⟩:=c f fn e;unfold callFunc;simp only[C2,run_program,C3,a,b];have:fn.body.isNone=false:=by cases h:fn.body<;>simp[h]at d ⊢
 simp[this]
def vR (P:Program)(C:fA)(B N:Nat)(μ:Mu)(H:sA)(w:World)(j:Operand->Value)(o:Oper):pM->Prop
 | .aa v H'=>aU P B N μ w j o v H'\/(∃f a,(execOp j o).run P w=.ok (.enter f a) w/\Calls P f a w λe n=>∃h g,e=.returned h/\μ.le g/\lB B N g H' n/\Below N w n/\rA g v h)
 | .am f b=>∀m,C.d.c f=some m->m.body.isSome=true->∃a,(execOp j o).run P w=.ok (.enter f a) w/\bB μ b a.toList
 | .ak l b=>∃i a,μ l=some i/\bB μ b a.toList/\(execOp j o).run P w=(Instr.yield i.b a).run P w
 | .ah d=>(∃c,o.op=.defer c)/\∃k,(execOp j o).run P w=.ok (.defer k) w/\Gj μ d k
 | .ap v=>∃h,(execOp j o).run P w=.halt (.panic h) w/\rA μ v h
 | .aj=>(execOp j o).run P w=.ok .recover w
 | .ac=>True
theorem zio(hF:Jd P C)(Q:Pq P C B N I)(D:lB B N μ H w)(M:I w)(L:iG μ e j)  (R:c.callee=.value f) :
  vR P C B N μ H w j ⟨dst,.call c,type,u,k,n⟩ (Lh f c.args C e H):=by
 unfold Lh
 cases W:pV f c.args e with
 | none=>exact trivial
 | some p=>
  obtain⟨r,m,o,Z,z,A,s⟩:=KG (P:=P) (w:=w) (type:=type) L R W;have q:(execOp j ⟨dst,.call c,type,u,k,n⟩).run P w=(invoke (.fn r m) o).run P w:=by
   grind [execOp,Sem.run_bind,Result.andThen_ok]
  show vR P C B N μ H w j _ (uv C H p.2.1 p.2.2 p.1);obtain⟨J,h,d⟩:=p
  cases J with
  | aa g=>
   cases z;have F:(execOp j ⟨dst,.call c,type,u,k,n⟩).run P w=(callFunc g (o++m)).run P w:=by rw[q];rfl
   have T:bB μ (oE h d) (o++m).toList:=by rw[wI];simpa using A.o s
   show vR P C B N μ H w j _ (Pe C H (oE h d) g (C.c.c g))
   cases U:C.c.c g with
   | none=>
    show ∀r,C.d.c g=some r->_
    grind [Wk]
   | some E=>
    cases y:E (oE h d) H with
    | none=>simp only[Pe,y];exact trivial
    | some x=>
     obtain⟨v,H'⟩:=x;simp only[Pe,y];rcases Q g E U _ H v H' y μ w (o++m) D M T with⟨rfl,X,K,t⟩ | ⟨K,t⟩
     .exact Or.inl ⟨X,w,μ,.inl (by simp_all),μ.g,D,Below.refl _ _,t⟩
     .exact Or.inr ⟨g,o++m,by simp_all,t⟩
  | ac l=>
   obtain⟨i,S,rfl⟩:=z;show vR P C B N μ H w j _ (TD l h d)
   cases d with
   | cons a b=>exact trivial
   | nil=>exact⟨i,o,S,A,by rw[q];rfl⟩
theorem ztb(q:nG P C)(z:B<=C.a)(R:Jd P C)(T:Pq P C B N I)(y:lB B N μ H w)(S:I w)(i:iG μ e j)(o:Oper):vR P C B N μ H w j o ((iF o.op).f C e H):=by
 have g:(∃l:gL,(iF o.op).f=lv l/\∀v,l C e H=some v->aJ P μ w j o v)->vR P C B N μ H w j o ((iF o.op).f C e H):=by
  rintro⟨l,D,E⟩;rw[D];unfold lv
  cases h:l C e H with
  | none=>exact trivial
  | some v=>exact Or.inl ((E v h).a y)
 have val:∀x:Option (O × sA),(iF o.op).f C e H=kN x->(∀v H',kN x=.aa v H'->aU P B N μ w j o v H')->vR P C B N μ H w j o ((iF o.op).f C e H):=by
  intro x D E;rw[D]
  cases x with
  | none=>exact trivial
  | some p=>exact Or.inl (E p.1 p.2 rfl)
 obtain⟨dst,X,type,u,k,n⟩:=o;cases X
 case move=>exact g ⟨_,rfl,λv h=>NP (C:=C) (H:=H) i h⟩
 case assign=>exact g ⟨_,rfl,λv h=>OD (C:=C) (H:=H) i h⟩
 case pick=>exact g ⟨_,rfl,λv h=>NO (C:=C) (H:=H) i h⟩
 case load=>exact g ⟨_,rfl,λv h=>NR q y i h⟩
 case nilCheck=>exact g ⟨_,rfl,λv h=>zhu (C:=C) (H:=H) i h⟩
 case binOp=>exact g ⟨_,rfl,λv h=>zh1 (H:=H) q i h⟩
 case unOp=>exact g ⟨_,rfl,λv h=>zre (C:=C) (H:=H) i h⟩
 case makeInterface=>exact g ⟨_,rfl,λv h=>NV (H:=H) q i h⟩
 case makeFunc=>exact g ⟨_,rfl,λv h=>NW (C:=C) (H:=H) i h⟩
 case slice=>exact g ⟨_,rfl,λv h=>NN q y i h⟩
 case fieldAddr=>exact g ⟨_,rfl,λv h=>NZ (H:=H) q i h⟩
 case field=>exact g ⟨_,rfl,λv h=>NX (H:=H) q i h⟩
 case indexAddr=>exact g ⟨_,rfl,λv h=>NU (H:=H) q i h⟩
 case index=>exact g ⟨_,rfl,λv h=>NS (H:=H) q i h⟩
 case extract=>exact g ⟨_,rfl,λv h=>OA (C:=C) (H:=H) i h⟩
 case build=>exact g ⟨_,rfl,λv h=>OC (H:=H) q i h⟩
 case typeAssert=>exact g ⟨_,rfl,λv h=>OE (H:=H) q i h⟩
 case lookup=>exact g ⟨_,rfl,λv h=>NQ q y i h⟩
 case convert s d x=>
  show vR P C B N μ H w j _ (Cy s d x C e H)
  cases h:Cy s d x C e H with
  | aa v H'=>exact Or.inl (YB q y i h)
  | ac=>exact trivial
  | _=>
   exfalso;unfold Cy at h;split at h
   .cases h
   .revert h;unfold kN;split<;>intro h<;>cases h
 case alloc=>exact val _ rfl λv H' h=>ziq (e:=e) q y h
 case box=>exact val _ rfl λv H' h=>zwz (C:=C) y i h
 case buildSlice=>exact val _ rfl λv H' h=>YC q y i h
 case store=>exact val _ rfl λv H' h=>PT q z y i h
 case makeMap t r=>
  show vR P C B N μ H w j _ (Tj r C e H)
  cases r with
  | none=>exact Or.inl (YA (C:=C) (e:=e) y rfl)
  | some x=>exact trivial
 case insert=>exact val _ rfl λv H' h=>(Yi q z y i h).2
 case mapUpdate=>exact val _ rfl λv H' h=>(Yi q z y i h).1
 case makeSlice=>exact val _ rfl λv H' h=>XZ q y i h
 case panic x=>
  show vR P C B N μ H w j _ (Ti x C e H);unfold Ti
  cases W:ev x e with
  | none=>exact trivial
  | some a=>
   cases K:a.au with
   | none=>simp only[lA,K,zvd,Eg];exact trivial
   | some p=>
    simp only[lA,K,Eg];have D:=i _ _ W;rw[TP.1 K,rA]at D;obtain⟨Z,E,Q⟩:=D;refine⟨.iface p.1 Z,?_,by grind [rA]⟩;simp[execOp,E,Instr.panic]
 case defer c=>
  show vR P C B N μ H w j _ ((Yj c c.callee).f C e H)
  cases A:c.callee with
  | value f=>
   show vR P C B N μ H w j _ (Eg (ob (pV f c.args e) λp=>some (.ah ⟨some p.1,0,oE p.2.1 p.2.2⟩)))
   cases U:pV f c.args e with
   | none=>exact trivial
   | some p=>
    obtain⟨M,F,L,D,E,Q,J⟩:=KG (P:=P) (w:=w) (type:=type) i A U;refine⟨⟨c,rfl⟩,{ target:=.fn M F,args:=L },by grind [execOp,Sem.run_bind,Result.andThen_ok,Sem.run_pure],⟨?_⟩⟩;refine⟨M,F,L,rfl,E,?_⟩;show bB μ (oE p.2.1 p.2.2) _;rw[wI];simpa using Q.o J
  | _=>exact trivial
 case call c=>
  show vR P C B N μ H w j _ ((Oh c c.callee).f C e H)
  cases A:c.callee with
  | value f=>exact zio R T y S i A
  | builtin b=>
   cases b
   case append=>
    show vR P C B N μ H w j _ (Oi c C e H)
    cases h:Oi c C e H with
    | aa v H'=>exact Or.inl (zbm q z y i A h)
    | ac=>exact trivial
    | _=>exfalso;revert h;unfold Oi kN;split<;>intro h<;>cases h
   case len=>
    show vR P C B N μ H w j _ (lv (sU c) C e H);unfold lv
    cases h:sU c C e H with
    | none=>exact trivial
    | some v=>exact Or.inl ((zhz q y i A h).a y)
   case max=>
    show vR P C B N μ H w j _ (lv (Ao c) C e H);unfold lv
    cases h:Ao c C e H with
    | none=>exact trivial
    | some v=>exact Or.inl ((zhw (C:=C) (H:=H) i A h).a y)
   case min=>
    show vR P C B N μ H w j _ (lv (An c) C e H);unfold lv
    cases h:An c C e H with
    | none=>exact trivial
    | some v=>exact Or.inl ((zhv (C:=C) (H:=H) i A h).a y)
   case recover=>
    show(execOp j ⟨dst,.call c,type,u,k,n⟩).run P w=_;rw[Rp A];rfl
   all_goals exact trivial
  | invoke r m=>exact trivial
 all_goals exact trivial
end
end
section
variable {μ ν:Mu}{ops:Array Oper}{f:Array Bool}{i:Nat}
inductive bH (μ:Mu):yF->Item->Prop
 | ac (c:Code):bH μ (.a c) (.code c)
 | ah (id:Nat):bH μ (.f id) (.inBlock id)
 | am (c:Code):bH μ (.i c) (.inLoop c)
 | ap (c:Code):bH μ (.k c) (.inScope c)
 | au (all:Array Oper) (i:Nat) (h:i<=all.size):bH μ (.h all (all.toList.drop i)) (.inRegion all ((List.range all.size).drop i))
 | aj (l:Nat) (i:BI) (h:μ l=some i):bH μ (.e l) (.inRangeFunc i.b)
 | ak (l:Nat) (i:BI) (h:μ l=some i):bH μ (.g l) (.endRangeFunc i.b)
 | aa:bH μ .b .beginRound
theorem bH.d (h:μ.l ν){a:yF}{b:Item}(k:bH μ a b):bH ν a b:=by
 cases k with
 | ac c=>exact .ac c
 | ah g=>exact .ah g
 | am c=>exact .am c
 | ap c=>exact .ap c
 | au d i f=>exact .au d i f
 | aj l i e=>exact .aj l i (h _ _ e)
 | ak l i e=>exact .ak l i (h _ _ e)
 | aa=>exact .aa
structure Jb (μ:Mu) (p:Je) (e:PanicEntry):Prop where
 v:rA μ p.v e.v
 a:e.recovered=p.a
 b:e.goexit=false
theorem Jb.c (h:μ.l ν){p:Je}{e:PanicEntry}(k:Jb μ p e):Jb ν p e:=⟨k.v.d h _ _,k.a,k.b⟩
def Uz(μ:Mu):fZ->FrameMode->Prop
 | .ah,.run=>True
 | .aa,.returning=>True
 | .ac c,.panicking d=>qE (Jb μ) c d
 | _,_=>False
theorem Uz.e (h:μ.l ν){a:fZ}{b:FrameMode}(k:Uz μ a b):Uz ν a b:=by
 cases a<;>cases b<;>first | exact qE.c (λ_ _ r=>Jb.c h r) k | exact k
def Ja(μ:Mu):Option Nat->Option Nat->Prop
 | none,none=>True
 | some l,some m=>∃i,μ l=some i/\m=i.b
 | _,_=>False
theorem Ja.c (h:μ.l ν){a b:Option Nat}(k:Ja μ a b):Ja ν a b:=by
 cases a<;>cases b<;>first | (obtain⟨i,c,d⟩:=k;exact⟨i,h _ _ c,d⟩) | exact k
structure pI (μ:Mu) (R:eL) (fr:Frame):Prop where
 i:fr.fn=R.e
 g:fr.tmps.size=R.n
 c:qE (Gj μ) R.d fr.defers
 e:Uz μ R.a fr.mode
 d:fr.kind=if R.b then .deferred else .normal
 a:Ja μ R.c fr.roundOf
theorem pI.j (h:μ.l ν){R:eL}{a:Frame}(k:pI μ R a):pI ν R a:=
 ⟨k.i,k.g,k.c.c λ_ _ r=>r.c h,k.e.e h,k.d,k.a.c h⟩
def tO(o:Oper)(j:Nat):Prop:=∃e∈o.after.toList,Region.binds .any e=true/\e.on=j
def sh(ops:Array Oper):(Nat->Bool)->List Nat->Prop
 | S,[]=>∀i,i<ops.size->S i=true
 | S,i::a=>∃o,ops[i]?=some o/\S i=false/\(∀j,tO o j->S j=true)/\sh ops (λk=>S k||k == i) a
def zfz   (h:i∈Region.ready .any ops f):∃o,ops[i]?=some o/\f.getD i true=false/\∀j,tO o j->f.getD j false=true:=by
 unfold Region.ready at h;rw[List.mem_filter]at h;obtain⟨d,a⟩:=h;simp only[B3,E7]at a;obtain⟨a,b⟩:=a
 cases c:ops[i]? with
 | none=>simp_all
 | some o=>
  rw[c]at b;refine⟨o,rfl,a,?_⟩;rintro j ⟨e,k,g,rfl⟩
  grind [Array.all_eq_true']
def zmq   {o:Oper}(d:ops[i]?=some o)(a:f.getD i true=false)(b:∀j,tO o j->f.getD j false=true):i∈Region.ready .any ops f:=by
 unfold Region.ready;rw[List.mem_filter];refine⟨by grind,?_⟩;rw[a,d];simp only[L0,E5,Option.map_some,Option.getD_some,Array.all_eq_true'];intro e g
 cases c:Region.binds .any e with
 | false=>rfl
 | true=>simpa using b e.on ⟨e,by simp_all,c,rfl⟩
def nk (ops:Array Oper):Prop:=∀i o,ops[i]?=some o->∀j,tO o j->j<i
def zjy{p q:Nat->Bool}(a:∀k,q k=true->p k=true) (b:p i=true)(c:q i=false):∀l:List Nat,i∈l->l.countP q+1<=l.countP p:=by
 have e:∀l:List Nat,l.countP q<=l.countP p:=λl=>List.countP_mono_left λk _ h=>a k h
 intro l;induction l with
 | nil=>simp_all
 | cons k l d=>
  grind
def zmh (h:nk ops):∀(fuel t:Nat) (f:Array Bool),f.size=ops.size →
  (List.range ops.size).countP (λi => !f.getD i true)<=fuel →
  sh ops (λi=>f.getD i false) (Region.linearise.go .any ops fuel t f []):=by
 intro fuel;induction fuel with
 | zero=>
  intro t f v r;simp only[Region.linearise.go,List.reverse_nil];intro i m;simp_all
 | succ fuel w=>
  intro t f v r;simp only[Region.linearise.go];change sh ops _ (match (Region.ready .any ops f)[t%(Region.ready .any ops f).length]? with
   | some i=>Region.linearise.go .any ops fuel (t / (Region.ready .any ops f).length) (f.setIfInBounds i true) [i]
   | none=>[].reverse)
  cases m:(Region.ready .any ops f)[t%(Region.ready .any ops f).length]? with
  | none=>
   have p:Region.ready .any ops f=[]:=by
    cases y:Region.ready .any ops f with
    | nil=>rfl
    | cons x z=>
     grind [Nat.mod_lt]
   show ∀i,i<ops.size->f.getD i false=true
   intro i;induction i using Nat.strongRecOn with
   | _ i d=>
    intro a;refine Classical.byContradiction λu=>?_;have b:ops[i]?=some ops[i]:=by simp[a]
    have c:i<f.size:=by omega
    have g:f.getD i true=false:=by
     simp_all
    have:=zmq b g λj n=>d j (h i _ b j n) (Nat.lt_trans (h i _ b j n) a)
    simp_all
  | some i=>
   simp only[];rw[linearise_go_acc,List.reverse_singleton,List.singleton_append];obtain⟨o,b,g,q⟩:=zfz (Q5 m);have a:i<ops.size:=(H4.1 b).1;have c:i<f.size:=by omega
   refine⟨o,b,by simp_all,q,?_⟩;have e:(λk=>f.getD k false||k == i)=λk=>(f.setIfInBounds i true).getD k false:=by
    funext k;simp only[mi,mh];grind
   rw[e];refine w _ _ (by simp_all) ?_;have l:(List.range ops.size).countP (λk => !(f.setIfInBounds i true).getD k true)+1<=(List.range ops.size).countP (λk => !f.getD k true):=by
    refine zjy (λk s=>?_) (i:=i) ?_ ?_ _ (List.mem_range.2 a)
    .simp only[E7,mi,mh]at s ⊢
     grind
    all_goals simp_all
   omega
end
end Go.Am
