/- THE TOKENS OF AN EXPRESSION ARE READ AS THAT EXPRESSION. -/
import Derived.Test.YtefajchlhjcgpaaGreatDoorC25
set_option linter.all false
noncomputable section
set_option maxRecDepth 100000
namespace Go.Proofs
open Go Go.Am
variable {v:iF}{op:Nat}{w:List Nat}
def AE (h:Fz v=true):v=oX:=by
 obtain⟨k,f,i⟩:=v;unfold Fz at h;simp only[B2,decide_eq_true_eq]at h;obtain⟨⟨rfl,rfl⟩,a⟩:=h;rw[GX a];rfl
def Ue  (h:vU op v=true):v=⟨0,aK,((if op=19 then v.i.toNat else 0:Nat):Int)⟩/\(op=19->1<=v.i.toNat/\v.i.toNat<=6):=by
 unfold vU at h;by_cases a:op=19
 .rw[A5 a]at h;simp only[B2,decide_eq_true_eq]at h;have:=AE h.2;obtain⟨k,f,i⟩:=v;cases this
  grind [aK]
 .rw[A3 a]at h;rw[AE h,A3 a];exact⟨rfl,λe=>absurd e a⟩
def Sc:List (List Nat):=[Bn,Mg,Mi,Jg,pL,Mh,sW,Gf]
def zmh (h:sI w=true):∀u∈Sc,w≠u:=by
 have e:(Sc.all λu => !sI u)=true:=by kernel_rfl
 grind
section
variable {tk:List xD}{K:List qD}(c:tk.map kt=K){o e:PM iA}{n:Nat}
include c
def zf8:∀(l acc:List iA) (n:Nat) (R:List qD),(∀y∈l,bL K e 1 (zF y) y)->K.drop n=cG false (yF l)++R->Qt 1 R->Ec tk e l.length acc n=.ok (acc++l) (n+(cG false (yF l)).length)
 | [],acc,n,R,_,_,_=>by
  show PR.ok acc n=_
  grind [yF,cG]
 | y::l,acc,n,R,h,a,b=>by
  have a:K.drop n=(4,[44])::(zF y++(cG false (yF l)++R)):=by grind [yF,cG]
  have d:Qt 1 (cG false (yF l)++R):=by
   cases l with
   | nil=>grind [yF,cG]
   | cons z l=>rw[yF,cG];exact Dv (by decide)
  show(gE tk [44] n).c _=_;rw[oR c (cD a) (.inr rfl)];show(e (n+1)).c _=_;rw[h y C5 (n+1) _ (vF a) d];show Ec tk e l.length (acc++[y]) (n+1+(zF y).length)=_;rw[zf8 l (acc++[y]) _ R (λz f=>h z (C7 _ f)) (gL (vF a)) b,yF,cG]
  grind
def zeq:∀(j:Nat) (l acc:List iA) (n:Nat) (R:List qD),l.length<=j->(l.length<j->∃b,R=(4,[41])::b)->(∀y∈l,bL K e 1 (zF y) y)->K.drop n=cG false (yF l)++R->Qt 1 R->dX tk e j acc n=.ok (acc++l) (n+(cG false (yF l)).length)
 | 0,l,acc,n,R,g,_,_,_,_=>by
  have:l=[]:=List.eq_nil_of_length_eq_zero (by omega);subst this;show PR.ok acc n=_
  grind [yF,cG]
 | j+1,[],acc,n,R,_,d,_,a,_=>by
  obtain⟨b,rfl⟩:=d (by simp);rw[yF,cG]at a ⊢;unfold dX;rw[fH c (cD (show K.drop n=(4,[41])::b from a)) (by decide)];simp
 | j+1,y::l,acc,n,R,g,d,h,a,f=>by
  have a:K.drop n=(4,[44])::(zF y++(cG false (yF l)++R)):=by grind [yF,cG]
  have i:Qt 1 (cG false (yF l)++R):=by
   cases l with
   | nil=>grind [yF,cG]
   | cons z l=>rw[yF,cG];exact Dv (by decide)
  unfold dX;rw[dL c (cD a) (.inr rfl),A5 rfl,h y C5 (n+1) _ (vF a) i];show dX tk e j (acc++[y]) (n+1+(zF y).length)=_;rw[zeq j l (acc++[y]) _ R (by simp_all) (λm=>d (by simp_all)) (λz k=>h z (C7 _ k)) (gL (vF a)) f,yF,cG]
  grind
def zty{i:Nat}(b:1<=i)(d:i<=6)(h:K[n]?=some (1,qM i)):oK tk uO 6 6 1 n=.ok i (n+1):=by
 have:i=1\/i=2\/i=3\/i=4\/i=5\/i=6:=by omega
 clear b d;have a:By tk (qM i) n=true:=dL c h (.inl rfl);have f:∀w,qM i≠w->By tk w n=false:=λw e=>fH c h e;rcases this with rfl | rfl | rfl | rfl | rfl | rfl
 .have a:By tk (uO 1) n=true:=a;simp[oK,a]
 .have a:By tk (uO 2) n=true:=a
  grind [oK,uO]
 .have a:By tk (uO 3) n=true:=a
  grind [oK,uO]
 .have a:By tk (uO 4) n=true:=a
  grind [oK,uO]
 .have a:By tk (uO 5) n=true:=a
  grind [oK,uO]
 .have a:By tk (uO 6) n=true:=a
  grind [oK,uO]
def O5 (op:Nat):CF:=⟨(yB op).c,op,(yB op).e,(yB op).d,(yB op).h⟩
omit c in
def GK:∀ {op:Nat},op∈Ih->(Cp.find? λf=>sF (yB op).c f.d)=some (O5 op)/\sI (yB op).c=false/\(yB op).c∉Sc/\1<=(yB op).d/\(yB op).d<=(yB op).h/\(op=19->(yB op).h=(yB op).d):=by
 intro op h;simp only[Ih,C3,List.not_mem_nil,or_false]at h;rcases h with rfl | rfl | rfl | rfl | rfl | rfl | rfl | rfl | rfl | rfl | rfl | rfl<;>exact⟨by kernel_rfl,by kernel_rfl,by decide +kernel,by decide +kernel,by decide +kernel,by decide +kernel⟩
omit c in
theorem zwb (a:K[n]?=some (1,(yB op).c))(c:tk.map kt=K)(h:op∈Ih):mP tk o n=X8 tk (yU tk o) (O5 op) (n+1):=by
 obtain⟨g,j,k,_⟩:=GK h;have b:∀u∈Sc,(yB op).c≠u:=λu p e=>k (e ▸ p);unfold mP;rw[Ow c a (by decide) (by
  intro i;simp only[C3,List.not_mem_nil,or_false]at i;rcases i with e | e | e | e<;>exact b _ (by decide) e)]
 show(if By tk [40] n=true then _ else _)=_;have m:lV tk n=false:=by
  unfold lV;rw[Qs c a,j,E5]
 have d:By tk [40] n=false:=fH c a (by
  intro e;rw[e]at g;cases g)
 rw[d,fH c a (b Mh (by decide)),fH c a (b sW (by decide)),fH c a (b Gf (by decide)),m];have l:(Cp.find? λf=>By tk f.d n)=some (O5 op):=by
  grind [Uo]
 show Co tk (yU tk o) n=_;unfold Co;rw[l];rfl
def ztx {R:List qD}(b:sI w=true)(a:K.drop n=(1,w)::(4,[44])::R):(vO tk n).c (λw d=>(gE tk [44] d).c λ_ e=>.ok w e)=.ok w (n+2):=by
 rw[Kn c (cD a) b];show(gE tk [44] (n+1)).c _=_;rw[oR c (cD (vF a)) (.inr rfl)];rfl
def zwa {name:List Nat} {args:List iA}{k:Nat}(h:op∈Ih)(C:Po op name args.length)(W:vU op v=true)(E:∀y∈args,bL K (yU tk (tJ tk k)) 1 (zF y) y) :
  bL K (tJ tk (k+1)) 7 (kV op name v (yF args)) (.mk op name v args):=by
 intro n R B hR;obtain⟨f1,_⟩:=EX op h;obtain⟨c1,c2,c3,c4,c5,c6⟩:=GK h;obtain⟨S,v2⟩:=Ue W;have I:=C.b;have F:=C.a;have T:kV op name v (yF args)=(1,(yB op).c)::(4,[40])::((if (yB op).e then [(1,name),(4,[44])]else [])++(cG true (yF args)++wQ op v.i)):=by
  grind [kV]
 rw[T]at B ⊢;have B:K.drop n=(1,(yB op).c)::(4,[40])::((if (yB op).e then [(1,name),(4,[44])]else [])++(cG true (yF args)++(wQ op v.i++R))):=by grind
 obtain⟨y,i,j,rfl,H⟩:∃y i j,args=y::(i++j)/\i.length=(yB op).d-1:=by
  cases args with
  | nil=>grind
  | cons y l=>
   refine⟨y,l.take ((yB op).d-1),l.drop ((yB op).d-1),by rw[List.take_append_drop],?_⟩
   grind
 show mP tk (tJ tk k) n=_;rw[zwb (cD B) c h];unfold X8;have t:=vF B;rw[oR c (cD t) (.inr rfl)];have o:=vF t;generalize g:(if (yB op).e=true then [(1,name),(4,[44])]else []:List qD)=m at o ⊢;have J:(if (O5 op).b then(vO tk (n+1+1)).c λw n2=>(gE tk [44] n2).c λ_ n3=>.ok w n3 else .ok [] (n+1+1):PR (List Nat))=.ok name (n+1+1+m.length):=by
  show(if (yB op).e then _ else _)=_
  cases D:(yB op).e with
  | true=>
   rw[D]at g;subst g;exact ztx c (C.e D) o
  | false=>
   rw[D]at g;subst g;rw[C.c D];rfl
 show PR.c (if (O5 op).b then _ else _) _=_;rw[J];have p:=gL o;have s:cG true (yF (y::(i++j)))=zF y++(cG false (yF i)++cG false (yF j)):=by
  have Q:∀a b:List iA,cG false (yF (a++b))=cG false (yF a)++cG false (yF b):=by
   intro a b;induction a with
   | nil=>grind [yF,cG]
   | cons z a ih=>grind [yF,cG]
  grind [yF,cG]
 rw[s,D4,D4]at p;have U:∃r,wQ op v.i++R=(4,[44])::r\/wQ op v.i++R=(4,[41])::r:=by
  grind [wQ]
 have P:Qt 1 (wQ op v.i++R):=by
  obtain⟨r,e | e⟩:=U <;> (rw[e];exact Dv (by decide))
 have M:∀l:List iA,∀R,Qt 1 R->Qt 1 (cG false (yF l)++R):=λl R h=>by
  cases l with
  | nil=>grind [yF,cG]
  | cons z l=>rw[yF,cG];exact Dv (by decide)
 show(yU tk (tJ tk k) (n+1+1+m.length)).c _=_;rw[E y C5 _ _ p (M _ _ (M _ _ P))];have u:=gL p;show(Ec tk _ ((yB op).d-1) [y] _).c _=_;rw[<- H,zf8 c i [y] _ _ (λz L=>E z (C7 _ (L2 _ L))) u (M _ _ P)];have x:=gL u;show(dX tk _ ((yB op).h-(yB op).d) ([y]++i) _).c _=_;simp only[Do,E1]at F I;rw[zeq c _ j ([y]++i) _ _ (by omega) (λX=>by
  have q:op≠19:=λe=>by omega
  grind [wQ]) (λz L=>E z (C7 _ (D9 _ L))) x P]
 have d:=gL x;generalize hN:n+1+1+m.length+(zF y).length+(cG false (yF i)).length+(cG false (yF j)).length=N at d ⊢;have f:N+(wQ op v.i).length=n+((1,(yB op).c)::(4,[40])::(m++(cG true (yF (y::(i++j)))++wQ op v.i))).length:=by
  grind
 by_cases q:op=19
 .obtain⟨Z,m2⟩:=v2 q;have A:wQ op v.i=[(4,[44]),(1,qM v.i.toNat),(4,[41])]:=by grind [wQ]
  rw[A]at d f;show PR.c (if op=19 then _ else _) _=_;rw[A5 q,oR c (cD d) (.inr rfl)];show(oK tk uO 6 6 1 (N+1)).c _=_;rw[zty c Z m2 (cD (vF d))];show(gE tk [41] (N+1+1)).c _=_;rw[oR c (cD (vF (vF d))) (.inr rfl),A,<- f];show PR.ok (iA.mk op name ⟨0,aK,((v.i.toNat:Nat):Int)⟩ ([y]++i++j)) _=_;rw[A5 q]at S;rw[<- S];rfl
 .have A:wQ op v.i=[(4,[41])]:=by grind [wQ]
  rw[A]at d f;show PR.c (if op=19 then _ else _) _=_;rw[A3 q];show(gE tk [41] N).c _=_;rw[oR c (cD d) (.inr rfl),A,<- f];show PR.ok (iA.mk op name ⟨0,aK,((0:Nat):Int)⟩ ([y]++i++j)) _=_
  simp_all
end
end Go.Proofs
namespace Go.Proofs
open Go Go.Am
section
def Nv(lev:Nat):List (List Nat × Nat):=match lev with
 | 6=>[([42],9),([47],10)]
 | 5=>[([43],7),([45],8)]
 | 2=>[(gp,15)]
 | 1=>[(y8,16)]
 | _=>[]
structure vZ (tk:List xD) (K:List qD) (k:Nat) (x:iA):Prop where
 rd:∀lev,1<=lev->lev<=(yB x.e).a->bL K (rY tk (tJ tk k) lev) lev (zF x) x
 ch:∀lev,lev∈[1,2,5,6]->(yB x.e).a=lev->Ch tk K (rY tk (tJ tk k) (lev+1)) (Nv lev) (lev+1) (zF x) x
 hd:4<=(yB x.e).a->Dz (zF x)
def zmt:∀op,op<27->(yB op).a<=7:=by decide +kernel
def Se(op:Nat){w u:List Nat}(h:sI w=true)(a:u∈Sc):w≠u:=zmh h u a
section
variable {tk:List xD}{K:List qD}(c:tk.map kt=K){n k:Nat}
include c
def Yf{x:iA}(f:(yB x.e).a=7)(d:Dz (zF x))(h:bL K (tJ tk k) 7 (zF x) x):vZ tk K k x where
 rd:=λa b e=>Nx c (.inl d) (7-a) a (by omega) b (B3 _) h
 ch:=λa b e=>by
  grind
 hd:=λ_=>d
def Oc{y:iA}{lev:Nat}(d:1<=lev)(f:lev<=7)(e:vZ tk K (k+1) y)(a:vZ tk K k y)(g:(yB y.e).a<=7)(b:1<=(yB y.e).a):bL K (rY tk (tJ tk (k+1)) lev) lev (bM lev ((yB y.e).a,zF y)) y:=by
 unfold bM;by_cases h:lev<=(yB y.e).a
 .rw[A5 h];exact e.rd lev d h
 .rw[A3 h];exact Nx c (.inl ⟨_,_,_,rfl,.inr (.inr (by decide))⟩) (7-lev) lev (by omega) d (B3 _) (zl5 c (a.rd 1 (by omega) b))
def sd{y:iA}{lev:Nat}(e:lev∈[1,2,5,6])(d:vZ tk K (k+1) y)(a:vZ tk K k y)(f:(yB y.e).a<=7)(b:1<=(yB y.e).a):Ch tk K (rY tk (tJ tk (k+1)) (lev+1)) (Nv lev) (lev+1) (bM lev ((yB y.e).a,zF y)) y:=by
 have g:1<=lev/\lev<=6:=by
  grind
 by_cases h:(yB y.e).a=lev
 .unfold bM;rw[A5 (by omega)];exact d.ch lev e h
 .refine zv9 ?_;have:=Oc c (lev:=lev+1) (by omega) (by omega) d a f b
  grind [bM]
omit c in
theorem OQ{y:iA}{lev:Nat}(b:4<=lev)(a:vZ tk K k y){R:List qD}:Dz (bM lev ((yB y.e).a,zF y)++R):=by
 unfold bM;by_cases h:lev<=(yB y.e).a
 .rw[A5 h];obtain⟨q,u,r,e,h⟩:=a.hd (by omega);exact⟨q,u,r++R,by simp_all,h⟩
 .rw[A3 h];exact⟨4,[40],_,rfl,.inr (.inr (by decide))⟩
omit c in
def zjf:∀ {op:Nat},op∈[7,8,9,10,15,16]->(yB op).a∈[1,2,5,6]/\(yB op).g=(yB op).a/\(yB op).i=(yB op).a+1/\mn ((yB op).a+1) (yB op).c=true/\((Kk op).1=1\/(Kk op).1=4)/\(((Nv (yB op).a).all λp=>nr.any λq=>decide (q.1=p.1)&&decide ((yB op).a<=q.2))=true):=by decide +kernel
omit c in
def zbz:∀ {op:Nat},op∈[7,8,9,10,15,16]->((Nv (yB op).a).find? λp=>sF (yB op).c p.1).map Prod.snd=some op:=by
 intro op h;simp only[C3,List.not_mem_nil,or_false]at h;rcases h with rfl | rfl | rfl | rfl | rfl | rfl<;>kernel_rfl
omit c in
def zoa:∀ {op:Nat},op∈[13,14]->(yB op).a=4/\(yB op).g=5/\(yB op).i=5/\mn 5 (yB op).c=true/\(Kk op).1=4:=by decide +kernel
omit c in
def zi7:∀ {op:Nat},op∈[13,14]->(([([60],13),([61],14)]:List (List Nat × Nat)).find? λp=>sF (yB op).c p.1).map Prod.snd=some op:=by
 intro op h;simp only[C3,List.not_mem_nil,or_false]at h;rcases h with rfl | rfl<;>kernel_rfl
omit c in
def zb0{o:PM iA}:∀ {lev:Nat},lev∈[1,2,5,6]->sU tk (rY tk o (lev+1)) (Nv lev)=rY tk o lev:=by
 intro lev h;simp only[C3,List.not_mem_nil,or_false]at h;rcases h with rfl | rfl | rfl | rfl<;>rfl
omit c in
theorem lk{op:Nat}{name:List Nat}{args:List iA}(d:Po op name args.length)(h:op∈Pf):∃a b,args=[a,b]/\name=[]:=by
 obtain⟨f,e,g,i⟩:=EY op h;have j:=d.b;have k:=d.a
 match args with
 | [a,b]=>exact⟨a,b,rfl,d.c e⟩
 | []=>simp_all
 | [_]=>simp_all
 | _::_::_::_=>simp_all
def PA{op:Nat}{name:List Nat}{v:iF}{args:List iA}(hv:v.f.a)(o:Po op name args.length)(h1:op=1->tQ v=true)(z:op≠1->vU op v=true)
  (C:∀y∈args,(yB y.e).a<=7/\1<=(yB y.e).a) (A:∀y∈args,vZ tk K (k+2) y/\vZ tk K (k+1) y/\vZ tk K k y):vZ tk K (k+2) (.mk op name v args):=by
 have j:zF (.mk op name v args)=kV op name v (yF args):=by rw[zF]
 rcases LO op o.d o.f with rfl | rfl | h | h | rfl | h
 .-- a constant
  have N:=o.a;have e:args=[]:=List.eq_nil_of_length_eq_zero (by grind [Lf]);subst e;have D:=o.c Lf.2.2.1;subst D;have j:zF (.mk 1 [] v [])=fX v:=by rw[j];unfold kV;rw[A5 Lf.1]
  have p:Dz (fX v):=by
   unfold fX;rcases CS (h1 rfl)with⟨g,_,_⟩ | ⟨g | g,_,_⟩ | ⟨g,_,_⟩ | ⟨g,_,_,_⟩
   .simp only[g];exact⟨1,_,_,rfl,.inr (.inr (by split<;>decide))⟩
   .simp only[g];unfold pM;cases v.f.n.b
    .exact⟨2,_,_,rfl,.inl rfl⟩
    .exact⟨1,_,_,rfl,.inr (.inr (by decide))⟩
   .simp only[g];exact⟨1,Jg,_,rfl,.inr (.inr (by decide))⟩
   .simp only[g];exact⟨3,_,_,rfl,.inr (.inl rfl)⟩
   .have:¬ v.a=1/\¬ v.a=2/\¬ v.a=3/\¬ v.a=4:=by omega
    rw[A3 this.1,A3 this.2.1,A3 this.2.2.1,A3 this.2.2.2];unfold pM;cases decide (v.i<0)
    .exact⟨2,_,_,rfl,.inl rfl⟩
    .exact⟨1,_,_,rfl,.inr (.inr (by decide))⟩
  refine Yf c Lf.2.1 (by simp_all) ?_;rw[j];intro n R f m;show mP tk (tJ tk (k+1)) n=_;unfold mP;rw[zi2 c hv (h1 rfl) f m.d];rfl
 .-- today
  have N:=o.a;have e:args=[]:=List.eq_nil_of_length_eq_zero (by grind [Et]);subst e;have D:=o.c Et.2.2.1;subst D;obtain⟨s,_⟩:=Ue (z (by decide));have j:zF (.mk 2 [] v [])=[(1,Mh)]:=by rw[j];unfold kV;rw[A3 (by grind [Et]),A5 Et.1];rfl
  refine Yf c Et.2.1 (by rw[j];exact⟨_,_,_,rfl,.inr (.inr (by decide))⟩) ?_;rw[j];intro n R f m;have d:=cD (show K.drop n=(1,Mh)::R from f);show mP tk (tJ tk (k+1)) n=_;unfold mP;rw[Ow c d (by decide) (by decide)];show(if By tk [40] n=true then _ else _)=_;rw[fH c d (by decide),dL c d (.inl rfl),s];rfl
 .-- fact,has,a reference
  obtain⟨T,U,L,W,f5,f6⟩:=PK op h;have a7:=o.b;have a6:=o.a;obtain⟨y,rfl⟩:∃y,args=[y]:=by
   match args with
   | [y]=>simp_all
   | []=>simp_all
   | _::_::_=>simp_all
  obtain⟨g1,X,g3⟩:=A y C5;obtain⟨l1,l2⟩:=C y C5;have l:=o.e W;have p:op≠1:=by grind
  have t:op≠19:=by grind
  obtain⟨s,_⟩:=Ue (z p);rw[A3 t]at s;have j:zF (.mk op name v [y])=Hc op++(1,name)::(1,Q2)::bM 7 ((yB y.e).a,zF y):=by
   grind [kV,yF]
  have u:∀n R,K.drop n=(1,name)::(1,Q2)::(bM 7 ((yB y.e).a,zF y)++R)->Qt 7 R->∀q,I3 tk (tJ tk (k+1)) q n=.ok (M1 q name y) (n+2+(bM 7 ((yB y.e).a,zF y)).length):=λn R f m q=>by
   unfold I3;rw[Kn c (cD f) l];show(gE tk Q2 (n+1)).c _=_;rw[oR c (cD (vF f)) (.inl rfl)];show(tJ tk (k+1) (n+1+1)).c _=_;rw[show tJ tk (k+1) (n+1+1)=_ from Oc c (lev:=7) (by omega) (by omega) X g3 l1 l2 (n+1+1) R (vF (vF f)) m];rfl
  refine Yf c L ?_ ?_
  .rw[j];simp only[C3,List.not_mem_nil,or_false]at h;rcases h with rfl | rfl | rfl
   .exact⟨1,sW,_,rfl,.inr (.inr (by decide))⟩
   .exact⟨1,Gf,_,rfl,.inr (.inr (by decide))⟩
   .exact⟨1,name,_,rfl,.inr (.inr (Se 0 l (by decide)))⟩
  .rw[j];intro n R f m;show mP tk (tJ tk (k+1)) n=_;unfold mP;simp only[C3,List.not_mem_nil,or_false]at h;rcases h with rfl | rfl | rfl
   .have f:K.drop n=(1,sW)::(1,name)::(1,Q2)::(bM 7 ((yB y.e).a,zF y)++R):=f;have d:=cD f;rw[Ow c d (by decide) (by decide)];show(if By tk [40] n=true then _ else _)=_;rw[fH c d (by decide),fH c d (by decide),dL c d (.inl rfl)];show I3 tk _ 3 (n+1)=_;rw[u _ R (vF f) m,s];show PR.ok _ _=PR.ok _ _;congr 1
    grind [Hc]
   .have f:K.drop n=(1,Gf)::(1,name)::(1,Q2)::(bM 7 ((yB y.e).a,zF y)++R):=f;have d:=cD f;rw[Ow c d (by decide) (by decide)];show(if By tk [40] n=true then _ else _)=_;rw[fH c d (by decide),fH c d (by decide),fH c d (by decide),dL c d (.inl rfl)];show I3 tk _ 4 (n+1)=_;rw[u _ R (vF f) m,s];show PR.ok _ _=PR.ok _ _;congr 1
    grind [Hc]
   .have f:K.drop n=(1,name)::(1,Q2)::(bM 7 ((yB y.e).a,zF y)++R):=f;have d:=cD f;rw[Ow c d (by decide) (by
     intro N;simp only[C3,List.not_mem_nil,or_false]at N;rcases N with e | e | e | e<;>exact Se 0 l (by decide) e)]
    show(if By tk [40] n=true then _ else _)=_;have Z:name≠[40]:=by rintro rfl;revert l;exact(by kernel_rfl:sI [40]=false) ▸ by decide
    have hi:lV tk n=true:=by grind [lV,Cd,Qs]
    rw[fH c d Z,fH c d (Se 0 l (by decide)),fH c d (Se 0 l (by decide)),fH c d (Se 0 l (by decide)),hi];show I3 tk _ 5 n=_;rw[u _ R f m,s];show PR.ok _ _=PR.ok _ _;congr 1
    grind [Hc]
 .-- an operation of two arguments
  obtain⟨a,b,rfl,rfl⟩:=lk o h;obtain⟨T,_⟩:=EY op h;obtain⟨a1,a2,a3⟩:=A a C5;obtain⟨b1,b2,b3⟩:=A b (C7 _ C5);obtain⟨E,F⟩:=C a C5;obtain⟨H,I⟩:=C b (C7 _ C5);have p:op≠1:=by rintro rfl;revert h;decide
  have t:op≠19:=by rintro rfl;revert h;decide
  obtain⟨s,_⟩:=Ue (z p);rw[A3 t]at s;have j:zF (.mk op [] v [a,b])=bM (yB op).g ((yB a.e).a,zF a)++Kk op::bM (yB op).i ((yB b.e).a,zF b):=by
   grind [kV,yF]
  have J:iA.mk op [] v [a,b]=Cs op a b:=by rw[s];rfl
  by_cases B:op∈[13,14]
  .obtain⟨w,P,x,Q,S⟩:=zoa B;have m:bL K (aY tk (tJ tk (k+2))) 4 (zF (.mk op [] v [a,b])) (.mk op [] v [a,b]):=by
    rw[j,J,P,x];exact zv1 c (Oc c (lev:=5) (by omega) (by omega) a1 a2 E F) (Oc c (lev:=5) (by omega) (by omega) b1 b2 H I) (.inr S) Q (zi7 B)
   have M:Dz (zF (.mk op [] v [a,b])):=by grind [OQ]
   refine⟨λlev g i=>?_,λlev g i=>?_,λ_=>M⟩
   .have i:lev<=4:=by rw[<- w];exact i
    exact Nx c (.inl M) (4-lev) lev (by omega) g (by omega) m
   .have i:4=lev:=by rw[<- w];exact i
    grind
  .have B:op∈[7,8,9,10,15,16]:=by
    grind [Pf]
   obtain⟨w,P,x,Q,S,c6⟩:=zjf B;have cf:=zbz B;have a8:1<=(yB op).a/\(yB op).a<=6:=by
    grind
   have hC:Ch tk K (rY tk (tJ tk (k+2)) ((yB op).a+1)) (Nv (yB op).a) ((yB op).a+1) (zF (.mk op [] v [a,b])) (.mk op [] v [a,b]):=by
    rw[j,J,P,x];exact zv8 c (sd c w a1 a2 E F) (Oc c (lev:=(yB op).a+1) (by omega) (by omega) b1 b2 H I) S Q cf
   have m:bL K (rY tk (tJ tk (k+2)) (yB op).a) (yB op).a (zF (.mk op [] v [a,b])) (.mk op [] v [a,b]):=by
    have:=li c hC c6
    rwa [zb0 w]at this
   have M:4<=(yB op).a->Dz (zF (.mk op [] v [a,b])):=λh4=>by grind [OQ]
   refine⟨λlev g i=>?_,λlev g i=>?_,M⟩
   .have i:lev<=(yB op).a:=i;refine Nx c ?_ ((yB op).a-lev) lev (by omega) g (by omega) m
    grind
   .have i:(yB op).a=lev:=i
    simp_all
 .-- not
  obtain⟨T,U,L,W,f5,f6⟩:=Yg;have a7:=o.b;have a6:=o.a;obtain⟨y,rfl⟩:∃y,args=[y]:=by
   match args with
   | [y]=>simp_all
   | []=>simp_all
   | _::_::_=>simp_all
  obtain⟨g1,X,g3⟩:=A y C5;obtain⟨l1,l2⟩:=C y C5;have D:=o.c W;subst D;obtain⟨s,_⟩:=Ue (z (by decide));have j:zF (.mk 17 [] v [y])=(1,Bn)::bM 3 ((yB y.e).a,zF y):=by
   grind [kV,yF]
  have J:iA.mk 17 [] v [y]=M1 17 [] y:=by rw[s];rfl
  have m:bL K (iW tk (tJ tk (k+2))) 3 (zF (.mk 17 [] v [y])) (.mk 17 [] v [y]):=by
   rw[j,J];exact lj c (Oc c (lev:=3) (by omega) (by omega) g1 X l1 l2)
  refine⟨λlev g i=>?_,λlev g i=>?_,λh4=>?_⟩
  .have i:lev<=3:=by rw[<- L];exact i
   exact Nx c (.inr (B3 _)) (3-lev) lev (by omega) g (by omega) m
  .have i:3=lev:=by rw[<- L];exact i
   grind
  .have:4<=(yB 17).a:=h4;omega
 .-- a call
  have p:op≠1:=by rintro rfl;revert h;decide
  obtain⟨T,U⟩:=EX op h;have e0:∃r,kV op name v (yF args)=(1,(yB op).c)::r:=by
   grind [kV]
  obtain⟨_,_,x,_⟩:=GK h;refine Yf c U ?_ ?_
  .obtain⟨r,e⟩:=e0;rw[j,e];exact⟨_,_,_,rfl,.inr (.inr λe=>x (by rw[e];decide))⟩
  .rw[j];exact zwa c h o (z p) λy hy=>(A y hy).2.1.rd 1 (B3 _) (C y hy).2
omit c in
def QO{x:iA}{d:Nat}(h:fJ x d=true):(yB x.e).a<=7/\1<=(yB x.e).a:=by
 obtain⟨a,g,v,f⟩:=x;obtain⟨_,b,_⟩:=FI h;have e:∀a,a<27->a≠0->1<=(yB a).a:=by decide +kernel
 exact⟨zmt a b.d,e a b.d b.f⟩
mutual
theorem QJ:∀(x:iA) (d k:Nat),x.b->fJ x d=true->2*(25-d)<=k->vZ tk K k x
 | .mk op name v args,d,k,b,h,m=>by
  obtain⟨p,f,j,n⟩:=FI h;rw[iA.b]at b;obtain⟨k',rfl⟩:∃k',k=k'+2:=⟨k-2,by omega⟩;by_cases i:op=1
  .have q:=f.a;have:args=[]:=List.eq_nil_of_length_eq_zero (by simp_all [Lf]);subst this;exact PA c b.2.2.2.1.2.1 f j (λe=>absurd i e) (by simp) (by simp)
  .obtain⟨c1,c2⟩:=n i;have g:=QI args (d+1) b.2.2.2.2.2 c2;exact PA c b.2.2.2.1.2.1 f j (λe=>c1) (λy a=>QO (c2 y a)) λy a=>⟨g y a _ (by omega),g y a _ (by omega),g y a _ (by omega)⟩
theorem QI:∀(l:List iA) (d:Nat),iA.f l->(∀y∈l,fJ y d=true)->∀y∈l,∀k,2*(25-d)<=k->vZ tk K k y
 | [],_,_,_,_,a=>by cases a
 | x::l,d,b,h,y,a=>by
  rw[iA.f]at b;rcases C3.1 a with e | a
  .intro k m;rw[e];exact QJ x d k b.1 (h x C5) m
  .exact QI l d b.2 (λz o=>h z (C7 _ o)) y a
end
def zia{x:iA}(a:x.b)(h:fJ x 1=true):bL K (Ck tk) 1 (zF x) x:=
 (QJ c x 1 101 a h (by omega)).rd 1 (B3 _) (QO h).2
end
end
section
variable {s:List Nat}{i n:Int}
def Fc (d:eE):List Nat:=(if d.c=true then [102,97,99,116,32]else [100,101,102,32])++d.a++[32]++oG d.b
def um(s:List Nat):List Nat:=[112,108,97,110,32]++s
def Gs (x:mE):List Nat:=[116,97,98,108,101,32]++x.b++(if x.c=true then [32,116,119,111]else [32,111,110,101])
def Ek(a:Bool)(r:rG):List Nat:=iH (xJ r.a)++(if a=true then [32]++iH (xJ r.b)else [])
def eU (a:Bool)(r:rG):List Nat:=[114,111,119,32]++Ek a r++[32,107,110,111,119,110,32]++vH r.c.toNat++[32,105,115,32]++iH (qK r.f)
def P4 (n:Int):List Nat:=if n<65536 then vH n.toNat else [101,110,100]
def iY(c:nD):List Nat:=[99,108,97,117,115,101,32]++c.g++[32]++c.c++[32,102,114,111,109,32]++vH c.f.toNat++[32,116,111,32]++P4 c.i++[32,107,110,111,119,110,32]++vH c.e.toNat
def tU(c:nD):List Nat:=iY c++(if c.h=true then [32,111,102,102]else [32,119,104,101,110,32]++yQ c.a++[32,116,104,101,110,32]++yQ c.b)
def Gr(x:mE):List (List Nat):=Gs x::x.a.map (eU x.c)
def rR(p:rD):List (List Nat):=um p.e::(p.c.map Fc++(p.a.flatMap Gr++p.b.map tU))
def iJ:List (List Nat)->List Nat
 | []=>[]
 | x::l=>x++[10]++iJ l
def xQ (p:rD):List Nat:=iJ (rR p)
def Fe (d:eE):List qD:=[(1,if d.c=true then sW else O3),(1,d.a),(1,oG d.b)]
def Dh (x:mE):List qD:=[(1,Qf),(1,x.b),(1,if x.c=true then Bm else J5)]
def uV (i:Int):List qD:=pM (decide (i<0))++[(2,mF i.natAbs)]
def dU (a:Bool)(r:rG):List qD:=(1,J6)::(uV r.a++((if a=true then uV r.b else [])++((1,fR)::(3,vH r.c.toNat)::(1,mg)::(pM r.f.n.b++[(2,uM r.f)]))))
def fg (n:Int):qD:=if n<65536 then(3,vH n.toNat)else(1,Ji)
def eV(c:nD):List qD:=(1,Gg)::(1,c.g)::(1,c.c)::(1,Jh)::(3,vH c.f.toNat)::(1,ez)::fg c.i::(1,fR)::(3,vH c.e.toNat)::(if c.h=true then [(1,Jf)]else(1,Mf)::(zF c.a++(1,Je)::zF c.b))
def Z2(s:List Nat):List qD:=[(1,Qg),(1,s)]
def fM(x:mE):List (List qD):=Dh x::x.a.map (dU x.c)
def zgj(p:rD):List (List qD):=Z2 p.e::(p.c.map Fe++(p.a.flatMap fM++p.b.map eV))
def qJ:List (List qD)->List qD
 | []=>[]
 | x::l=>x++(5,[])::qJ l
def H8 (l:List (List Nat))(m:List (List qD)):Prop:=rS (iJ l) false=some (qJ m)
theorem H8.d:H8 [] []:=rfl
def H8.a {k:List qD}{l:List (List Nat)}{m:List (List qD)}(h:Lx s k)(a:H8 l m):H8 (s::l) (k::m):=by
 unfold H8 at *;rw[iJ,D4,h _ _ (λc b e=>by cases e;exact .inl rfl),List.singleton_append,zua,a];rfl
def H8.b{a:Type}{f:a->List Nat}{g:a->List qD}{c:List (List Nat)}{d:List (List qD)}(b:H8 c d):∀l:List a,(∀x∈l,Lx (f x) (g x))->H8 (l.map f++c) (l.map g++d)
 | [],_=>b
 | x::l,h=>(H8.b b l λy e=>h y (C7 _ e)).a (h x C5)
def Zg (h:jS n=true):n.toNat<65536/\((n.toNat:Nat):Int)=n:=by
 unfold jS at h;simp only[B2,decide_eq_true_eq]at h;omega
def Zd (h:jS n=true) {l:List qD}(a:Lx s l):Lx (vH n.toNat++32::s) ((3,vH n.toNat)::l):=Lx.g (RI (Zg h).1) a
def zha{k:Nat}(a:1<=k)(b:k<=6):jE (oG k)=.aa 1 (oG k):=by
 have:k=1\/k=2\/k=3\/k=4\/k=5\/k=6:=by omega
 clear a b;rcases this with rfl | rfl | rfl | rfl | rfl | rfl
 .exact(by kernel_rfl:jE (oG 1)=.aa 1 (oG 1))
 .exact(by kernel_rfl:jE (oG 2)=.aa 1 (oG 2))
 .exact(by kernel_rfl:jE (oG 3)=.aa 1 (oG 3))
 .exact(by kernel_rfl:jE (oG 4)=.aa 1 (oG 4))
 .exact(by kernel_rfl:jE (oG 5)=.aa 1 (oG 5))
 .exact(by kernel_rfl:jE (oG 6)=.aa 1 (oG 6))
def zu7 (h : -2147483648<=i/\i<2147483648):jE (mF i.natAbs)=.aa 2 (mF i.natAbs):=zis (Nat.lt_of_lt_of_le (show i.natAbs<10^10 by omega) (O8 (by omega) (by omega)))
def zhc (h:Aj i=true) : -2147483648<=i/\i<2147483648:=by
 unfold Aj at h;simpa using h
def DE (h:Aj i=true):Lx (iH (xJ i)) (uV i):=by
 rw[BY];exact(Lx.i (zu7 (zhc h))).j
def zl0 (h:sI s=true):Lx (um s) (Z2 s):=Lx.g (w:=Qg) (k:=1) (by kernel_rfl) (Lx.i (Hh h))
def zvu{d:eE}(h:vX d=true):Lx (Fc d) (Fe d):=by
 unfold vX at h;simp only[B2,decide_eq_true_eq]at h;have:=Lx.g (Hh h.1) (Lx.i (zha h.2.1 h.2.2));unfold Fc Fe
 cases d.c with
 | true=>simpa using Lx.g (w:=sW) (k:=1) (by kernel_rfl) this
 | false=>simpa using Lx.g (w:=O3) (k:=1) (by kernel_rfl) this
def zsk{x:mE}(h:sI x.b=true):Lx (Gs x) (Dh x):=by
 unfold Gs Dh
 cases x.c with
 | true=>simpa using Lx.g (w:=Qf) (k:=1) (by kernel_rfl) (Lx.g (Hh h) (Lx.i (w:=Bm) (k:=1) (by kernel_rfl)))
 | false=>simpa using Lx.g (w:=Qf) (k:=1) (by kernel_rfl) (Lx.g (Hh h) (Lx.i (w:=J5) (k:=1) (by kernel_rfl)))
def zs6{a:Bool}{r:rG}(g:r.f.a)(h:bX a r=true):Lx (eU a r) (dU a r):=by
 unfold bX at h;simp only[B2]at h;obtain⟨b,c,i,d,f⟩:=h;have e:=Lx.g (w:=fR) (k:=1) (by kernel_rfl) (Zd d (Lx.g (w:=mg) (k:=1) (by kernel_rfl) (EU g f)));unfold eU dU Ek
 cases a with
 | true=>simpa using Lx.g (w:=J6) (k:=1) (by kernel_rfl) ((DE b).u ((DE c).u e))
 | false=>simpa using Lx.g (w:=J6) (k:=1) (by kernel_rfl) ((DE b).u e)
def zbw{c:nD}(g:c.a.b/\c.b.b)(h:zZ c=true):Lx (tU c) (eV c):=by
 unfold zZ at h;simp only[B2]at h;obtain⟨j,m,n,o,f,d⟩:=h;have a:∀ {s:List Nat} {l:List qD},Lx s l->Lx (iY c++32::s) ([(1,Gg),(1,c.g),(1,c.c),(1,Jh),(3,vH c.f.toNat),(1,ez),fg c.i,(1,fR),(3,vH c.e.toNat)]++l):=fun {s l} q=>by
  have e:=Lx.g (w:=fR) (k:=1) (by kernel_rfl) (Zd o q);have i:Lx (P4 c.i++32::(fR++32::(vH c.e.toNat++32::s))) (fg c.i::(1,fR)::(3,vH c.e.toNat)::l):=by
   unfold P4 fg;by_cases b:c.i<65536
   .rw[A5 b,A5 b];refine Zd ?_ e;rw[G7,decide_eq_true_eq]at f;exact f.resolve_right (by omega)
   .rw[A3 b,A3 b];exact Lx.g (w:=Ji) (k:=1) (by kernel_rfl) e
  have:=Lx.g (w:=Gg) (k:=1) (by kernel_rfl) (Lx.g (Hh j) (Lx.g (Hh m) (Lx.g (w:=Jh) (k:=1) (by kernel_rfl) (Zd n (Lx.g (w:=ez) (k:=1) (by kernel_rfl) i)))));unfold iY;simpa using this
 unfold tU eV
 cases p:c.h with
 | true=>simpa using a (Lx.i (w:=Jf) (k:=1) (by kernel_rfl))
 | false=>
  rw[p,A3 (by simp),B2]at d;have:=a (Lx.g (w:=Mf) (k:=1) (by kernel_rfl) ((FG c.a 1 g.1 d.1).u (Lx.g (w:=Je) (k:=1) (by kernel_rfl) (FG c.b 1 g.2 d.2))));simpa using this
def zao{p:rD}(j:p.f)(h:xT p=true):H8 (rR p) (zgj p):=by
 unfold xT at h;simp only[B2,C9]at h;obtain⟨k,m,n,o⟩:=h;have b:H8 (p.b.map tU) (p.b.map eV):=by
  have:=H8.d.b p.b (f:=tU) (g:=eV) λc b=>zbw (by have:=j.a c b;exact⟨this.2.2.2.2.2.1,this.2.2.2.2.2.2⟩) (o c b);simpa using this
 have s:∀l:List mE,(∀x∈l,oZ x=true/\∀r∈x.a,r.f.a)->H8 (l.flatMap Gr++p.b.map tU) (l.flatMap fM++p.b.map eV):=by
  intro l;induction l with
  | nil=>intro _;exact b
  | cons x l u=>
   intro a;obtain⟨i,v⟩:=a x C5;unfold oZ at i;rw[B2,C9]at i;have:=((u λy t=>a y (C7 _ t)).b x.a (f:=eU x.c) (g:=dU x.c) λr e=>zs6 (v r e) (i.2 r e)).a (zsk i.1);rw[List.flatMap_cons,List.flatMap_cons,D4,D4];exact this
 exact((s p.a λx a=>⟨n x a,λr e=>((j.c x a).2.2 r e).2.2.2⟩).b p.c λd q=>zvu (m d q)).a (zl0 k)
end
section
variable [fC]
def FB:∀(a b:List (List Nat)),iJ (a++b)=iJ a++iJ b
 | [],b=>rfl
 | x::a,b=>by rw[List.cons_append,iJ,iJ,FB a b];simp
def zh5(x:List Nat):iJ [x]=x++[10]:=by simp[iJ]
def FA(a:List (List Nat))(x:List Nat):iJ (a++[x])=iJ a++(x++[10]):=by rw[FB,zh5]
def Th(p:rD):O:=if xT p=true then(if 65536<(xQ p).length then .p [.h [],.e .i64 3]else .p [.h (xQ p),.e .i64 0])else .p [.h [],.e .i64 2]
def zlm:∀ {p:Nat->Bool} {s:List Nat},dE p s=s->∀x∈s,p x=true:=by
 intro p s h x a;unfold dE at h;rw[<- h]at a;exact C9.1 List.all_takeWhile x a
def Sf{s:List Nat}(h:sI s=true):pB 256 s:=by
 intro x a;unfold sI at h;split at h
 .cases a
 .simp only[B2]at h;have:=zlm ((bJ _ _).1 h.1.2) x a;unfold jL rO dD at this;simp only[G7,B2,decide_eq_true_eq]at this;omega
end
section
variable {s:List Nat}{g:Bool}{r:rG}{cs:List O}{c:nD}
variable [fC]
variable {t tf:G vA}
def vP (s L:List Nat):Prop:=s=L\/(65536<s.length/\65536<L.length)
theorem vP.a(s:List Nat):vP s s:=.inl rfl
theorem vP.b{L u U:List Nat}(h:vP s L)(k:vP u U):vP (s++u) (L++U):=by
 rcases h with rfl | ⟨a,b⟩
 .rcases k with rfl | ⟨c,d⟩
  .exact .inl rfl
  .exact .inr ⟨by simp;omega,by simp;omega⟩
 .exact .inr ⟨by simp;omega,by simp;omega⟩
def Wr.ln{T:List Nat}(h:Wr [] T s):vP s T:=by
 rcases h with rfl | ⟨a,b⟩
 .exact .inl (by simp)
 .exact .inr ⟨b,by simpa using a⟩
def Ze(c:vN t){d:Int}(a:0<=d)(b:d<65536):oB Y F 74 [.e .i64 d] t=some (.h (vH d.toNat)):=by
 have e:d.toNat<65536:=by omega
 rw[<- SP e,show((d.toNat:Nat):Int)=d by omega];exact zro c a b
def NT(n:Nat):(oG n).length<=10:=by unfold oG;split<;>simp
def NU(a:bK t){n:Nat}(c:n<7):oB Y F 84 [.e .u8 (n:Int)] t=some (.h (oG n))/\pB 256 (oG n):=by
 refine⟨zg9 a (by omega),?_⟩;have:n=0\/n=1\/n=2\/n=3\/n=4\/n=5\/n=6:=by omega
 rcases this with rfl | rfl | rfl | rfl | rfl | rfl | rfl <;> (intro x b;simp[oG]at b;try omega)
structure T3 (g:Bool) (r:rG):Prop where
 a:(iH (xJ r.a)).length<=40/\pB 256 (iH (xJ r.a))
 b:(iH (xJ r.b)).length<=40/\pB 256 (iH (xJ r.b))
 f:(iH (qK r.f)).length<=220/\pB 256 (iH (qK r.f))/\uN r.f=true
 c:0<=r.c/\r.c<65536
def ON{n:Int}(h:U7 n):(iH (xJ n)).length<=40/\pB 256 (iH (xJ n)):=by
 have a:=Xq h.1 h.2;have b:=Rd (xJ n);exact⟨by omega,(Xd Xe.1 Xe.2).1⟩
def zbb{f:qF}(d:f.a)(h:wY f=true):(iH (qK f)).length<=220/\pB 256 (iH (qK f))/\uN f=true:=by
 obtain⟨a,b,c⟩:=Wm h;refine⟨?_,(Xd Xf.1 Xf.2).1,a⟩;rw[(BZ b).1,E1];have:(Hk f.n.b).length<=6:=by unfold Hk;split<;>simp
 omega
def JW  (b:r.e)(a:bX g r=true):T3 g r:=by
 unfold bX jS at a;simp only[B2,decide_eq_true_eq]at a;exact⟨ON b.1,ON b.2.1,zbb b.2.2.2 a.2.2.2.2,a.2.2.2.1⟩
def NW  (h:T3 g r):(Ek g r).length<=81:=by
 have a:=h.a.1;have b:=h.b.1;unfold Ek;split<;>simp<;>omega
def zlo  (h:T3 g r):(eU g r).length<=330:=by
 have a:=NW h;have b:=h.f.1;have c:=(Au r.c.toNat).1;unfold eU;simp only[E1,Do,G1];omega
def zs7  (h:T3 g r):pB 256 (eU g r):=by
 have b:pB 256 (Ek g r):=by
  unfold Ek;refine lH h.a.2 ?_;split
  .exact lH (by intro x a;simp at a;omega) h.b.2
  .intro x a;cases a
 unfold eU;refine lH (lH (lH (lH (lH ?_ b) ?_) (Au _).2) ?_) h.f.2.1
 all_goals (intro x a;simp at a;omega)
def zag(i:vN t)   (c:r.e)(j:bX g r=true)(h:RD t r.d cs):oB Y F 85 [.i cs,.d g] t=some (.h (eU g r)):=by
 have b:=JW c j;have o:=b.a.1;have p:=b.b.1;have q:=b.f.1;have l:=NW b;have k:=(Au r.c.toNat).1;obtain⟨u,v,rfl,d,f⟩:=Nf h;have m:Am.A8 10 (.i [O.d r.f.n.b,u,.d r.f.d.b,v]) (.i [O.d r.f.n.b,u,.d r.f.d.b,v])=true:=by
  show Am.A8.sames 9 [O.d r.f.n.b,u,.d r.f.d.b,v] [O.d r.f.n.b,u,.d r.f.d.b,v]=true;simp only[Am.A8.sames,CG,d.g,f.g,Bool.and_self]
 have a:jp 85 9 [.h (Ek g r),.e .i64 r.a,.e .i64 r.b,.e .i64 r.c,.d r.f.n.b,u,.d r.f.d.b,v] t (λv n=>v=.h (eU g r)/\n=t):=by
  refine j85_9 ?_;unfold t85_9 uS V;refine uA (rH (by simp;omega)) (jC (uA (rH (by simp;omega)) (jC (aA ?_))));rw[q74,Ze i b.c.1 b.c.2,xA];refine jC (tA m (uA (rH (by simp;omega)) (jC (uA (rH (by simp;omega)) (jC (aA ?_))))));rw[q73,EV d f c.2.2.2 b.f.2.2,xA];refine jC (uA (rH (by simp;omega)) (jC ⟨?_,rfl⟩));unfold eU;rfl
 refine mC.2 (w85 ?_);unfold t85 uS V;refine aA ?_;rw[q75,Xx c.1.1 c.1.2,xA];refine jC ?_
 cases g with
 | true=>
  refine tA rfl (aA ?_);rw[q75,Xx c.2.1.1 c.2.1.2,xA];exact jC (uA (rH (by simp;omega)) (jC (uA (rH (by simp;omega)) (jC (qC a)))))
 | false=>
  have e:Ek false r=iH (xJ r.a):=by simp[Ek]
  rw[e]at a;exact vB (by simp) (qC a)
structure ClF (c:nD):Prop where
 b:sI c.g=true
 a:sI c.c=true
 d:0<=c.f/\c.f<65536
 e:0<=c.e/\c.e<65536
 to:c.i<65536->0<=c.i
 ex:c.h=false->fJ c.a 1=true/\fJ c.b 1=true
def zog (h:zZ c=true):ClF c:=by
 unfold zZ jS at h;simp only[B2,G7,decide_eq_true_eq]at h;refine⟨h.1,h.2.1,h.2.2.1,h.2.2.2.1,λk=>by omega,λk=>?_⟩;have:=h.2.2.2.2.2;rw[k,A3 (by simp),B2]at this;exact this
def AX(n:Int):(P4 n).length<=10/\pB 256 (P4 n):=by
 have:=Au n.toNat;unfold P4;split
 .exact⟨by omega,this.2⟩
 .exact⟨by simp,by intro x a;simp at a;omega⟩
def zhr (h:ClF c):(iY c).length<=120:=by
 have a:=eZ h.b;have b:=eZ h.a;have d:=(Au c.f.toNat).1;have e:=(Au c.e.toNat).1;have f:=(AX c.i).1;unfold iY;simp only[E1,Do,G1];omega
def znf (h:ClF c):pB 256 (iY c):=by
 unfold iY;refine lH (lH (lH (lH (lH (lH (lH (lH (lH ?_ (Sf h.b)) ?_) (Sf h.a)) ?_) (Au _).2) ?_) (AX _).2) ?_) (Au _).2
 all_goals (intro x a;simp at a;omega)
def YZ(k:vN t)(A:mU t){x:nD} {Q:lB}(j:x.j)(D:zZ x=true)(E:RD t x.d cs)
  (z:∀t' s,zB t t'->vP s (tU x)->s≠[]->s.length<200000->pB 256 s->Q (.h s) t'):Wc Y F 86 [.i cs] t Q:=by
 have i:=zog D;have P:=zhr i;have R:=eZ i.b;have S:=eZ i.a;have T:=(Au x.f.toNat).1;have U:=(Au x.e.toNat).1;have W:=(AX x.i).1;have m:=znf i;obtain⟨a,b,c,p,q,r,rfl,B,v⟩:=Nh E;have g:A8 10 (.i (mO x.b p q r)) (.i (mO x.b p q r))=true:=v.i;simp only[mO,List.cons_append,E8]at B v g ⊢;have d:jp 86 9 [.h (P4 x.i),.h x.g,.h x.c,.e .i64 x.f,.e .i64 x.i,.e .i64 x.e,.d x.h,.e .u8 x.a.e,.h x.a.i,.e .u8 x.a.v.a,.d x.a.v.f.n.b,a,.d x.a.v.f.d.b,b,.e .i64 x.a.v.i,c,.e .u8 x.b.e,.h x.b.i,.e .u8 x.b.v.a,.d x.b.v.f.n.b,p,.d x.b.v.f.d.b,q,.e .i64 x.b.v.i,r] t Q:=by
  refine j86_9 ?_;unfold t86_9 uS V uY;refine uA (rH (by simp;omega)) (jC (uA (rH (by simp;omega)) (jC (uA (rH (by simp;omega)) (jC (uA (rH (by simp;omega)) (jC (aA ?_))))))));rw[q74,Ze k i.d.1 i.d.2,xA];refine jC (tA Gx (tA Gx (tA Gy (uA (rH (by simp;omega)) (jC (uA (rH (by simp;omega)) (jC (uA (rH (by simp;omega)) (jC (uA (rH (by simp;omega)) (jC (aA ?_))))))))))));rw[q74,Ze k i.e.1 i.e.2,xA];refine jC (tA Gx (tA Gx (uA (rH (by simp;omega)) (jC ?_))))
  have C:[99,108,97,117,115,101,32]++x.g++[32]++x.c++[32,102,114,111,109,32]++vH x.f.toNat++[32,116,111,32]++P4 x.i++[32,107,110,111,119,110,32]++vH x.e.toNat=iY x:=rfl;rw[C];have u:iY x≠[]:=λe=>by unfold iY at e;simp at e
  have n:∀l:List Nat,iY x++l≠[]:=λl e=>u (List.append_eq_nil_iff.1 e).1
  cases f:x.h with
  | true=>
   refine tA rfl (uA (rH (by simp;omega)) (jC ?_));refine z _ _ (zB.f _) ?_ (n _) (by simp;omega) (lH m (by intro x j;simp at j;omega));unfold tU;rw[A5 f];exact vP.a _
  | false=>
   obtain⟨J,I⟩:=i.ex f;refine vB (by simp) (uA (rH (by simp;omega)) (jC (aA ?_)));rw[q28];refine QK j.2.2.2.2.2.1 J k A B λt1 X o _ K M w=>?_;refine jC (tA g (uA (rH (by simp;omega)) (jC (uA (rH (by simp;omega)) (jC (aA ?_))))));rw[q28];refine QK j.2.2.2.2.2.2 I (k.a o) (A.a o) (v.f o) λt2 Z H _ L N y=>?_;refine jC (uA (rH (by simp;omega)) (jC ?_));refine z _ _ (o.d H) ?_ ?_ (by simp;omega) ?_
   .unfold tU;rw[A3 (by rw[f];simp)];have:=((((vP.a (iY x)).b (vP.a [32,119,104,101,110,32])).b K.ln).b (vP.a [32,116,104,101,110,32])).b L.ln;simpa[D4]using this
   .simp only[D4];exact n _
   .exact lH (lH (lH (lH m (by intro x j;simp at j;omega)) w) (by intro x j;simp at j;omega)) y
 refine w86 ?_;unfold t86 uS V uY;by_cases h:x.i<65536
 .refine tA (iM h) (aA ?_);rw[q74,Ze k (i.to h) h,xA];unfold P4 at d;rw[A5 h]at d;exact jC (qC d)
 .unfold P4 at d;rw[A3 h]at d;exact vB (dM h) (qC d)
end
section
variable {b:Nat}{d:eE}
variable [fC]
variable {t tf:G vA}
def lm  : iB Y 52 0 (.j b 0)=some (.j b 0):=by kernel_rfl
def lq  : iB Y 52 1 (.j b 0)=some (.j b 1):=by kernel_rfl
def lr  : iB Y 52 2 (.j b 0)=some (.j b 2):=by kernel_rfl
def lz  : iB Y 52 3 (.j b 0)=some (.j b 3):=by kernel_rfl
def NS (h:vX d=true):sI d.a=true/\1<=d.b/\d.b<7:=by
 unfold vX at h;simp only[B2,decide_eq_true_eq]at h;exact⟨h.1,h.2.1,by omega⟩
def zbo{t:G vA}(e:bK t) (h:vX d=true):(Fc d).length<=50/\pB 256 (Fc d):=by
 obtain⟨b,f,c⟩:=NS h;have i:=eZ b;have g:=NT d.b;unfold Fc;constructor
 .have:(if d.c=true then [102,97,99,116,32]else [100,101,102,32]:List Nat).length<=5:=by split<;>simp
  simp only[E1,Do,G1];omega
 .refine lH (lH (lH ?_ (Sf b)) (by intro x a;simp at a;omega)) (NU e c).2;split <;> (intro x a;simp at a;omega)
def VL{x:mE}(h:sI x.b=true):(Gs x).length<=50/\pB 256 (Gs x):=by
 have b:=eZ h;unfold Gs;constructor
 .have:(if x.c=true then [32,116,119,111]else [32,111,110,101]:List Nat).length<=4:=by split<;>simp
  simp only[E1,Do,G1];omega
 .refine lH (lH (by intro x a;simp at a;omega) (Sf h)) ?_;split <;> (intro x a;simp at a;omega)
def zgk{l w:Nat}{p:rD}{a b c:O}{I:List (List Nat)->G vA->Prop}{E:G vA->Prop}{Q:lB}(hp:p.f)(hP:xT p=true)(D:∀k t,I k t->zB tf t)(ag:∀k t t',I k t->zB t t'->I k t')
  (hM:vN tf) (hW:mU tf) (hK:bK tf) (c0:xC tf w none [.h p.e,a,b,c]) (ra:bA tf 3 (p.c.map eE.d) a) (rb:bA tf 3 (p.a.map mE.d) b) (rc:bA tf 24 (p.b.map nD.d) c)
  (hy:∀k L rest t B Q1,rR p=k++L::rest->I k t->vP B L->B≠[]->B.length<200000->pB 256 B->(∀t',E t'->Q1 (.d false) t')->(∀t',I (k++[L]) t'->Q1 (.d true) t')->Wq Y F eC (yo+l) [.h B] t Q1)
  (hE:∀t,E t->Q (.p []) t) (hF:∀t,I (rR p) t->Q (.p []) t) (h0:I [] t):Wc Y F 83 [.q (.ac l) [] [],.j w 0] t Q:=by
 have cy:∀(f:Nat) (s:List Nat) (K:O->T) (t:G vA),Wq Y F eC (yo+l) [.h s] t (λv t'=>lA Y.a (Wq Y F eC) (Jq Y F f) (K v) t' Q)->wp f (.n (.q (.ac l) [] []) [.h s] K) t Q:=by
  intro f s K t h;exact h
 have u:∀(k:List (List Nat)) (L:List Nat) (rest:List (List Nat)) (t:G vA) (B:List Nat) (N:T),rR p=k++L::rest->I k t->vP B L->B≠[]->B.length<200000->pB 256 B->(∀t',I (k++[L]) t'->wp 83 N t' Q)->wp 83 (.n (.q (.ac l) [] []) [.h B] λv=>.q v λb=>.a (!b) (.l (.p [])) N) t Q:=by
  intro k L rest t B N h1 y h3 h4 h5 h6 h7;refine cy _ _ _ _ ?_;exact hy k L rest t B _ h1 y h3 h4 h5 h6 (λt' he=>iC (tA rfl (hE t' he))) λt' X=>iC (vB (by simp) (h7 t' X))
 have au:=hP;unfold xT at hP;simp only[B2,C9]at hP;obtain⟨pn,pd,pt,pc⟩:=hP;have aj:=hp.f;have al:=hp.e;have ai:=hp.b;unfold lF at aj al ai;have nn:=eZ pn;have a6:∀(m i:Nat) (k:List (List Nat)) (t:G vA),i+m=p.b.length->rR p=k++(p.b.drop i).map tU->I k t->jp 83 14 [.q (.ac l) [] [],c,.e .i64 (p.b.length:Int),.e .i64 (i:Int)] t Q:=by
  intro m;induction m with
  | zero=>
   intro i k t X g h;refine zp9 ?_;unfold BE;refine vB (dM (by omega)) (hF t ?_);rw[E3 (by omega),List.map_nil,C8]at g;rw[g];exact h
  | succ m ih=>
   intro i k t X g h;have r:i<p.b.length:=by omega
   have Z:=F2 r;rw[G0 r,G4]at g;obtain⟨b',ab,C,g1,g2,g3,g4,R⟩:=gG.at S8 (by simp) (rc.a (D _ t h)) (i:=i) (d:=p.b[i].d) (by simp[r]);refine zp9 ?_;unfold BE uB uS uG aB tC V;refine tA (iM (by omega)) (uA g1 (fB g2 ?_));rw[Bo];refine aC (kN R (nD.k _)) ?_;have P:mf (AN C)=C:=R.mk (nD.k p.b[i]);have hA:U4 (AN C)=.i C:=congrArg O.i P;rw[P];refine tA R.e (aA ?_);rw[hA,q86];have n:=D _ t h;refine YZ (hM.a n) (hW.a n) (hp.a _ Z) (pc _ Z) R λt1 s ad k1 k2 k3 k4=>jC ?_
   refine u k _ _ _ _ _ g (ag _ _ _ h ad) k1 k2 k3 k4 λU y=>qC ?_;rw[A2 (by omega) (by omega),show(i:Int)+1=((i+1:Nat):Int) by omega];exact ih (i+1) _ U (by omega) (by rw[g];simp) y
 have aa:∀(m i:Nat) (k:List (List Nat)) (t:G vA),i+m=p.a.length->rR p=k++((p.a.drop i).flatMap Gr++p.b.map tU)->I k t->jp 83 6 [.q (.ac l) [] [],.j w 0,b,.e .i64 (p.a.length:Int),.e .i64 (i:Int)] t Q:=by
  intro m;induction m with
  | zero=>
   intro i k t X g h;refine j83_6 ?_;unfold xj uI V;rw[E3 (by omega),List.flatMap_nil,E8]at g;have n:=D _ t h;have o:=(rc.a n).c;rw[C4]at o;refine vB (dM (by omega)) (uA lz (fB ((c0.l n).f (j:=3) S5 rfl rfl) (uA o (sB (qC ?_)))));exact a6 p.b.length 0 k t (by omega) (by rw[G8];exact g) h
  | succ m ih=>
   intro i k t X g h;have r:i<p.a.length:=by omega
   have Z:=F2 r;have J:=hp.c _ Z;have A:=pt _ Z;unfold oZ at A;rw[B2,C9]at A;have ak:=J.2.1;unfold lF at ak;have tl:=VL A.1;have tn:=eZ A.1;rw[G0 r,List.flatMap_cons]at g;obtain⟨b',ab,C,g1,g2,_,_,R⟩:=gG.at OK (by simp) rb (i:=i) (d:=p.a[i].d) (by simp[r]);obtain⟨q,rfl,a1⟩:=Rn R;have am:q.z=true:=a1.e;have n:=D _ t h;have ld:oA Y 92 ⟨0,t⟩ (.j b' ab)=some (Qk true [.h p.a[i].b,.d p.a[i].c,q]):=Ql (H:=⟨0,tf⟩) (HA:=⟨0,t⟩) n g2
   have a8:∀(m j:Nat) (k:List (List Nat)) (t:G vA),j+m=p.a[i].a.length->rR p=k++((p.a[i].a.drop j).map (eU p.a[i].c)++((p.a.drop (i+1)).flatMap Gr++p.b.map tU))->I k t->jp 83 10 [.q (.ac l) [] [],.j w 0,b,.e .i64 (p.a.length:Int),.e .i64 (i:Int),q,.e .i64 (p.a[i].a.length:Int),.e .i64 (j:Int),.h p.a[i].b,.d p.a[i].c,q] t Q:=by
    intro m';induction m' with
    | zero=>
     intro j k t hj g h;refine zqa ?_;unfold BF tC V;refine vB (dM (by omega)) (qC ?_);rw[A2 (by omega) (by omega),show(i:Int)+1=((i+1:Nat):Int) by omega];exact ih (i+1) k t (by omega) (by rw[g,E3 (by omega),List.map_nil,E8]) h
    | succ m' ao=>
     intro j k t hj g h;have M:j<p.a[i].a.length:=by omega
     have S:=F2 M;rw[G0 M,G4,List.cons_append]at g;have n:=D _ t h;obtain⟨aq,ap,C,k1,k2,k3,k4,k5⟩:=gG.at S9 (by simp) (a1.a n) (i:=j) (d:=p.a[i].a[j].d) (by simp[M]);refine zqa ?_;unfold BF uB uS uG aB tC V;refine tA (iM (by omega)) (uA k1 (fB k2 ?_));rw[Bo];refine aC (kN k5 (rG.g _)) ?_;have P:wy (AN C)=C:=k5.mk (rG.g p.a[i].a[j]);have hA:m9 (AN C)=.i C:=congrArg O.i P;rw[P];have ae:=JW (J.2.2 _ S) (A.2 _ S)
     have av:=zlo ae;refine tA k5.e (aA ?_);rw[hA,q85,zag (hM.a n) (J.2.2 _ S) (A.2 _ S) k5,xA];refine jC (u k _ _ _ _ _ g h (vP.a _) (λe=>by unfold eU at e;simp at e) (by omega) (zs7 ae) λU y=>qC ?_);rw[A2 (by omega) (by omega),show(j:Int)+1=((j+1:Nat):Int) by omega];exact ao (j+1) _ U (by omega) (by rw[g];simp) y
   have next:jp 83 31 [.q (.ac l) [] [],.j w 0,.h (if p.a[i].c=true then [32,116,119,111]else [32,111,110,101]),b,.e .i64 (p.a.length:Int),.e .i64 (i:Int),.h p.a[i].b,.d p.a[i].c,q] t Q:=by
    refine j83_31 ?_;unfold zo8 uI uB uS V;have ah:(if p.a[i].c=true then [32,116,119,111]else [32,111,110,101]:List Nat).length<=4:=by split<;>simp
    refine uA (rH (by simp;omega)) (jC (uA (rH (by simp only[E1,Do,G1];omega)) (jC ?_)));have W:rR p=k++Gs p.a[i]::(p.a[i].a.map (eU p.a[i].c)++((p.a.drop (i+1)).flatMap Gr++p.b.map tU)):=by
     rw[g];simp[Gr]
    refine u k _ _ _ _ _ W h (vP.a _) (λe=>by simp at e) (by have:=tl.1;unfold Gs at this;omega) tl.2 λU y=>?_;have o:=(a1.a (D _ _ y)).c;rw[C4]at o;refine uA o (sB (qC ?_));exact a8 p.a[i].a.length 0 _ U (by omega) (by rw[W];simp) y
   refine j83_6 ?_;unfold xj uG aB V;refine tA (iM (by omega)) (uA g1 (fB ld ?_));rw[Bo];refine aC (kN R (mE.f _)) ?_;refine tA ?_ ?_
   .show oD O.z [.h p.a[i].b,.d p.a[i].c,q]=true;rw[gI];simp only[Z8,sf,am];rfl
   show wp 83 (.a p.a[i].c (.j 31 [.q (.ac l) [] [],.j w 0,.h [32,116,119,111],b,.e .i64 (p.a.length:Int),.e .i64 (i:Int),.h p.a[i].b,.d p.a[i].c,q]) (.j 31 [.q (.ac l) [] [],.j w 0,.h [32,111,110,101],b,.e .i64 (p.a.length:Int),.e .i64 (i:Int),.h p.a[i].b,.d p.a[i].c,q])) t Q;by_cases z:p.a[i].c=true
   .rw[A5 z]at next;exact tA z (qC next)
   .rw[A3 z]at next;exact vB z (qC next)
 have a7:∀(m i:Nat) (k:List (List Nat)) (t:G vA),i+m=p.c.length->rR p=k++((p.c.drop i).map Fc++(p.a.flatMap Gr++p.b.map tU))->I k t->jp 83 2 [.q (.ac l) [] [],.j w 0,a,.e .i64 (p.c.length:Int),.e .i64 (i:Int)] t Q:=by
  intro m;induction m with
  | zero=>
   intro i k t X g h;refine j83_2 ?_;unfold xi uI V;rw[E3 (by omega),List.map_nil,E8]at g;have n:=D _ t h;have o:=(rb.a n).c;rw[C4]at o;refine vB (dM (by omega)) (uA lr (fB ((c0.l n).f (j:=2) Jt rfl rfl) (uA o (sB (qC ?_)))));exact aa p.a.length 0 k t (by omega) (by rw[G8];exact g) h
  | succ m ih=>
   intro i k t X g h;have r:i<p.c.length:=by omega
   have Z:=F2 r;have ac:=pd _ Z;have df:=zbo hK ac;obtain⟨dn,ar,af⟩:=NS ac;have dl:=eZ dn;rw[G0 r,G4,List.cons_append]at g;have n:=D _ t h;obtain⟨b',ab,C,g1,g2,_,_,R⟩:=gG.at S7 (by simp) (ra.a n) (i:=i) (d:=p.c[i].d) (by simp[r]);obtain rfl:=Ng R;have next:jp 83 15 [.q (.ac l) [] [],.j w 0,.h (if p.c[i].c=true then [102,97,99,116,32]else [100,101,102,32]),a,.e .i64 (p.c.length:Int),.e .i64 (i:Int),.h p.c[i].a,.e .u8 (p.c[i].b:Int),.d p.c[i].c] t Q:=by
    refine j83_15 ?_;unfold zo9 uB uS tC V uY;have ah:(if p.c[i].c=true then [102,97,99,116,32]else [100,101,102,32]:List Nat).length<=5:=by split<;>simp
    have kl:=NT p.c[i].b;refine uA (rH (by omega)) (jC (uA (rH (by simp only[E1,Do,G1];omega)) (jC (aA ?_))));rw[q84,(NU (hK.a n) af).1,xA];refine jC (tA Gx (uA (rH (by simp only[E1,Do,G1];omega)) (jC ?_)));refine u k _ _ _ _ _ g h (vP.a _) (λe=>by simp at e) (by have:=df.1;unfold Fc at this;omega) df.2 λU y=>qC ?_;rw[A2 (by omega) (by omega),show(i:Int)+1=((i+1:Nat):Int) by omega];exact ih (i+1) _ U (by omega) (by rw[g];simp) y
   refine j83_2 ?_;unfold xi uG V;refine tA (iM (by omega)) (uA g1 (fB g2 ?_));rw[Bo];refine aC (kN R (eE.f _)) (tA rfl ?_);show wp 83 (.a p.c[i].c (.j 15 [.q (.ac l) [] [],.j w 0,.h [102,97,99,116,32],a,.e .i64 (p.c.length:Int),.e .i64 (i:Int),.h p.c[i].a,.e .u8 (p.c[i].b:Int),.d p.c[i].c]) (.j 15 [.q (.ac l) [] [],.j w 0,.h [100,101,102,32],a,.e .i64 (p.c.length:Int),.e .i64 (i:Int),.h p.c[i].a,.e .u8 (p.c[i].b:Int),.d p.c[i].c])) t Q
   by_cases hf:p.c[i].c=true
   .rw[A5 hf]at next;exact tA hf (qC next)
   .rw[A3 hf]at next;exact vB hf (qC next)
 have n:=D _ t h0;refine w83 ?_;unfold t83 uI uB uS V;refine uA lm (fB ((c0.l n).f (j:=0) iI rfl rfl) (jC (uA (rH (by simp;omega)) (jC ?_))));have g:rR p=[]++um p.e::(p.c.map Fc++(p.a.flatMap Gr++p.b.map tU)):=rfl;refine u [] _ _ _ _ _ g h0 (vP.a _) (λe=>by simp at e) (by simp;omega) (lH (by intro x hx;simp at hx;omega) (Sf pn)) λU y=>?_;have o:=(ra.a (D _ _ y)).c;rw[C4]at o;refine uA lq (fB ((c0.l (D _ _ y)).f (j:=1) S4 rfl rfl) (uA o (sB (qC ?_))))
 exact a7 p.c.length 0 _ U (by omega) (by rw[g];simp) y
end
section
variable [fC]
variable {t tf:G vA}
def zcc{b T:Nat}{y:jD}{lo:Option Lo}(g:Y.b.c T=some y)(a:lL Y T=lo)(h:t.c b=none):∃t',Jm Y T ⟨b,t⟩=some (.j b 0,⟨b+1,t'⟩)/\xC t' b lo y.c/\zB t t'/\nF b t t':=by
 obtain⟨t',c,d,e,f⟩:=Eb h y.c lo;refine⟨t',?_,d,e,f⟩;unfold Jm;rw[g,mA,a,c]
def za2{r:iO}(j:r.e=.ready)(k:r.a=none):pP true r=r:=by
 obtain⟨a,b,c,d,e,f,g,h,i⟩:=r;have j:a=.ready:=j;have k:b=none:=k;subst j;subst k;rfl
def BX.up{T k:Nat}{l:List O}{s:List Nat}{t':G vA}(h:BX T l tf t k s)(d:zB t t'):BX T l tf t' k s:=by
 refine h.r (h.g.d d) λb u=>?_;have:∃y,t.c b=some y:=by
  obtain⟨x,z,A,D,C,p,n,E,a,r,B⟩:=h;rcases u with rfl | ⟨F,f,i,w⟩
  .obtain⟨c,a,_⟩:=a;exact⟨_,a⟩
  .have e:f=n:=by
    obtain⟨c,i,j⟩:=i;obtain⟨o,a,g⟩:=a;rw[i]at a;have q:c=o:=by
     have:=D6 a;injection this
    have:=j 1 f rfl;rw[q,g 1 n rfl]at this;exact(D6 this).symm
   subst e
   cases v:t.c b with
   | none=>exact absurd v (EM r w)
   | some y=>exact⟨y,rfl⟩
 obtain⟨y,m⟩:=this;rw[m,d _ _ m]
def vP.c{s L:List Nat}(h:vP s L)(a:¬ 65536<s.length):s=L:=by
 rcases h with h | h
 .exact h
 .exact absurd h.1 a
def zh0{p:rD}{cs:List O}{Q:lB}(hp:p.f)(hM:vN t)(hW:mU t)(hK:bK t)(hr:RD t p.d cs)(hQ:∀t',zB t t'->(xT p=true->¬ 65536<(xQ p).length->pB 256 (xQ p))->Q (Th p) t'):Wc Y F 17 [.i cs] t Q:=by
 have b3:=hr;obtain⟨a,b,c,rfl,ra,rb,rc⟩:=aX hr;refine w17 ?_;unfold t17 uB uS V;refine kC λn ak a6=>?_;obtain⟨t1,e1,c1,l1,o1⟩:=gP (C:=Y) iI ak;refine⟨_,_,e1,kC λq ab a7=>?_⟩;obtain⟨t2,e2,c2,l2,o2⟩:=gP (C:=Y) bR ab;refine⟨_,_,e2,aA ?_⟩;have ac:zB t t2:=l1.d l2;have b7:=b3.f ac;rw[q18,KP hp b7,xA];refine iC ?_;have i:n≠q:=by intro e;obtain⟨c,h,_⟩:=c1;rw[e,ab]at h;cases h
 have al:t.c n=none:=ak;have am:t.c q=none:=Bz l1 ab;have o:∀ {u v1 X:G vA},zB t u->nF n u v1->nF q v1 X->zB t X:=λh d f b y D=>by
  have ae:b≠n:=λe=>by rw[e,al]at D;cases D
  have af:b≠q:=λe=>by rw[e,am]at D;cases D
  rw[f b af,d b ae];exact h _ _ D
 cases hP:xT p with
 | false=>
  refine tA rfl (kC λm1 _ _=>?_);have s:xC t2 n none [.h []]:=c1.i (o2 n i);obtain⟨v1,d1,d2,Z⟩:=s.g (v:=.h []) a6 iI rfl rfl rfl (j:=0) (by simp);refine⟨_,_,d1 m1,kC λm2 _ _=>?_⟩;have g:xC v1 q none [.e .i64 0]:=xC.i c2 (Z q i.symm);obtain⟨X,f1,f2,f3⟩:=g.g (v:=.e .i64 2) a7 bR rfl rfl rfl (j:=0) (by simp);refine⟨_,_,f1 m2,?_⟩;have a1:xC X n none [.h []]:=d2.i (f3 n i);refine fB (a1.f (j:=0) iI rfl rfl) (fB (f2.f (j:=0) bR rfl rfl) ?_)
  have:=hQ X (o ac Z f3) (λe=>by rw[hP]at e;cases e);unfold Th at this;rw[hP]at this;exact this
 | true=>
 have hN:Th p=if 65536<(xQ p).length then .p [.h [],.e .i64 3]else .p [.h (xQ p),.e .i64 0]:=by unfold Th;rw[A5 hP]
 refine vB (by simp) (kC λbx S ay=>?_);obtain⟨t3,e3,c3,l3,o3⟩:=zcc (T:=98) (lo:=some (.a 98)) ty98 (by kernel_rfl) S;refine⟨_,_,e3,aA ?_⟩;have bd:n≠bx:=by intro e;obtain⟨c,h,_⟩:=c1;have h:=l2 _ _ h;rw[e,S]at h;cases h
 have be:q≠bx:=by intro e;obtain⟨c,h,_⟩:=c2;rw[e,S]at h;cases h
 rw[q41];refine w41 ?_;unfold t41;refine kC λw hw bc=>?_;generalize ap:(vA.aa (G.ac [.h p.e,a,b,c]) 4 none)=yw;have ew:nL (.i [.h p.e,a,b,c]) ⟨w,t3⟩=some (.j w 0,⟨w+1,t3.d w yw⟩):=by rw[<- ap];rfl
 refine⟨_,_,ew,?_⟩;show wp 17 _ (t3.d w yw) Q;have bf:w≠bx:=by intro e;obtain⟨c,h,_⟩:=c3;rw[<- e,hw]at h;cases h
 have aw:BX 98 [] t2 t3 bx []:=⟨ay,S,l3,(by intro x hx;cases hx),rfl,.y,.g,.inl rfl,c3,.inl ⟨rfl,rfl⟩,Xv,λ_=>rfl⟩;have N:=aw.k hw yw;have ar:t2.c w=none:=Bz l3 hw;have W:zB t2 (t2.d w yw):=(bN ar yw).1;generalize hf:t2.d w yw=K at N W;generalize t3.d w yw=tR at N;have cw:xC K w none [.h p.e,a,b,c]:=by
  rw[<- hf];exact⟨_,by rw[G.aa,A5 rfl,<- ap];rfl,λj a hj=>by rw[G.o];exact hj⟩
 have s:xC K n none [.h []]:=(c1.i (o2 n i)).l W;have M:xC K q none [.e .i64 0]:=xC.l c2 W;have U:zB t K:=ac.d W;refine⟨Nat.le_add_right _ _,λl r ah bb b4 b5 b8=>?_⟩;have b6:Bs (qQ Y) (.q (.aa 83) [] [.j w 0]) l=some (83,[.q (.ac l) [] [],.j w 0]):=by
  unfold Bs;simp only[O.am,mA];have:qQ Y 83=true:=by kernel_rfl
  rw[this];rfl
 rw[b6,xA];have H:K.c l=none:=Bz N.g ah;have aq:zB K (K.d l (.ac r)):=(bN H _).1;have z:=U.d aq;rw[show Wq Y F eC 83=Wc Y F 83 by funext a m R;exact q83 a m R];have nl:∀ {b:Nat} {lo:Option Lo} {cs:List O},xC K b lo cs->b≠l:=λh e=>by obtain⟨c,h,_⟩:=h;rw[e,H]at h;cases h
 refine zgk (tf:=K.d l (.ac r)) (p:=p)
  (I:=λA t'=>(iJ A).length<=65536/\BX 98 [] (K.d l (.ac r)) t' bx (iJ A))
  (E:=λt'=>65536<(xQ p).length/\t'.c l=some (.ac (pP false r))/\xC t' n none [.h []]/\xC t' q none [.e .i64 3]/\∀b y,t.c b=some y->t'.c b=some y/\b≠l) hp hP
  (λA t' h=>h.2.g) (λA t' bg h k=>⟨h.1,h.2.up k⟩) (hM.a z) (hW.a z) (hK.a z) (cw.l aq) (ra.a z) (rb.a z) (rc.a z) ?_ ?_ ?_ ⟨by simp[iJ],N.k ah (.ac r)⟩
 .intro A L J t' ln Q1 b0 hI ai b2 ba b1 hE hT;obtain⟨hs,hB⟩:=hI;have a8:t'.c l=some (.ac r):=hB.g _ _ (by rw[G.aa,A5 rfl]);have P:=BX.q H hB;have ao:(xQ p).length=(iJ A).length+(L.length+1)+(iJ J).length:=by
   unfold xQ;rw[b0,show A++L::J=(A++[L])++J by simp,FB,FA];simp only[E1,Do,G1];try omega
  refine b8 [.h ln] t' Q1 rfl a8 ?_;show jp 17 2 [.j n 0,.j q 0,.j bx 0,.h ln] _ _;refine j17_2 ?_;unfold t17_2 uI nH V;refine aA ?_;rw[q42];refine P.f b2 b1 (by omega) λ_ u1 ax=>aA ?_;rw[q42];refine ax.f (m:=[10]) (by simp) (λx hx=>by simp at hx;omega) (by simp;omega) λ_ u2 B=>aA ?_;rw[q43,B.w,xA];have az:(iJ A++ln++[10]).length=(iJ A).length+ln.length+1:=by simp only[E1,Do,G1]
  rw[az];refine sB ?_;by_cases b9:65536<(iJ A).length+ln.length+1
  .refine tA (iM (by omega)) (kC λm1 _ _=>?_);obtain⟨v1,d1,d2,Z⟩:=(s.l B.g).g (v:=.h []) a6 iI rfl rfl rfl (j:=0) (by simp);refine⟨_,_,d1 m1,kC λm2 _ _=>?_⟩;have g:xC v1 q none [.e .i64 0]:=(M.l B.g).i (Z q i.symm);obtain⟨X,f1,f2,f3⟩:=g.g (v:=.e .i64 3) a7 bR rfl rfl rfl (j:=0) (by simp);refine⟨_,_,f1 m2,λaj=>⟨false,rfl,hE _ ?_⟩⟩;refine⟨?_,by rw[G.aa,A5 rfl],(d2.i (f3 n i)).o (nl s) _,f2.o (nl M) _,λb y D=>?_⟩
   .rw[ao];rcases ai with rfl | h
    .omega
    .omega
   .have ag:b≠l:=λe=>by have:=U _ _ D;rw[e,H]at this;cases this
    refine⟨?_,ag⟩;rw[G.aa,A3 ag];exact o (U.d B.g) Z f3 _ _ D
  .obtain rfl:=ai.c (by omega);refine vB (dM (by omega)) λaj=>⟨true,rfl,?_⟩;rw[za2 b4 b5];have ad:=B.k aj (.ac r);rw[show iJ A++ln++[10]=iJ (A++[ln]) by rw[FA,D4]]at ad;exact hT _ ⟨by rw[FA];simp;omega,ad⟩
 .intro t' ⟨h1,h2,h3,h4,h5⟩;refine .inr ⟨h2,?_⟩;have au:xC (t'.q l) n none [.h []]:=h3.i (by rw[G.e,A3 (nl s)]);have av:xC (t'.q l) q none [.e .i64 3]:=h4.i (by rw[G.e,A3 (nl M)]);refine fB (au.f (j:=0) iI rfl rfl) (fB (av.f (j:=0) bR rfl rfl) ?_);have:=hQ (t'.q l) (λb y D=>by
   rw[G.e,A3 (h5 b y D).2];exact(h5 b y D).1) (λ_ hn=>absurd h1 hn)
  rw[hN,A5 h1]at this;exact this
 .intro t' ⟨h1,hB⟩;have a8:t'.c l=some (.ac r):=hB.g _ _ (by rw[G.aa,A5 rfl]);refine .inl ⟨a8,?_⟩;have P:=BX.q H hB;have hs:iJ (rR p)≠[]:=λe=>by unfold rR um iJ at e;simp at e
  refine aA ?_;rw[q44];refine P.i (by omega) λu aa=>?_;refine jC (kC λm1 _ _=>?_);obtain⟨v1,d1,d2,Z⟩:=(s.l aa).g (v:=.h (iJ (rR p))) a6 iI rfl rfl rfl (j:=0) (by simp);refine⟨_,_,d1 m1,kC λm2 _ _=>?_⟩;have g:xC v1 q none [.e .i64 0]:=(M.l aa).i (Z q i.symm);obtain⟨X,f1,f2,f3⟩:=g.g (v:=.e .i64 0) a7 bR rfl rfl rfl (j:=0) (by simp);refine⟨_,_,f1 m2,?_⟩;have a1:xC X n none [.h (iJ (rR p))]:=d2.i (f3 n i)
  refine fB (a1.f (j:=0) iI rfl rfl) (fB (f2.f (j:=0) bR rfl rfl) ?_);have:=hQ X (o (U.d aa) Z f3) (λ_ _=>P.2.2.2.1);rw[hN,A3 (by unfold xQ;omega)]at this;exact this
end
section
variable {i:Int}{R:List qD}{c:nD}
section
variable {tk:List xD}{K:List qD}(a:tk.map kt=K){n:Nat}
include a
def zp7 (h:Aj i=true) (b:K.drop n=uV i++R):El tk n=.ok i (n+(uV i).length):=by
 have g:=zhc h;unfold uV at b ⊢;have e:By tk pL n=decide (i<0):=by
  cases d:decide (i<0)with
  | true=>rw[d]at b;exact dL a (cD (show K.drop n=(1,pL)::([(2,mF i.natAbs)]++R) from by rw[b];rfl)) (.inl rfl)
  | false=>rw[d]at b;exact Bc a (cD (show K.drop n=(2,mF i.natAbs)::R from by rw[b];rfl)) (.inl rfl) _
 rw[D4]at b;have c:=cD (show K.drop (n+(pM (decide (i<0))).length)=(2,mF i.natAbs)::R from gL b);have j:(if decide (i<0)=true then n+1 else n)=n+(pM (decide (i<0))).length:=by unfold pM;split<;>rfl
 have f:nP (mF i.natAbs) (decide (i<0)) (-2147483648) 2147483647=some i:=by
  unfold nP;rw[Cn,Uc];have:(if decide (i<0)=true then -((i.natAbs:Nat):Int)else(i.natAbs:Nat))=i:=by
   by_cases h:i<0
   .rw[A5 (decide_eq_true h)];omega
   .rw[A3 (by simpa using h)];omega
  simp only[this];rw[A5 ⟨g.1,by omega⟩]
 unfold El;rw[e,j];simp only[Cd a c,Qs a c,f];rw[show sK (mF i.natAbs)=false by rw[Cn];exact FW _];simp;omega
def zuk{k:Nat}(d:1<=k)(e:k<=6)(h:K[n]?=some (1,oG k)):oK tk oG 6 6 1 n=.ok k (n+1):=by
 have:k=1\/k=2\/k=3\/k=4\/k=5\/k=6:=by omega
 clear d e;have c:By tk (oG k) n=true:=dL a h (.inl rfl);have b:∀w,oG k≠w->By tk w n=false:=λw f=>fH a h f;rcases this with rfl | rfl | rfl | rfl | rfl | rfl
 .simp[oK,c]
 .simp[oK,c,b (oG 1) (by decide)]
 .simp[oK,c,b (oG 1) (by decide),b (oG 2) (by decide)]
 .simp[oK,c,b (oG 1) (by decide),b (oG 2) (by decide),b (oG 3) (by decide)]
 .simp[oK,c,b (oG 1) (by decide),b (oG 2) (by decide),b (oG 3) (by decide),b (oG 4) (by decide)]
 .simp[oK,c,b (oG 1) (by decide),b (oG 2) (by decide),b (oG 3) (by decide),b (oG 4) (by decide),b (oG 5) (by decide)]
def Zc (h:jS i=true)(b:K[n]?=some (3,vH i.toNat)):nR tk n=.ok i (n+1):=by
 rw[RH a b,GC (Zg h).1];show PR.ok (((i.toNat:Nat):Int)) _=_;rw[(Zg h).2]
def zvw{d:eE}(h:vX d=true) (e:K.drop n=Fe d++(5,[])::R)(p:rD):sS tk p n=.ok ⟨p.e,p.c++[d],p.a,p.b⟩ (n+(Fe d).length):=by
 unfold vX at h;simp only[B2,decide_eq_true_eq]at h;have e:K.drop n=(1,if d.c=true then sW else O3)::(1,d.a)::(1,oG d.b)::(5,[])::R:=e;have c:=cD e;have g:∀b,F9 tk b (n+1)=.ok ⟨d.a,d.b,b⟩ (n+3):=λb=>by
  unfold F9;rw[Kn a (cD (vF e)) h.1];show(oK tk oG 6 6 1 (n+1+1)).c _=_;rw[zuk a h.2.1 h.2.2 (cD (vF (vF e)))];rfl
 unfold sS
 cases f:d.c with
 | true=>
  rw[f]at c;have c:K[n]?=some (1,sW):=c;rw[dL a c (.inl rfl),A5 rfl,g true,<- f];rfl
 | false=>
  rw[f]at c;have c:K[n]?=some (1,O3):=c;rw[fH a c (by decide),dL a c (.inl rfl),A3 (by simp),A5 rfl,g false,<- f];rfl
def l8{x:mE}(h:sI x.b=true) (c:K.drop n=Dh x++(5,[])::R)(p:rD):sS tk p n=.ok ⟨p.e,p.c,p.a++[⟨x.b,x.c,[]⟩],p.b⟩ (n+(Dh x).length):=by
 have c:K.drop n=(1,Qf)::(1,x.b)::(1,if x.c=true then Bm else J5)::(5,[])::R:=c;have d:=cD c;have b:=cD (vF (vF c));unfold sS;rw[fH a d (by decide),fH a d (by decide),dL a d (.inl rfl),A3 (by simp),A3 (by simp),A5 rfl];unfold Vs;rw[Kn a (cD (vF c)) h];show PR.c (if By tk Bm (n+1+1)then _ else _) _=_
 cases e:x.c with
 | true=>
  rw[e]at b;have b:K[n+1+1]?=some (1,Bm):=b;rw[dL a b (.inl rfl),A5 rfl];rfl
 | false=>
  rw[e]at b;have b:K[n+1+1]?=some (1,J5):=b;rw[fH a b (by decide),A3 (by simp)];show PR.c ((gE tk J5 (n+1+1)).c _) _=_;rw[oR a b (.inl rfl)];rfl
def zs9{r:rG}{b:Bool}(w:r.f.a)(h:bX b r=true) (i:K.drop n=dU b r++(5,[])::R){p:rD}(y:p.a≠[])(x:Sp p.a=b):sS tk p n=.ok ⟨p.e,p.c,xW p.a r,p.b⟩ (n+(dU b r).length):=by
 unfold bX at h;simp only[B2]at h;obtain⟨l,o,j,q,t⟩:=h;obtain⟨A,C,_⟩:=Wm t;have i:K.drop n=(1,J6)::(uV r.a++((if b=true then uV r.b else [])++((1,fR)::(3,vH r.c.toNat)::(1,mg)::(pM r.f.n.b++(2,uM r.f)::(5,[])::R)))):=by rw[i];unfold dU;simp
 have g:=cD i;have e:=vF i;have f:=gL e;have c:=gL f;have v:(if b then El tk (n+1+(uV r.a).length)else .ok 0 (n+1+(uV r.a).length):PR Int)=.ok r.b (n+1+(uV r.a).length+(if b=true then uV r.b else []).length):=by
  cases b with
  | true=>exact zp7 a o f
  | false=>
   simp only[Bool.false_or,decide_eq_true_eq]at j;rw[j];rfl
 unfold sS;rw[fH a g (by decide),fH a g (by decide),fH a g (by decide),dL a g (.inl rfl),A3 (by simp),A3 (by simp),A3 (by simp),A5 (by simpa using y),x];unfold fb;rw[zp7 a l e];show PR.c (PR.c (if b then _ else _) _) _=_;rw[v];generalize B:n+1+(uV r.a).length+(if b=true then uV r.b else []).length=m at c ⊢;show PR.c ((gE tk fR m).c _) _=_;rw[oR a (cD c) (.inl rfl)];show PR.c ((nR tk (m+1)).c _) _=_
 rw[Zc a q (cD (vF c))];show PR.c ((gE tk mg (m+1+1)).c _) _=_;rw[oR a (cD (vF (vF c))) (.inl rfl)];have d:=vF (vF (vF c));have u:By tk pL (m+1+1+1)=r.f.n.b:=by
  cases k:r.f.n.b with
  | true=>rw[k]at d;exact dL a (cD (show K.drop (m+1+1+1)=(1,pL)::(2,uM r.f)::(5,[])::R from d)) (.inl rfl)
  | false=>rw[k]at d;exact Bc a (cD (show K.drop (m+1+1+1)=(2,uM r.f)::(5,[])::R from d)) (.inl rfl) _
 show PR.c ((wM tk 2 (if By tk pL (m+1+1+1)then m+1+1+1+1 else m+1+1+1)).c λs z=>.ok (⟨r.a,r.b,r.c,kP s (By tk pL (m+1+1+1))⟩:rG) z) _=_;rw[u,show(if r.f.n.b=true then m+1+1+1+1 else m+1+1+1)=m+1+1+1+(pM r.f.n.b).length by unfold pM;split<;>rfl,Jv a (cD (gL d))];show PR.ok _ _=PR.ok _ _;rw[DF w A];congr 1;unfold dU;simp;omega
omit a in
def RZ {b:Bool}{w t:iA}(d:c.h=b)(e:c.a=w)(f:c.b=t):(⟨c.g,c.c,c.f,c.i,c.e,b,w,t⟩:nD)=c:=by subst d e f;rfl
def zof (L:c.a.b/\c.b.b)(h:zZ c=true) (o:K.drop n=eV c++(5,[])::R)(p:rD):sS tk p n=.ok ⟨p.e,p.c,p.a,p.b++[c]⟩ (n+(eV c).length):=by
 unfold zZ at h;simp only[B2]at h;obtain⟨Q,S,U,W,u,b⟩:=h;generalize i:(if c.h=true then [(1,Jf)]else(1,Mf)::(zF c.a++(1,Je)::zF c.b):List qD)=T;have X:eV c=(1,Gg)::(1,c.g)::(1,c.c)::(1,Jh)::(3,vH c.f.toNat)::(1,ez)::fg c.i::(1,fR)::(3,vH c.e.toNat)::T:=by unfold eV;rw[i]
 rw[X]at o ⊢;simp only[List.cons_append]at o;have g:=cD o;have z:=vF o;have A:=vF z;have B:=vF A;have C:=vF B;have D:=vF C;have E:=vF D;have F:=vF E;have H:=vF F;have d:=vF H;have w:(if By tk Ji (n+1+1+1+1+1+1)then .ok 65536 (n+1+1+1+1+1+1+1)else nR tk (n+1+1+1+1+1+1):PR Int)=.ok c.i (n+1+1+1+1+1+1+1):=by
  have e:=cD E;rw[G7,decide_eq_true_eq]at u;unfold fg at e;by_cases N:c.i<65536
  .rw[A5 N]at e;rw[Bc a e (.inr (.inl rfl)),A3 (by simp)];exact Zc a (u.resolve_right (by omega)) e
  .rw[A3 N]at e;rw[dL a e (.inl rfl),A5 rfl];rcases u with h | h
   .have:=Zg h;omega
   .rw[h]
 unfold sS;have Z:By tk J6 n=false:=fH a g (by decide);rw[fH a g (by decide),fH a g (by decide),fH a g (by decide),Z,dL a g (.inl rfl),A3 (by simp),A3 (by simp),A3 (by simp),A3 (by simp),A5 rfl];unfold Ig;rw[Kn a (cD z) Q];show PR.c ((vO tk (n+1+1)).c _) _=_;rw[Kn a (cD A) S];show PR.c ((gE tk Jh (n+1+1+1)).c _) _=_;rw[oR a (cD B) (.inl rfl)];show PR.c ((nR tk (n+1+1+1+1)).c _) _=_;rw[Zc a U (cD C)]
 show PR.c ((gE tk ez (n+1+1+1+1+1)).c _) _=_;rw[oR a (cD D) (.inl rfl)];show PR.c (PR.c (if By tk Ji (n+1+1+1+1+1+1)then _ else _) _) _=_;rw[w];show PR.c ((gE tk fR (n+1+1+1+1+1+1+1)).c _) _=_;rw[oR a (cD F) (.inl rfl)];show PR.c ((nR tk (n+1+1+1+1+1+1+1+1)).c _) _=_;rw[Zc a W (cD H)];generalize hm:n+1+1+1+1+1+1+1+1+1=m at d;have M:∀k,n+((1,Gg)::(1,c.g)::(1,c.c)::(1,Jh)::(3,vH c.f.toNat)::(1,ez)::fg c.i::(1,fR)::(3,vH c.e.toNat)::T).length=k ↔ m+T.length=k:=λk=>by simp only[Do];omega
 cases j:c.h with
 | true=>
  rw[j,A5 rfl]at i b;subst i;rw[B2]at b;have P:∀ {x:iA},Dc x=true->x=Mc:=fun {x} y=>by
   obtain⟨op,l,v,f⟩:=x;unfold Dc at y;simp only[B2]at y;obtain⟨q,r,s,t⟩:=y;have q:op=0:=of_decide_eq_true q;have r:l=[]:=(bJ _ _).1 r;have s:f=[]:=List.eq_nil_of_length_eq_zero (of_decide_eq_true s);have t:v=oX:=AE t;rw[q,r,s,t];rfl
  show PR.c (if By tk Jf m then _ else _) _=_;rw[dL a (cD d) (.inl rfl),A5 rfl];show PR.ok _ _=PR.ok _ _;rw[(M _).2 rfl,RZ j (P b.1) (P b.2)];rfl
 | false=>
  rw[j,A3 (by simp)]at i;rw[j,A3 (by simp),B2]at b;subst i;simp only[List.cons_append,D4]at d;show PR.c (if By tk Jf m then _ else _) _=_;rw[fH a (cD d) (by decide),A3 (by simp)];show PR.c ((gE tk Mf m).c _) _=_;rw[oR a (cD d) (.inl rfl)];have I:=vF d;show PR.c ((Ck tk (m+1)).c _) _=_;rw[zia a L.1 b.1 _ _ I (Dv (by decide))];have J:=gL I;show PR.c ((gE tk Je (m+1+(zF c.a).length)).c _) _=_;rw[oR a (cD J) (.inl rfl)]
  show PR.c ((Ck tk (m+1+(zF c.a).length+1)).c _) _=_;rw[zia a L.2 b.2 _ _ (vF J) (Dv (by decide))];show PR.ok _ _=PR.ok _ _;rw[(M _).2 rfl,RZ j rfl rfl];congr 1;simp;omega
end
end
section
variable {p:rD}
def Yk:∀(a b:List (List qD)),qJ (a++b)=qJ a++qJ b
 | [],b=>rfl
 | x::a,b=>by rw[List.cons_append,qJ,qJ,Yk a b];simp
section
variable {tk:List xD}{K:List qD}(b:tk.map kt=K){n k:Nat}
include b
def MM{l R:List qD}{f:rD}(g:l≠[])(c:K.drop n=l++(5,[])::R)(h:sS tk p n=.ok f (n+l.length)):tS tk (k+1) p n=tS tk k f (n+(l.length+1))/\K.drop (n+(l.length+1))=R:=by
 have e:=gL c;have i:n<tk.length:=by
  rw[zg b];refine Nat.lt_of_not_le λd=>?_;rw[E3 d]at c
  cases l with
  | nil=>exact g rfl
  | cons a l=>cases c
 refine⟨?_,vF e⟩;rw[tS,A5 i,h];show(wM tk 5 (n+l.length)).c _=_;rw[Jv b (cD e)];rfl
def Xi{d:Type}{f:d->List qD}{g:rD->d->rD}(i:∀x,f x≠[]){I:rD->Prop}:∀(l:List d) (p:rD) (n:Nat) (R:List qD),I p->(∀x∈l,∀p n R,I p->K.drop n=f x++(5,[])::R->sS tk p n=.ok (g p x) (n+(f x).length)/\I (g p x))->K.drop n=qJ (l.map f)++R →
  tS tk (k+l.length) p n=tS tk k (l.foldl g p) (n+(qJ (l.map f)).length)/\K.drop (n+(qJ (l.map f)).length)=R/\I (l.foldl g p)
 | [],p,n,R,c,_,a=>⟨rfl,a,c⟩
 | x::l,p,n,R,c,h,a=>by
  have a:K.drop n=f x++(5,[])::(qJ (l.map f)++R):=by rw[a,G4,qJ];simp
  obtain⟨o,q⟩:=h x C5 p n _ c a;obtain⟨t,u⟩:=MM b (k:=k+l.length) (i x) a o;obtain⟨j,m,s⟩:=Xi i l (g p x) _ R q (λy r=>h y (C7 _ r)) u;have e:n+((f x).length+1)+(qJ (l.map f)).length=n+(qJ ((x::l).map f)).length:=by rw[G4,qJ];simp;omega
  rw[e]at j m;exact⟨by rw[Do,<- Nat.add_assoc,t,j];rfl,m,s⟩
end
def PP:∀(l:List eE) (p:rD),l.foldl (λp d=>(⟨p.e,p.c++[d],p.a,p.b⟩:rD)) p=⟨p.e,p.c++l,p.a,p.b⟩
 | [],p=>by rw[C8];rfl
 | d::l,p=>by rw[List.foldl_cons,PP l];simp
def PQ:∀(l:List nD) (p:rD),l.foldl (λp d=>(⟨p.e,p.c,p.a,p.b++[d]⟩:rD)) p=⟨p.e,p.c,p.a,p.b++l⟩
 | [],p=>by rw[C8];rfl
 | d::l,p=>by rw[List.foldl_cons,PQ l];simp
def TS(T:List mE)(x:mE)(r:rG):xW (T++[x]) r=T++[⟨x.b,x.c,x.a++[r]⟩]:=by unfold xW;simp
def PO(T:List mE)(c:List Nat)(a:Bool):∀(l b:List rG) (p:rD),p.a=T++[⟨c,a,b⟩]->l.foldl (λp r=>(⟨p.e,p.c,xW p.a r,p.b⟩:rD)) p=⟨p.e,p.c,T++[⟨c,a,b++l⟩],p.b⟩
 | [],b,p,h=>by rw[C8,<- h];rfl
 | r::l,b,p,h=>by
  rw[List.foldl_cons,PO T c a l (b++[r]) _ (by show xW p.a r=_;rw[h,TS])];simp
section
variable {tk:List xD}{K:List qD}(a:tk.map kt=K){k:Nat}
include a
def IE:∀(l:List mE) (p:rD) (n:Nat) (R:List qD),(∀x∈l,oZ x=true/\∀r∈x.a,r.f.a)->K.drop n=qJ (l.flatMap fM)++R →
  tS tk (k+(l.flatMap fM).length) p n=tS tk k ⟨p.e,p.c,p.a++l,p.b⟩ (n+(qJ (l.flatMap fM)).length)/\K.drop (n+(qJ (l.flatMap fM)).length)=R
 | [],p,n,R,_,b=>⟨by rw[C8];rfl,b⟩
 | x::l,p,n,R,h,b=>by
  obtain⟨c,z⟩:=h x C5;unfold oZ at c;rw[B2,C9]at c;have i:qJ ((x::l).flatMap fM)=Dh x++(5,[])::(qJ (x.a.map (dU x.c))++qJ (l.flatMap fM)):=by
   rw[List.flatMap_cons,Yk];show(Dh x++(5,[])::qJ (x.a.map (dU x.c)))++_=_;simp
  rw[i,D4,List.cons_append,D4]at b;have v:=l8 a c.1 b p;obtain⟨B,C⟩:=MM a (k:=k+(l.flatMap fM).length+x.a.length) (by unfold Dh;simp) b v;obtain⟨m,A,_⟩:=Xi a (k:=k+(l.flatMap fM).length) (f:=dU x.c) (g:=λp r=>(⟨p.e,p.c,xW p.a r,p.b⟩:rD)) (by intro r;unfold dU;simp) (I:=λq=>∃e,q.a=p.a++[⟨x.b,x.c,e⟩]) x.a ⟨p.e,p.c,p.a++[⟨x.b,x.c,[]⟩],p.b⟩ _ _ ⟨[],rfl⟩ (λr j q n R ⟨e,d⟩ b=>⟨zs9 a (z r j) (c.2 r j) b (by rw[d];simp) (by rw[d];unfold Sp;simp),e++[r],by show xW q.a r=_;rw[d,TS]⟩) C
  rw[PO p.a x.b x.c x.a [] _ rfl,E8]at m;obtain⟨o,s⟩:=IE l ⟨p.e,p.c,p.a++[⟨x.b,x.c,x.a⟩],p.b⟩ _ R (λy w=>h y (C7 _ w)) A;have t:n+((Dh x).length+1)+(qJ (x.a.map (dU x.c))).length+(qJ (l.flatMap fM)).length=n+(qJ ((x::l).flatMap fM)).length:=by rw[i];simp;omega
  have u:k+((x::l).flatMap fM).length=k+(l.flatMap fM).length+x.a.length+1:=by
   rw[List.flatMap_cons,E1];show k+((x.a.map (dU x.c)).length+1+_)=_;rw[C4];omega
  rw[t]at o s;refine⟨?_,s⟩;rw[u,B,m,o];simp
def ztj (F:p.f)(h:xT p=true)(s:K=qJ (zgj p)):∃n,xM tk=.ok p n:=by
 unfold xT at h;simp only[B2,C9]at h;obtain⟨M,N,P,Q⟩:=h;generalize i:qJ (p.c.map Fe)=A;generalize l:qJ (p.a.flatMap fM)=B;generalize o:qJ (p.b.map eV)=C;have D:K=(1,Qg)::(1,p.e)::(5,[])::(A++(B++C)):=by
  rw[s,<- i,<- l,<- o];unfold zgj;rw[qJ,Yk,Yk];rfl
 have j:K.drop 0=(1,Qg)::(1,p.e)::(5,[])::(A++(B++C)):=D;have L:K.drop 3=A++(B++C):=vF (vF (vF j));have H:tk.length=A.length+B.length+C.length+3:=by rw[zg a,D];simp;omega
 have b:∀m:List (List qD),m.length<=(qJ m).length:=by
  intro m;induction m with
  | nil=>exact B3 _
  | cons x m Z=>rw[qJ];simp;omega
 have T:=b (p.c.map Fe);have U:=b (p.a.flatMap fM);have W:=b (p.b.map eV);rw[i,C4]at T;rw[l]at U;rw[o,C4]at W;obtain⟨u,v,_⟩:=Xi a (k:=(tk.length-p.c.length-(p.a.flatMap fM).length-p.b.length)+p.b.length+(p.a.flatMap fM).length) (f:=Fe) (g:=λp d=>(⟨p.e,p.c++[d],p.a,p.b⟩:rD)) (by intro d;unfold Fe;simp) (I:=λ_=>True) p.c ⟨p.e,[],[],[]⟩ 3 (B++C) trivial (λd s q n R _ t=>⟨zvw a (N d s) t q,trivial⟩) (by rw[L,i])
 rw[PP,i]at u;rw[i]at v;obtain⟨w,y⟩:=IE a (k:=(tk.length-p.c.length-(p.a.flatMap fM).length-p.b.length)+p.b.length) p.a ⟨p.e,[]++p.c,[],[]⟩ _ C (λx J=>⟨P x J,λr S=>((F.c x J).2.2 r S).2.2.2⟩) (by rw[l];exact v);rw[l]at w y;obtain⟨z,X,_⟩:=Xi a (k:=tk.length-p.c.length-(p.a.flatMap fM).length-p.b.length) (f:=eV) (g:=λp d=>(⟨p.e,p.c,p.a,p.b++[d]⟩:rD)) (by intro c;unfold eV;simp) (I:=λ_=>True) p.b ⟨p.e,[]++p.c,[]++p.a,[]⟩ _ [] trivial (λc E q n R _ t=>⟨zof a (by have:=F.a c E;exact⟨this.2.2.2.2.2.1,this.2.2.2.2.2.2⟩) (Q c E) t q,trivial⟩) (by rw[o,C8];exact y)
 rw[PQ]at z;refine⟨3+A.length+B.length+C.length,?_⟩;unfold xM;rw[oR a (cD j) (.inl rfl)];show(vO tk 1).c _=_;rw[Kn a (cD (vF j)) M];show(wM tk 5 2).c _=_;rw[Jv a (cD (vF (vF j)))];show tS tk tk.length ⟨p.e,[],[],[]⟩ 3=_;rw[show tk.length=(tk.length-p.c.length-(p.a.flatMap fM).length-p.b.length)+p.b.length+(p.a.flatMap fM).length+p.c.length by omega,u];have e:=w.trans z;rw[o]at e;refine Eq.trans e ?_
 cases tk.length-p.c.length-(p.a.flatMap fM).length-p.b.length with
 | zero=>rfl
 | succ m=>
  rw[tS,A3 (by omega)];rfl
end
def zfo (a:p.f)(h:xT p=true):∃m n,Ho (xQ p)=.ok m/\xM m=.ok p n:=by
 obtain⟨m,b,c⟩:=zub (zao a h);obtain⟨n,d⟩:=ztj c a h rfl;exact⟨m,n,b,d⟩
end
section
variable [fC]
variable {t:G vA}
def PT:∀(l:List (List Nat)),l≠[]->∃s,iJ l=s++[10]
 | [],h=>absurd rfl h
 | [x],_=>⟨x,by simp[iJ]⟩
 | x::y::l,_=>by
  obtain⟨s,e⟩:=PT (y::l) (by simp);exact⟨x++[10]++s,by rw[iJ,e];simp⟩
def zl4:(rU .eql).f Y 39 (.tmp 48) (.tmp 49) (tt (AN (U9 (0,0)))) (.i [V 0,V 0])=some (.d true):=by kernel_rfl
def XG{p:rD}{cs:List O}(j:p.f)(C:bK t)(H:vN t)(I:mU t)(q:RD t p.d cs):Wc Y F 5 [.i cs] t (λv _=>v=.d true):=by
 have g:=q;obtain⟨a,b,c,rfl,R,S,U⟩:=aX q;refine w5 ?_;unfold t5 uI uB nH uS uU rB;refine zop (aA ?_);rw[q16];show pD (oB Y F 16 [.i [.h p.e,a,b,c],.e .i64 2000] t) _;rw[zlf j g,xA];refine sB ?_;by_cases A:2000<uk p
 .exact tA (iM A) rfl
 refine vB (dM A) (aA ?_);rw[q17];refine zh0 j H I C g λW z f=>?_;have e:=g.f z;have d:∀ {K:O->T} {Q:lB} {J:yG} {u:G vA},RD u p.d [.h p.e,a,b,c]->lA Y.a (Wq Y F eC) J (K (.d (xT p))) u Q->lA Y.a (Wq Y F eC) J (.c 18 [.i [.h p.e,a,b,c]] K) u Q:=λq h=>by
  refine aA ?_;rw[q18,KP j q,xA];exact h
 unfold Th
 cases o:xT p with
 | false=>
  rw[o]at d;rw[A3 (by simp)];exact uA rfl (jC (uA rfl (sB (tA (by decide) (tA ((bJ _ _).2 rfl) (tA (by decide) (d e (iC (tA rfl rfl)))))))))
 | true=>
  have f:=f o;rw[o]at d;rw[A5 rfl];by_cases x:65536<(xQ p).length
  .rw[A5 x];exact uA rfl (jC (uA rfl (sB (tA (by decide) (tA ((bJ _ _).2 rfl) (vB (by decide) (tA (by decide) (d e (iC rfl)))))))))
  .rw[A3 x];obtain⟨m,k,N,P⟩:=zfo j o;have l:aN xM (xQ p)=.ok p:=by rw[ze2 (by rw[zt9 (by omega)];exact N),P]
   obtain⟨s,r⟩:=PT (rR p) (by unfold rR;simp);have r:xQ p=s++[10]:=r;refine uA rfl (jC (uA rfl (sB (vB (by decide) ?_))));refine zti (K:=λD X n=>.a (kB n 0) _ _) (C.a z) (f x) λu y B w=>?_;rw[l]at w ⊢;have E:U3 (AN y)=.i y:=congrArg O.i (Pa w);rw[E];refine tA (fI.2 rfl) (tA rfl (uA zl4 (iC (tA rfl (zs1 (zl1 j (by omega)).1 (e.f B) w (iC (tA rfl (d (e.f B) (iC (tA rfl (tA (by rw[nQ];exact fe (by omega)) ?_)))))))))))
   have i:wJ Y 9 (.h (xQ p)) (V (uW (Int.ofNat (wB (xQ p))-1)))=some (.e .u8 ((10:Nat):Int)):=by
    have M:(xQ p)[s.length]?=some 10:=by rw[r];simp
    have L:(xQ p).length=s.length+1:=by rw[r];simp
    unfold V uW;rw[nQ,A2 (by omega) (by omega),L,show((s.length+1:Nat):Int)-1=(s.length:Int) by omega];exact qO M
   exact uA i (sB rfl)
end
end Go.Proofs
namespace Go.Am
open Go Go.RowKit Go.Proofs
def l9{w:World}(a:oJ w){ds:Array Value}{p:rD}(c:p.f)
  (b:Q5 w.heap.size ds.toList) (d:RD (yK w) p.d (ds.toList.map (av w.heap.size))) :
  Calls Tryz.prog 5 #[.agg ds] w λe w'=>e=.returned (.bool true)/\Below w.heap.size w w':=
 VD a 5 [.i (ds.toList.map (av w.heap.size))] _ (by intro _;kernel_rfl) (.g (zlz b)) ⟨_,XG c (zhx a) (zhw a) (PC a) d,λv t h=>h⟩
end Go.Am
