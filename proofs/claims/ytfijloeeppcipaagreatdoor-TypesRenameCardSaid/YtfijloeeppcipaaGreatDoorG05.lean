/- Code as a function: limits. -/
import Derived.Test.YtfijloeeppcipaaGreatDoorG04
set_option linter.all false
noncomputable section
namespace Go.Am
open Go Go.RowKit
section
def zy7{α:Type}{f:Nat->Option α}{r:α}(h:lim f=some r):∃n,f n=some r:=by
 unfold lim at h;by_cases hx:∃n r,f n=some r
 ·rw[dif_pos hx]at h;exact⟨_,h⟩
 ·rw[dif_neg hx]at h;cases h
structure zni {α β γ:Type} (ks:Nat->α->β->Option γ) (k:α->β->Option γ):Prop where
 up:∀n,Le2 (ks n) (ks (n+1))
 ex:∀a b x,k a b=some x->∃n,ks n a b=some x
def zwb{α β γ:Type}{ks:Nat->α->β->Option γ}(h:∀n,Le2 (ks n) (ks (n+1))){n m:Nat}(hnm:n<=m):Le2 (ks n) (ks m):=by
 induction hnm with
 | refl=>exact fun _ _ _ h=>h
 | step _ ih=>exact fun a b x hx=>h _ _ _ _ (ih a b x hx)
structure z6o (φs:Nat->Ora) (φ:Ora):Prop where
 up:∀n,OLe (φs n) (φs (n+1))
 ex:∀f a H x,φ f a H=some x->∃n,φs n f a H=some x
def z6o.le{φs:Nat->Ora}{φ:Ora}(h:z6o φs φ){n m:Nat}(hnm:n<=m):OLe (φs n) (φs m):=by
 induction hnm with
 | refl=>exact fun _ _ _ _ h=>h
 | step _ ih=>exact fun f a H x hx=>h.up _ _ _ _ _ (ih f a H x hx)
structure zzbv (κs:Nat->Kt) (κ:Kt):Prop where
 norm:zni (fun n=>(κs n).norm) κ.norm
 exit:∀i,zni (fun n=>(κs n).exit i) (κ.exit i)
 ret:zni (fun n=>(κs n).ret) κ.ret
section
variable {C:oA}{φ φ':Ora}{φs:Nat->Ora}{all:Array Oper}{N fn:Nat}
def zz4{g g':Kt->Tm->xA->uB}{κ κ':Kt}(hκ:KLe κ κ')(hg:∀ κ κ',KLe κ κ'->Le2 (g κ) (g' κ'))(live:List Nat):∀m,Le2 (Nat.rec (motive:=fun _=>Tm->xA->uB) (fun _ _=>none) (fun _ r tm H=>g ⟨r,κ.exit,κ.ret⟩ (keep live tm) H) m)
  (Nat.rec (motive:=fun _=>Tm->xA->uB) (fun _ _=>none) (fun _ r tm H=>g' ⟨r,κ'.exit,κ'.ret⟩ (keep live tm) H) m):=by
 intro m;induction m with
 | zero=>intro a b x h;cases h
 | succ m ih=>exact fun a b x h=>hg ⟨_,_,_⟩ ⟨_,_,_⟩ ⟨ih,hκ.exit,hκ.ret⟩ _ _ _ h
def KLe.refl(κ:Kt):KLe κ κ:=⟨fun _ _ _ h=>h,fun _ _ _ _ h=>h,fun _ _ _ h=>h⟩
def zo6{g:Kt->Tm->xA->uB}{κ:Kt}(hg:∀ κ κ',KLe κ κ'->Le2 (g κ) (g κ'))(live:List Nat):∀m,Le2 (Nat.rec (motive:=fun _=>Tm->xA->uB) (fun _ _=>none) (fun _ r tm H=>g ⟨r,κ.exit,κ.ret⟩ (keep live tm) H) m)
  (Nat.rec (motive:=fun _=>Tm->xA->uB) (fun _ _=>none) (fun _ r tm H=>g ⟨r,κ.exit,κ.ret⟩ (keep live tm) H) (m+1)):=by
 intro m;induction m with
 | zero=>intro a b x h;cases h
 | succ m ih=>exact fun a b x h=>hg ⟨_,_,_⟩ ⟨_,_,_⟩ ⟨ih,(KLe.refl κ).exit,(KLe.refl κ).ret⟩ _ _ _ h
def qU(hφ:OLe φ φ'):∀(c:qD) (κ κ':Kt),KLe κ κ'->Le2 (rD C φ fn N c κ) (rD C φ' fn N c κ'):=by
 have self:∀(ψ:Ora),OLe ψ ψ:=fun _ _ _ _ _ h=>h
 intro c;suffices h:∀ φ φ',OLe φ φ'->∀(κ κ':Kt),KLe κ κ'->Le2 (rD C φ fn N c κ) (rD C φ' fn N c κ') from h φ φ' hφ
 induction c with
 | skip=>exact fun _ _ _ κ κ' hκ=>hκ.norm
 | region id ops d=>exact fun _ _ hφ κ κ' hκ=>zbz hφ hκ.norm
 | seq a b iha ihb=>exact fun _ _ hφ κ κ' hκ=>iha _ _ hφ _ _ ⟨ihb _ _ hφ _ _ hκ,hκ.exit,hκ.ret⟩
 | cond c a b iha ihb=>
  intro φ φ' hφ κ κ' hκ tm H x h;have h:(ob (ob (ev c (.now tm)) zA.asBool) fun t=>Bool.rec (motive:=fun _=>uB) (rD C φ fn N b κ tm H) (rD C φ fn N a κ tm H) t)=some x:=h
  show(ob (ob (ev c (.now tm)) zA.asBool) fun t=>Bool.rec (motive:=fun _=>uB) (rD C φ' fn N b κ' tm H) (rD C φ' fn N a κ' tm H) t)=some x
  rw[uA]at h ⊢
  obtain⟨t,h1,h2⟩:=h
  refine⟨t,h1,?_⟩
  cases t with
  | true=>exact iha _ _ hφ _ _ hκ _ _ _ h2
  | false=>exact ihb _ _ hφ _ _ hκ _ _ _ h2
 | block id c ih=>
  intro φ φ' hφ κ κ' hκ;refine ih _ _ hφ _ _ ⟨hκ.norm,fun i tm H x h=>?_,hκ.ret⟩
  simp only[nH]at h ⊢
  split at h
  ·rename_i e;rw[yab e];exact hκ.norm _ _ _ h
  ·rename_i e;rw[yaa e];exact hκ.exit _ _ _ _ h
 | loop live c ih=>
  intro φ φ' hφ κ κ' hκ tm H x h;obtain⟨m,hm⟩:=zy7 h
  refine(zco fun m y hy=>zo6 (ih _ _ (self φ')) live.kept m _ _ _ hy).2 ⟨m,?_⟩
  exact zz4 hκ (ih _ _ hφ) live.kept m _ _ _ hm
 | exit id=>exact fun _ _ _ κ κ' hκ=>hκ.exit id
 | ret=>exact fun _ _ _ κ κ' hκ=>hκ.ret
 | cut live c ih=>exact fun _ _ hφ κ κ' hκ tm H x h=>ih _ _ hφ _ _ hκ _ _ _ h
 | range i pl f ps id ops c ih=>exact fun _ _ hφ κ κ' hκ tm H x h=>zdr hφ hκ _ _ _ h
def zq8(hφ:z6o φs φ){r:aI}{H:xA}{ks:Nat->zA->xA->uB}{k:zA->xA->uB}(hk:zni ks k){x:zA × xA}(h:iF φ r H k=some x):∃n,iF (φs n) r H (ks n)=some x:=by
 cases r<;>simp only[iF]at h ⊢<;>try (cases h;done)
 case val v H'=>exact hk.ex _ _ _ h
 case enter f args=>
  rw[uA]at h;obtain⟨p,h1,h2⟩:=h
  obtain⟨n,hn⟩:=hφ.ex _ _ _ _ h1
  obtain⟨m,hm⟩:=hk.ex _ _ _ h2
  exact⟨max n m,by rw[uA];exact⟨p,hφ.le (Nat.le_max_left n m) _ _ _ _ hn,zwb hk.up (Nat.le_max_right n m) _ _ _ hm⟩⟩
 case round l args=>
  rw[uA]at h;obtain⟨p,h1,h2⟩:=h
  obtain⟨n,hn⟩:=hφ.ex _ _ _ _ h1
  obtain⟨m,hm⟩:=hk.ex _ _ _ h2
  exact⟨max n m,by rw[uA];exact⟨p,hφ.le (Nat.le_max_left n m) _ _ _ _ hn,zwb hk.up (Nat.le_max_right n m) _ _ _ hm⟩⟩
def zlh{t:Nat}{ks:Nat->zA->xA->uB}{k:zA->xA->uB}(hk:zni ks k):zni (fun n v H=>xJ C t v fun v=>ks n v H) (fun v H=>xJ C t v fun v=>k v H):=by
 refine⟨fun n=>zbb (hk.up n),fun v H x h=>?_⟩
 rw[vL]at h;obtain⟨n,hn⟩:=hk.ex _ _ _ h.2
 exact⟨n,by rw[vL];exact⟨h.1,hn⟩⟩
def z4d(hφ:z6o φs φ){κs:Nat->Tm->xA->uB}{κ:Tm->xA->uB}(hκ:zni κs κ):∀(l:List Oper),zni (fun n=>rK C (φs n) all N (κs n) l) (rK C φ all N κ l):=by
 intro l;refine⟨fun n=>zdy (hφ.up n) (hκ.up n) l,?_⟩
 induction l with
 | nil=>exact hκ.ex
 | cons o l ih=>
  intro tm H x h;rw[dT,uA]at h;obtain⟨w,h1,h2⟩:=h
  split at h2
  ·rename_i e
   obtain⟨n,hn⟩:=zq8 hφ (zlh (ks:=fun n v H'=>rK C (φs n) all N (κs n) l (putA N tm o.dst v) H') (k:=fun v H'=>rK C φ all N κ l (putA N tm o.dst v) H') ⟨fun n v H' y hy=>zdy (hφ.up n) (hκ.up n) l _ _ _ hy,fun v H' y hy=>ih _ _ _ hy⟩) h2
   exact⟨n,by show rK C (φs n) all N (κs n) (o::l) tm H=some x;rw[dT,uA];exact⟨w,h1,by rw[yab e];exact hn⟩⟩
  ·rename_i e
   obtain⟨n,hn⟩:=ih _ _ _ h2
   exact⟨n,by show rK C (φs n) all N (κs n) (o::l) tm H=some x;rw[dT,uA];exact⟨w,h1,by rw[yaa e];exact hn⟩⟩
variable {old:Tm}{olds:List (Nat × List Nat)}
def vZ{H:xA}{ks:Nat->Tm->uB}{k:Tm->uB}(hk:∀tm x,k tm=some x->∃n,ks n tm=some x):∀(l:List Nat) tm x,dG C H all N old olds k l tm=some x->∃n,dG C H all N old olds (ks n) l tm=some x:=by
 intro l;induction l with
 | nil=>exact hk
 | cons i l ih=>
  intro tm x h;simp only[yY]at h ⊢
  rw[uA]at h;obtain⟨o,h1,h⟩:=h
  rw[uA]at h;obtain⟨w,h3,h4⟩:=h
  split at h4
  ·rename_i e
   rw[uA]at h4;obtain⟨v,h5,h6⟩:=h4
   rw[vL]at h6;obtain⟨n,hn⟩:=ih _ _ h6.2
   exact⟨n,by rw[h1,sA,h3,sA,yab e,h5,sA,vL];exact⟨h6.1,hn⟩⟩
  ·rename_i e
   obtain⟨n,hn⟩:=ih _ _ h4
   exact⟨n,by rw[h1,sA,h3,sA,yaa e];exact hn⟩
def zn8(hφ:z6o φs φ){κs:Nat->Tm->xA->uB}{κ:Tm->xA->uB}(hκ:zni κs κ):∀(l:List pE),zni (fun n=>xH C (φs n) all N old olds (κs n) l) (xH C φ all N old olds κ l):=by
 intro l;refine⟨fun n=>bY (hφ.up n) (hκ.up n) l,?_⟩
 induction l with
 | nil=>exact hκ.ex
 | cons st l ih=>
  intro tm H x h
  cases hg:vO all st with
  | true=>
   rw[aV hg,sY]at h;obtain⟨h0,es,H',h1,h2,h3⟩:=h
   obtain⟨n,hn⟩:=vZ (fun tm x hx=>ih tm H' x hx) _ _ _ h3
   exact⟨n,by show xH C (φs n) all N old olds (κs n) (st::l) tm H=some x;rw[aV hg,sY];exact⟨h0,es,H',h1,h2,hn⟩⟩
  | false=>
  rw[cU hg,uA]at h;obtain⟨o,h1,h⟩:=h
  rw[uA]at h;obtain⟨w,h2,h⟩:=h
  have cont:zni (fun n v H'=>lJ C H' all old olds (putA N tm o.dst v) (dG C H' all N old olds (fun tm=>xH C (φs n) all N old olds (κs n) l tm H') st.lights (putA N tm o.dst v)) st.again)
    (fun v H'=>lJ C H' all old olds (putA N tm o.dst v) (dG C H' all N old olds (fun tm=>xH C φ all N old olds κ l tm H') st.lights (putA N tm o.dst v)) st.again):=by
   refine⟨fun n v H' y hy=>ze8 (zY (fun tm x hx=>bY (hφ.up n) (hκ.up n) l _ _ _ hx) _ _ _ (sX _ hy).2) _ hy,fun v H' y hy=>?_⟩
   obtain⟨n,hn⟩:=vZ (fun tm x hx=>ih tm H' x hx) _ _ _ (sX _ hy).2
   exact⟨n,ze8 hn _ hy⟩
  simp only[]at h;split at h
  ·rename_i e
   obtain⟨n,hn⟩:=zq8 hφ (zlh cont) h
   exact⟨n,by show xH C (φs n) all N old olds (κs n) (st::l) tm H=some x;rw[cU hg,h1,sA,h2,sA];simp only[];rw[yab e];exact hn⟩
  ·rename_i e
   obtain⟨n,hn⟩:=cont.ex _ _ _ h
   exact⟨n,by show xH C (φs n) all N old olds (κs n) (st::l) tm H=some x;rw[cU hg,h1,sA,h2,sA];simp only[];rw[yaa e];exact hn⟩
def zoh(hφ:z6o φs φ){κs:Nat->Tm->xA->uB}{κ:Tm->xA->uB}(hκ:zni κs κ){id:Nat}{draw:Bool}:zni (fun n=>za6 C (φs n) fn N (κs n) id all draw) (za6 C φ fn N κ id all draw):=by
 refine⟨fun n=>zbz (hφ.up n) (hκ.up n),fun tm H x h=>?_⟩
 cases draw with
 | false=>exact(z4d hφ hκ _).ex _ _ _ h
 | true=>
  have h:(ob (ob (C.plans.get fn) fun t=>t.get id) fun p=>cA (yO all p) (dG C H all N tm.cut p.olds (fun tm'=>xH C φ all N tm.cut p.olds κ p.stages tm' H) p.first tm.cut))=some x:=h
  rw[uA]at h;obtain⟨p,h1,h⟩:=h
  rw[wB]at h;obtain⟨n,hn⟩:=vZ (fun tm' x hx=>(zn8 hφ hκ p.stages).ex tm' H x hx) _ _ _ h.2
  refine⟨n,?_⟩
  show(ob (ob (C.plans.get fn) fun t=>t.get id) fun p=>cA (yO all p) (dG C H all N tm.cut p.olds (fun tm'=>xH C (φs n) all N tm.cut p.olds (κs n) p.stages tm' H) p.first tm.cut))=some x
  rw[h1,sA,wB];exact⟨h.1,hn⟩
def zgq(hφ:z6o φs φ){κs:Nat->Kt}{κ:Kt}(hκ:zzbv κs κ){f:Operand}{ps:List Nat}{a b:Code}:zni (fun n=>cL C (φs n) fn N (κs n) f ps a b) (cL C φ fn N κ f ps a b):=by
 have kle:∀n,KLe (κs n) (κs (n+1)):=fun n=>⟨hκ.norm.up n,fun i=>(hκ.exit i).up n,hκ.ret.up n⟩
 have klm:∀n m,n<=m->KLe (κs n) (κs m):=fun n m h=>⟨zwb hκ.norm.up h,fun i=>zwb (hκ.exit i).up h,zwb hκ.ret.up h⟩
 refine⟨fun n=>zdr (hφ.up n) (kle n),fun tm H x h=>?_⟩
 unfold cL at h;rw[uA]at h;obtain⟨v,h1,h⟩:=h
 rw[uA]at h;obtain⟨q,h2,h⟩:=h
 split at h
 ·cases h
 ·rename_i g hg
  rw[wB,uA]at h;obtain⟨h3,y,h4,h⟩:=h
  rw[uA]at h;obtain⟨r,h5,h⟩:=h
  rw[wB,uA]at h;obtain⟨h6,z,h7,h⟩:=h
  obtain⟨n,hn⟩:=hφ.ex _ _ _ _ h4
  have:∃m,zS (κs m) r.pending (tm) (endLoop y.2 (H.next+1) r)=some z:=by
   unfold zS at h7 ⊢
   split at h7
   ·exact hκ.norm.ex _ _ _ h7
   ·exact hκ.ret.ex _ _ _ h7
   ·cases h7
  obtain⟨m,hm⟩:=this
  refine⟨max n m,?_⟩
  show cL C (φs (max n m)) fn N (κs (max n m)) f ps a b tm H=some x
  unfold cL;rw[h1,sA,h2,sA,hg];simp only[];rw[wB,uA];refine⟨h3,y,hφ.le (Nat.le_max_left n m) _ _ _ _ hn,?_⟩
  rw[h5,sA,wB,uA];exact⟨h6,z,ze9 (klm _ _ (Nat.le_max_right n m)) _ _ _ hm,h⟩
def zps(hφ:z6o φs φ):∀(c:qD) (κs:Nat->Kt) (κ:Kt),zzbv κs κ->zni (fun n=>rD C (φs n) fn N c (κs n)) (rD C φ fn N c κ):=by
 have kle:∀ {κs:Nat->Kt} {κ:Kt},zzbv κs κ->∀n,KLe (κs n) (κs (n+1)):=fun h n=>⟨h.norm.up n,fun i=>(h.exit i).up n,h.ret.up n⟩
 intro c;induction c with
 | skip=>exact fun κs κ hκ=>hκ.norm
 | region id ops d=>exact fun κs κ hκ=>zoh hφ hκ.norm
 | seq a b iha ihb=>exact fun κs κ hκ=>iha (fun n=>⟨rD C (φs n) fn N b (κs n),(κs n).exit,(κs n).ret⟩) _ ⟨ihb _ _ hκ,hκ.exit,hκ.ret⟩
 | cond c a b iha ihb=>
  intro κs κ hκ;refine⟨fun n=>qU (hφ.up n) (.cond c a b) _ _ (kle hκ n),fun tm H x h=>?_⟩
  have h:(ob (ob (ev c (.now tm)) zA.asBool) fun t=>Bool.rec (motive:=fun _=>uB) (rD C φ fn N b κ tm H) (rD C φ fn N a κ tm H) t)=some x:=h
  rw[uA]at h;obtain⟨t,h1,h2⟩:=h
  have key:∀n,(Bool.rec (motive:=fun _=>uB) (rD C (φs n) fn N b (κs n) tm H) (rD C (φs n) fn N a (κs n) tm H) t:uB)=some x->rD C (φs n) fn N (.cond c a b) (κs n) tm H=some x:=by
   intro n hn;show(ob (ob (ev c (.now tm)) zA.asBool) fun t=>Bool.rec (motive:=fun _=>uB) (rD C (φs n) fn N b (κs n) tm H) (rD C (φs n) fn N a (κs n) tm H) t)=some x
   rw[h1,sA];exact hn
  cases t with
  | true=>obtain⟨n,hn⟩:=(iha _ _ hκ).ex _ _ _ h2;exact⟨n,key n hn⟩
  | false=>obtain⟨n,hn⟩:=(ihb _ _ hκ).ex _ _ _ h2;exact⟨n,key n hn⟩
 | block id c ih=>
  intro κs κ hκ;refine ih (fun n=>⟨(κs n).norm,fun i tm H=>Bool.rec (motive:=fun _=>uB) ((κs n).exit i tm H) ((κs n).norm tm H) (Nat.beq id i),(κs n).ret⟩) _ ⟨hκ.norm,fun i=>⟨fun n tm H x h=>?_,fun tm H x h=>?_⟩,hκ.ret⟩
  ·simp only[nH]at h ⊢
   split at h
   ·rename_i e;rw[yab e];exact hκ.norm.up n _ _ _ h
   ·rename_i e;rw[yaa e];exact(hκ.exit i).up n _ _ _ h
  ·simp only[nH]at h ⊢
   split at h
   ·rename_i e;obtain⟨n,hn⟩:=hκ.norm.ex _ _ _ h;exact⟨n,by rw[yab e];exact hn⟩
   ·rename_i e;obtain⟨n,hn⟩:=(hκ.exit i).ex _ _ _ h;exact⟨n,by rw[yaa e];exact hn⟩
 | loop live c ih=>
  intro κs κ hκ;refine⟨fun n=>qU (hφ.up n) (.loop live c) _ _ (kle hκ n),fun tm H x h=>?_⟩
  obtain⟨m,hm⟩:=zy7 h
  have it:∀m,zni (fun n=>(Nat.rec (motive:=fun _=>Tm->xA->uB) (fun _ _=>none) (fun _ r tm H=>rD C (φs n) fn N c ⟨r,(κs n).exit,(κs n).ret⟩ (keep live.kept tm) H) m:Tm->xA->uB))
    (Nat.rec (motive:=fun _=>Tm->xA->uB) (fun _ _=>none) (fun _ r tm H=>rD C φ fn N c ⟨r,κ.exit,κ.ret⟩ (keep live.kept tm) H) m):=by
   intro m;induction m with
   | zero=>exact⟨fun _ _ _ _ h=>h,fun _ _ _ h=>by cases h⟩
   | succ m ihm=>
    have:=ih _ _ (⟨ihm,hκ.exit,hκ.ret⟩:zzbv (fun n=>⟨(Nat.rec (motive:=fun _=>Tm->xA->uB) (fun _ _=>none) (fun _ r tm H=>rD C (φs n) fn N c ⟨r,(κs n).exit,(κs n).ret⟩ (keep live.kept tm) H) m:Tm->xA->uB),(κs n).exit,(κs n).ret⟩) ⟨(Nat.rec (motive:=fun _=>Tm->xA->uB) (fun _ _=>none) (fun _ r tm H=>rD C φ fn N c ⟨r,κ.exit,κ.ret⟩ (keep live.kept tm) H) m:Tm->xA->uB),κ.exit,κ.ret⟩)
    exact⟨fun n tm H x h=>this.up n _ _ _ h,fun tm H x h=>this.ex _ _ _ h⟩
  obtain⟨n,hn⟩:=(it m).ex _ _ _ hm
  exact⟨n,(zco fun m y hy=>zo6 (fun κ κ' h=>qU (fun _ _ _ _ h=>h) c κ κ' h) live.kept m _ _ _ hy).2 ⟨m,hn⟩⟩
 | exit id=>exact fun κs κ hκ=>hκ.exit id
 | ret=>exact fun κs κ hκ=>hκ.ret
 | cut live c ih=>exact fun κs κ hκ=>⟨fun n tm H x h=>(ih _ _ hκ).up n _ _ _ h,fun tm H x h=>(ih _ _ hκ).ex _ _ _ h⟩
 | range i pl f ps id ops c ih=>exact fun κs κ hκ=>⟨fun n tm H x h=>(zgq hφ hκ).up n _ _ _ h,fun tm H x h=>(zgq hφ hκ).ex _ _ _ h⟩
def z50{live:PI}{c:qD}{κ:Kt}{tm:Tm}{H:xA}:rD C φ fn N (.loop live c) κ tm H=rD C φ fn N c ⟨rD C φ fn N (.loop live c) κ,κ.exit,κ.ret⟩ (keep live.kept tm) H:=by
 have self:OLe φ φ:=fun _ _ _ _ h=>h
 have up:∀m,Le2 (Nat.rec (motive:=fun _=>Tm->xA->uB) (fun _ _=>none) (fun _ r tm H=>rD C φ fn N c ⟨r,κ.exit,κ.ret⟩ (keep live.kept tm) H) m)
   (Nat.rec (motive:=fun _=>Tm->xA->uB) (fun _ _=>none) (fun _ r tm H=>rD C φ fn N c ⟨r,κ.exit,κ.ret⟩ (keep live.kept tm) H) (m+1)):=zo6 (qU self c) live.kept
 have some_iff:∀tm H x,rD C φ fn N (.loop live c) κ tm H=some x ↔ ∃m,(Nat.rec (motive:=fun _=>Tm->xA->uB) (fun _ _=>none) (fun _ r tm H=>rD C φ fn N c ⟨r,κ.exit,κ.ret⟩ (keep live.kept tm) H) m:Tm->xA->uB) tm H=some x:=
  fun tm H x=>zco fun m y hy=>up m _ _ _ hy
 have sup:zzbv (fun m=>⟨(Nat.rec (motive:=fun _=>Tm->xA->uB) (fun _ _=>none) (fun _ r tm H=>rD C φ fn N c ⟨r,κ.exit,κ.ret⟩ (keep live.kept tm) H) m:Tm->xA->uB),κ.exit,κ.ret⟩) ⟨rD C φ fn N (.loop live c) κ,κ.exit,κ.ret⟩:=
  ⟨⟨up,fun tm H x h=>(some_iff tm H x).1 h⟩,fun i=>⟨fun _ _ _ _ h=>h,fun _ _ _ h=>⟨0,h⟩⟩,⟨fun _ _ _ _ h=>h,fun _ _ _ h=>⟨0,h⟩⟩⟩
 have key:∀x,rD C φ fn N (.loop live c) κ tm H=some x ↔ rD C φ fn N c ⟨rD C φ fn N (.loop live c) κ,κ.exit,κ.ret⟩ (keep live.kept tm) H=some x:=by
  intro x;rw[some_iff];constructor
  ·rintro⟨m,hm⟩
   cases m with
   | zero=>cases hm
   | succ m=>exact qU self c ⟨(Nat.rec (motive:=fun _=>Tm->xA->uB) (fun _ _=>none) (fun _ r tm H=>rD C φ fn N c ⟨r,κ.exit,κ.ret⟩ (keep live.kept tm) H) m:Tm->xA->uB),κ.exit,κ.ret⟩ ⟨rD C φ fn N (.loop live c) κ,κ.exit,κ.ret⟩ ⟨fun tm H y hy=>(some_iff tm H y).2 ⟨m,hy⟩,fun _ _ _ _ h=>h,fun _ _ _ h=>h⟩ _ _ _ hm
  ·intro h
   obtain⟨m,hm⟩:=(zps (φs:=fun _=>φ) ⟨fun _=>self,fun _ _ _ _ h=>⟨0,h⟩⟩ c _ _ sup).ex _ _ _ h
   exact⟨m+1,hm⟩
 cases h:rD C φ fn N (.loop live c) κ tm H with
 | some x=>exact((key x).1 h).symm
 | none=>
  cases h2:rD C φ fn N c ⟨rD C φ fn N (.loop live c) κ,κ.exit,κ.ret⟩ (keep live.kept tm) H with
  | none=>rfl
  | some x=>rw[(key x).2 h2]at h;cases h
end
end
section
def z45:List fD->Bool
 | .reg .. :: _=>true
 | _=>false
section
variable {P:Program}{C:oA}{B N:Nat}{I:World->Prop}{μ:Mu}{w:World}{base:List Frame}{m:Machine}
def z3f(hF:zne P C){f:Nat}{args:List zA}{args':Array Value}{H:xA}(hH:aA B N μ H w)(hl:zB μ args args'.toList){g:xC}(he:cJ C f args false=some g) :
  sD P C B N μ base (lone (Frame.enter P f args' .normal) base w) w (.next ⟨g,[],H⟩):=
 ⟨μ,_,[],w,.refl _ _,fun _ _ h=>h,Below.refl N w,hH,(aW (cur:=some H) hF he hl).1,.nil⟩
end
end
section
inductive xK (C:oA):rE->rE->Prop
 | refl (o:rE):xK C o o
 | step {o o':rE}:xK C (zto C o) o'->xK C o o'
 | forget {todo:List fD} {tm tm':Tm} {R:nI} {cs:List xC} {H:xA} {o':rE}:z45 todo=false->(∀i v,tm'.get i=some v->tm.get i=some v)->xK C (.next ⟨⟨todo,tm',R⟩,cs,H⟩) o'->xK C (.next ⟨⟨todo,tm,R⟩,cs,H⟩) o'
def xK.trans{C:oA}{a b c:rE}(h:xK C a b)(k:xK C b c):xK C a c:=by
 induction h with
 | refl=>exact k
 | step _ ih=>exact .step (ih k)
 | forget h1 h2 _ ih=>exact .forget h1 h2 (ih k)
section
variable {P:Program}{C:oA}{B N:Nat}{I:World->Prop}{μ:Mu}{w:World}{base:List Frame}{m:Machine}
def tE.forget{n:Nat}{tm tm':Tm}{tmps:Array Value}(h:tE μ n tm tmps)(hs:∀i v,tm'.get i=some v->tm.get i=some v):tE μ n tm' tmps:=⟨h.1,fun i v hv=>h.2 i v (hs i v hv)⟩
def z0m{todo:List fD}{tm tm':Tm}{R:nI}{acs:List xC}{H:xA}(hr:z45 todo=false)(hs:∀i v,tm'.get i=some v->tm.get i=some v)(h:sD P C B N μ base m w (.next ⟨⟨todo,tm,R⟩,acs,H⟩)) :
  sD P C B N μ base m w (.next ⟨⟨todo,tm',R⟩,acs,H⟩):=by
 obtain⟨μ',b,cs,w',h1,h2,h3,h4,h5,h6⟩:=h
 obtain⟨bfn,btmps,btodo,bdefers,bmode,bkind,bround⟩:=b
 refine⟨μ',_,cs,w',h1,h2,h3,h4,⟨h5.rest,?_⟩,h6⟩
 have hb:=h5.body
 simp only at hb ⊢
 split at hb
 ·rename_i hm
  rw[yab hm]
  cases hb with
  | plain a t=>exact .plain a (t.forget hs)
  | reg _ _ _ _=>cases hr
  | mid _ _ _ _ _=>cases hr
 ·rename_i hm
  rw[yaa hm];exact hb.forget hs
def sD.reach(hS:Sim P C B N I)(hI:I w){o o':rE}(h:xK C o o'):sD P C B N μ base m w o->sD P C B N μ base m w o':=by
 induction h with
 | refl=>exact id
 | step _ ih=>exact fun h=>ih (zqz hS hI h)
 | forget hr hs _ ih=>exact fun h=>ih (z0m hr hs h)
end
def zj1(C:oA)(f:Nat)(ds:List sI)(fr:xC)(H:xA)(v:zA):Prop:=
 fr.R.mode=.returning/\fr.R.defers=ds/\fr.R.deferred=false/\fr.R.fn=f/\∃fn l,C.fns.get f=some fn/\yR C H fr.tm fn.results.toList=some l/\v=jT l
def zoc(r:gL)(l:Nat)(tm:Tm):xC:=⟨[.code r.assign,.beginRound,.code r.body],tm,⟨r.fn,r.n,[],.run,false,some l⟩⟩
structure iQ (C:oA) (φ:Ora):Prop where
 fn:∀f args H x,φ (.func f) args H=some x->∃g,cJ C f args false=some g/\∀acs,∃fr',xK C (.next ⟨g,acs,H⟩) (.next ⟨fr',acs,x.2⟩)/\zj1 C f [] fr' x.2 x.1
 rd:∀l args H x,φ (.yld l) args H=some x->∃r tm,jI H l=some r/\aQ r.n r.params args r.tm=some tm/\∀c acs c',gG c x.1=some c'->xK C (.next ⟨zoc r l tm,c::acs,H⟩) (.next ⟨c',acs,x.2⟩)
abbrev z8m:=List sI->rE->zA × xA->Prop
def Fin (C:oA)(E:z8m)(ds:List sI)(o:rE)(x:zA × xA):Prop:=∃o',xK C o o'/\E ds o' x
def Fin.step{C:oA}{E:z8m}{ds:List sI}{o:rE}{x:zA × xA}(h:Fin C E ds (zto C o) x):Fin C E ds o x:=by
 obtain⟨fr,h1,h2⟩:=h;exact⟨fr,.step h1,h2⟩
def Fin.of{C:oA}{E:z8m}{ds:List sI}{o o':rE}{x:zA × xA}(hr:xK C o o')(h:Fin C E ds o' x):Fin C E ds o x:=by
 obtain⟨fr,h1,h2⟩:=h;exact⟨fr,hr.trans h1,h2⟩
abbrev RR(f N:Nat)(ro:Option Nat)(ds:List sI):nI:=⟨f,N,ds,.run,false,ro⟩
structure zvn (C:oA) (E:z8m) (G:zA × xA->Prop) (f N:Nat) (ro:Option Nat) (acs:List xC):Prop where
 not:∀ds todo tm H x,¬ E ds (.next ⟨⟨todo,tm,RR f N ro ds⟩,acs,H⟩) x
 all:ro=none->∀x,G x
 pop:ro=none->∀r ds o x,E (⟨none,r,[]⟩::ds) o x->oQ x.2 r=some (some [])->∃o',xK C o o'/\E ds o' (x.1,setBlk x.2 r (.deferred none))
structure zs5 (C:oA) (E:z8m) (G:zA × xA->Prop) (f N:Nat) (ro:Option Nat) (acs:List xC) (κ:Kt) (k:List fD):Prop where
 norm:∀ds x tm H,G x->κ.norm tm H=some x->Fin C E ds (.next ⟨⟨k,tm,RR f N ro ds⟩,acs,H⟩) x
 exit:∀ds x i tm H,G x->κ.exit i tm H=some x->Fin C E ds (.next ⟨⟨.code (.exit i)::k,tm,RR f N ro ds⟩,acs,H⟩) x
 ret:∀ds x tm H,G x->κ.ret tm H=some x->∀k',Fin C E ds (.next ⟨⟨.code .ret::k',tm,RR f N ro ds⟩,acs,H⟩) x
structure zqd where
 i:Nat
 pl:List Nat
 f:Operand
 ps:Array Nat
 id:Nat
 ops:Array Oper
 c:qD
def aM(c:qD):List zqd:=
 qD.rec (motive:=fun _=>List zqd) [] (fun _ _ _=>[]) (fun _ _ a b=>xD a b) (fun _ _ _ a b=>xD a b) (fun _ _ a=>a) (fun _ _ a=>a) (fun _=>[]) [] (fun _ _ a=>a)
  (fun i pl f ps id ops c a=>⟨i,pl,f,ps,id,ops,c⟩::a) c
section
variable {C:oA}{φ:Ora}{E:z8m}{G:zA × xA->Prop}{ds:List sI}{ro:Option Nat}{f N:Nat}{acs:List xC}{R:nI}{κ:Kt}{k:List fD}{x:zA × xA}{all:Array Oper}
def zJ(hR:R.mode.running=true){todo:List fD}{tm:Tm}{H:xA}:zto C (.next ⟨⟨todo,tm,R⟩,acs,H⟩)=sM C todo tm R acs H:=by
 show(bif R.mode.running then sM C todo tm R acs H else _)=_
 rw[hR];rfl
def z0c{fr c c':xC}{H:xA}{v:zA}(hr:zj1 C f [] fr H v)(hf:gG c v=some c'):zto C (.next ⟨fr,c::acs,H⟩)=.next ⟨c',acs,H⟩:=by
 obtain⟨h1,h2,h3,h4,fn,l,h5,h6,rfl⟩:=hr
 obtain⟨todo,tm,ffn,n,defers,mode,deferred,round⟩:=fr
 simp only at h1 h2 h3 h4 h6
 subst h1 h2 h3 h4
 show zc6 C ⟨todo,tm,_⟩ (c::acs) H=_
 unfold zc6;rw[h5,sA,h6];simp only[cond_false];rw[hf];rfl
def zgj(hφ:iQ C φ){r:aI}{H:xA}{K:zA->xA->uB}(h:iF φ r H K=some x){fr:xC}
  (hK:∀v H' c',gG fr v=some c'->K v H'=some x->Fin C E ds (.next ⟨c',acs,H'⟩) x) (hfin:∀v,∃c',gG fr v=some c'):Fin C E ds (zbs r C fr acs H) x:=by
 cases r<;>simp only[iF]at h<;>try (cases h;done)
 case val v H'=>
  have h2:K v H'=some x:=h
  obtain⟨c',hc⟩:=hfin v
  show Fin C E ds (z9l v H' C fr acs H) x
  unfold z9l;rw[hc];exact hK _ _ _ hc h2
 case enter g args=>
  rw[uA]at h;obtain⟨p,h1,h4⟩:=h
  obtain⟨c',hc⟩:=hfin p.1
  show Fin C E ds (zk1 g args C fr acs H) x
  unfold zk1;obtain⟨ge,he,r0⟩:=hφ.fn _ _ _ _ h1
  obtain⟨fr',r1,r2⟩:=r0 (fr::acs)
  rw[he];refine Fin.of (r1.trans (.step ?_)) (hK _ _ _ hc h4)
  rw[z0c r2 hc];exact .refl _
 case round l args=>
  rw[uA]at h;obtain⟨p,h1,h4⟩:=h
  obtain⟨c',hc⟩:=hfin p.1
  obtain⟨r,tm,e1,e2,r0⟩:=hφ.rd _ _ _ _ h1
  show Fin C E ds (zk0 l args C fr acs H) x
  unfold zk0;rw[e1,sA,e2,sA];exact Fin.of (r0 _ _ _ hc) (hK _ _ _ hc h4)
def zt1(hφ:iQ C φ)(hR:R.mode.running=true)(hN:R.n=N){κn:Tm->xA->uB}(hκ:∀tm H,κn tm H=some x->Fin C E ds (.next ⟨⟨k,tm,R⟩,acs,H⟩) x) :
  ∀(l:List Oper) (tm:Tm) (H:xA),rK C φ all N κn l tm H=some x->Fin C E ds (kO C all k R acs l tm H) x:=by
 intro l;induction l with
 | nil=>exact fun tm H h=>hκ tm H h
 | cons o l ih=>
  intro tm H h;rw[dT,uA]at h;obtain⟨w,h1,h⟩:=h
  rw[xZ,h1]
  cases w with
  | false=>rw[yaa (by simp)]at h;simp only[];rw[hN];exact ih _ _ h
  | true=>
   rw[yab rfl]at h;simp only[];generalize (sF o.op).f C (.now tm) H=r at h
   cases hv:r.asVal with
   | some p=>
    have:r=.val p.1 p.2:=by cases r<;>simp[aI.asVal]at hv;rw[<- hv]
    subst this;simp only[iF,vL]at h;obtain⟨h2,h3⟩:=h
    simp only[];rw[hN];exact ih _ _ h3
   | none=>
    refine zgj hφ h (fun v H' c' hc hK=>?_) fun v=>⟨⟨.ops all l::k,putA R.n tm o.dst v,R⟩,by unfold gG;simp only[hR,cond_true];rfl⟩
    unfold gG at hc;simp only[hR,cond_true]at hc;have hc:some (⟨.ops all l::k,putA R.n tm o.dst v,R⟩:xC)=some c':=hc
    cases hc;refine .step ?_
    rw[zJ hR,hN];rw[vL]at hK;exact ih _ _ hK.2
def aX{H:xA}{old:Tm}{olds:List (Nat × List Nat)}{K:Tm->uB}:∀(l:List Nat) (tm:Tm),dG C H all N old olds K l tm=some x->∃tm',yM C H all N old olds l tm=some tm'/\K tm'=some x:=by
 intro l;induction l with
 | nil=>exact fun tm h=>⟨tm,rfl,h⟩
 | cons i l ih=>
  intro tm h;rw[yY,uA]at h;obtain⟨o,h1,h⟩:=h
  rw[uA]at h;obtain⟨w,h2,h⟩:=h
  unfold yM;rw[h1,sA,h2,sA]
  cases w with
  | false=>rw[yaa (by simp)]at h;simp only[cond_false,sA];exact ih _ h
  | true=>
   rw[yab rfl,uA]at h;obtain⟨v,h3,h⟩:=h
   rw[vL]at h;obtain⟨h4,h⟩:=h
   simp only[cond_true];rw[h3,sA];exact ih _ h
def zsh{C:oA}{o:Op}{e:iC}{H:xA}{r:aI}(hf:dI o=true)(h:(sF o).f C e H=r)(h1:∀q,r≠iJ q):False:=by
 have key:∀q:Option (zA × xA),iJ q=r->False:=fun q e=>h1 q e.symm
 cases o<;>simp only[dI]at hf<;>first
  | (cases hf;done)
  | exact key _ h
def zic(hφ:iQ C φ)(hR:R.mode.running=true)(hN:R.n=N){κn:Tm->xA->uB}(hκ:∀tm H,κn tm H=some x->Fin C E ds (.next ⟨⟨k,tm,R⟩,acs,H⟩) x){old:Tm}{olds:List (Nat × List Nat)} :
  ∀(l:List pE) (tm:Tm) (H:xA),xH C φ all N old olds κn l tm H=some x->Fin C E ds (.next ⟨⟨.reg all old olds l::k,tm,R⟩,acs,H⟩) x:=by
 intro l;induction l with
 | nil=>
  intro tm H h;refine .step ?_
  rw[zJ hR];exact hκ tm H h
 | cons st l ih=>
  intro tm H h
  cases hg:vO all st with
  | true=>
   rw[aV hg,sY]at h;obtain⟨h0,es,H',h1,h2,h3⟩:=h
   obtain⟨tm',hl1,hl2⟩:=aX _ _ h3
   refine .step ?_
   rw[zJ hR];show Fin C E ds (zs7 all old olds (st::l) C k tm R acs H) x
   unfold zs7;have hg0:=vC.1 hg
   rw[bC]at hg0;have hnone:gC all.toList st.heavy=none:=by
    rw[eF];exact List.getElem?_eq_none (by omega)
   simp only[hnone];rw[zC,yab (vC.2 (by rw[bC];omega)),zC,yab (show Nat.blt (yB all.toList+yB all.toList) st.heavy=true from hg)]
   unfold zqj;rw[h0,show ∀(x:Option lM),cA true x=x from fun _=>rfl,h1,sA,h2,sA,hN,hl1,sA]
   exact ih _ _ hl2
  | false=>
  rw[cU hg,uA]at h;obtain⟨o,h1,h⟩:=h
  rw[uA]at h;obtain⟨w,h2',h⟩:=h
  have hgn:Nat.blt (yB all.toList+yB all.toList) st.heavy=false:=hg
  by_cases hfl:Nat.blt (yB all.toList) st.heavy=true
  ·-- an operation that is done early
   unfold nO at h2';unfold hvI at h1 h;rw[hfl]at h1 h2' h
   simp only[cond_true,uA,wB,ybb]at h1 h2'
   obtain⟨w',h2,⟨⟨hw,hfo⟩,hlo⟩,h2'⟩:=h2'
   cases h2'
   subst hw;simp only[if_true,cond_true]at h;have hval:∃v H',(sF o.op).f C (.mixed tm old (aD (Nat.sub st.heavy (Nat.succ (yB all.toList))) olds) (zG o.op)) H=.val v H':=by
    cases hr:(sF o.op).f C (.mixed tm old (aD (Nat.sub st.heavy (Nat.succ (yB all.toList))) olds) (zG o.op)) H with
    | val v H'=>exact⟨v,H',rfl⟩
    | enter g args=>exact(zsh hfo hr fun q=>by cases q<;>simp[iJ]).elim
    | round g args=>exact(zsh hfo hr fun q=>by cases q<;>simp[iJ]).elim
    | _=>rw[hr]at h;cases h
   obtain⟨v,H',hv⟩:=hval
   rw[hv]at h;have h:(xJ C o.type v fun v=>lJ C H' all old olds (putA N tm o.dst v) (dG C H' all N old olds (fun tm=>xH C φ all N old olds κn l tm H') st.lights (putA N tm o.dst v)) st.again)=some x:=h
   rw[vL]at h;obtain⟨ha,hl⟩:=sX _ h.2
   obtain⟨tm',hl1,hl2⟩:=aX _ _ hl
   refine .step ?_
   rw[zJ hR];show Fin C E ds (zs7 all old olds (st::l) C k tm R acs H) x
   unfold zs7;have hnone:gC all.toList st.heavy=none:=by
    rw[eF];have:=vC.1 hfl
    rw[bC]at this;exact List.getElem?_eq_none (by omega)
   simp only[hnone];rw[hfl,cond_true,hgn,cond_false];unfold zqk;rw[h1,sA,h2,sA,hv,hlo];show Fin C E ds (wJ (ob (yM C H' all R.n old olds st.lights (putA R.n tm o.dst v)) fun tm'=>some ⟨⟨.reg all old olds l::k,tm',R⟩,acs,H'⟩) 23) x
   rw[hN,hl1,sA];exact ih _ _ hl2
  have hfl:Nat.blt (yB all.toList) st.heavy=false:=Bool.eq_false_iff.2 hfl
  unfold nO at h2';unfold hvI at h1 h;rw[hfl]at h1 h2' h
  simp only[cond_false,uA]at h1 h2'
  obtain⟨w',h2,h2'⟩:=h2'
  cases h2'
  simp only[cond_false]at h;have back0:∀v H' c',gG (⟨.reg all old olds (st::l)::k,tm,R⟩:xC) v=some c' →
    lJ C H' all old olds (putA N tm o.dst v) (dG C H' all N old olds (fun tm=>xH C φ all N old olds κn l tm H') st.lights (putA N tm o.dst v)) st.again=some x->Fin C E ds (.next ⟨c',acs,H'⟩) x:=by
   intro v H' c' hc hK;unfold gG at hc;simp only[hR,cond_true]at hc;have hc:(ob (gC all.toList st.heavy) fun o=>some (⟨.reg all old olds (⟨all.size,st.lights,st.again⟩::l)::k,putA R.n tm o.dst v,R⟩:xC))=some c':=hc
   rw[h1,sA]at hc
   cases hc;refine .step ?_
   rw[zJ hR,hN];obtain⟨ha,hl⟩:=sX _ hK
   obtain⟨tm',hl1,hl2⟩:=aX _ _ hl
   show Fin C E ds (zs7 all old olds (⟨all.size,st.lights,st.again⟩::l) C k (putA N tm o.dst v) R acs H') x
   unfold zs7;have:gC all.toList all.size=none:=by rw[eF];simp
   simp only[this];rw[zC,yaa fun e=>by have:=vC.1 e;rw[bC]at this;simp at this]
   show Fin C E ds (zc0 all old olds ⟨all.size,st.lights,st.again⟩ l C k (putA N tm o.dst v) R acs H') x
   unfold zc0;simp only[ha,hN,hl1,sA];exact ih _ _ hl2
  have back:∀v H' c',gG (⟨.reg all old olds (st::l)::k,tm,R⟩:xC) v=some c' →
    (xJ C o.type v fun v=>lJ C H' all old olds (putA N tm o.dst v) (dG C H' all N old olds (fun tm=>xH C φ all N old olds κn l tm H') st.lights (putA N tm o.dst v)) st.again)=some x->Fin C E ds (.next ⟨c',acs,H'⟩) x:=by
   intro v H' c' hc hK;rw[vL]at hK;exact back0 v H' c' hc hK.2
  refine .step ?_
  rw[zJ hR];show Fin C E ds (zs7 all old olds (st::l) C k tm R acs H) x
  unfold zs7;simp only[h1];unfold zqi;rw[h2];simp only[];have hfin:∀v,∃c',gG (⟨.reg all old olds (st::l)::k,tm,R⟩:xC) v=some c':=fun v=>⟨⟨.reg all old olds (⟨all.size,st.lights,st.again⟩::l)::k,putA R.n tm o.dst v,R⟩,by
   unfold gG;simp only[hR,cond_true];show(ob (gC all.toList st.heavy) fun o=>some (⟨.reg all old olds (⟨all.size,st.lights,st.again⟩::l)::k,putA R.n tm o.dst v,R⟩:xC))=_
   rw[h1];rfl⟩
  cases w with
  | true=>
   simp only[if_true]at h;exact zgj hφ h back hfin
  | false=>
   simp only[ybq,if_false]at h;obtain⟨c',hc⟩:=hfin nD
   show Fin C E ds (z9l nD H C _ acs H) x
   unfold z9l;rw[hc];exact back0 _ _ _ hc h
def z44{live:List Nat}{tm:Tm}{i:Nat}{v:zA}(h:(keep live tm).get i=some v):tm.get i=some v:=by
 unfold keep Tm.get at h;simp only[nH]at h;split at h
 case isFalse=>cases h
 rename_i hk;have key:∀live:List Nat,(zl2 tm live).get i=some v->tm.get i=some v:=by
  intro live;induction live with
  | nil=>intro h;rw[show zl2 tm []=.leaf from rfl,Tr.get_leaf]at h;cases h
  | cons j live ih=>
   intro h;have h:(match tm.get j with | some v=>(zl2 tm live).set j v | none=>zl2 tm live:Tr zA).get i=some v:=h
   cases hj:tm.get j with
   | none=>rw[hj]at h;exact ih h
   | some u=>
    rw[hj]at h;simp only[]at h;rw[Tr.get_set]at h;split at h
    ·rename_i e;rw[e,hj];exact h
    ·exact ih h
 exact key live h
def zhf{todo:List fD}(hr:z45 todo=false){live:List Nat}{tm:Tm}{H:xA}(h:Fin C E ds (.next ⟨⟨todo,keep live tm,R⟩,acs,H⟩) x):Fin C E ds (.next ⟨⟨todo,tm,R⟩,acs,H⟩) x:=
 Fin.of (.forget hr (fun _ _=>z44) (.refl _)) h
def zet(hE:zvn C E G f N ro acs){t1 t2:List fD}(h1:z45 t1=false)(hs:∀tm H,sM C t1 tm (RR f N ro ds) acs H=sM C t2 tm (RR f N ro ds) acs H){tm:Tm}{H:xA}(h:Fin C E ds (.next ⟨⟨t2,tm,RR f N ro ds⟩,acs,H⟩) x):Fin C E ds (.next ⟨⟨t1,tm,RR f N ro ds⟩,acs,H⟩) x:=by
 obtain⟨o',hr,hv⟩:=h
 refine⟨o',?_,hv⟩
 generalize ho:(.next ⟨⟨t2,tm,RR f N ro ds⟩,acs,H⟩:rE)=o at hr
 induction hr generalizing tm with
 | refl=>
  subst ho;exact(hE.not _ _ _ _ _ hv).elim
 | step h ih=>
  subst ho;refine .step ?_
  rw[zJ rfl,hs,<- zJ rfl];exact h
 | forget hr2 hs2 h ih=>
  cases ho;exact .forget h1 hs2 (ih hv rfl)
def zua{i:Nat}{t1 t2:List fD}{tm:Tm}{H:xA}:vN (some (.exit i)) C ⟨t1,tm,R⟩ acs H=vN (some (.exit i)) C ⟨t2,tm,R⟩ acs H:=by
 obtain⟨a,b,c,d,e,ro⟩:=R
 unfold vN
 cases ro<;>rfl
def zex(hE:zvn C E G f N ro acs){i:Nat}{y:fD}(hy:∀j,y.blockId=some j->Nat.beq j i=false){tm:Tm}{H:xA}(h:Fin C E ds (.next ⟨⟨.code (.exit i)::k,tm,RR f N ro ds⟩,acs,H⟩) x):Fin C E ds (.next ⟨⟨.code (.exit i)::y::k,tm,RR f N ro ds⟩,acs,H⟩) x:=by
 refine zet hE rfl (fun tm H=>?_) h
 show zj3 i C (y::k) tm (RR f N ro ds) acs H=zj3 i C k tm (RR f N ro ds) acs H
 have e:eK i (y::k)=eK i k:=by
  show(match y.blockId with | some j=>bif Nat.beq j i then some k else eK i k | none=>eK i k)=_
  cases hb:y.blockId with
  | none=>rfl
  | some j=>simp only[hy j hb,cond_false]
 unfold zj3;rw[e]
 cases eK i k with
 | some k'=>rfl
 | none=>exact zua
def zkz(hφ:iQ C φ)(hE:zvn C E G f N none acs){κ:Kt}(hκ:zs5 C E G f N none acs κ k){fo:Operand}{ps:Array Nat}{a b:Code}{tm:Tm}{H:xA}(h:cL C φ f N κ fo ps.toList a b tm H=some x):Fin C E ds (.next ⟨⟨.code (.rangeFunc fo ps a b)::k,tm,RR f N none ds⟩,acs,H⟩) x:=by
 unfold cL at h;rw[uA]at h;obtain⟨v,h1,h⟩:=h
 rw[uA]at h;obtain⟨⟨qf,q1,q2⟩,h2,h⟩:=h
 cases qf with
 | yld l=>cases h
 | func g=>
  simp only[wB,uA]at h;obtain⟨h3,y,h4,r,h5,h6,z,h7,d,h8,h9,h10⟩:=h
  have hp:C.prims.get g=none:=by
   cases hx:C.prims.get g with
   | none=>rfl
   | some u=>rw[hx]at h3;cases h3
  obtain⟨ge,he,r0⟩:=hφ.fn _ _ _ _ h4
  obtain⟨fr',r1,r2⟩:=r0 (⟨.inRange (H.next+1)::k,tm,RR f N none (⟨none,H.next,[]⟩::ds)⟩::acs)
  refine .step ?_
  rw[zJ rfl];show Fin C E ds (zj2 fo ps a b C k tm (RR f N none ds) acs H) x
  have hin:wR C (H.next+1) v=some ge:=by
   unfold wR;rw[h2,sA];simp only[hp];exact he
  unfold zj2;rw[h1,sA];simp only[hin,sA];refine Fin.of (r1.trans (.step ?_)) (?_:Fin C E ds (.next ⟨⟨.endRange (H.next+1)::k,tm,RR f N none (⟨none,H.next,[]⟩::ds)⟩,acs,y.2⟩) x)
  ·rw[z0c r2 (c':=⟨.endRange (H.next+1)::k,tm,RR f N none (⟨none,H.next,[]⟩::ds)⟩) rfl]
   exact .refl _
  refine .step ?_
  rw[zJ rfl];show Fin C E ds (iV (H.next+1) C k tm (RR f N none (⟨none,H.next,[]⟩::ds)) acs y.2) x
  unfold iV;rw[h5,sA,h6];have key:Fin C E (⟨none,H.next,[]⟩::ds) (.next ⟨⟨(match r.pending with | some c=>.code c::k | none=>k),tm,RR f N none (⟨none,H.next,[]⟩::ds)⟩,acs,endLoop y.2 (H.next+1) r⟩) z:=by
   unfold zS at h7;split at h7
   ·rename_i e;rw[e];exact hκ.norm _ _ _ _ (hE.all rfl _) h7
   ·rename_i e;rw[e];exact hκ.ret _ _ _ _ (hE.all rfl _) h7 k
   ·cases h7
  obtain⟨o',k1,k2⟩:=key
  have hd:oQ z.2 H.next=some (some []):=by
   rw[h8]
   cases d with
   | none=>cases h9
   | some l=>cases l with | nil=>rfl | cons _ _=>cases h9
  obtain⟨o'',k3,k4⟩:=hE.pop rfl _ _ _ _ k2 hd
  cases h10;exact⟨o'',k1.trans k3,k4⟩
def iX{α:Type}{a b:List α}(h:xD a b=[]):a=[]/\b=[]:=by rw[iG]at h;exact List.append_eq_nil_iff.1 h
def zml(hφ:iQ C φ)(hE:zvn C E G f N ro acs):∀(c:qD) (κ:Kt) (k:List fD),(ro=none\/aM c=[])->zs5 C E G f N ro acs κ k->∀ds x tm H,G x->rD C φ f N c κ tm H=some x->Fin C E ds (.next ⟨⟨.code (wF c)::k,tm,RR f N ro ds⟩,acs,H⟩) x:=by
 intro c;induction c with
 | skip=>
  intro κ k _ hκ ds x tm H hG h;refine .step ?_
  rw[zJ rfl];exact hκ.norm _ _ _ _ hG h
 | region id ops d=>
  intro κ k _ hκ ds x tm H hG h;refine .step ?_
  rw[zJ rfl]
  cases d with
  | false=>exact zt1 hφ rfl rfl (fun tm H h=>hκ.norm _ _ _ _ hG h) _ _ _ h
  | true=>
   have h:(ob (ob (C.plans.get f) fun t=>t.get id) fun p=>cA (yO ops p) (dG C H ops N tm.cut p.olds (fun tm'=>xH C φ ops N tm.cut p.olds κ.norm p.stages tm' H) p.first tm.cut))=some x:=h
   rw[uA]at h;obtain⟨p,h1,h⟩:=h
   rw[wB]at h;obtain⟨tm',hl1,hl2⟩:=aX _ _ h.2
   show Fin C E ds (zvy id ops C k tm (RR f N ro ds) acs H) x
   unfold zvy;rw[h1,sA,h.1,hl1];exact zic hφ rfl rfl (fun tm H h=>hκ.norm _ _ _ _ hG h) _ _ _ hl2
 | seq a b iha ihb=>
  intro κ k hn hκ ds x tm H hG h;have hna:ro=none\/aM a=[]:=hn.imp id fun e=>(iX e).1
  have hnb:ro=none\/aM b=[]:=hn.imp id fun e=>(iX e).2
  refine zet hE (t1:=.code (wF (.seq a b))::k) rfl (t2:=.code (wF a)::.code (wF b)::k) (fun _ _=>rfl) ?_
  exact iha ⟨rD C φ f N b κ,κ.exit,κ.ret⟩ _ hna ⟨fun ds x tm H hG h=>ihb _ _ hnb hκ ds x tm H hG h,fun ds x i tm H hG h=>zex hE (fun _ e=>by cases e) (hκ.exit _ _ _ _ _ hG h),hκ.ret⟩ ds x tm H hG h
 | cond c a b iha ihb=>
  intro κ k hn hκ ds x tm H hG h;have hna:ro=none\/aM a=[]:=hn.imp id fun e=>(iX e).1
  have hnb:ro=none\/aM b=[]:=hn.imp id fun e=>(iX e).2
  have h:(ob (ob (ev c (.now tm)) zA.asBool) fun t=>Bool.rec (motive:=fun _=>uB) (rD C φ f N b κ tm H) (rD C φ f N a κ tm H) t)=some x:=h
  rw[uA]at h;obtain⟨t,h1,h⟩:=h
  refine .step ?_
  rw[zJ rfl];show Fin C E ds (zvz c (wF a) (wF b) C k tm (RR f N ro ds) acs H) x
  unfold zvz;rw[h1]
  cases t with
  | true=>exact iha _ _ hna hκ _ _ _ _ hG h
  | false=>exact ihb _ _ hnb hκ _ _ _ _ hG h
 | block id c ih=>
  intro κ k hn hκ ds x tm H hG h;refine .step ?_
  rw[zJ rfl];have nx:∀ds x tm H,G x->κ.norm tm H=some x->Fin C E ds (.next ⟨⟨.inBlock id::k,tm,RR f N ro ds⟩,acs,H⟩) x:=by
   intro ds x tm H hG h;refine .step ?_
   rw[zJ rfl];exact hκ.norm _ _ _ _ hG h
  refine ih ⟨κ.norm,fun i tm H=>Bool.rec (motive:=fun _=>uB) (κ.exit i tm H) (κ.norm tm H) (Nat.beq id i),κ.ret⟩ _ hn ⟨nx,fun ds x i tm H hG h=>?_,hκ.ret⟩ ds x tm H hG h
  dsimp only at h
  cases hb:Nat.beq id i with
  | true=>
   rw[hb]at h;refine .step ?_
   rw[zJ rfl];show Fin C E ds (zj3 i C (.inBlock id::k) tm (RR f N ro ds) acs H) x
   have e:eK i (.inBlock id::k)=some k:=by
    show(bif Nat.beq id i then some k else eK i k)=_
    rw[hb];rfl
   unfold zj3;rw[e];exact hκ.norm _ _ _ _ hG h
  | false=>
   rw[hb]at h;exact zex hE (fun j e=>by cases e;exact hb) (hκ.exit _ _ _ _ _ hG h)
 | loop live c ih=>
  intro κ k hn hκ ds x tm H hG h;obtain⟨m,hm⟩:=zy7 h
  have it:∀(m:Nat) ds x tm H,G x->(Nat.rec (motive:=fun _=>Tm->xA->uB) (fun _ _=>none) (fun _ r tm H=>rD C φ f N c ⟨r,κ.exit,κ.ret⟩ (keep live.kept tm) H) m:Tm->xA->uB) tm H=some x->Fin C E ds (.next ⟨⟨.inLoop (wF c)::k,tm,RR f N ro ds⟩,acs,H⟩) x:=by
   intro m;induction m with
   | zero=>intro ds x tm H _ h;cases h
   | succ m ihm=>
    intro ds x tm H hG h;refine zhf (live:=live.kept) rfl (.step ?_)
    rw[zJ rfl];exact ih ⟨_,κ.exit,κ.ret⟩ _ hn ⟨ihm,fun ds x i tm H hG h=>zex hE (fun _ e=>by cases e) (hκ.exit _ _ _ _ _ hG h),hκ.ret⟩ _ _ _ _ hG h
  exact zet hE (t1:=.code (wF (.loop live c))::k) rfl (t2:=.inLoop (wF c)::k) (fun _ _=>rfl) (it m _ _ tm H hG hm)
 | exit id=>exact fun κ k _ hκ ds x tm H hG h=>hκ.exit _ _ _ _ _ hG h
 | ret=>exact fun κ k _ hκ ds x tm H hG h=>hκ.ret _ _ _ _ hG h k
 | cut live c ih=>exact fun κ k hn hκ ds x tm H hG h=>zhf rfl (ih κ k hn hκ _ _ _ _ hG h)
 | range i pl fo ps id ops c ih=>
  intro κ k hn hκ ds x tm H hG h;rcases hn with rfl | e
  ·exact zkz hφ hE hκ h
  ·cases e
end
end
section
def endK (C:oA)(fn:Func)(tm:Tm)(H:xA):uB:=ob (yR C H tm fn.results.toList) fun l=>some (jT l,H)
def z2o (C:oA)(fn:Func):Kt:=⟨endK C fn,fun _ _ _=>none,endK C fn⟩
def sW(ops:List Oper):Bool:=kB (fun o=>match o.op with | .move _=>qH o.guard | .assign _=>qH o.guard | _=>false) ops
def qW(c:qD):Option zqd:=match aM c with | [q]=>some q | _=>none
def rdOk (r:gL)(q:zqd):Prop:=r.assign=.region q.id q.ops false/\r.body=wF q.c/\r.params=q.ps.toList/\LoopState.tag r.state=0/\sW q.ops.toList=true/\aM q.c=[]
def zp5(r:gL):gL:=⟨.busy,r.pending,r.fn,r.n,r.tm,r.params,r.assign,r.body,r.defers⟩
def zi8(b:Bool)(r:gL):gL:=⟨if b then .ready else .done,if b then none else some .ret,r.fn,r.n,r.tm,r.params,r.assign,r.body,r.defers⟩
def rdK:Kt:=⟨fun _ H=>some (.bool true,H),fun _ _ _=>none,fun _ H=>some (.bool false,H)⟩
def z6b(C:oA)(φ:Ora)(fn n:Nat)(q:zqd)(tm:Tm)(H:xA):uB:=rD C φ fn n (.seq (.region q.id q.ops false) q.c) rdK tm H
def zdm(C:oA)(A:Tr qD)(φ:Ora)(l:Nat)(args:List zA)(H:xA):uB:=
 ob (jI H l) fun r=>ob (aQ r.n r.params args r.tm) fun tm=>ob (A.get r.fn) fun c=>ob (qW c) fun q=>@ite _ (rdOk r q) (Classical.propDecidable _)
  (ob (z6b C φ r.fn r.n q tm (setBlk H l (.loop (zp5 r)))) fun x=>ob (jI x.2 l) fun r2=>ob x.1.asBool fun b=>some (.bool b,setBlk x.2 l (.loop (zi8 b r2)))) none
def zvv (C:oA)(A:Tr qD)(φ:Ora)(f:Nat)(args:List zA)(H:xA):uB:=
 ob (A.get f) fun c=>ob (C.fns.get f) fun fn=>ob (cJ C f args false) fun g=>rD C φ f fn.ntmps c (z2o C fn) g.tm H
def zn7(C:oA)(A:Tr qD)(φ:Ora):Ora
 | .func f=>zvv C A φ f
 | .yld l=>zdm C A φ l
def z7i (C:oA)(A:Tr qD):Nat->Ora
 | 0=>fun _ _ _=>none
 | n+1=>zn7 C A (z7i C A n)
def tD (C:oA)(A:Tr qD):Ora:=fun f args H=>lim fun n=>z7i C A n f args H
section
variable {C:oA}{A:Tr qD}
def zV{φ:Ora}{l:Nat}{args:List zA}{H:xA}{x:zA × xA}:zdm C A φ l args H=some x ↔ ∃r tm c q y r2 b,jI H l=some r/\aQ r.n r.params args r.tm=some tm/\A.get r.fn=some c/\qW c=some q/\rdOk r q/\z6b C φ r.fn r.n q tm (setBlk H l (.loop (zp5 r)))=some y/\jI y.2 l=some r2/\y.1=.bool b/\x=(.bool b,setBlk y.2 l (.loop (zi8 b r2))):=by
 unfold zdm;simp only[uA];constructor
 ·rintro⟨r,h1,tm,h2,c,h3,q,h4,h⟩
  by_cases hq:rdOk r q
  ·rw[yab hq]at h
   simp only[uA]at h;obtain⟨y,h5,r2,h6,b,h7,h8⟩:=h
   exact⟨r,tm,c,q,y,r2,b,h1,h2,h3,h4,hq,h5,h6,fR.1 h7,by cases h8;rfl⟩
  ·rw[yaa hq]at h;cases h
 ·rintro⟨r,tm,c,q,y,r2,b,h1,h2,h3,h4,hq,h5,h6,h7,h8⟩
  refine⟨r,h1,tm,h2,c,h3,q,h4,?_⟩
  rw[yab hq];simp only[uA];exact⟨y,h5,r2,h6,b,fR.2 h7,by rw[h8]⟩
def zf9{φ φ':Ora}(h:OLe φ φ'):OLe (zn7 C A φ) (zn7 C A φ'):=by
 intro f args H x hx
 cases f with
 | yld l=>
  have hx:zdm C A φ l args H=some x:=hx
  obtain⟨r,tm,c,q,y,r2,b,h1,h2,h3,h4,hq,h5,h6,h7,h8⟩:=zV.1 hx
  exact zV.2 ⟨r,tm,c,q,y,r2,b,h1,h2,h3,h4,hq,qU h _ _ _ (KLe.refl _) _ _ _ h5,h6,h7,h8⟩
 | func f=>
 have hx:zvv C A φ f args H=some x:=hx
 show zvv C A φ' f args H=some x
 unfold zvv at hx ⊢
 rw[uA]at hx ⊢
 obtain⟨c,h1,hx⟩:=hx
 refine⟨c,h1,?_⟩
 rw[uA]at hx ⊢
 obtain⟨fn,h2,hx⟩:=hx
 refine⟨fn,h2,?_⟩
 rw[uA]at hx ⊢
 obtain⟨g,h3,hx⟩:=hx
 exact⟨g,h3,qU h c _ _ (KLe.refl _) _ _ _ hx⟩
def zyt:∀n,OLe (z7i C A n) (z7i C A (n+1)):=by
 intro n;induction n with
 | zero=>intro f args H x h;cases h
 | succ n ih=>exact zf9 ih
def vU{f:AFn}{args:List zA}{H:xA}{x:zA × xA}:tD C A f args H=some x ↔ ∃n,z7i C A n f args H=some x:=
 zco fun n _ hy=>zyt n _ _ _ _ hy
def z0n:z6o (z7i C A) (tD C A):=⟨zyt,fun _ _ _ _ h=>vU.1 h⟩
def z8d(f:AFn)(args:List zA)(H:xA):tD C A f args H=zn7 C A (tD C A) f args H:=by
 have key:∀x,tD C A f args H=some x ↔ zn7 C A (tD C A) f args H=some x:=by
  intro x;constructor
  ·intro h
   obtain⟨n,hn⟩:=vU.1 h
   cases n with
   | zero=>cases hn
   | succ n=>exact zf9 (fun f a H y hy=>vU.2 ⟨n,hy⟩) _ _ _ _ hn
  ·intro h
   cases f with
   | yld l=>
    have h:zdm C A (tD C A) l args H=some x:=h
    obtain⟨r,tm,c,q,y,r2,b,h1,h2,h3,h4,hq,h5,h6,h7,h8⟩:=zV.1 h
    have sup:zzbv (fun _=>rdK) rdK:=⟨⟨fun _ _ _ _ h=>h,fun _ _ _ h=>⟨0,h⟩⟩,fun i=>⟨fun _ _ _ _ h=>h,fun _ _ _ h=>⟨0,h⟩⟩,⟨fun _ _ _ _ h=>h,fun _ _ _ h=>⟨0,h⟩⟩⟩
    obtain⟨n,hn⟩:=(zps z0n _ _ _ sup).ex _ _ _ h5
    exact vU.2 ⟨n+1,zV.2 ⟨r,tm,c,q,y,r2,b,h1,h2,h3,h4,hq,hn,h6,h7,h8⟩⟩
   | func f=>
   have h:zvv C A (tD C A) f args H=some x:=h
   unfold zvv at h;rw[uA]at h;obtain⟨c,h1,h⟩:=h
   rw[uA]at h;obtain⟨fn,h2,h⟩:=h
   rw[uA]at h;obtain⟨g,h3,h⟩:=h
   have sup:zzbv (fun _=>z2o C fn) (z2o C fn):=⟨⟨fun _ _ _ _ h=>h,fun _ _ _ h=>⟨0,h⟩⟩,fun i=>⟨fun _ _ _ _ h=>h,fun _ _ _ h=>⟨0,h⟩⟩,⟨fun _ _ _ _ h=>h,fun _ _ _ h=>⟨0,h⟩⟩⟩
   obtain⟨n,hn⟩:=(zps z0n c _ _ sup).ex _ _ _ h
   refine vU.2 ⟨n+1,?_⟩
   show zvv C A (z7i C A n) f args H=some x
   unfold zvv;rw[h1,sA,h2,sA,h3,sA];exact hn
 cases h:tD C A f args H with
 | some x=>exact((key x).1 h).symm
 | none=>
  cases h2:zn7 C A (tD C A) f args H with
  | none=>rfl
  | some x=>rw[(key x).2 h2]at h;cases h
def iU(C:oA)(A:Tr qD):Prop:=∀f c,A.get f=some c->∃fn,C.fns.get f=some fn/\fn.body=some (wF c)
def zpl{f:Nat}{args:List zA}{g:xC}(h:cJ C f args false=some g):∃fn c,C.fns.get f=some fn/\fn.body=some c/\g.todo=[.code c]/\g.R=⟨f,fn.ntmps,[],.run,false,none⟩:=by
 unfold cJ at h;simp only[uA,wB]at h;obtain⟨fn,h1,c,h2,k,h3,_,h⟩:=h
 cases h;exact⟨fn,c,h1,h2,rfl,rfl⟩
def bX{α β:Type}{f g:α->Option β}:∀(l:List α) {r:List β},(∀a b,f a=some b->g a=some b)->uG f l=some r->uG g l=some r:=by
 intro l;induction l with
 | nil=>intro r _ h;exact h
 | cons a l ih=>
  intro r hfg h;rw[mL,uA]at h ⊢
  obtain⟨b,h1,h⟩:=h
  refine⟨b,hfg _ _ h1,?_⟩
  rw[uA]at h ⊢
  obtain⟨s,h2,h⟩:=h
  exact⟨s,ih hfg h2,h⟩
def zzbw(C:oA)(f:Nat)(acs:List xC):z8m:=fun ds o x=>∃fr',o=.next ⟨fr',acs,x.2⟩/\zj1 C f ds fr' x.2 x.1
def zod{H:xA}{tm:Tm}{r:Nat}{d e:Option (List sI)}(hr:H.t.get r=some (.deferred d)):∀(l:List ResultVar) vs,yR C H tm l=some vs->yR C (setBlk H r (.deferred e)) tm l=some vs:=by
 intro l vs h;refine bX l (fun rv v h=>?_) h
 cases rv with
 | tmp t=>exact h
 | cell a t=>
  have h:(ob (ob (tm.get a) zA.asPtr) fun p=>ob (C.tys.get t) fun ty=>ob (vE H p.1) fun c=>wN ty c.1 p.2)=some v:=h
  show(ob (ob (tm.get a) zA.asPtr) fun p=>ob (C.tys.get t) fun ty=>ob (vE (setBlk H r (.deferred e)) p.1) fun c=>wN ty c.1 p.2)=some v
  simp only[uA]at h ⊢
  obtain⟨p,hp,ty,ht,c,hc,hv⟩:=h
  refine⟨p,hp,ty,ht,c,?_,hv⟩
  unfold vE at hc ⊢
  rw[uA]at hc ⊢
  obtain⟨y,h1,h2⟩:=hc
  refine⟨y,?_,h2⟩
  show(H.t.set r (.deferred e)).get p.1=some y
  rw[Tr.get_set,yaa fun e=>by rw[e,hr]at h1;cases h1;cases h2]
  exact h1
def z5j{f N:Nat}{acs:List xC}:zvn C (zzbw C f acs) (fun _=>True) f N none acs:=by
 refine⟨?_,fun _ _=>trivial,?_⟩
 ·rintro ds todo tm H x ⟨fr',h1,h2⟩
  cases h1;have:=h2.1
  cases this
 ·rintro _ r ds o x ⟨fr',rfl,h1,h2,h3,h4,fn,l,h5,h6,h7⟩ hd
  obtain⟨todo,tm,ffn,n,defers,mode,deferred,round⟩:=fr'
  simp only at h1 h2 h3 h4 h6
  subst h1 h2 h3 h4
  have hr:x.2.t.get r=some (.deferred (some [])):=by
   unfold oQ at hd;rw[wB,uA]at hd;obtain⟨_,y,e1,e2⟩:=hd
   cases y<;>cases e2
   exact e1
  refine⟨_,.step ?_,⟨⟨todo,tm,⟨ffn,n,ds,.returning,false,round⟩⟩,rfl,rfl,rfl,rfl,rfl,fn,l,h5,zod hr _ _ h6,h7⟩⟩
  show xK C (zkf C ⟨none,r,[]⟩ ds ⟨todo,tm,⟨ffn,n,⟨none,r,[]⟩::ds,.returning,false,round⟩⟩ acs x.2) _
  unfold zkf;simp only[hd,sA];exact .refl _
def zsn{f:Nat}{fn:Func}{acs:List xC}{x:zA × xA}{ds:List sI}(hf:C.fns.get f=some fn){tm:Tm}{H:xA}(h:endK C fn tm H=some x){todo:List fD}{N:Nat}
  (hs:sM C todo tm (RR f N none ds) acs H=.next ⟨zdj ⟨todo,tm,RR f N none ds⟩ .returning,acs,H⟩):Fin C (zzbw C f acs) ds (.next ⟨⟨todo,tm,RR f N none ds⟩,acs,H⟩) x:=by
 unfold endK at h;rw[uA]at h;obtain⟨l,h1,h2⟩:=h
 cases h2;refine .step ?_
 rw[zJ rfl,hs];exact⟨_,.refl _,_,rfl,rfl,rfl,rfl,rfl,fn,l,hf,h1,rfl⟩
def RdG (l:Nat)(c:xC):zA × xA->Prop:=fun x=>∃b r2 c',x.1=.bool b/\jI x.2 l=some r2/\gG c (.bool b)=some c'
def RdEnd(l:Nat)(c:xC)(acs:List xC):z8m:=fun _ o x=>∃b r2 c',x.1=.bool b/\jI x.2 l=some r2/\gG c (.bool b)=some c'/\o=.next ⟨c',acs,setBlk x.2 l (.loop (zi8 b r2))⟩
def len_ne{α:Type}{a:α}{l:List α}:l≠a::l:=fun e=>by have:=congrArg List.length e;simp at this
def zve{C:oA}{φ:Ora}{all:Array Oper}{n:Nat}{κn:Tm->xA->uB}:∀(l:List Oper) (tm:Tm) (H1:xA) (x:zA × xA),sW l=true->rK C φ all n κn l tm H1=some x->∃tm',κn tm' H1=some x/\∀(k:List fD) (R:nI) (cs:List xC) (H:xA),R.n=n->kO C all k R cs l tm H=xGo k tm' R cs H:=by
 intro l;induction l with
 | nil=>intro tm H1 x _ h;exact⟨tm,h,fun _ _ _ _ _=>rfl⟩
 | cons o l ih=>
  intro tm H1 x hp h;have hp:(bif (match o.op with | .move _=>qH o.guard | .assign _=>qH o.guard | _=>false)then sW l else false)=true:=hp
  have hp1:(match o.op with | .move _=>qH o.guard | .assign _=>qH o.guard | _=>false)=true:=by
   cases hx:(match o.op with | .move _=>qH o.guard | .assign _=>qH o.guard | _=>false)with
   | true=>rfl
   | false=>rw[hx]at hp;cases hp
  rw[hp1]at hp;have hp:sW l=true:=hp
  have hmv:∃u,(∀H,(sF o.op).f C (.now tm) H=lv (dO u) C (.now tm) H)/\qH o.guard=true:=by
   cases ho:o.op<;>rw[ho]at hp1<;>first
    | (cases hp1;done)
    | exact⟨_,fun _=>rfl,hp1⟩
  obtain⟨u,hu,hg⟩:=hmv
  have hw:eE o.guard all tm=some true:=by
   cases hx:o.guard with
   | none=>rfl
   | some g=>rw[hx]at hg;cases hg
  rw[dT,hw,sA,yab rfl,hu]at h
  cases hv:ev u (.now tm)with
  | none=>
   have:lv (dO u) C (.now tm) H1=.fail:=by unfold lv dO;rw[hv]
   rw[this]at h;cases h
  | some v=>
   have hval:∀H,lv (dO u) C (.now tm) H=.val v H:=fun H=>by unfold lv dO;rw[hv]
   rw[hval]at h;simp only[iF,vL]at h;obtain⟨tm',h1,h2⟩:=ih _ _ _ hp h.2
   refine⟨tm',h1,fun k R cs H hR=>?_⟩
   rw[xZ,hw];simp only[];rw[hu,hval];simp only[aI.asVal];rw[hR];exact h2 k R cs H hR
def zku{φ:Ora}(hφ:iQ C φ){l:Nat}{args:List zA}{H:xA}{x:zA × xA}(h:zdm C A φ l args H=some x) :
  ∃r tm,jI H l=some r/\aQ r.n r.params args r.tm=some tm/\∀c acs c',gG c x.1=some c'->xK C (.next ⟨zoc r l tm,c::acs,H⟩) (.next ⟨c',acs,x.2⟩):=by
 obtain⟨r,tm,cc,q,y,r2,b,h1,h2,h3,h4,⟨q1,q2,q3,q4,q5,q6⟩,h5,h6,h7,rfl⟩:=zV.1 h
 refine⟨r,tm,h1,h2,fun c acs c' hc=>?_⟩
 have h5:rK C φ q.ops r.n (rD C φ r.fn r.n q.c rdK) q.ops.toList tm.cut (setBlk H l (.loop (zp5 r)))=some y:=h5
 obtain⟨tm',h8,h9⟩:=zve _ _ _ _ q5 h5
 unfold zoc;rw[q1,q2];refine .step ?_
 rw[zJ rfl];show xK C (kO C q.ops _ _ _ q.ops.toList tm.cut H) _
 rw[h9 _ _ _ _ rfl];refine .step ?_
 show xK C (sM C (.beginRound::[.code (wF q.c)]) tm' ⟨r.fn,r.n,[],.run,false,some l⟩ (c::acs) H) _
 have hb:sM C (.beginRound::[.code (wF q.c)]) tm' ⟨r.fn,r.n,[],.run,false,some l⟩ (c::acs) H=.next ⟨⟨[.code (wF q.c)],tm',RR r.fn r.n (some l) []⟩,c::acs,setBlk H l (.loop (zp5 r))⟩:=by
  show zj4 C [.code (wF q.c)] tm' _ (c::acs) H=_
  unfold zj4;simp only[sA];rw[h1,sA,q4];rfl
 rw[hb];have hc:gG c (.bool b)=some c':=hc
 have hE:zvn C (RdEnd l c acs) (RdG l c) r.fn r.n (some l) (c::acs):=by
  refine⟨?_,fun e=>(by cases e),fun e=>(by cases e)⟩
  rintro ds todo tm H x ⟨b,r2,c',_,_,_,e⟩
  injection e with e
  injection e with _ e _
  exact len_ne e.symm
 have hK:zs5 C (RdEnd l c acs) (RdG l c) r.fn r.n (some l) (c::acs) rdK []:=by
  refine⟨?_,fun _ _ _ _ _ _ h=>(by cases h),?_⟩
  ·rintro ds x tm H ⟨b,r2,c',g1,g2,g3⟩ h
   cases h
   cases g1
   refine .step ?_
   rw[zJ rfl];have:sM C [] tm (RR r.fn r.n (some l) ds) (c::acs) H=.next ⟨c',acs,setBlk H l (.loop (zi8 true r2))⟩:=by
    have e0:sM C [] tm (RR r.fn r.n (some l) ds) (c::acs) H=vN none C ⟨[],tm,RR r.fn r.n (some l) ds⟩ (c::acs) H:=rfl
    rw[e0];unfold vN;simp only[g2,sA];show wJ (ob (gG c (.bool true)) _) 7=_
    rw[g3];rfl
   rw[this];exact⟨_,.refl _,true,r2,c',rfl,g2,g3,rfl⟩
  ·rintro ds x tm H ⟨b,r2,c',g1,g2,g3⟩ h k'
   cases h
   cases g1
   refine .step ?_
   rw[zJ rfl];have:sM C (.code .ret::k') tm (RR r.fn r.n (some l) ds) (c::acs) H=.next ⟨c',acs,setBlk H l (.loop (zi8 false r2))⟩:=by
    have e0:sM C (.code .ret::k') tm (RR r.fn r.n (some l) ds) (c::acs) H=vN (some .ret) C ⟨.code .ret::k',tm,RR r.fn r.n (some l) ds⟩ (c::acs) H:=rfl
    rw[e0];unfold vN;simp only[g2,sA];show wJ (ob (gG c (.bool false)) _) 7=_
    rw[g3];rfl
   rw[this];exact⟨_,.refl _,false,r2,c',rfl,g2,g3,rfl⟩
 obtain⟨o',k1,b',r2',c'',k2,k3,k4,rfl⟩:=zml hφ hE q.c rdK [] (Or.inr q6) hK [] y tm' _ ⟨b,r2,c',h7,h6,hc⟩ h8
 rw[h7]at k2;cases k2
 rw[h6]at k3;cases k3
 rw[hc]at k4;cases k4
 exact k1
def zn6(hA:iU C A){φ:Ora}(hφ:iQ C φ):iQ C (zn7 C A φ):=by
 refine⟨fun f args H x h=>?_,fun l args H x h=>zku hφ h⟩
 have h:zvv C A φ f args H=some x:=h
 unfold zvv at h;rw[uA]at h;obtain⟨c,h1,h⟩:=h
 rw[uA]at h;obtain⟨fn,h2,h⟩:=h
 rw[uA]at h;obtain⟨g,h3,h⟩:=h
 refine⟨g,h3,fun acs=>?_⟩
 obtain⟨fn',c',e1,e2,e3,e4⟩:=zpl h3
 rw[h2]at e1;cases e1
 obtain⟨fn',e5,e6⟩:=hA f c h1
 rw[h2]at e5;cases e5
 rw[e2]at e6;cases e6
 obtain⟨gt,gtm,gR⟩:=g
 simp only at e3 e4 h
 subst e3 e4
 have hK:zs5 C (zzbw C f acs) (fun _=>True) f fn.ntmps none acs (z2o C fn) []:=⟨fun ds x tm H _ h=>zsn h2 h rfl,fun ds x i tm H _ h=>(by cases h),fun ds x tm H _ h k'=>zsn h2 h rfl⟩
 obtain⟨o',k1,fr',rfl,k2⟩:=zml hφ z5j c (z2o C fn) [] (Or.inl rfl) hK [] x gtm H trivial h
 exact⟨fr',k1,k2⟩
def zgy(hA:iU C A):∀n,iQ C (z7i C A n):=by
 intro n;induction n with
 | zero=>exact⟨fun f args H x h=>(by cases h),fun l args H x h=>(by cases h)⟩
 | succ n ih=>exact zn6 hA ih
def z0o(hA:iU C A):iQ C (tD C A):=by
 refine⟨fun f args H x h=>?_,fun f args H x h=>?_⟩
 ·obtain⟨n,hn⟩:=vU.1 h
  exact(zgy hA n).fn _ _ _ _ hn
 ·obtain⟨n,hn⟩:=vU.1 h
  exact(zgy hA n).rd _ _ _ _ hn
def zmt{P:Program}{B N:Nat}{I:World->Prop}{μ:Mu}{w:World}(hS:Sim P C B N I)(hI:I w)(hA:iU C A){f:Nat}{args:List zA}{args':Array Value}{H H':xA}{v:zA}(hH:aA B N μ H w)(hl:zB μ args args'.toList)
  (h:tD C A (.func f) args H=some (v,H')):Calls P f args' w fun e w'=>∃v' μ',e=.returned v'/\μ.lw μ'/\vA μ' v v'/\aA B N μ' H' w'/\Below N w w':=by
 intro base;obtain⟨g,he,hr⟩:=(z0o hA).fn _ _ _ _ h
 obtain⟨fr',r1,h1,h2,h3,h4,fn,l,h5,h6,rfl⟩:=hr []
 have h0:sD P C B N μ base (lone (Frame.enter P f args' .normal) base w) w (.next ⟨g,[],H⟩):=z3f hS.fns hH hl he
 obtain⟨μ',b,cs,w',s1,s2,s3,s4,s5,s6⟩:=sD.reach hS hI r1 h0
 cases s6
 have hb:=s5.body
 rw[yaa (by rw[h1];simp[zfw.running])]at hb
 obtain⟨v',q1,q2⟩:=zgh hS.tys s4 hb h6
 have hm:=s5.rest.mode
 rw[h1]at hm;have hbm:b.mode=.returning:=by
  cases hb:b.mode with
  | returning=>rfl
  | _=>rw[hb]at hm;exact hm.elim
 have hd:=s5.rest.defers
 rw[h2]at hd;have hbd:b.defers=[]:=by
  generalize hx:b.defers=bd at hd
  cases hd;rfl
 have hk:=s5.rest.kind
 rw[h3]at hk;have hfn:b.fn=f:=by rw[s5.rest.fn,h4]
 exact⟨.returned v',w',b,⟨v',μ',rfl,s2,q2,s4,s3⟩,s1,hfn,hbm,hbd,hk,fn,by rw[hfn];exact(hS.fns _ _ h5).1,q1⟩
end
end
section
def mA(C:oA)(t:Nat)(H:xA)(v:zA):Option zA:=ob v.asPtr fun p=>ob (C.tys.get t) fun ty=>ob (vE H p.1) fun c=>wN ty c.1 p.2
def dN(C:oA)(s d:Nat)(H:xA)(a:zA):Option zA:=ob (C.tys.get s) fun s=>ob (C.tys.get d) fun d=>nN C s d a H
def zH(C:oA)(t:Nat)(H:xA)(a:zA)(l h:Option zA):Option zA:=ob (C.tys.get t) fun ty=>aK C H ty a l h
def dQ(C:oA)(s f:Nat):Option Nat:=ob (C.tys.get s) fun ty=>ob ty.desc.asStruct fun fs=>ob (gC fs f) fun fd=>cA (!Nat.beq fd.2.2 0) (some fd.1)
def tB(C:oA)(s f:Nat)(v:zA):Option zA:=ob (dQ C s f) fun k=>ob v.asPtr fun p=>some (.ptr p.1 (p.2+k))
def qB(C:oA)(t:Nat)(v i:zA):Option zA:=
 ob (C.tys.get t) fun ty=>ob i.asNat fun i=>
  match v.asSlice with
  | some s=>ob ty.desc.asSlice fun el=>ob (C.tys.get el) fun et=>cA (Nat.blt i s.2.2.1) (some (.ptr s.1 (s.2.1+i*et.size)))
  | none=>ob v.asPtr fun p=>ob ty.desc.asArr fun a=>ob (C.tys.get a.2) fun et=>cA (Nat.blt i a.1) (some (.ptr p.1 (p.2+i*et.size)))
def zql(C:oA)(t i:Nat):Option Nat:=ob (C.tys.get t) fun ty=>ob ty.desc.asArr fun a=>ob (C.tys.get a.2) fun et=>cA (Nat.blt i a.1) (some (i*et.size))
def sJ(C:oA)(t:Nat)(v i:zA):Option zA:=
 ob (C.tys.get t) fun ty=>ob i.asNat fun i=>
  match v.asStr with
  | some s=>cA ty.desc.isString (ob (gC s i) fun b=>some (.int .u8 (.ofNat b)))
  | none=>ob v.asAgg fun l=>ob ty.desc.asArr fun a=>ob (C.tys.get a.2) fun et=>cA (Nat.blt i a.1) (oL C a.2 l (i*et.size))
def mB(i:Nat)(v:zA):Option zA:=ob v.asTup fun l=>gC l i
def zvq (C:oA)(t:Nat)(H:xA)(v:zA):Option zA:=ob (C.tys.get t) fun ty=>ob (zvt H ty v) fun n=>some (.int .i64 (.ofNat n))
def oB(v:zA):Option zA:=
 match v.asSlice with
 | some s=>some (.int .i64 (.ofNat s.2.2.1))
 | none=>cA (Nat.beq v.tag 5) (some (.int .i64 (.ofNat 0)))
def cC (v:zA):Option zA:=cA (Nat.beq v.tag 4||Nat.beq v.tag 9) (some v)
def zns(C:oA)(u:Nat)(ok:Bool)(v:zA):Option zA:=
 ob (C.tys.get u) fun ty=>cA (Nat.blt ty.desc.tag 9) (
  match v.asIface with
  | some p=>bif Nat.beq p.1 u then some (bif ok then .tup [p.2,.bool true]else p.2)else cA ok (some (.tup [gN ty,.bool false]))
  | none=>cA (Nat.beq v.tag 12&&ok) (some (.tup [gN ty,.bool false])))
def oH(C:oA)(t:Nat)(H:xA)(m k:zA)(ok:Bool):Option zA:=
 ob (C.tys.get t) fun ty=>ob ty.desc.asMap fun ke=>ob (C.tys.get ke.1) fun kty=>cA (wO C kty) (ob (C.tys.get ke.2) fun ety=>
  ob (xN H m) fun es=>cA (vM C kty k) (ob (pH k es) fun r=>
   match r with
   | some v=>some (bif ok then .tup [v,.bool true]else v)
   | none=>some (bif ok then .tup [gN ety,.bool false]else gN ety)))
def yH(C:oA)(t:Nat)(H:xA):Option (zA × xA):=ob (C.tys.get t) fun ty=>some (.ptr H.next 0,mE H ty.zero none)
def ztb (v:zA)(H:xA):Option (zA × xA):=some (.ptr H.next 0,mE H v.cells none)
def zh0(C:oA)(t:Nat)(H:xA):Option (zA × xA):=ob (C.tys.get t) fun ty=>some (.ptr H.next 0,mE H ty.zero (rJ C t))
def z8u(C:oA)(t:Nat)(v:zA)(H:xA):Option (zA × xA):=some (.ptr H.next 0,mE H v.cells (rJ C t))
def cH(C:oA)(t len:Nat)(ps:List (Nat × zA))(H:xA):Option (zA × xA):=
 ob (C.tys.get t) fun ty=>ob ty.desc.asSlice fun el=>ob (C.tys.get el) fun et=>
  cA (Nat.blt (len*et.size) 1000000&&Nat.beq (yB et.zero) et.size) (ob (tM (fun i=>some (i*et.size,et.size)) ps (gJ et.zero len)) fun l=>some (.slice H.next 0 len len,mE H l none))
def rC(C:oA)(t:Nat)(a v:zA)(H:xA):Option (zA × xA):=ob (C.tys.get t) fun ty=>ob a.asPtr fun p=>cA (Nat.beq (yB v.cells) ty.size) (ob (eI C H p.1 p.2 v.cells) fun H'=>some (nD,H'))
def lT(H:xA):Option (zA × xA):=some (.map H.next,newBlk H (.map []))
def rI(C:oA)(t:Nat)(m k v:zA)(H:xA):Option (zA × xA):=
 ob (C.tys.get t) fun ty=>ob ty.desc.asMap fun ke=>ob (C.tys.get ke.1) fun kty=>cA (wO C kty)
  (ob m.asMap fun b=>cA (!Nat.blt b C.base) (ob (bG H b) fun l=>cA (vM C kty k) (ob (nG k v l) fun l'=>some (nD,setBlk H b (.map l')))))
def fN(C:oA)(t:Nat)(l c:zA)(H:xA):Option (zA × xA):=
 ob (C.tys.get t) fun ty=>ob ty.desc.asSlice fun el=>ob (C.tys.get el) fun et=>ob l.asNat fun l=>ob c.asNat fun c=>
  cA (Nat.ble l c&&Nat.blt c 1000000&&Nat.blt (c*et.bytes) 1000000000&&Nat.beq (yB et.zero) et.size) (some (.slice H.next 0 l c,mE H (gJ et.zero c) none))
def zhy(C:oA)(s d:Nat)(v:zA)(H:xA):Option (zA × xA):=
 ob (C.tys.get s) fun _=>ob (C.tys.get d) fun ty=>ob ty.desc.asSlice fun el=>ob (C.tys.get el) fun et=>ob et.desc.asInt fun k=>cA (kEq k .u8) (ob v.asStr fun l=>
  some (.slice H.next 0 (yB l) (yB l),mE H (oP l) (some (.ty el))))
def pF(C:oA)(t u:Nat)(a b:zA)(H:xA):Option (zA × xA):=ob (C.tys.get t) fun ty=>ob (C.tys.get u) fun uty=>cA (!Nat.beq uty.desc.tag 1) (kP C H ty a b)
def vNext(v:zA)(H:xA):Option (zA × xA):=ob v.asPtr fun p=>cA (Nat.beq p.2 0) (ob (ob (H.t.get p.1) rA.asIter) fun x=>
 match gC x.1 x.2 with
 | some c=>cA (Nat.blt c 128) (some (.tup [.bool true,.int .i64 (.ofNat x.2),.int .i32 (.ofNat c)],setBlk H p.1 (.siter x.1 (x.2+1))))
 | none=>some (.tup [.bool false],H))
structure iL where
 b:Nat->Bool
 i:Nat->Int
 s:Nat->List Nat
 v:Nat->zA
inductive T where
 | ret (v:zA)
 | fail
 | ite (b:Bool) (x y:T)
 | opt (x:Option zA) (K:zA->T)
 | light (x:Tr rA->Option zA) (K:zA->T)
 | heavy (x:xA->Option (zA × xA)) (K:zA->T)
 | call (f:Nat) (args:List zA) (K:zA->T)
 | callv (f:zA) (args:List zA) (K:zA->T)
 | asI (k:IntKind) (v:zA) (K:Int->T)
 | asB (v:zA) (K:Bool->T)
 | asS (v:zA) (K:List Nat->T)
 | asG (zs:List zA) (v:zA) (K:iL->T)
 | jump (i:Nat) (vals:List zA)
 | range (np:Nat->Bool) (f:zA) (i m:Nat) (vals:List zA) (K R:T)
def yo:Nat:=1099511627776
def zd3(z:zA)(X:iL)(j:Nat):zA:=
 match z with
 | .bool _=>.bool (X.b j)
 | .int k _=>.int k (X.i j)
 | .str _=>.str (X.s j)
 | _=>X.v j
def pI(zs:List zA)(X:iL):Nat->List zA:=
 List.rec (motive:=fun _=>Nat->List zA) (fun _=>[]) (fun z _ g j=>zd3 z X j::g (j+1)) zs
def jR(l:List zA)(j:Nat):Bool:=match l[j]? with | some (.bool b)=>b | _=>false
def zz6(l:List zA)(j:Nat):Int:=match l[j]? with | some (.int _ n)=>n | _=>0
def zxk(l:List zA)(j:Nat):List Nat:=match l[j]? with | some (.str s)=>s | _=>[]
def zhx(l:List zA)(j:Nat):zA:=match l[j]? with | some v=>v | _=>.nilptr
def cellsOf(l:List zA):iL:=⟨jR l,zz6 l,zxk l,zhx l⟩
def zpb (z a:zA):Bool:=
 match z with
 | .bool _=>Nat.beq a.tag 0
 | .int k _=>match a.asIntK with | some p=>kEq p.1 k | none=>false
 | .str _=>Nat.beq a.tag 2
 | .nilptr=>Nat.beq a.tag 3||Nat.beq a.tag 4
 | .nilslice=>Nat.beq a.tag 5||Nat.beq a.tag 6
 | .nilmap=>Nat.beq a.tag 7||Nat.beq a.tag 8
 | .nilfunc=>Nat.beq a.tag 10||Nat.beq a.tag 9
 | .niliface=>Nat.beq a.tag 12||Nat.beq a.tag 11
 | _=>false
def fK:List zA->List zA->Bool
 | [],[]=>true
 | z::zs,a::l=>zpb z a&&fK zs l
 | _,_=>false
structure bF where
 tm:Tm
 ad:List (Nat × Nat × Nat)
 lo:Tr (List zA)
 lit:List Nat
abbrev KT:=bF->T
structure KtT where
 norm:KT
 exit:Nat->KT
 ret:KT
def aB {α:Type}(x:Option α)(K:α->T):T:=Option.rec (motive:=fun _=>T) .fail K x
def gdT (b:Bool)(K:T):T:=Bool.rec (motive:=fun _=>T) .fail K b
def xI(i:Nat)(l:List (Nat × Nat × Nat)):Option (Nat × Nat):=
 List.rec (motive:=fun _=>Option (Nat × Nat)) none (fun a _ g=>Bool.rec (motive:=fun _=>Option (Nat × Nat)) g (some a.2) (Nat.beq i a.1)) l
inductive mK where
 | now (ad:List (Nat × Nat × Nat))
 | mixed (ad old:List (Nat × Nat × Nat)) (olds names:List Nat)
def tAd (e:mK)(t:Nat):Option (Nat × Nat):=
 match e with
 | .now ad=>xI t ad
 | .mixed ad old olds names=>bif aE t names then xI t (bif aE t olds then old else ad)else none
def xAd (e:mK)(x:Operand):Option (Nat × Nat):=
 match x with
 | .tmp t=>tAd e t
 | _=>none
def H0A:xA:=⟨0,.leaf⟩
def jG (C:oA)(t:Nat):Nat:=
 match C.tys.get t with
 | some ty=>ty.desc.tag
 | none=>10
def zjd(x:Operand):Bool:=
 match x with
 | .const _=>true
 | _=>false
def z1l(x:Operand):Bool:=
 match x with
 | .const (.int _ n) => !jA n 0
 | _=>false
def binDir(C:oA)(op:BinOp)(t:Nat)(y:Operand):Bool:=
 match op with
 | .add=>Nat.beq (jG C t) 1
 | .sub=>true
 | .mul=>true
 | .quo=>z1l y
 | .rem=>z1l y
 | .shl=>zjd y
 | .shr=>zjd y
 | .eql=>Nat.ble (jG C t) 2
 | .neq=>Nat.ble (jG C t) 2
 | .lss=>Nat.ble (jG C t) 2
 | .leq=>Nat.ble (jG C t) 2
 | .gtr=>Nat.ble (jG C t) 2
 | .geq=>Nat.ble (jG C t) 2
 | _=>false
structure KOp where
 K:zA->T
 Kd:zA->T
 KA:Nat->Nat->T
def zqv (C:oA)(op:Op)(e:iC)(k:KOp):T:=aB ((gE op).f C e H0A) k.Kd
def z27(C:oA)(op:Op)(x:Operand)(e:iC)(ae:mK)(k:KOp):T:=
 match xAd ae x with
 | some p=>k.KA p.1 p.2
 | none=>zqv C op e k
def tLoad(C:oA)(t:Nat)(a:Operand)(e:iC)(ae:mK)(lo:Tr (List zA))(k:KOp):T:=
 match xAd ae a with
 | some p=>aB (lo.get p.1) fun l=>aB (C.tys.get t) fun ty=>gdT (Nat.ble (p.2+ty.size) (yB l)) (aB (oL C t l p.2) k.Kd)
 | none=>aB (ev a e) fun v=>.light (fun m=>mA C t ⟨0,m⟩ v) k.K
def zf8(C:oA)(s:Nat)(x:Operand)(f:Nat)(e:iC)(ae:mK)(k:KOp):T:=
 match xAd ae x with
 | some p=>aB (dQ C s f) fun o=>k.KA p.1 (p.2+o)
 | none=>aB (ev x e) fun v=>.opt (tB C s f v) k.K
def zf7(C:oA)(t:Nat)(x i:Operand)(e:iC)(ae:mK)(k:KOp):T:=
 match xAd ae x with
 | some p=>aB (ev i e) fun i=>aB i.asNat fun i=>aB (zql C t i) fun o=>k.KA p.1 (p.2+o)
 | none=>aB (ev x e) fun v=>aB (ev i e) fun i=>.opt (qB C t v i) k.K
def tNil (x:Operand)(e:iC)(ae:mK)(k:KOp):T:=
 match xAd ae x with
 | some p=>k.KA p.1 p.2
 | none=>aB (ev x e) fun v=>.opt (cC v) k.K
def tLen (C:oA)(c:Call)(e:iC)(k:KOp):T:=
 aB (gC c.argTypes.toList 0) fun t=>aB (gC c.args.toList 0) fun x=>aB (ev x e) fun v=>
  bif Nat.beq (jG C t) 4 then .opt (oB v) k.K else bif Nat.beq (jG C t) 6 then .light (fun m=>zvq C t ⟨0,m⟩ v) k.K else aB (zvq C t H0A v) k.Kd
def tBin (C:oA)(op:BinOp)(t:Nat)(x y:Operand)(u:Nat)(e:iC)(k:KOp):T:=
 bif binDir C op t y then zqv C (.binOp op t x y u) e k else aB (ev x e) fun a=>aB (ev y e) fun b=>.opt ((binA op).f C t x y a b) k.K
def z85(C:oA)(s d:Nat)(x:Operand)(e:iC)(k:KOp):T:=
 bif Nat.beq (jG C d) 2 then(bif Nat.beq (jG C s) 2 then zqv C (.convert s d x) e k else aB (ev x e) fun v=>.light (fun m=>dN C s d ⟨0,m⟩ v) k.K)else bif Nat.beq (jG C d) 1 then zqv C (.convert s d x) e k else .fail
def z6y(C:oA)(t:Nat)(x:Operand)(lo hi:Option Operand)(e:iC)(k:KOp):T:=
 aB (ev x e) fun a=>aB (evo lo e) fun l=>aB (evo hi e) fun h=>
  bif Nat.beq (jG C t) 2 then .opt (zH C t H0A a l h) k.K else .light (fun m=>zH C t ⟨0,m⟩ a l h) k.K
def cV(C:oA)(c:Call)(e:iC)(k:KOp):Builtin->T
 | .len=>tLen C c e k
 | .max=>zqv C (.call c) e k
 | .min=>zqv C (.call c) e k
 | _=>.fail
def zhl(ty:tC)(v:zA):List zA:=bif ty.desc.isAgg then v.cells else [v]
def z5r(cells:List zA)(off size:Nat)(vc:List zA):Option (List zA):=
 cA (Nat.beq (yB vc) size&&Nat.ble (off+yB vc) (yB cells)) (some (xD (zfr cells off) (xD vc (xM cells (off+yB vc)))))
def zyd(C:oA)(tyAt:Nat->Option Nat):List (Nat × zA)->Option (List (Nat × zA × List zA) × List zA):=
 List.rec (motive:=fun _=>Option (List (Nat × zA × List zA) × List zA)) (some ([],[]))
  (fun p _ g=>ob (tyAt p.1) fun t=>ob (C.tys.get t) fun ty=>ob g fun r=>some (bif ty.desc.isAgg then((p.1,p.2,p.2.cells)::r.1,r.2)else((p.1,p.2,[p.2])::r.1,p.2::r.2)))
def z5s(place:Nat->Option (Nat × Nat)):List (Nat × zA × List zA)->List zA->Option (List zA):=
 List.rec (motive:=fun _=>List zA->Option (List zA)) (fun cells=>some cells) (fun p _ g cells=>ob (place p.1) fun q=>ob (z5r cells q.1 q.2 p.2.2) fun cells=>g cells)
def tyAtS(ty:tC)(i:Nat):Option Nat:=
 match ty.desc.asStruct with
 | some fs=>ob (gC fs i) fun x=>some x.2.1
 | none=>ob ty.desc.asArr fun a=>some a.2
def zgt(C:oA)(ty:tC)(i:Nat):Option (Nat × Nat):=
 match ty.desc.asStruct with
 | some fs=>ob (gC fs i) fun x=>some (x.1,x.2.2)
 | none=>ob ty.desc.asArr fun a=>ob (C.tys.get a.2) fun et=>some (i*et.size,et.size)
def zmz(C:oA)(ty:tC):Bool:=
 match ty.desc.asStruct with
 | some _=>true
 | none=>match ty.desc.asArr with
  | some a=>(match C.tys.get a.2 with | some _=>true | none=>false)
  | none=>false
def z60(C:oA)(t:Nat)(ps:Array (Nat × Operand))(e:iC)(k:KOp):T:=
 aB (C.tys.get t) fun ty=>gdT (zmz C ty) <| aB (evp ps.toList e) fun vs=>aB (zyd C (tyAtS ty) vs) fun q=>aB (z5s (zgt C ty) q.1 ty.zero) fun l=>.ite (kB zA.one q.2) (k.Kd (.agg l)) .fail
def tL (C:oA)(op:Op)(e:iC)(ae:mK)(lo:Tr (List zA))(k:KOp):T:=
 match op with
 | .move x=>z27 C (.move x) x e ae k
 | .assign x=>z27 C (.assign x) x e ae k
 | .load t a=>tLoad C t a e ae lo k
 | .fieldAddr s x f=>zf8 C s x f e ae k
 | .indexAddr t x i=>zf7 C t x i e ae k
 | .nilCheck x=>tNil x e ae k
 | .binOp op t x y u=>tBin C op t x y u e k
 | .convert s d x=>z85 C s d x e k
 | .slice t x lo hi none=>z6y C t x lo hi e k
 | .index t x i=>bif zjd i&&Nat.beq (jG C t) 5 then zqv C (.index t x i) e k else aB (ev x e) fun v=>aB (ev i e) fun i=>.opt (sJ C t v i) k.K
 | .extract t i=>aB (ev t e) fun v=>.opt (mB i v) k.K
 | .typeAssert x _ u ok=>aB (ev x e) fun v=>.opt (zns C u ok v) k.K
 | .lookup t x i ok=>aB (ev x e) fun m=>aB (ev i e) fun key=>.light (fun h=>oH C t ⟨0,h⟩ m key ok) k.K
 | .call c=>match c.callee with
  | .builtin b=>cV C c e k b
  | _=>.fail
 | .pick c a b=>zqv C (.pick c a b) e k
 | .unOp o t x=>(match o with
  | .xor=>aB (ev x e) fun v=>.opt (znw v) k.K
  | o=>zqv C (.unOp o t x) e k)
 | .makeInterface t x=>zqv C (.makeInterface t x) e k
 | .makeFunc fn a b=>zqv C (.makeFunc fn a b) e k
 | .field t x f=>zqv C (.field t x f) e k
 | .build t ps=>z60 C t ps e k
 | _=>.fail
def laOf (la:List Nat)(dst:Option Nat):Option Nat:=
 match dst with
 | some d=>bif aE d la then some d else none
 | none=>none
structure KLo where
 new:Nat->List zA->T
 set:Nat->List zA->T
def z6z(f:Operand)(args:Array Operand)(e:iC)(k:KOp):T:=
 match f with
 | .func g=>gdT (Nat.blt g yo) (aB (evs args.toList e) fun aq=>.call g aq k.K)
 | f=>aB (ev f e) fun fv=>aB (evs args.toList e) fun aq=>.callv fv aq k.K
def two' (c:Call)(e:iC)(K:zA->zA->T):T:=aB (two c e) fun p=>K p.1 p.2
def zkj(C:oA)(c:Call)(e:iC)(k:KOp):Builtin->T
 | .append=>aB (gC c.argTypes.toList 0) fun t=>aB (gC c.argTypes.toList 1) fun u=>two' c e fun a b=>.heavy (pF C t u a b) k.K
 | b=>cV C c e k b
def z6x(C:oA)(t:Nat)(a x:Operand)(e:iC)(ae:mK)(lo:Tr (List zA))(k:KOp)(kl:KLo):T:=
 match xAd ae a with
 | some p=>aB (ev x e) fun v=>aB (C.tys.get t) fun ty=>aB (lo.get p.1) fun l=>aB (z5r l p.2 ty.size (zhl ty v)) fun l'=>.ite (kB zA.one (zhl ty v)) (kl.set p.1 l') .fail
 | none=>aB (ev a e) fun a=>aB (ev x e) fun v=>.heavy (rC C t a v) k.Kd
def tH (C:oA)(la:List Nat)(dst:Option Nat)(op:Op)(e:iC)(ae:mK)(lo:Tr (List zA))(k:KOp)(kl:KLo):T:=
 match op with
 | .box t x=>bif qH (rJ C t)then aB (ev x e) fun v=>(match laOf la dst with
  | some d=>aB (C.tys.get t) fun ty=>bif ty.desc.isAgg then kl.new d v.cells else .ite (zA.one v) (kl.new d [v]) .fail
  | none=>.heavy (ztb v) k.K)else aB (ev x e) fun v=>.heavy (z8u C t v) k.K
 | .alloc t=>bif qH (rJ C t)then(match laOf la dst with
  | some d=>aB (C.tys.get t) fun ty=>kl.new d ty.zero
  | none=>.heavy (yH C t) k.K)else .heavy (zh0 C t) k.K
 | .store t a x=>z6x C t a x e ae lo k kl
 | .buildSlice t len ps=>aB (evp ps.toList e) fun ps=>.heavy (cH C t len ps) k.K
 | .makeMap _ none=>.heavy lT k.K
 | .insert t m key x=>aB (ev m e) fun m=>aB (ev key e) fun key=>aB (ev x e) fun v=>.heavy (rI C t m key v) k.Kd
 | .mapUpdate t m key x=>aB (ev m e) fun m=>aB (ev key e) fun key=>aB (ev x e) fun v=>.heavy (rI C t m key v) k.Kd
 | .makeSlice t l c=>aB (ev l e) fun l=>aB (ev c e) fun c=>.heavy (fN C t l c) k.K
 | .convert s d x=>bif Nat.beq (jG C d) 4 then aB (ev x e) fun v=>.heavy (zhy C s d v) k.K else z85 C s d x e k
 | .call c=>match c.callee with
  | .value f=>z6z f c.args e k
  | .builtin b=>zkj C c e k b
  | _=>.fail
 | op=>tL C op e ae lo k
def rmNat(i:Nat)(l:List Nat):List Nat:=List.rec (motive:=fun _=>List Nat) [] (fun j _ g=>bif Nat.beq i j then g else j::g) l
def zqt (n:Nat)(dst:Option Nat)(v:zA)(lt:Bool)(st:bF)(κ:KT):T:=
 match dst with
 | none=>κ st
 | some d=>bif Nat.blt d n then gdT (qH (xI d st.ad)) (κ ⟨st.tm.set d v,st.ad,st.lo,bif lt then d::rmNat d st.lit else rmNat d st.lit⟩)else κ st
def z82(n:Nat)(dst:Option Nat)(d off:Nat)(st:bF)(κ:KT):T:=
 aB dst fun i=>gdT (Nat.blt i n) (gdT (qH (st.tm.get i)) (κ ⟨st.tm,(i,d,off)::st.ad,st.lo,st.lit⟩))
def z7j(d:Nat)(ad:List (Nat × Nat × Nat)):Bool:=kB (fun a=>bif Nat.beq a.2.1 d then Nat.beq a.1 d else true) ad
def tNew (n:Nat)(d:Nat)(l:List zA)(st:bF)(κ:KT):T:=
 gdT (Nat.blt d n) (gdT (qH (st.tm.get d)) (gdT (z7j d st.ad) (κ ⟨st.tm,(d,d,0)::st.ad,st.lo.set d l,st.lit⟩)))
def fitB (C:oA)(t:Nat)(v:zA):Bool:=
 match C.tys.get t with
 | some ty=>(match ty.desc with
  | .bool=>Nat.beq v.tag 0
  | .int k=>(match v.asIntK with | some p=>kEq p.1 k | none=>false)
  | .string=>Nat.beq v.tag 2
  | _=>true)
 | none=>true
def zwv(C:oA)(t:Nat)(v:zA)(K:zA->T):T:=
 match C.tys.get t with
 | some ty=>(match ty.desc with
  | .bool=>.asB v fun b=>K (.bool b)
  | .int k=>.asI k v fun n=>K (.int k n)
  | .string=>.asS v fun s=>K (.str s)
  | .struct _=>bif Nat.ble (yB ty.zero) 40 then .asG ty.zero v fun X=>K (.agg (pI ty.zero X 0))else K v
  | .arr _ _=>bif Nat.ble (yB ty.zero) 40 then .asG ty.zero v fun X=>K (.agg (pI ty.zero X 0))else K v
  | _=>K v)
 | none=>K v
def z7m (x:Operand)(lit:List Nat):Bool:=
 match x with
 | .tmp t=>lit.contains t
 | .const _=>true
 | _=>false
def z4s(op:Op)(e:iC)(lit:List Nat):Bool:=
 match op with
 | .move x=>z7m x lit
 | .assign x=>z7m x lit
 | .unOp _ _ x=>z7m x lit
 | .pick c a b=>bif z7m c lit then(match ob (ev c e) zA.asBool with
  | some w=>bif w then z7m a lit else z7m b lit
  | none=>false)else false
 | _=>false
def zjc(all:List Oper)(dst:Option Nat)(l:List Oper):Bool:=
 match dst with
 | none=>false
 | some d => !kB (fun o=>match o.guard with
  | some g=>(match ob (gC all g.1) fun p=>p.dst with | some i => !Nat.beq i d | none=>true)
  | none=>true) l
def zf6(g lt:Bool)(v:zA)(K:zA->Bool->T):T:=
 bif g then(bif lt then K v true else aB v.asBool fun b=>.ite b (K (.bool true) true) (K (.bool false) true))else K v lt
def kop (C:oA)(all:Array Oper)(n:Nat)(o:Oper)(e:iC)(st:bF)(κ:KT):KOp:=
 ⟨fun v=>zwv C o.type v fun v=>zf6 (zjc all.toList o.dst all.toList) (z4s o.op e st.lit) v fun v lt=>zqt n o.dst v lt st κ,
  fun v=>gdT (fitB C o.type v) (zf6 (zjc all.toList o.dst all.toList) (z4s o.op e st.lit) v fun v lt=>zqt n o.dst v lt st κ),
  fun d off=>gdT (!Nat.ble (jG C o.type) 2) (z82 n o.dst d off st κ)⟩
def klo (C:oA)(n:Nat)(o:Oper)(st:bF)(κ:KT):KLo:=
 ⟨fun d l=>gdT (!Nat.ble (jG C o.type) 2) (tNew n d l st κ),
  fun d l=>gdT (fitB C o.type nD) (zqt n o.dst nD false ⟨st.tm,st.ad,st.lo.set d l,st.lit⟩ κ)⟩
def iC.adCut(k:Nat)(l:List (Nat × Nat × Nat)):List (Nat × Nat × Nat):=l.filter fun a=>Nat.blt a.1 k
def bF.cut(st:bF):bF:=⟨st.tm.cut,iC.adCut st.tm.k st.ad,st.lo,st.lit⟩
def tops (C:oA)(la:List Nat)(all:Array Oper)(n:Nat)(κ:KT)(l:List Oper):KT:=
 List.rec (motive:=fun _=>KT) κ
  (fun o _ g st=>aB (eE o.guard all st.tm) fun w=>Bool.rec (motive:=fun _=>T) (zqt n o.dst nD false st g)
   (tH C la o.dst o.op (.now st.tm) (.now st.ad) st.lo (kop C all n o (.now st.tm) st g) (klo C n o st g)) w) l
def zo0 (st old:bF)(olds:List Nat)(op:Op):iC:=.mixed st.tm old.tm olds (zG op)
def z4o (st old:bF)(olds:List Nat)(op:Op):mK:=.mixed st.ad old.ad olds (zG op)
def eM(C:oA)(all:Array Oper)(n:Nat)(old:bF)(olds:List (Nat × List Nat))(κ:KT)(l:List Nat):KT:=
 List.rec (motive:=fun _=>KT) κ
  (fun i _ g st=>aB (gC all.toList i) fun o=>aB (eE o.guard all st.tm) fun w=>Bool.rec (motive:=fun _=>T) (zqt n o.dst nD false st g)
   (tL C o.op (zo0 st old (aD i olds) o.op) (z4o st old (aD i olds) o.op) st.lo (kop C all n o (zo0 st old (aD i olds) o.op) st g)) w) l
def cP(C:oA)(all:Array Oper)(old:bF)(olds:List (Nat × List Nat))(st:bF)(k:T)(l:List Nat):T:=
 List.rec (motive:=fun _=>T) k
  (fun i _ g=>aB (gC all.toList i) fun o=>aB o.dst fun d=>aB (eE o.guard all st.tm) fun w=>Bool.rec (motive:=fun _=>T) g
   (aB (st.tm.get d) fun u=>gdT (fitB C o.type u) (tL C o.op (zo0 st old (aD i olds) o.op) (z4o st old (aD i olds) o.op) st.lo ⟨fun v=>.ite (same 10 v u) g .fail,fun v=>.ite (same 10 v u) g .fail,fun _ _=>.fail⟩)) w) l
def dP(C:oA)(es:List Eff)(H:xA):Option (zA × xA):=ob (qQ C es H) fun H'=>some (nD,H')
def tEff (op:Op)(e:iC)(ae:mK):Option Eff:=
 match op with
 | .store t a x=>(match xAd ae a with
  | some _=>none
  | none=>qP (.store t a x) e)
 | op=>qP op e
def z29(all:Array Oper)(old:bF)(olds:List (Nat × List Nat))(st:bF)(l:List Nat):Option (List Eff):=
 uG (fun i=>ob (gC all.toList i) fun o=>ob (eE o.guard all st.tm) fun w=>cA w (tEff o.op (zo0 st old (aD i olds) o.op) (z4o st old (aD i olds) o.op))) l
def uS(C:oA)(all:Array Oper)(n:Nat)(old:bF)(olds:List (Nat × List Nat))(κ:KT)(l:List pE):KT:=
 List.rec (motive:=fun _=>KT) κ
  (fun s _ g st=>Bool.rec (motive:=fun _=>T) (aB (gC all.toList (hvI all s.heavy)) fun o=>aB (nO C all s.heavy o st.tm) fun w=>
   (fun cont:KT=>Bool.rec (motive:=fun _=>T) (zqt n o.dst nD false st cont)
    (tH C [] o.dst o.op (zo0 st old (aD (hvI all s.heavy) olds) o.op) (z4o st old (aD (hvI all s.heavy) olds) o.op) st.lo (kop C all n o (zo0 st old (aD (hvI all s.heavy) olds) o.op) st cont) (klo C n o st cont)) w)
   (fun st'=>cP C all old olds st' (eM C all n old olds g s.lights st') s.again))
   (gdT (wQ C all) (aB (z29 all old olds st s.again) fun es=>.heavy (dP C es) fun _=>eM C all n old olds g s.lights st)) (vO all s)) l
def zwl(C:oA)(la:List Nat)(fn n:Nat)(κ:KT)(id:Nat)(all:Array Oper)(draw:Bool):KT:=
 Bool.rec (motive:=fun _=>KT) (fun st=>tops C la all n κ all.toList st.cut)
  (fun st=>aB (ob (C.plans.get fn) fun t=>t.get id) fun p=>gdT (yO all p) (eM C all n st.cut p.olds (uS C all n st.cut p.olds κ p.stages) p.first st.cut)) draw
def zf0(st:bF)(ll:List (Nat × Nat)):Option (List zA):=
 List.rec (motive:=fun _=>Option (List zA)) (some []) (fun p _ g=>ob (xI p.1 st.ad) fun a=>cA (Nat.beq a.1 p.1&&Nat.beq a.2 0) (ob (st.lo.get p.1) fun l=>cA (Nat.beq (yB l) p.2) (ob g fun r=>some (xD l r)))) ll
def zfz(p:PI)(st:bF):Option (List zA):=ob (uG (fun i=>st.tm.get i) p.pl) fun a=>ob (zf0 st p.ll) fun b=>some (xD a b)
def z2q (ll:List (Nat × Nat)):List zA->Tr (List zA):=
 List.rec (motive:=fun _=>List zA->Tr (List zA)) (fun _=>.leaf) (fun p _ g vals=>(g (xM vals p.2)).set p.1 (zfr vals p.2)) ll
def zng (pl:List Nat):List zA->Tr zA:=
 List.rec (motive:=fun _=>List zA->Tr zA) (fun _=>.leaf) (fun i _ g vals=>List.rec (motive:=fun _=>Tr zA) .leaf (fun v vals _=>(g vals).set i v) vals) pl
def stAd (ll:List (Nat × Nat)):List (Nat × Nat × Nat):=List.rec (motive:=fun _=>List (Nat × Nat × Nat)) [] (fun p _ g=>(p.1,p.1,0)::g) ll
def zvr (k:Nat)(p:PI)(vals:List zA):bF:=⟨⟨k,zng p.pl vals,[]⟩,stAd p.ll,z2q p.ll (xM vals (yB p.pl)),[]⟩
def npC (C:oA)(g:Nat):Bool:=qH (C.prims.get g)
def z69(pl:List Nat)(st:bF):Option (List zA):=uG (fun i=>st.tm.get i) pl
def zx3(k n:Nat)(pl ps:List Nat)(ops:List Oper)(c:qD):Bool:=
 kB (fun p=>Nat.blt p k&&Nat.blt p n && !aE p pl) ps&&Nat.ble (yB ps) 1&&sW ops&&(match aM c with | []=>true | _=>false)
def rdT:KtT:=⟨fun _=>.ret (.bool true),fun _ _=>.fail,fun _=>.ret (.bool false)⟩
def zx2(C:oA)(n:Nat)(κ:KtT)(i:Nat)(pl:List Nat)(f:Operand)(ps:List Nat)(ops:List Oper)(c:qD)(st:bF):T:=
 gdT (zx3 st.tm.k n pl ps ops c) (aB (z69 pl st) fun vals=>aB (ev f (.now st.tm)) fun fv=>.range (npC C) fv i (yB ps) vals (κ.norm st) (κ.ret st))
def znz (C:oA)(la:List Nat)(fn n:Nat)(c:qD):KtT->KT:=
 qD.rec (motive:=fun _=>KtT->KT)
  (fun κ st=>κ.norm st)
  (fun id all draw κ=>zwl C la fn n κ.norm id all draw)
  (fun _ _ ga gb κ=>ga ⟨gb κ,κ.exit,κ.ret⟩)
  (fun c _ _ gx gy κ st=>aB (ob (ev c (.now st.tm)) zA.asBool) fun b=>bif z7m c st.lit then Bool.rec (motive:=fun _=>T) (gy κ st) (gx κ st) b else .ite b (gx κ st) (gy κ st))
  (fun id _ g κ=>g ⟨κ.norm,fun i st=>Bool.rec (motive:=fun _=>T) (κ.exit i st) (κ.norm st) (Nat.beq id i),κ.ret⟩)
  (fun p _ _ _ st=>aB (zfz p st) fun vals=>.jump p.id vals)
  (fun id κ st=>κ.exit id st)
  (fun κ st=>κ.ret st)
  (fun p _ _ _ st=>aB (zfz p st) fun vals=>.jump p.id vals)
  (fun i pl f ps _ ops c _ κ st=>zx2 C n κ i pl f ps.toList ops.toList c st) c
structure PtT where
 p:PI
 tree:List zA->T
def zue(p:PI):KT:=fun st=>aB (zfz p st) fun vals=>.jump p.id vals
def pS(C:oA)(la:List Nat)(fn n k:Nat)(c:qD):KtT->List PtT:=
 qD.rec (motive:=fun _=>KtT->List PtT)
  (fun _=>[])
  (fun _ _ _ _=>[])
  (fun _ b ga gb κ=>xD (ga ⟨znz C la fn n b κ,κ.exit,κ.ret⟩) (gb κ))
  (fun _ _ _ gx gy κ=>xD (gx κ) (gy κ))
  (fun id _ g κ=>g ⟨κ.norm,fun i st=>Bool.rec (motive:=fun _=>T) (κ.exit i st) (κ.norm st) (Nat.beq id i),κ.ret⟩)
  (fun p c g κ=>⟨p,fun vals=>znz C la fn n c ⟨zue p,κ.exit,κ.ret⟩ (zvr k p vals)⟩::g ⟨zue p,κ.exit,κ.ret⟩)
  (fun _ _=>[])
  (fun _=>[])
  (fun p c g κ=>⟨p,fun vals=>znz C la fn n c κ (zvr k p vals)⟩::g κ)
  (fun i pl _ ps id ops c g _=>⟨⟨i,xD pl ps.toList,[]⟩,fun vals=>znz C la fn n (.seq (.region id ops false) c) rdT (zvr k ⟨i,xD pl ps.toList,[]⟩ vals)⟩::g rdT) c
def resT (C:oA)(st:bF)(l:List ResultVar):(List zA->T)->T:=
 List.rec (motive:=fun _=>(List zA->T)->T) (fun K=>K [])
  (fun r _ g K=>match r with
   | .tmp t=>aB (st.tm.get t) fun v=>g fun l=>K (v::l)
   | .cell a t=>match xI a st.ad with
    | some p=>aB (st.lo.get p.1) fun l=>aB (C.tys.get t) fun ty=>gdT (Nat.ble (p.2+ty.size) (yB l)) (aB (oL C t l p.2) fun v=>g fun l=>K (v::l))
    | none=>aB (st.tm.get a) fun a=>.light (fun m=>mA C t ⟨0,m⟩ a) fun v=>g fun l=>K (v::l)) l
def endT (C:oA)(fn:Func):KT:=fun st=>resT C st fn.results.toList fun l=>.ret (jT l)
def topT (C:oA)(fn:Func):KtT:=⟨endT C fn,fun _ _=>.fail,endT C fn⟩
structure vB where
 code:qD
 la:List Nat
def entT (C:oA)(fn:Func)(k:Nat)(f:Nat)(A:vB)(args:List zA):T:=znz C A.la f fn.ntmps A.code (topT C fn) ⟨⟨k,Tr.ofList args,[]⟩,[],.leaf,[]⟩
def ptsT (C:oA)(fn:Func)(k:Nat)(f:Nat)(A:vB):List PtT:=pS C A.la f fn.ntmps k A.code (topT C fn)
def zty(l:List PtT)(i:Nat)(vals:List zA):List T:=List.rec (motive:=fun _=>List T) [] (fun p _ g=>bif Nat.beq p.p.id i then p.tree vals::g else g) l
end
section
def dD {α:Type}(x:Option α)(P:α->Prop):Prop:=
 match x with
 | some a=>P a
 | none=>False
def hO{α:Type}{x:Option α}{P:α->Prop}:dD x P ↔ ∃a,x=some a/\P a:=by
 cases x with
 | none=>simp[dD]
 | some a=>simp[dD]
@[simp] theorem wA {α:Type} {a:α} {P:α->Prop}:dD (some a) P=P a:=rfl
@[simp] theorem optP_none {α:Type} {P:α->Prop}:dD (none:Option α) P=False:=rfl
abbrev cB:=zA->Tr rA->Prop
abbrev vH:=Nat->List zA->Tr rA->cB->Prop
def z79{α:Type}:List α->Bool | []=>true | _::_=>false
def kN(f:zA)(args:List zA):Option (Nat × List zA):=ob f.asFunc fun p=>match p.1 with
 | .func g=>cA (Nat.blt g yo) (some (g,xD (xD p.2.1 args) p.2.2))
 | .yld l=>cA (z79 p.2.1&&z79 p.2.2) (some (yo+l,args))
def zag(np:Nat->Bool)(f:zA)(l:Nat):Option (Nat × List zA):=ob f.asFunc fun p=>match p.1 with
 | .func g=>cA (Nat.blt g yo&&np g) (some (g,xD p.2.1 (.func (.yld l) [] []::p.2.2)))
 | .yld _=>none
def zzan (k:IntKind)(v:zA):Option Int:=ob v.asIntK fun p=>cA (kEq p.1 k) (some p.2)
def zK (zs:List zA)(v:zA):Option iL:=ob v.asAgg fun l=>cA (fK zs l) (some (cellsOf l))
def qA (base:Nat)(W:vH)(J:vH):T->Tr rA->cB->Prop
 | .ret v,t,Q=>Q v t
 | .fail,_,_=>False
 | .ite b x y,t,Q=>if b=true then qA base W J x t Q else qA base W J y t Q
 | .opt x K,t,Q=>dD x fun v=>qA base W J (K v) t Q
 | .light x K,t,Q=>dD (x t) fun v=>qA base W J (K v) t Q
 | .heavy x K,t,Q=>∀b,t.get b=none->base<=b->dD (x ⟨b,t⟩) fun p=>qA base W J (K p.1) p.2.t Q
 | .call f args K,t,Q=>W f args t fun v t'=>qA base W J (K v) t' Q
 | .callv f args K,t,Q=>dD (kN f args) fun p=>W p.1 p.2 t fun v t'=>qA base W J (K v) t' Q
 | .asI k v K,t,Q=>dD (zzan k v) fun n=>qA base W J (K n) t Q
 | .asB v K,t,Q=>dD v.asBool fun n=>qA base W J (K n) t Q
 | .asS v K,t,Q=>dD v.asStr fun n=>qA base W J (K n) t Q
 | .asG zs v K,t,Q=>dD (zK zs v) fun X=>qA base W J (K X) t Q
 | .jump i vals,t,Q=>J i vals t Q
 | .range np f i m vals K R,t,Q=>256<=base/\∀l r,t.get l=none->base<=l->r.state=.ready->r.pending=none →
   (∀args t1 Q1,args.length=m->t1.get l=some (.loop r)->J i (vals++args) (t1.del l) (fun v t2=>t2.get l=none->∃b,v=.bool b/\Q1 v (t2.set l (.loop (zi8 b r))))->W (yo+l) args t1 Q1) →
   dD (zag np f l) fun p=>W p.1 p.2 (t.set l (.loop r)) fun _ t'=>(t'.get l=some (.loop r)/\qA base W J K (t'.del l) Q)\/(t'.get l=some (.loop (zi8 false r))/\qA base W J R (t'.del l) Q)
abbrev Xt:=Nat->Option rA
def XLe (X Y:Xt):Prop:=∀b y,X b=some y->Y b=some y
def XLe.refl(X:Xt):XLe X X:=fun _ _ h=>h
def XLe.trans{X Y Z:Xt}(h:XLe X Y)(k:XLe Y Z):XLe X Z:=fun b y e=>k b y (h b y e)
structure Ov (base:Nat) (t:Tr rA) (X:Xt) (H:xA):Prop where
 base:base<=H.next
 same:∀b,X b=none->H.t.get b=t.get b
 ext:∀b y,X b=some y->H.t.get b=some y/\t.get b=none/\b<H.next
 lt:∀b y,t.get b=some y->b<H.next
def HLe (H H':xA):Prop:=∀b y,H.t.get b=some y->H'.t.get b=some y
def iN(e e':iC):Prop:=∀i v,z2m i e=some v->z2m i e'=some v
section
variable {base:Nat}{t:Tr rA}{X:Xt}{H HA:xA}{e e':iC}{C:oA}{v:zA}
def Ov.notX(h:Ov base t X HA){b:Nat}{y:rA}(hb:t.get b=some y):X b=none:=by
 cases hx:X b with
 | none=>rfl
 | some z=>have:=(h.ext b z hx).2.1;rw[hb]at this;cases this
def Ov.up(h:Ov base t X HA){b:Nat}{y:rA}(hb:t.get b=some y):HA.t.get b=some y:=by rw[h.same b (h.notX hb)];exact hb
def Ov.le(h:Ov base t X HA){n:Nat}:HLe ⟨n,t⟩ HA:=fun _ _ hb=>h.up hb
def Ov.nextX(h:Ov base t X HA):X HA.next=none:=by
 cases hx:X HA.next with
 | none=>rfl
 | some z=>exact absurd (h.ext _ z hx).2.2 (Nat.lt_irrefl _)
def Ov.nextT(h:Ov base t X HA):t.get HA.next=none:=by
 cases hx:t.get HA.next with
 | none=>rfl
 | some z=>exact absurd (h.lt _ z hx) (Nat.lt_irrefl _)
def qM(h:HLe H HA){b:Nat}{p:Tr zA × Nat × Option Lo}(hb:vE H b=some p):vE HA b=some p:=by
 unfold vE at hb ⊢;rw[uA]at hb ⊢;obtain⟨y,h1,h2⟩:=hb;exact⟨y,h _ _ h1,h2⟩
def mU(h:HLe H HA){b:Nat}{p:List (zA × zA)}(hb:bG H b=some p):bG HA b=some p:=by
 unfold bG at hb ⊢;rw[uA]at hb ⊢;obtain⟨y,h1,h2⟩:=hb;exact⟨y,h _ _ h1,h2⟩
def dC(h:iN e e'){x:Operand}(hx:ev x e=some v):ev x e'=some v:=by
 cases x with
 | tmp i=>exact h i v hx
 | const c=>exact hx
 | global g=>exact hx
 | func f=>exact hx
def zjn(h:iN e e'){l:List Operand}{vs:List zA}(hx:evs l e=some vs):evs l e'=some vs:=bX l (fun _ _ k=>dC h k) hx
def zsj(h:iN e e'){x:Option Operand}{r:Option zA}(hx:evo x e=some r):evo x e'=some r:=by
 cases x with
 | none=>exact hx
 | some x=>
  have hx:ob (ev x e) (fun v=>some (some v))=some r:=hx
  show ob (ev x e') (fun v=>some (some v))=some r
  rw[uA]at hx ⊢
  obtain⟨a,h1,h2⟩:=hx
  exact⟨a,dC h h1,h2⟩
def zjo(h:iN e e'){l:List (Nat × Operand)}{vs:List (Nat × zA)}(hx:evp l e=some vs):evp l e'=some vs:=
 bX l (fun a b k=>by rw[uA]at k ⊢;obtain⟨u,h1,h2⟩:=k;exact⟨u,dC h h1,h2⟩) hx
def zh5(h:iN e e'){c:Call}{p:zA × zA}(hx:two c e=some p):two c e'=some p:=by
 unfold two at hx ⊢
 split at hx
 ·rw[uA]at hx ⊢
  obtain⟨a,h1,hx⟩:=hx
  refine⟨a,dC h h1,?_⟩
  rw[uA]at hx ⊢
  obtain⟨b,h2,hx⟩:=hx
  exact⟨b,dC h h2,hx⟩
 ·cases hx
def zf3(h:HLe H HA){ty:Nat}{a:zA}(hx:mA C ty H a=some v):mA C ty HA a=some v:=by
 unfold mA at hx ⊢
 simp only[uA]at hx ⊢
 obtain⟨p,h1,y,h2,c,h3,h4⟩:=hx
 exact⟨p,h1,y,h2,c,qM h h3,h4⟩
def zbq(h:HLe H HA){s d:tC}{a:zA}(hx:nN C s d a H=some v):nN C s d a HA=some v:=by
 unfold nN at hx ⊢
 split at hx
 ·rename_i k hk;exact hx
 ·rename_i hk
  rw[wB]at hx ⊢
  refine⟨hx.1,?_⟩
  have hx:=hx.2
  rw[zC]at hx ⊢
  split at hx
  ·rename_i e;rw[yab e];exact hx
  ·rename_i e
   rw[yaa e];simp only[uA,wB]at hx ⊢
   obtain⟨a1,h1,b1,h2,k1,h3,h4,h5⟩:=hx
   refine⟨a1,h1,b1,h2,k1,h3,h4,?_⟩
   unfold mV at h5 ⊢
   split at h5
   ·simp only[uA]at h5 ⊢
    obtain⟨c,g1,g2⟩:=h5
    exact⟨c,qM h g1,g2⟩
   ·exact h5
def zta(h:HLe H HA){s d:Nat}{a:zA}(hx:dN C s d H a=some v):dN C s d HA a=some v:=by
 unfold dN at hx ⊢
 simp only[uA]at hx ⊢
 obtain⟨a1,h1,b1,h2,h3⟩:=hx
 exact⟨a1,h1,b1,h2,zbq h h3⟩
def zfm(h:HLe H HA){b size cap l:Nat}{arr:Bool}(hx:vI H b size cap l arr=true):vI HA b size cap l arr=true:=by
 unfold vI at hx ⊢
 cases hc:vE H b with
 | none=>rw[hc]at hx;cases hx
 | some c=>rw[hc]at hx;rw[qM h hc];exact hx
def aY(h:HLe H HA){ty:tC}{a:zA}{l r:Option zA}(hx:aK C H ty a l r=some v):aK C HA ty a l r=some v:=by
 have row:∀ {arr e b off len cap},eL C H arr e b off len cap l r=some v->eL C HA arr e b off len cap l r=some v:=by
  intro arr e b off len cap hx;unfold eL at hx ⊢
  simp only[uA]at hx ⊢
  obtain⟨a1,h1,b1,h2,hx⟩:=hx
  refine⟨a1,h1,b1,h2,?_⟩
  cases hb:vE H b with
  | none=>
   have e1:qJ H b a1.size cap b1.1 arr=false:=by unfold qJ;rw[hb]
   have e2:vI H b a1.size cap b1.1 arr=false:=by unfold vI;rw[hb]
   rw[e1,e2,yay,yay]at hx
   cases hx
  | some c=>
   have e1:qJ HA b a1.size cap b1.1 arr=qJ H b a1.size cap b1.1 arr:=by unfold qJ;rw[hb,qM h hb]
   have e2:vI HA b a1.size cap b1.1 arr=vI H b a1.size cap b1.1 arr:=by unfold vI;rw[hb,qM h hb]
   rw[e1,e2];exact hx
 unfold aK at hx ⊢
 split at hx
 ·exact hx
 ·split at hx
  ·rw[uA]at hx ⊢;obtain⟨a1,h1,h2⟩:=hx;exact⟨a1,h1,row h2⟩
  ·split at hx
   ·rw[uA]at hx ⊢;obtain⟨a1,h1,h2⟩:=hx;exact⟨a1,h1,row h2⟩
   ·exact hx
def znq(h:HLe H HA){ty:Nat}{a:zA}{l r:Option zA}(hx:zH C ty H a l r=some v):zH C ty HA a l r=some v:=by
 unfold zH at hx ⊢
 rw[uA]at hx ⊢
 obtain⟨a1,h1,h2⟩:=hx
 exact⟨a1,h1,aY h h2⟩
def zbe(h:HLe H HA){m:zA}{l:List (zA × zA)}(hx:xN H m=some l):xN HA m=some l:=by
 unfold xN at hx ⊢
 split at hx
 ·exact mU h hx
 ·exact hx
def zj9(h:HLe H HA){ty:Nat}{m k:zA}{ok:Bool}(hx:oH C ty H m k ok=some v):oH C ty HA m k ok=some v:=by
 unfold oH at hx ⊢
 simp only[uA,wB]at hx ⊢
 obtain⟨a1,h1,b1,h2,c1,h3,h4,d1,h5,es,h6,h7⟩:=hx
 exact⟨a1,h1,b1,h2,c1,h3,h4,d1,h5,es,zbe h h6,h7⟩
def zd7(h:HLe H HA){ty:tC}{a:zA}{n:Nat}(hx:zvt H ty a=some n):zvt HA ty a=some n:=by
 unfold zvt at hx ⊢
 split at hx
 ·exact hx
 ·split at hx
  ·exact hx
  ·split at hx
   ·exact hx
   ·split at hx
    ·rw[wB,uA]at hx ⊢
     obtain⟨h1,l,h2,h3⟩:=hx
     exact⟨h1,l,mU h h2,h3⟩
    ·exact hx
def zv7(h:HLe H HA){ty:Nat}{a:zA}(hx:zvq C ty H a=some v):zvq C ty HA a=some v:=by
 unfold zvq at hx ⊢
 simp only[uA]at hx ⊢
 obtain⟨a1,h1,n,h2,h3⟩:=hx
 exact⟨a1,h1,n,zd7 h h2,h3⟩
def zzk{ty:Nat}{a:Operand}:bO ty a C e H=ob (ev a e) fun v=>mA C ty H v:=rfl
def zzn{s d:Nat}{x:Operand}{u:zA}(hx:ev x e=some u):uL s d x C e H=dN C s d H u:=by unfold uL dN;rw[hx];rfl
def z40{ty:Nat}{x:Operand}{lo hi:Option Operand}{a:zA}{l r:Option zA}(h1:ev x e=some a)(h2:evo lo e=some l)(h3:evo hi e=some r):tR ty x lo hi C e H=zH C ty H a l r:=by unfold tR zH;rw[h1,sA,h2,sA,h3,sA]
def zb4{s f:Nat}{x:Operand}{u:zA}(hx:ev x e=some u):yP s x f C e H=tB C s f u:=by
 unfold yP tB dQ;rw[hx]
 cases C.tys.get s with
 | none=>rfl
 | some ty=>
  simp only[sA]
  cases ty.desc.asStruct with
  | none=>rfl
  | some fs=>
   simp only[sA]
   cases gC fs f with
   | none=>rfl
   | some fd=>simp only[sA];cases hb:(!Nat.beq fd.2.2 0)<;>rfl
def zb3{ty:Nat}{x i:Operand}{u w:zA}(hx:ev x e=some u)(hi:ev i e=some w):aO ty x i C e H=qB C ty u w:=by unfold aO qB;rw[hx,hi];rfl
def z43{ty:Nat}{x i:Operand}{u w:zA}(hx:ev x e=some u)(hi:ev i e=some w):zP ty x i C e H=sJ C ty u w:=by unfold zP sJ;rw[hx,hi];rfl
def z7o{x:Operand}{u:zA}(hx:ev x e=some u):z41 x C e H=cC u:=by unfold z41 cC;rw[hx];rfl
def zub{x:Operand}{i:Nat}{u:zA}(hx:ev x e=some u):xP x i C e H=mB i u:=by unfold xP mB;rw[hx];rfl
def lBin_v{op:BinOp}{ty:Nat}{x y:Operand}{u w:zA}(hx:ev x e=some u)(hy:ev y e=some w):zzp op ty x y C e H=(binA op).f C ty x y u w:=by unfold zzp;rw[hx,hy];rfl
def zzq{x:Operand}{a:Nat}{ok:Bool}{u:zA}(hx:ev x e=some u):wP x a ok C e H=zns C a ok u:=by
 unfold wP zns;rw[hx];rfl
def zzj{ty:Nat}{x i:Operand}{ok:Bool}{m k:zA}(hx:ev x e=some m)(hi:ev i e=some k):cO ty x i ok C e H=oH C ty H m k ok:=by unfold cO oH;rw[hx,hi];rfl
def lLen_v{c:Call}{ty:Nat}{x:Operand}{u:zA}(h1:gC c.argTypes.toList 0=some ty)(h2:gC c.args.toList 0=some x)(hx:ev x e=some u):zo3 c C e H=zvq C ty H u:=by unfold zo3 zvq;rw[h1,sA,h2,sA,hx];rfl
def z5w(he:iN e e'){op:Op}(hp:bN op=true\/(∃s d x,op=.convert s d x/\(jG C d=1\/jG C s=2))\/(∃c,op=.call c/\(c.callee=.builtin .max\/c.callee=.builtin .min))){H':xA}(h:(gE op).f C e H=some v):(gE op).f C e' H'=some v:=by
 rcases hp with hp | hp | hp
 ·cases op<;>simp only[bN]at hp<;>try (cases hp;done)
  case move x=>exact dC he h
  case assign x=>exact dC he h
  case pick c a b=>
   have h:ob (ev c e) (fun c=>ob c.asBool fun c=>bif c then ev a e else ev b e)=some v:=h
   show ob (ev c e') (fun c=>ob c.asBool fun c=>bif c then ev a e' else ev b e')=some v
   simp only[uA]at h ⊢
   obtain⟨u,h1,w,h2,h3⟩:=h
   refine⟨u,dC he h1,w,h2,?_⟩
   cases w with
   | true=>exact dC he h3
   | false=>exact dC he h3
  case nilCheck x=>
   have h:ob (ev x e) (fun u=>cA (Nat.beq u.tag 4||Nat.beq u.tag 9) (some u))=some v:=h
   show ob (ev x e') (fun u=>cA (Nat.beq u.tag 4||Nat.beq u.tag 9) (some u))=some v
   rw[uA]at h ⊢
   obtain⟨u,h1,h2⟩:=h
   exact⟨u,dC he h1,h2⟩
  case binOp op t x y u=>
   have h:zzp op t x y C e H=some v:=h
   show zzp op t x y C e' H'=some v
   unfold zzp at h ⊢
   simp only[uA]at h ⊢
   obtain⟨a,h1,b,h2,h3⟩:=h
   exact⟨a,dC he h1,b,dC he h2,h3⟩
  case unOp op t x=>
   have h:lUn op x C e H=some v:=h
   show lUn op x C e' H'=some v
   unfold lUn at h ⊢
   rw[uA]at h ⊢
   obtain⟨a,h1,h2⟩:=h
   exact⟨a,dC he h1,h2⟩
  case makeInterface t x=>
   have h:mS t x C e H=some v:=h
   show mS t x C e' H'=some v
   unfold mS at h ⊢
   simp only[uA,wB]at h ⊢
   obtain⟨a,h1,h2,b,h3,h4⟩:=h
   exact⟨a,h1,h2,b,dC he h3,h4⟩
  case makeFunc fn a b=>
   have h:(lS fn a b).f C e H=some v:=h
   show(lS fn a b).f C e' H'=some v
   unfold lS at h ⊢
   split at h
   ·show zzm _ a b C e' H'=some v
    unfold zzm at h ⊢
    simp only[uA]at h ⊢
    obtain⟨x,h1,y,h2,h3⟩:=h
    exact⟨x,zjn he h1,y,zjn he h2,h3⟩
   ·cases h
  case fieldAddr s x f=>
   have h:yP s x f C e H=some v:=h
   show yP s x f C e' H'=some v
   unfold yP at h ⊢
   simp only[uA,wB]at h ⊢
   obtain⟨a,h1,b,h2,c,h3,h4,u,h5,h6⟩:=h
   exact⟨a,h1,b,h2,c,h3,h4,u,dC he h5,h6⟩
  case field t x f=>
   have h:kS t x f C e H=some v:=h
   show kS t x f C e' H'=some v
   unfold kS at h ⊢
   simp only[uA]at h ⊢
   obtain⟨a,h1,b,h2,c,h3,u,h5,h6⟩:=h
   exact⟨a,h1,b,h2,c,h3,u,dC he h5,h6⟩
  case indexAddr t x i=>
   have h:aO t x i C e H=some v:=h
   show aO t x i C e' H'=some v
   unfold aO at h ⊢
   simp only[uA]at h ⊢
   obtain⟨a,h1,b,h2,c,h3,h4⟩:=h
   exact⟨a,h1,b,dC he h2,c,dC he h3,h4⟩
  case index t x i=>
   have h:zP t x i C e H=some v:=h
   show zP t x i C e' H'=some v
   unfold zP at h ⊢
   simp only[uA]at h ⊢
   obtain⟨a,h1,b,h2,c,h3,h4⟩:=h
   exact⟨a,h1,b,dC he h2,c,dC he h3,h4⟩
  case extract t i=>
   have h:xP t i C e H=some v:=h
   show xP t i C e' H'=some v
   unfold xP at h ⊢
   rw[uA]at h ⊢
   obtain⟨a,h1,h2⟩:=h
   exact⟨a,dC he h1,h2⟩
  case build t ps=>
   have h:uQ t ps C e H=some v:=h
   show uQ t ps C e' H'=some v
   unfold uQ at h ⊢
   rw[uA]at h ⊢
   obtain⟨a,h1,h⟩:=h
   refine⟨a,h1,?_⟩
   rw[uA]at h ⊢
   obtain⟨b,h2,h⟩:=h
   exact⟨b,zjo he h2,h⟩
  case typeAssert x t u ok=>
   have h:wP x u ok C e H=some v:=h
   show wP x u ok C e' H'=some v
   unfold wP at h ⊢
   rw[uA]at h ⊢
   obtain⟨a,h1,h⟩:=h
   refine⟨a,h1,?_⟩
   rw[wB]at h ⊢
   refine⟨h.1,?_⟩
   have h:=h.2
   rw[uA]at h ⊢
   obtain⟨b,h2,h⟩:=h
   exact⟨b,dC he h2,h⟩
 ·obtain⟨s,d,x,rfl,hp⟩:=hp
  have h:uL s d x C e H=some v:=h
  show uL s d x C e' H'=some v
  unfold uL at h ⊢
  simp only[uA]at h ⊢
  obtain⟨u,h1,sy,h2,dy,h3,h4⟩:=h
  refine⟨u,dC he h1,sy,h2,dy,h3,?_⟩
  unfold nN at h4 ⊢
  split at h4
  ·exact h4
  ·rename_i hd
   rw[wB]at h4 ⊢
   refine⟨h4.1,?_⟩
   have h4:=h4.2
   rw[zC]at h4 ⊢
   split at h4
   ·rename_i e;rw[yab e];exact h4
   ·rename_i e
    exfalso
    rcases hp with hp | hp
    ·unfold jG at hp
     rw[h3]at hp;have hp:dy.desc.tag=1:=hp
     cases hx:dy.desc<;>rw[hx]at hp hd<;>first
      | (cases hp;done)
      | (cases hd;done)
    ·unfold jG at hp
     rw[h2]at hp;have hp:sy.desc.tag=2:=hp
     simp only[uA]at h4;obtain⟨el,h5,_⟩:=h4
     cases hx:sy.desc<;>rw[hx]at hp h5<;>first
      | (cases hp;done)
      | (cases h5;done)
 ·obtain⟨c,rfl,hc⟩:=hp
  rcases hc with hc | hc
  ·have h:(uN c c.callee).f C e H=some v:=h
   show(uN c c.callee).f C e' H'=some v
   rw[hc]at h ⊢
   have h:zzi c C e H=some v:=h
   show zzi c C e' H'=some v
   unfold zzi at h ⊢
   rw[uA]at h ⊢
   obtain⟨p,h1,h2⟩:=h
   exact⟨p,zh5 he h1,h2⟩
  ·have h:(uN c c.callee).f C e H=some v:=h
   show(uN c c.callee).f C e' H'=some v
   rw[hc]at h ⊢
   have h:zzg c C e H=some v:=h
   show zzg c C e' H'=some v
   unfold zzg at h ⊢
   rw[uA]at h ⊢
   obtain⟨p,h1,h2⟩:=h
   exact⟨p,zh5 he h1,h2⟩
end
end
end Go.Am
