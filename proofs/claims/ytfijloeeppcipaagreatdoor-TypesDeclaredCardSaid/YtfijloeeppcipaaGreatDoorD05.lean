/- Code as a function: limits. -/
import Derived.Test.YtfijloeeppcipaaGreatDoorD04
set_option linter.all false
noncomputable section
namespace Go.Am
open Go Go.RowKit
section
def zyz{α:Type}{f:Nat->Option α}{r:α}(h:lim f=some r):∃n,f n=some r:=by
 unfold lim at h;by_cases hx:∃n r,f n=some r
 ·rw[dif_pos hx]at h;exact⟨_,h⟩
 ·rw[dif_neg hx]at h;cases h
structure zna {α β γ:Type} (ks:Nat->α->β->Option γ) (k:α->β->Option γ):Prop where
 up:∀n,Le2 (ks n) (ks (n+1))
 ex:∀a b x,k a b=some x->∃n,ks n a b=some x
def zv6{α β γ:Type}{ks:Nat->α->β->Option γ}(h:∀n,Le2 (ks n) (ks (n+1))){n m:Nat}(hnm:n<=m):Le2 (ks n) (ks m):=by
 induction hnm with
 | refl=>exact fun _ _ _ h=>h
 | step _ ih=>exact fun a b x hx=>h _ _ _ _ (ih a b x hx)
structure z57 (φs:Nat->Ora) (φ:Ora):Prop where
 up:∀n,OLe (φs n) (φs (n+1))
 ex:∀f a H x,φ f a H=some x->∃n,φs n f a H=some x
def z57.le{φs:Nat->Ora}{φ:Ora}(h:z57 φs φ){n m:Nat}(hnm:n<=m):OLe (φs n) (φs m):=by
 induction hnm with
 | refl=>exact fun _ _ _ _ h=>h
 | step _ ih=>exact fun f a H x hx=>h.up _ _ _ _ _ (ih f a H x hx)
structure zza5 (κs:Nat->Kt) (κ:Kt):Prop where
 norm:zna (fun n=>(κs n).norm) κ.norm
 exit:∀i,zna (fun n=>(κs n).exit i) (κ.exit i)
 ret:zna (fun n=>(κs n).ret) κ.ret
section
variable {C:pA}{φ φ':Ora}{φs:Nat->Ora}{all:Array Oper}{N fn:Nat}
def zz0{g g':Kt->Tm->xA->sB}{κ κ':Kt}(hκ:KLe κ κ')(hg:∀ κ κ',KLe κ κ'->Le2 (g κ) (g' κ'))(live:List Nat):∀m,Le2 (Nat.rec (motive:=fun _=>Tm->xA->sB) (fun _ _=>none) (fun _ r tm H=>g ⟨r,κ.exit,κ.ret⟩ (keep live tm) H) m)
  (Nat.rec (motive:=fun _=>Tm->xA->sB) (fun _ _=>none) (fun _ r tm H=>g' ⟨r,κ'.exit,κ'.ret⟩ (keep live tm) H) m):=by
 intro m;induction m with
 | zero=>intro a b x h;cases h
 | succ m ih=>exact fun a b x h=>hg ⟨_,_,_⟩ ⟨_,_,_⟩ ⟨ih,hκ.exit,hκ.ret⟩ _ _ _ h
def KLe.refl(κ:Kt):KLe κ κ:=⟨fun _ _ _ h=>h,fun _ _ _ _ h=>h,fun _ _ _ h=>h⟩
def zo1{g:Kt->Tm->xA->sB}{κ:Kt}(hg:∀ κ κ',KLe κ κ'->Le2 (g κ) (g κ'))(live:List Nat):∀m,Le2 (Nat.rec (motive:=fun _=>Tm->xA->sB) (fun _ _=>none) (fun _ r tm H=>g ⟨r,κ.exit,κ.ret⟩ (keep live tm) H) m)
  (Nat.rec (motive:=fun _=>Tm->xA->sB) (fun _ _=>none) (fun _ r tm H=>g ⟨r,κ.exit,κ.ret⟩ (keep live tm) H) (m+1)):=by
 intro m;induction m with
 | zero=>intro a b x h;cases h
 | succ m ih=>exact fun a b x h=>hg ⟨_,_,_⟩ ⟨_,_,_⟩ ⟨ih,(KLe.refl κ).exit,(KLe.refl κ).ret⟩ _ _ _ h
def yU(hφ:OLe φ φ'):∀(c:nD) (κ κ':Kt),KLe κ κ'->Le2 (pD C φ fn N c κ) (pD C φ' fn N c κ'):=by
 have self:∀(ψ:Ora),OLe ψ ψ:=fun _ _ _ _ _ h=>h
 intro c;suffices h:∀ φ φ',OLe φ φ'->∀(κ κ':Kt),KLe κ κ'->Le2 (pD C φ fn N c κ) (pD C φ' fn N c κ') from h φ φ' hφ
 induction c with
 | skip=>exact fun _ _ _ κ κ' hκ=>hκ.norm
 | region id ops d=>exact fun _ _ hφ κ κ' hκ=>zbv hφ hκ.norm
 | seq a b iha ihb=>exact fun _ _ hφ κ κ' hκ=>iha _ _ hφ _ _ ⟨ihb _ _ hφ _ _ hκ,hκ.exit,hκ.ret⟩
 | cond c a b iha ihb=>
  intro φ φ' hφ κ κ' hκ tm H x h;have h:(ob (ob (ev c (.now tm)) zA.asBool) fun t=>Bool.rec (motive:=fun _=>sB) (pD C φ fn N b κ tm H) (pD C φ fn N a κ tm H) t)=some x:=h
  show(ob (ob (ev c (.now tm)) zA.asBool) fun t=>Bool.rec (motive:=fun _=>sB) (pD C φ' fn N b κ' tm H) (pD C φ' fn N a κ' tm H) t)=some x
  rw[sA]at h ⊢
  obtain⟨t,h1,h2⟩:=h
  refine⟨t,h1,?_⟩
  cases t with
  | true=>exact iha _ _ hφ _ _ hκ _ _ _ h2
  | false=>exact ihb _ _ hφ _ _ hκ _ _ _ h2
 | block id c ih=>
  intro φ φ' hφ κ κ' hκ;refine ih _ _ hφ _ _ ⟨hκ.norm,fun i tm H x h=>?_,hκ.ret⟩
  simp only[wH]at h ⊢
  split at h
  ·rename_i e;rw[yab e];exact hκ.norm _ _ _ h
  ·rename_i e;rw[yaa e];exact hκ.exit _ _ _ _ h
 | loop live c ih=>
  intro φ φ' hφ κ κ' hκ tm H x h;obtain⟨m,hm⟩:=zyz h
  refine(zcj fun m y hy=>zo1 (ih _ _ (self φ')) live.kept m _ _ _ hy).2 ⟨m,?_⟩
  exact zz0 hκ (ih _ _ hφ) live.kept m _ _ _ hm
 | exit id=>exact fun _ _ _ κ κ' hκ=>hκ.exit id
 | ret=>exact fun _ _ _ κ κ' hκ=>hκ.ret
 | cut live c ih=>exact fun _ _ hφ κ κ' hκ tm H x h=>ih _ _ hφ _ _ hκ _ _ _ h
 | range i pl f ps id ops c ih=>exact fun _ _ hφ κ κ' hκ tm H x h=>zdq hφ hκ _ _ _ h
def zq0(hφ:z57 φs φ){r:iI}{H:xA}{ks:Nat->zA->xA->sB}{k:zA->xA->sB}(hk:zna ks k){x:zA × xA}(h:oF φ r H k=some x):∃n,oF (φs n) r H (ks n)=some x:=by
 cases r<;>simp only[oF]at h ⊢<;>try (cases h;done)
 case val v H'=>exact hk.ex _ _ _ h
 case enter f args=>
  rw[sA]at h;obtain⟨p,h1,h2⟩:=h
  obtain⟨n,hn⟩:=hφ.ex _ _ _ _ h1
  obtain⟨m,hm⟩:=hk.ex _ _ _ h2
  exact⟨max n m,by rw[sA];exact⟨p,hφ.le (Nat.le_max_left n m) _ _ _ _ hn,zv6 hk.up (Nat.le_max_right n m) _ _ _ hm⟩⟩
 case round l args=>
  rw[sA]at h;obtain⟨p,h1,h2⟩:=h
  obtain⟨n,hn⟩:=hφ.ex _ _ _ _ h1
  obtain⟨m,hm⟩:=hk.ex _ _ _ h2
  exact⟨max n m,by rw[sA];exact⟨p,hφ.le (Nat.le_max_left n m) _ _ _ _ hn,zv6 hk.up (Nat.le_max_right n m) _ _ _ hm⟩⟩
def zk6{t:Nat}{ks:Nat->zA->xA->sB}{k:zA->xA->sB}(hk:zna ks k):zna (fun n v H=>cI C t v fun v=>ks n v H) (fun v H=>cI C t v fun v=>k v H):=by
 refine⟨fun n=>za7 (hk.up n),fun v H x h=>?_⟩
 rw[yL]at h;obtain⟨n,hn⟩:=hk.ex _ _ _ h.2
 exact⟨n,by rw[yL];exact⟨h.1,hn⟩⟩
def z3r(hφ:z57 φs φ){κs:Nat->Tm->xA->sB}{κ:Tm->xA->sB}(hκ:zna κs κ):∀(l:List Oper),zna (fun n=>aJ C (φs n) all N (κs n) l) (aJ C φ all N κ l):=by
 intro l;refine⟨fun n=>zdv (hφ.up n) (hκ.up n) l,?_⟩
 induction l with
 | nil=>exact hκ.ex
 | cons o l ih=>
  intro tm H x h;rw[lT,sA]at h;obtain⟨w,h1,h2⟩:=h
  split at h2
  ·rename_i e
   obtain⟨n,hn⟩:=zq0 hφ (zk6 (ks:=fun n v H'=>aJ C (φs n) all N (κs n) l (putA N tm o.dst v) H') (k:=fun v H'=>aJ C φ all N κ l (putA N tm o.dst v) H') ⟨fun n v H' y hy=>zdv (hφ.up n) (hκ.up n) l _ _ _ hy,fun v H' y hy=>ih _ _ _ hy⟩) h2
   exact⟨n,by show aJ C (φs n) all N (κs n) (o::l) tm H=some x;rw[lT,sA];exact⟨w,h1,by rw[yab e];exact hn⟩⟩
  ·rename_i e
   obtain⟨n,hn⟩:=ih _ _ _ h2
   exact⟨n,by show aJ C (φs n) all N (κs n) (o::l) tm H=some x;rw[lT,sA];exact⟨w,h1,by rw[yaa e];exact hn⟩⟩
variable {old:Tm}{olds:List (Nat × List Nat)}
def uZ{H:xA}{ks:Nat->Tm->sB}{k:Tm->sB}(hk:∀tm x,k tm=some x->∃n,ks n tm=some x):∀(l:List Nat) tm x,iG C H all N old olds k l tm=some x->∃n,iG C H all N old olds (ks n) l tm=some x:=by
 intro l;induction l with
 | nil=>exact hk
 | cons i l ih=>
  intro tm x h;simp only[zY]at h ⊢
  rw[sA]at h;obtain⟨o,h1,h⟩:=h
  rw[sA]at h;obtain⟨w,h3,h4⟩:=h
  split at h4
  ·rename_i e
   rw[sA]at h4;obtain⟨v,h5,h6⟩:=h4
   rw[yL]at h6;obtain⟨n,hn⟩:=ih _ _ h6.2
   exact⟨n,by rw[h1,tA,h3,tA,yab e,h5,tA,yL];exact⟨h6.1,hn⟩⟩
  ·rename_i e
   obtain⟨n,hn⟩:=ih _ _ h4
   exact⟨n,by rw[h1,tA,h3,tA,yaa e];exact hn⟩
def znz(hφ:z57 φs φ){κs:Nat->Tm->xA->sB}{κ:Tm->xA->sB}(hκ:zna κs κ):∀(l:List pE),zna (fun n=>dG C (φs n) all N old olds (κs n) l) (dG C φ all N old olds κ l):=by
 intro l;refine⟨fun n=>aY (hφ.up n) (hκ.up n) l,?_⟩
 induction l with
 | nil=>exact hκ.ex
 | cons st l ih=>
  intro tm H x h
  cases hg:zO all st with
  | true=>
   rw[dV hg,tY]at h;obtain⟨h0,es,H',h1,h2,h3⟩:=h
   obtain⟨n,hn⟩:=uZ (fun tm x hx=>ih tm H' x hx) _ _ _ h3
   exact⟨n,by show dG C (φs n) all N old olds (κs n) (st::l) tm H=some x;rw[dV hg,tY];exact⟨h0,es,H',h1,h2,hn⟩⟩
  | false=>
  rw[jU hg,sA]at h;obtain⟨o,h1,h⟩:=h
  rw[sA]at h;obtain⟨w,h2,h⟩:=h
  have cont:zna (fun n v H'=>sJ C H' all old olds (putA N tm o.dst v) (iG C H' all N old olds (fun tm=>dG C (φs n) all N old olds (κs n) l tm H') st.lights (putA N tm o.dst v)) st.again)
    (fun v H'=>sJ C H' all old olds (putA N tm o.dst v) (iG C H' all N old olds (fun tm=>dG C φ all N old olds κ l tm H') st.lights (putA N tm o.dst v)) st.again):=by
   refine⟨fun n v H' y hy=>ze7 (aX (fun tm x hx=>aY (hφ.up n) (hκ.up n) l _ _ _ hx) _ _ _ (wX _ hy).2) _ hy,fun v H' y hy=>?_⟩
   obtain⟨n,hn⟩:=uZ (fun tm x hx=>ih tm H' x hx) _ _ _ (wX _ hy).2
   exact⟨n,ze7 hn _ hy⟩
  simp only[]at h;split at h
  ·rename_i e
   obtain⟨n,hn⟩:=zq0 hφ (zk6 cont) h
   exact⟨n,by show dG C (φs n) all N old olds (κs n) (st::l) tm H=some x;rw[jU hg,h1,tA,h2,tA];simp only[];rw[yab e];exact hn⟩
  ·rename_i e
   obtain⟨n,hn⟩:=cont.ex _ _ _ h
   exact⟨n,by show dG C (φs n) all N old olds (κs n) (st::l) tm H=some x;rw[jU hg,h1,tA,h2,tA];simp only[];rw[yaa e];exact hn⟩
def zn8(hφ:z57 φs φ){κs:Nat->Tm->xA->sB}{κ:Tm->xA->sB}(hκ:zna κs κ){id:Nat}{draw:Bool}:zna (fun n=>za2 C (φs n) fn N (κs n) id all draw) (za2 C φ fn N κ id all draw):=by
 refine⟨fun n=>zbv (hφ.up n) (hκ.up n),fun tm H x h=>?_⟩
 cases draw with
 | false=>exact(z3r hφ hκ _).ex _ _ _ h
 | true=>
  have h:(ob (ob (C.plans.get fn) fun t=>t.get id) fun p=>aA (bN all p) (iG C H all N tm.cut p.olds (fun tm'=>dG C φ all N tm.cut p.olds κ p.stages tm' H) p.first tm.cut))=some x:=h
  rw[sA]at h;obtain⟨p,h1,h⟩:=h
  rw[vB]at h;obtain⟨n,hn⟩:=uZ (fun tm' x hx=>(znz hφ hκ p.stages).ex tm' H x hx) _ _ _ h.2
  refine⟨n,?_⟩
  show(ob (ob (C.plans.get fn) fun t=>t.get id) fun p=>aA (bN all p) (iG C H all N tm.cut p.olds (fun tm'=>dG C (φs n) all N tm.cut p.olds (κs n) p.stages tm' H) p.first tm.cut))=some x
  rw[h1,tA,vB];exact⟨h.1,hn⟩
def zgn(hφ:z57 φs φ){κs:Nat->Kt}{κ:Kt}(hκ:zza5 κs κ){f:Operand}{ps:List Nat}{a b:Code}:zna (fun n=>zM C (φs n) fn N (κs n) f ps a b) (zM C φ fn N κ f ps a b):=by
 have kle:∀n,KLe (κs n) (κs (n+1)):=fun n=>⟨hκ.norm.up n,fun i=>(hκ.exit i).up n,hκ.ret.up n⟩
 have klm:∀n m,n<=m->KLe (κs n) (κs m):=fun n m h=>⟨zv6 hκ.norm.up h,fun i=>zv6 (hκ.exit i).up h,zv6 hκ.ret.up h⟩
 refine⟨fun n=>zdq (hφ.up n) (kle n),fun tm H x h=>?_⟩
 unfold zM at h;rw[sA]at h;obtain⟨v,h1,h⟩:=h
 rw[sA]at h;obtain⟨q,h2,h⟩:=h
 split at h
 ·cases h
 ·rename_i g hg
  rw[vB,sA]at h;obtain⟨h3,y,h4,h⟩:=h
  rw[sA]at h;obtain⟨r,h5,h⟩:=h
  rw[vB,sA]at h;obtain⟨h6,z,h7,h⟩:=h
  obtain⟨n,hn⟩:=hφ.ex _ _ _ _ h4
  have:∃m,nR (κs m) r.pending (tm) (endLoop y.2 (H.next+1) r)=some z:=by
   unfold nR at h7 ⊢
   split at h7
   ·exact hκ.norm.ex _ _ _ h7
   ·exact hκ.ret.ex _ _ _ h7
   ·cases h7
  obtain⟨m,hm⟩:=this
  refine⟨max n m,?_⟩
  show zM C (φs (max n m)) fn N (κs (max n m)) f ps a b tm H=some x
  unfold zM;rw[h1,tA,h2,tA,hg];simp only[];rw[vB,sA];refine⟨h3,y,hφ.le (Nat.le_max_left n m) _ _ _ _ hn,?_⟩
  rw[h5,tA,vB,sA];exact⟨h6,z,ze8 (klm _ _ (Nat.le_max_right n m)) _ _ _ hm,h⟩
def zpm(hφ:z57 φs φ):∀(c:nD) (κs:Nat->Kt) (κ:Kt),zza5 κs κ->zna (fun n=>pD C (φs n) fn N c (κs n)) (pD C φ fn N c κ):=by
 have kle:∀ {κs:Nat->Kt} {κ:Kt},zza5 κs κ->∀n,KLe (κs n) (κs (n+1)):=fun h n=>⟨h.norm.up n,fun i=>(h.exit i).up n,h.ret.up n⟩
 intro c;induction c with
 | skip=>exact fun κs κ hκ=>hκ.norm
 | region id ops d=>exact fun κs κ hκ=>zn8 hφ hκ.norm
 | seq a b iha ihb=>exact fun κs κ hκ=>iha (fun n=>⟨pD C (φs n) fn N b (κs n),(κs n).exit,(κs n).ret⟩) _ ⟨ihb _ _ hκ,hκ.exit,hκ.ret⟩
 | cond c a b iha ihb=>
  intro κs κ hκ;refine⟨fun n=>yU (hφ.up n) (.cond c a b) _ _ (kle hκ n),fun tm H x h=>?_⟩
  have h:(ob (ob (ev c (.now tm)) zA.asBool) fun t=>Bool.rec (motive:=fun _=>sB) (pD C φ fn N b κ tm H) (pD C φ fn N a κ tm H) t)=some x:=h
  rw[sA]at h;obtain⟨t,h1,h2⟩:=h
  have key:∀n,(Bool.rec (motive:=fun _=>sB) (pD C (φs n) fn N b (κs n) tm H) (pD C (φs n) fn N a (κs n) tm H) t:sB)=some x->pD C (φs n) fn N (.cond c a b) (κs n) tm H=some x:=by
   intro n hn;show(ob (ob (ev c (.now tm)) zA.asBool) fun t=>Bool.rec (motive:=fun _=>sB) (pD C (φs n) fn N b (κs n) tm H) (pD C (φs n) fn N a (κs n) tm H) t)=some x
   rw[h1,tA];exact hn
  cases t with
  | true=>obtain⟨n,hn⟩:=(iha _ _ hκ).ex _ _ _ h2;exact⟨n,key n hn⟩
  | false=>obtain⟨n,hn⟩:=(ihb _ _ hκ).ex _ _ _ h2;exact⟨n,key n hn⟩
 | block id c ih=>
  intro κs κ hκ;refine ih (fun n=>⟨(κs n).norm,fun i tm H=>Bool.rec (motive:=fun _=>sB) ((κs n).exit i tm H) ((κs n).norm tm H) (Nat.beq id i),(κs n).ret⟩) _ ⟨hκ.norm,fun i=>⟨fun n tm H x h=>?_,fun tm H x h=>?_⟩,hκ.ret⟩
  ·simp only[wH]at h ⊢
   split at h
   ·rename_i e;rw[yab e];exact hκ.norm.up n _ _ _ h
   ·rename_i e;rw[yaa e];exact(hκ.exit i).up n _ _ _ h
  ·simp only[wH]at h ⊢
   split at h
   ·rename_i e;obtain⟨n,hn⟩:=hκ.norm.ex _ _ _ h;exact⟨n,by rw[yab e];exact hn⟩
   ·rename_i e;obtain⟨n,hn⟩:=(hκ.exit i).ex _ _ _ h;exact⟨n,by rw[yaa e];exact hn⟩
 | loop live c ih=>
  intro κs κ hκ;refine⟨fun n=>yU (hφ.up n) (.loop live c) _ _ (kle hκ n),fun tm H x h=>?_⟩
  obtain⟨m,hm⟩:=zyz h
  have it:∀m,zna (fun n=>(Nat.rec (motive:=fun _=>Tm->xA->sB) (fun _ _=>none) (fun _ r tm H=>pD C (φs n) fn N c ⟨r,(κs n).exit,(κs n).ret⟩ (keep live.kept tm) H) m:Tm->xA->sB))
    (Nat.rec (motive:=fun _=>Tm->xA->sB) (fun _ _=>none) (fun _ r tm H=>pD C φ fn N c ⟨r,κ.exit,κ.ret⟩ (keep live.kept tm) H) m):=by
   intro m;induction m with
   | zero=>exact⟨fun _ _ _ _ h=>h,fun _ _ _ h=>by cases h⟩
   | succ m ihm=>
    have:=ih _ _ (⟨ihm,hκ.exit,hκ.ret⟩:zza5 (fun n=>⟨(Nat.rec (motive:=fun _=>Tm->xA->sB) (fun _ _=>none) (fun _ r tm H=>pD C (φs n) fn N c ⟨r,(κs n).exit,(κs n).ret⟩ (keep live.kept tm) H) m:Tm->xA->sB),(κs n).exit,(κs n).ret⟩) ⟨(Nat.rec (motive:=fun _=>Tm->xA->sB) (fun _ _=>none) (fun _ r tm H=>pD C φ fn N c ⟨r,κ.exit,κ.ret⟩ (keep live.kept tm) H) m:Tm->xA->sB),κ.exit,κ.ret⟩)
    exact⟨fun n tm H x h=>this.up n _ _ _ h,fun tm H x h=>this.ex _ _ _ h⟩
  obtain⟨n,hn⟩:=(it m).ex _ _ _ hm
  exact⟨n,(zcj fun m y hy=>zo1 (fun κ κ' h=>yU (fun _ _ _ _ h=>h) c κ κ' h) live.kept m _ _ _ hy).2 ⟨m,hn⟩⟩
 | exit id=>exact fun κs κ hκ=>hκ.exit id
 | ret=>exact fun κs κ hκ=>hκ.ret
 | cut live c ih=>exact fun κs κ hκ=>⟨fun n tm H x h=>(ih _ _ hκ).up n _ _ _ h,fun tm H x h=>(ih _ _ hκ).ex _ _ _ h⟩
 | range i pl f ps id ops c ih=>exact fun κs κ hκ=>⟨fun n tm H x h=>(zgn hφ hκ).up n _ _ _ h,fun tm H x h=>(zgn hφ hκ).ex _ _ _ h⟩
def z5j{live:PI}{c:nD}{κ:Kt}{tm:Tm}{H:xA}:pD C φ fn N (.loop live c) κ tm H=pD C φ fn N c ⟨pD C φ fn N (.loop live c) κ,κ.exit,κ.ret⟩ (keep live.kept tm) H:=by
 have self:OLe φ φ:=fun _ _ _ _ h=>h
 have up:∀m,Le2 (Nat.rec (motive:=fun _=>Tm->xA->sB) (fun _ _=>none) (fun _ r tm H=>pD C φ fn N c ⟨r,κ.exit,κ.ret⟩ (keep live.kept tm) H) m)
   (Nat.rec (motive:=fun _=>Tm->xA->sB) (fun _ _=>none) (fun _ r tm H=>pD C φ fn N c ⟨r,κ.exit,κ.ret⟩ (keep live.kept tm) H) (m+1)):=zo1 (yU self c) live.kept
 have some_iff:∀tm H x,pD C φ fn N (.loop live c) κ tm H=some x ↔ ∃m,(Nat.rec (motive:=fun _=>Tm->xA->sB) (fun _ _=>none) (fun _ r tm H=>pD C φ fn N c ⟨r,κ.exit,κ.ret⟩ (keep live.kept tm) H) m:Tm->xA->sB) tm H=some x:=
  fun tm H x=>zcj fun m y hy=>up m _ _ _ hy
 have sup:zza5 (fun m=>⟨(Nat.rec (motive:=fun _=>Tm->xA->sB) (fun _ _=>none) (fun _ r tm H=>pD C φ fn N c ⟨r,κ.exit,κ.ret⟩ (keep live.kept tm) H) m:Tm->xA->sB),κ.exit,κ.ret⟩) ⟨pD C φ fn N (.loop live c) κ,κ.exit,κ.ret⟩:=
  ⟨⟨up,fun tm H x h=>(some_iff tm H x).1 h⟩,fun i=>⟨fun _ _ _ _ h=>h,fun _ _ _ h=>⟨0,h⟩⟩,⟨fun _ _ _ _ h=>h,fun _ _ _ h=>⟨0,h⟩⟩⟩
 have key:∀x,pD C φ fn N (.loop live c) κ tm H=some x ↔ pD C φ fn N c ⟨pD C φ fn N (.loop live c) κ,κ.exit,κ.ret⟩ (keep live.kept tm) H=some x:=by
  intro x;rw[some_iff];constructor
  ·rintro⟨m,hm⟩
   cases m with
   | zero=>cases hm
   | succ m=>exact yU self c ⟨(Nat.rec (motive:=fun _=>Tm->xA->sB) (fun _ _=>none) (fun _ r tm H=>pD C φ fn N c ⟨r,κ.exit,κ.ret⟩ (keep live.kept tm) H) m:Tm->xA->sB),κ.exit,κ.ret⟩ ⟨pD C φ fn N (.loop live c) κ,κ.exit,κ.ret⟩ ⟨fun tm H y hy=>(some_iff tm H y).2 ⟨m,hy⟩,fun _ _ _ _ h=>h,fun _ _ _ h=>h⟩ _ _ _ hm
  ·intro h
   obtain⟨m,hm⟩:=(zpm (φs:=fun _=>φ) ⟨fun _=>self,fun _ _ _ _ h=>⟨0,h⟩⟩ c _ _ sup).ex _ _ _ h
   exact⟨m+1,hm⟩
 cases h:pD C φ fn N (.loop live c) κ tm H with
 | some x=>exact((key x).1 h).symm
 | none=>
  cases h2:pD C φ fn N c ⟨pD C φ fn N (.loop live c) κ,κ.exit,κ.ret⟩ (keep live.kept tm) H with
  | none=>rfl
  | some x=>rw[(key x).2 h2]at h;cases h
end
end
section
def z4l:List fD->Bool
 | .reg .. :: _=>true
 | _=>false
section
variable {P:Program}{C:pA}{B N:Nat}{I:World->Prop}{μ:Mu}{w:World}{base:List Frame}{m:Machine}
def zcf(hF:zm4 P C){f:Nat}{args:List zA}{args':Array Value}{H:xA}(hH:xB B N μ H w)(hl:wB μ args args'.toList){g:yC}(he:lJ C f args false=some g) :
  qD P C B N μ base (lone (Frame.enter P f args' .normal) base w) w (.next ⟨g,[],H⟩):=
 ⟨μ,_,[],w,.refl _ _,fun _ _ h=>h,Below.refl N w,hH,(bW (cur:=some H) hF he hl).1,.nil⟩
end
end
section
inductive iJ (C:pA):sE->sE->Prop
 | refl (o:sE):iJ C o o
 | step {o o':sE}:iJ C (ztn C o) o'->iJ C o o'
 | forget {todo:List fD} {tm tm':Tm} {R:wI} {cs:List yC} {H:xA} {o':sE}:z4l todo=false->(∀i v,tm'.get i=some v->tm.get i=some v)->iJ C (.next ⟨⟨todo,tm',R⟩,cs,H⟩) o'->iJ C (.next ⟨⟨todo,tm,R⟩,cs,H⟩) o'
def iJ.trans{C:pA}{a b c:sE}(h:iJ C a b)(k:iJ C b c):iJ C a c:=by
 induction h with
 | refl=>exact k
 | step _ ih=>exact .step (ih k)
 | forget h1 h2 _ ih=>exact .forget h1 h2 (ih k)
section
variable {P:Program}{C:pA}{B N:Nat}{I:World->Prop}{μ:Mu}{w:World}{base:List Frame}{m:Machine}
def wE.forget{n:Nat}{tm tm':Tm}{tmps:Array Value}(h:wE μ n tm tmps)(hs:∀i v,tm'.get i=some v->tm.get i=some v):wE μ n tm' tmps:=⟨h.1,fun i v hv=>h.2 i v (hs i v hv)⟩
def z0i{todo:List fD}{tm tm':Tm}{R:wI}{acs:List yC}{H:xA}(hr:z4l todo=false)(hs:∀i v,tm'.get i=some v->tm.get i=some v)(h:qD P C B N μ base m w (.next ⟨⟨todo,tm,R⟩,acs,H⟩)) :
  qD P C B N μ base m w (.next ⟨⟨todo,tm',R⟩,acs,H⟩):=by
 obtain⟨μ',b,cs,w',h1,h2,h3,h4,h5,h6⟩:=h
 obtain⟨bfn,btmps,btodo,bdefers,bmode,bkind,bround⟩:=b
 refine⟨μ',_,cs,w',h1,h2,h3,h4,⟨h5.rest,?_⟩,h6⟩
 have hb:=h5.body
 simp only at hb ⊢
 split at hb
 ·rename_i hm
  rw[yab hm]
  cases hb with
  | plain a t=>exact .plain a (t.forget hs)
  | reg _ _ _ _=>cases hr
  | mid _ _ _ _ _=>cases hr
 ·rename_i hm
  rw[yaa hm];exact hb.forget hs
def qD.reach(hS:Sim P C B N I)(hI:I w){o o':sE}(h:iJ C o o'):qD P C B N μ base m w o->qD P C B N μ base m w o':=by
 induction h with
 | refl=>exact id
 | step _ ih=>exact fun h=>ih (zqp hS hI h)
 | forget hr hs _ ih=>exact fun h=>ih (z0i hr hs h)
end
def zjs(C:pA)(f:Nat)(ds:List bH)(fr:yC)(H:xA)(v:zA):Prop:=
 fr.R.mode=.returning/\fr.R.defers=ds/\fr.R.deferred=false/\fr.R.fn=f/\∃fn l,C.fns.get f=some fn/\gQ C H fr.tm fn.results.toList=some l/\v=qT l
def zn4(r:cL)(l:Nat)(tm:Tm):yC:=⟨[.code r.assign,.beginRound,.code r.body],tm,⟨r.fn,r.n,[],.run,false,some l⟩⟩
structure oQ (C:pA) (φ:Ora):Prop where
 fn:∀f args H x,φ (.func f) args H=some x->∃g,lJ C f args false=some g/\∀acs,∃fr',iJ C (.next ⟨g,acs,H⟩) (.next ⟨fr',acs,x.2⟩)/\zjs C f [] fr' x.2 x.1
 rd:∀l args H x,φ (.yld l) args H=some x->∃r tm,rI H l=some r/\jQ r.n r.params args r.tm=some tm/\∀c acs c',jG c x.1=some c'->iJ C (.next ⟨zn4 r l tm,c::acs,H⟩) (.next ⟨c',acs,x.2⟩)
abbrev z7z:=List bH->sE->zA × xA->Prop
def Fin (C:pA)(E:z7z)(ds:List bH)(o:sE)(x:zA × xA):Prop:=∃o',iJ C o o'/\E ds o' x
def Fin.step{C:pA}{E:z7z}{ds:List bH}{o:sE}{x:zA × xA}(h:Fin C E ds (ztn C o) x):Fin C E ds o x:=by
 obtain⟨fr,h1,h2⟩:=h;exact⟨fr,.step h1,h2⟩
def Fin.of{C:pA}{E:z7z}{ds:List bH}{o o':sE}{x:zA × xA}(hr:iJ C o o')(h:Fin C E ds o' x):Fin C E ds o x:=by
 obtain⟨fr,h1,h2⟩:=h;exact⟨fr,hr.trans h1,h2⟩
abbrev RR(f N:Nat)(ro:Option Nat)(ds:List bH):wI:=⟨f,N,ds,.run,false,ro⟩
structure zvl (C:pA) (E:z7z) (G:zA × xA->Prop) (f N:Nat) (ro:Option Nat) (acs:List yC):Prop where
 not:∀ds todo tm H x,¬ E ds (.next ⟨⟨todo,tm,RR f N ro ds⟩,acs,H⟩) x
 all:ro=none->∀x,G x
 pop:ro=none->∀r ds o x,E (⟨none,r,[]⟩::ds) o x->wQ x.2 r=some (some [])->∃o',iJ C o o'/\E ds o' (x.1,setBlk x.2 r (.deferred none))
structure zs2 (C:pA) (E:z7z) (G:zA × xA->Prop) (f N:Nat) (ro:Option Nat) (acs:List yC) (κ:Kt) (k:List fD):Prop where
 norm:∀ds x tm H,G x->κ.norm tm H=some x->Fin C E ds (.next ⟨⟨k,tm,RR f N ro ds⟩,acs,H⟩) x
 exit:∀ds x i tm H,G x->κ.exit i tm H=some x->Fin C E ds (.next ⟨⟨.code (.exit i)::k,tm,RR f N ro ds⟩,acs,H⟩) x
 ret:∀ds x tm H,G x->κ.ret tm H=some x->∀k',Fin C E ds (.next ⟨⟨.code .ret::k',tm,RR f N ro ds⟩,acs,H⟩) x
structure zp5 where
 i:Nat
 pl:List Nat
 f:Operand
 ps:Array Nat
 id:Nat
 ops:Array Oper
 c:nD
def wN(c:nD):List zp5:=
 nD.rec (motive:=fun _=>List zp5) [] (fun _ _ _=>[]) (fun _ _ a b=>tD a b) (fun _ _ _ a b=>tD a b) (fun _ _ a=>a) (fun _ _ a=>a) (fun _=>[]) [] (fun _ _ a=>a)
  (fun i pl f ps id ops c a=>⟨i,pl,f,ps,id,ops,c⟩::a) c
section
variable {C:pA}{φ:Ora}{E:z7z}{G:zA × xA->Prop}{ds:List bH}{ro:Option Nat}{f N:Nat}{acs:List yC}{R:wI}{κ:Kt}{k:List fD}{x:zA × xA}{all:Array Oper}
def eI(hR:R.mode.running=true){todo:List fD}{tm:Tm}{H:xA}:ztn C (.next ⟨⟨todo,tm,R⟩,acs,H⟩)=pM C todo tm R acs H:=by
 show(bif R.mode.running then pM C todo tm R acs H else _)=_
 rw[hR];rfl
def zz9{fr c c':yC}{H:xA}{v:zA}(hr:zjs C f [] fr H v)(hf:jG c v=some c'):ztn C (.next ⟨fr,c::acs,H⟩)=.next ⟨c',acs,H⟩:=by
 obtain⟨h1,h2,h3,h4,fn,l,h5,h6,rfl⟩:=hr
 obtain⟨todo,tm,ffn,n,defers,mode,deferred,round⟩:=fr
 simp only at h1 h2 h3 h4 h6
 subst h1 h2 h3 h4
 show zc3 C ⟨todo,tm,_⟩ (c::acs) H=_
 unfold zc3;rw[h5,tA,h6];simp only[cond_false];rw[hf];rfl
def zgj(hφ:oQ C φ){r:iI}{H:xA}{K:zA->xA->sB}(h:oF φ r H K=some x){fr:yC}
  (hK:∀v H' c',jG fr v=some c'->K v H'=some x->Fin C E ds (.next ⟨c',acs,H'⟩) x) (hfin:∀v,∃c',jG fr v=some c'):Fin C E ds (zbn r C fr acs H) x:=by
 cases r<;>simp only[oF]at h<;>try (cases h;done)
 case val v H'=>
  have h2:K v H'=some x:=h
  obtain⟨c',hc⟩:=hfin v
  show Fin C E ds (z80 v H' C fr acs H) x
  unfold z80;rw[hc];exact hK _ _ _ hc h2
 case enter g args=>
  rw[sA]at h;obtain⟨p,h1,h4⟩:=h
  obtain⟨c',hc⟩:=hfin p.1
  show Fin C E ds (zku g args C fr acs H) x
  unfold zku;obtain⟨ge,he,r0⟩:=hφ.fn _ _ _ _ h1
  obtain⟨fr',r1,r2⟩:=r0 (fr::acs)
  rw[he];refine Fin.of (r1.trans (.step ?_)) (hK _ _ _ hc h4)
  rw[zz9 r2 hc];exact .refl _
 case round l args=>
  rw[sA]at h;obtain⟨p,h1,h4⟩:=h
  obtain⟨c',hc⟩:=hfin p.1
  obtain⟨r,tm,e1,e2,r0⟩:=hφ.rd _ _ _ _ h1
  show Fin C E ds (zkt l args C fr acs H) x
  unfold zkt;rw[e1,tA,e2,tA];exact Fin.of (r0 _ _ _ hc) (hK _ _ _ hc h4)
def zt3(hφ:oQ C φ)(hR:R.mode.running=true)(hN:R.n=N){κn:Tm->xA->sB}(hκ:∀tm H,κn tm H=some x->Fin C E ds (.next ⟨⟨k,tm,R⟩,acs,H⟩) x) :
  ∀(l:List Oper) (tm:Tm) (H:xA),aJ C φ all N κn l tm H=some x->Fin C E ds (pO C all k R acs l tm H) x:=by
 intro l;induction l with
 | nil=>exact fun tm H h=>hκ tm H h
 | cons o l ih=>
  intro tm H h;rw[lT,sA]at h;obtain⟨w,h1,h⟩:=h
  rw[wZ,h1]
  cases w with
  | false=>rw[yaa (by simp)]at h;simp only[];rw[hN];exact ih _ _ h
  | true=>
   rw[yab rfl]at h;simp only[];generalize (wF o.op).f C (.now tm) H=r at h
   cases hv:r.asVal with
   | some p=>
    have:r=.val p.1 p.2:=by cases r<;>simp[iI.asVal]at hv;rw[<- hv]
    subst this;simp only[oF,yL]at h;obtain⟨h2,h3⟩:=h
    simp only[];rw[hN];exact ih _ _ h3
   | none=>
    refine zgj hφ h (fun v H' c' hc hK=>?_) fun v=>⟨⟨.ops all l::k,putA R.n tm o.dst v,R⟩,by unfold jG;simp only[hR,cond_true];rfl⟩
    unfold jG at hc;simp only[hR,cond_true]at hc;have hc:some (⟨.ops all l::k,putA R.n tm o.dst v,R⟩:yC)=some c':=hc
    cases hc;refine .step ?_
    rw[eI hR,hN];rw[yL]at hK;exact ih _ _ hK.2
def bX{H:xA}{old:Tm}{olds:List (Nat × List Nat)}{K:Tm->sB}:∀(l:List Nat) (tm:Tm),iG C H all N old olds K l tm=some x->∃tm',wM C H all N old olds l tm=some tm'/\K tm'=some x:=by
 intro l;induction l with
 | nil=>exact fun tm h=>⟨tm,rfl,h⟩
 | cons i l ih=>
  intro tm h;rw[zY,sA]at h;obtain⟨o,h1,h⟩:=h
  rw[sA]at h;obtain⟨w,h2,h⟩:=h
  unfold wM;rw[h1,tA,h2,tA]
  cases w with
  | false=>rw[yaa (by simp)]at h;simp only[cond_false,tA];exact ih _ h
  | true=>
   rw[yab rfl,sA]at h;obtain⟨v,h3,h⟩:=h
   rw[yL]at h;obtain⟨h4,h⟩:=h
   simp only[cond_true];rw[h3,tA];exact ih _ h
def zsb{C:pA}{o:Op}{e:gC}{H:xA}{r:iI}(hf:mI o=true)(h:(wF o).f C e H=r)(h1:∀q,r≠oJ q):False:=by
 have key:∀q:Option (zA × xA),oJ q=r->False:=fun q e=>h1 q e.symm
 cases o<;>simp only[mI]at hf<;>first
  | (cases hf;done)
  | exact key _ h
def zh7(hφ:oQ C φ)(hR:R.mode.running=true)(hN:R.n=N){κn:Tm->xA->sB}(hκ:∀tm H,κn tm H=some x->Fin C E ds (.next ⟨⟨k,tm,R⟩,acs,H⟩) x){old:Tm}{olds:List (Nat × List Nat)} :
  ∀(l:List pE) (tm:Tm) (H:xA),dG C φ all N old olds κn l tm H=some x->Fin C E ds (.next ⟨⟨.reg all old olds l::k,tm,R⟩,acs,H⟩) x:=by
 intro l;induction l with
 | nil=>
  intro tm H h;refine .step ?_
  rw[eI hR];exact hκ tm H h
 | cons st l ih=>
  intro tm H h
  cases hg:zO all st with
  | true=>
   rw[dV hg,tY]at h;obtain⟨h0,es,H',h1,h2,h3⟩:=h
   obtain⟨tm',hl1,hl2⟩:=bX _ _ h3
   refine .step ?_
   rw[eI hR];show Fin C E ds (zs4 all old olds (st::l) C k tm R acs H) x
   unfold zs4;have hg0:=xC.1 hg
   rw[zD]at hg0;have hnone:dC all.toList st.heavy=none:=by
    rw[iF];exact List.getElem?_eq_none (by omega)
   simp only[hnone];rw[zC,yab (xC.2 (by rw[zD];omega)),zC,yab (show Nat.blt (yB all.toList+yB all.toList) st.heavy=true from hg)]
   unfold zqc;rw[h0,show ∀(x:Option eM),aA true x=x from fun _=>rfl,h1,tA,h2,tA,hN,hl1,tA]
   exact ih _ _ hl2
  | false=>
  rw[jU hg,sA]at h;obtain⟨o,h1,h⟩:=h
  rw[sA]at h;obtain⟨w,h2',h⟩:=h
  have hgn:Nat.blt (yB all.toList+yB all.toList) st.heavy=false:=hg
  by_cases hfl:Nat.blt (yB all.toList) st.heavy=true
  ·-- an operation that is done early
   unfold sO at h2';unfold hvI at h1 h;rw[hfl]at h1 h2' h
   simp only[cond_true,sA,vB,ybb]at h1 h2'
   obtain⟨w',h2,⟨⟨hw,hfo⟩,hlo⟩,h2'⟩:=h2'
   cases h2'
   subst hw;simp only[if_true,cond_true]at h;have hval:∃v H',(wF o.op).f C (.mixed tm old (aD (Nat.sub st.heavy (Nat.succ (yB all.toList))) olds) (xG o.op)) H=.val v H':=by
    cases hr:(wF o.op).f C (.mixed tm old (aD (Nat.sub st.heavy (Nat.succ (yB all.toList))) olds) (xG o.op)) H with
    | val v H'=>exact⟨v,H',rfl⟩
    | enter g args=>exact(zsb hfo hr fun q=>by cases q<;>simp[oJ]).elim
    | round g args=>exact(zsb hfo hr fun q=>by cases q<;>simp[oJ]).elim
    | _=>rw[hr]at h;cases h
   obtain⟨v,H',hv⟩:=hval
   rw[hv]at h;have h:(cI C o.type v fun v=>sJ C H' all old olds (putA N tm o.dst v) (iG C H' all N old olds (fun tm=>dG C φ all N old olds κn l tm H') st.lights (putA N tm o.dst v)) st.again)=some x:=h
   rw[yL]at h;obtain⟨ha,hl⟩:=wX _ h.2
   obtain⟨tm',hl1,hl2⟩:=bX _ _ hl
   refine .step ?_
   rw[eI hR];show Fin C E ds (zs4 all old olds (st::l) C k tm R acs H) x
   unfold zs4;have hnone:dC all.toList st.heavy=none:=by
    rw[iF];have:=xC.1 hfl
    rw[zD]at this;exact List.getElem?_eq_none (by omega)
   simp only[hnone];rw[hfl,cond_true,hgn,cond_false];unfold zqd;rw[h1,tA,h2,tA,hv,hlo];show Fin C E ds (bI (ob (wM C H' all R.n old olds st.lights (putA R.n tm o.dst v)) fun tm'=>some ⟨⟨.reg all old olds l::k,tm',R⟩,acs,H'⟩) 23) x
   rw[hN,hl1,tA];exact ih _ _ hl2
  have hfl:Nat.blt (yB all.toList) st.heavy=false:=Bool.eq_false_iff.2 hfl
  unfold sO at h2';unfold hvI at h1 h;rw[hfl]at h1 h2' h
  simp only[cond_false,sA]at h1 h2'
  obtain⟨w',h2,h2'⟩:=h2'
  cases h2'
  simp only[cond_false]at h;have back0:∀v H' c',jG (⟨.reg all old olds (st::l)::k,tm,R⟩:yC) v=some c' →
    sJ C H' all old olds (putA N tm o.dst v) (iG C H' all N old olds (fun tm=>dG C φ all N old olds κn l tm H') st.lights (putA N tm o.dst v)) st.again=some x->Fin C E ds (.next ⟨c',acs,H'⟩) x:=by
   intro v H' c' hc hK;unfold jG at hc;simp only[hR,cond_true]at hc;have hc:(ob (dC all.toList st.heavy) fun o=>some (⟨.reg all old olds (⟨all.size,st.lights,st.again⟩::l)::k,putA R.n tm o.dst v,R⟩:yC))=some c':=hc
   rw[h1,tA]at hc
   cases hc;refine .step ?_
   rw[eI hR,hN];obtain⟨ha,hl⟩:=wX _ hK
   obtain⟨tm',hl1,hl2⟩:=bX _ _ hl
   show Fin C E ds (zs4 all old olds (⟨all.size,st.lights,st.again⟩::l) C k (putA N tm o.dst v) R acs H') x
   unfold zs4;have:dC all.toList all.size=none:=by rw[iF];simp
   simp only[this];rw[zC,yaa fun e=>by have:=xC.1 e;rw[zD]at this;simp at this]
   show Fin C E ds (zcv all old olds ⟨all.size,st.lights,st.again⟩ l C k (putA N tm o.dst v) R acs H') x
   unfold zcv;simp only[ha,hN,hl1,tA];exact ih _ _ hl2
  have back:∀v H' c',jG (⟨.reg all old olds (st::l)::k,tm,R⟩:yC) v=some c' →
    (cI C o.type v fun v=>sJ C H' all old olds (putA N tm o.dst v) (iG C H' all N old olds (fun tm=>dG C φ all N old olds κn l tm H') st.lights (putA N tm o.dst v)) st.again)=some x->Fin C E ds (.next ⟨c',acs,H'⟩) x:=by
   intro v H' c' hc hK;rw[yL]at hK;exact back0 v H' c' hc hK.2
  refine .step ?_
  rw[eI hR];show Fin C E ds (zs4 all old olds (st::l) C k tm R acs H) x
  unfold zs4;simp only[h1];unfold zqb;rw[h2];simp only[];have hfin:∀v,∃c',jG (⟨.reg all old olds (st::l)::k,tm,R⟩:yC) v=some c':=fun v=>⟨⟨.reg all old olds (⟨all.size,st.lights,st.again⟩::l)::k,putA R.n tm o.dst v,R⟩,by
   unfold jG;simp only[hR,cond_true];show(ob (dC all.toList st.heavy) fun o=>some (⟨.reg all old olds (⟨all.size,st.lights,st.again⟩::l)::k,putA R.n tm o.dst v,R⟩:yC))=_
   rw[h1];rfl⟩
  cases w with
  | true=>
   simp only[if_true]at h;exact zgj hφ h back hfin
  | false=>
   simp only[ybq,if_false]at h;obtain⟨c',hc⟩:=hfin gD
   show Fin C E ds (z80 gD H C _ acs H) x
   unfold z80;rw[hc];exact back0 _ _ _ hc h
def z4k{live:List Nat}{tm:Tm}{i:Nat}{v:zA}(h:(keep live tm).get i=some v):tm.get i=some v:=by
 unfold keep Tm.get at h;simp only[wH]at h;split at h
 case isFalse=>cases h
 rename_i hk;have key:∀live:List Nat,(zlp tm live).get i=some v->tm.get i=some v:=by
  intro live;induction live with
  | nil=>intro h;rw[show zlp tm []=.leaf from rfl,Tr.get_leaf]at h;cases h
  | cons j live ih=>
   intro h;have h:(match tm.get j with | some v=>(zlp tm live).set j v | none=>zlp tm live:Tr zA).get i=some v:=h
   cases hj:tm.get j with
   | none=>rw[hj]at h;exact ih h
   | some u=>
    rw[hj]at h;simp only[]at h;rw[Tr.get_set]at h;split at h
    ·rename_i e;rw[e,hj];exact h
    ·exact ih h
 exact key live h
def zha{todo:List fD}(hr:z4l todo=false){live:List Nat}{tm:Tm}{H:xA}(h:Fin C E ds (.next ⟨⟨todo,keep live tm,R⟩,acs,H⟩) x):Fin C E ds (.next ⟨⟨todo,tm,R⟩,acs,H⟩) x:=
 Fin.of (.forget hr (fun _ _=>z4k) (.refl _)) h
def zet(hE:zvl C E G f N ro acs){t1 t2:List fD}(h1:z4l t1=false)(hs:∀tm H,pM C t1 tm (RR f N ro ds) acs H=pM C t2 tm (RR f N ro ds) acs H){tm:Tm}{H:xA}(h:Fin C E ds (.next ⟨⟨t2,tm,RR f N ro ds⟩,acs,H⟩) x):Fin C E ds (.next ⟨⟨t1,tm,RR f N ro ds⟩,acs,H⟩) x:=by
 obtain⟨o',hr,hv⟩:=h
 refine⟨o',?_,hv⟩
 generalize ho:(.next ⟨⟨t2,tm,RR f N ro ds⟩,acs,H⟩:sE)=o at hr
 induction hr generalizing tm with
 | refl=>
  subst ho;exact(hE.not _ _ _ _ _ hv).elim
 | step h ih=>
  subst ho;refine .step ?_
  rw[eI rfl,hs,<- eI rfl];exact h
 | forget hr2 hs2 h ih=>
  cases ho;exact .forget h1 hs2 (ih hv rfl)
def zue{i:Nat}{t1 t2:List fD}{tm:Tm}{H:xA}:qN (some (.exit i)) C ⟨t1,tm,R⟩ acs H=qN (some (.exit i)) C ⟨t2,tm,R⟩ acs H:=by
 obtain⟨a,b,c,d,e,ro⟩:=R
 unfold qN
 cases ro<;>rfl
def zew(hE:zvl C E G f N ro acs){i:Nat}{y:fD}(hy:∀j,y.blockId=some j->Nat.beq j i=false){tm:Tm}{H:xA}(h:Fin C E ds (.next ⟨⟨.code (.exit i)::k,tm,RR f N ro ds⟩,acs,H⟩) x):Fin C E ds (.next ⟨⟨.code (.exit i)::y::k,tm,RR f N ro ds⟩,acs,H⟩) x:=by
 refine zet hE rfl (fun tm H=>?_) h
 show zju i C (y::k) tm (RR f N ro ds) acs H=zju i C k tm (RR f N ro ds) acs H
 have e:kK i (y::k)=kK i k:=by
  show(match y.blockId with | some j=>bif Nat.beq j i then some k else kK i k | none=>kK i k)=_
  cases hb:y.blockId with
  | none=>rfl
  | some j=>simp only[hy j hb,cond_false]
 unfold zju;rw[e]
 cases kK i k with
 | some k'=>rfl
 | none=>exact zue
def zks(hφ:oQ C φ)(hE:zvl C E G f N none acs){κ:Kt}(hκ:zs2 C E G f N none acs κ k){fo:Operand}{ps:Array Nat}{a b:Code}{tm:Tm}{H:xA}(h:zM C φ f N κ fo ps.toList a b tm H=some x):Fin C E ds (.next ⟨⟨.code (.rangeFunc fo ps a b)::k,tm,RR f N none ds⟩,acs,H⟩) x:=by
 unfold zM at h;rw[sA]at h;obtain⟨v,h1,h⟩:=h
 rw[sA]at h;obtain⟨⟨qf,q1,q2⟩,h2,h⟩:=h
 cases qf with
 | yld l=>cases h
 | func g=>
  simp only[vB,sA]at h;obtain⟨h3,y,h4,r,h5,h6,z,h7,d,h8,h9,h10⟩:=h
  have hp:C.prims.get g=none:=by
   cases hx:C.prims.get g with
   | none=>rfl
   | some u=>rw[hx]at h3;cases h3
  obtain⟨ge,he,r0⟩:=hφ.fn _ _ _ _ h4
  obtain⟨fr',r1,r2⟩:=r0 (⟨.inRange (H.next+1)::k,tm,RR f N none (⟨none,H.next,[]⟩::ds)⟩::acs)
  refine .step ?_
  rw[eI rfl];show Fin C E ds (zjt fo ps a b C k tm (RR f N none ds) acs H) x
  have hin:fQ C (H.next+1) v=some ge:=by
   unfold fQ;rw[h2,tA];simp only[hp];exact he
  unfold zjt;rw[h1,tA];simp only[hin,tA];refine Fin.of (r1.trans (.step ?_)) (?_:Fin C E ds (.next ⟨⟨.endRange (H.next+1)::k,tm,RR f N none (⟨none,H.next,[]⟩::ds)⟩,acs,y.2⟩) x)
  ·rw[zz9 r2 (c':=⟨.endRange (H.next+1)::k,tm,RR f N none (⟨none,H.next,[]⟩::ds)⟩) rfl]
   exact .refl _
  refine .step ?_
  rw[eI rfl];show Fin C E ds (nV (H.next+1) C k tm (RR f N none (⟨none,H.next,[]⟩::ds)) acs y.2) x
  unfold nV;rw[h5,tA,h6];have key:Fin C E (⟨none,H.next,[]⟩::ds) (.next ⟨⟨(match r.pending with | some c=>.code c::k | none=>k),tm,RR f N none (⟨none,H.next,[]⟩::ds)⟩,acs,endLoop y.2 (H.next+1) r⟩) z:=by
   unfold nR at h7;split at h7
   ·rename_i e;rw[e];exact hκ.norm _ _ _ _ (hE.all rfl _) h7
   ·rename_i e;rw[e];exact hκ.ret _ _ _ _ (hE.all rfl _) h7 k
   ·cases h7
  obtain⟨o',k1,k2⟩:=key
  have hd:wQ z.2 H.next=some (some []):=by
   rw[h8]
   cases d with
   | none=>cases h9
   | some l=>cases l with | nil=>rfl | cons _ _=>cases h9
  obtain⟨o'',k3,k4⟩:=hE.pop rfl _ _ _ _ k2 hd
  cases h10;exact⟨o'',k1.trans k3,k4⟩
def jX{α:Type}{a b:List α}(h:tD a b=[]):a=[]/\b=[]:=by rw[mG]at h;exact List.append_eq_nil_iff.1 h
def zl9(hφ:oQ C φ)(hE:zvl C E G f N ro acs):∀(c:nD) (κ:Kt) (k:List fD),(ro=none\/wN c=[])->zs2 C E G f N ro acs κ k->∀ds x tm H,G x->pD C φ f N c κ tm H=some x->Fin C E ds (.next ⟨⟨.code (yF c)::k,tm,RR f N ro ds⟩,acs,H⟩) x:=by
 intro c;induction c with
 | skip=>
  intro κ k _ hκ ds x tm H hG h;refine .step ?_
  rw[eI rfl];exact hκ.norm _ _ _ _ hG h
 | region id ops d=>
  intro κ k _ hκ ds x tm H hG h;refine .step ?_
  rw[eI rfl]
  cases d with
  | false=>exact zt3 hφ rfl rfl (fun tm H h=>hκ.norm _ _ _ _ hG h) _ _ _ h
  | true=>
   have h:(ob (ob (C.plans.get f) fun t=>t.get id) fun p=>aA (bN ops p) (iG C H ops N tm.cut p.olds (fun tm'=>dG C φ ops N tm.cut p.olds κ.norm p.stages tm' H) p.first tm.cut))=some x:=h
   rw[sA]at h;obtain⟨p,h1,h⟩:=h
   rw[vB]at h;obtain⟨tm',hl1,hl2⟩:=bX _ _ h.2
   show Fin C E ds (zvu id ops C k tm (RR f N ro ds) acs H) x
   unfold zvu;rw[h1,tA,h.1,hl1];exact zh7 hφ rfl rfl (fun tm H h=>hκ.norm _ _ _ _ hG h) _ _ _ hl2
 | seq a b iha ihb=>
  intro κ k hn hκ ds x tm H hG h;have hna:ro=none\/wN a=[]:=hn.imp id fun e=>(jX e).1
  have hnb:ro=none\/wN b=[]:=hn.imp id fun e=>(jX e).2
  refine zet hE (t1:=.code (yF (.seq a b))::k) rfl (t2:=.code (yF a)::.code (yF b)::k) (fun _ _=>rfl) ?_
  exact iha ⟨pD C φ f N b κ,κ.exit,κ.ret⟩ _ hna ⟨fun ds x tm H hG h=>ihb _ _ hnb hκ ds x tm H hG h,fun ds x i tm H hG h=>zew hE (fun _ e=>by cases e) (hκ.exit _ _ _ _ _ hG h),hκ.ret⟩ ds x tm H hG h
 | cond c a b iha ihb=>
  intro κ k hn hκ ds x tm H hG h;have hna:ro=none\/wN a=[]:=hn.imp id fun e=>(jX e).1
  have hnb:ro=none\/wN b=[]:=hn.imp id fun e=>(jX e).2
  have h:(ob (ob (ev c (.now tm)) zA.asBool) fun t=>Bool.rec (motive:=fun _=>sB) (pD C φ f N b κ tm H) (pD C φ f N a κ tm H) t)=some x:=h
  rw[sA]at h;obtain⟨t,h1,h⟩:=h
  refine .step ?_
  rw[eI rfl];show Fin C E ds (zvv c (yF a) (yF b) C k tm (RR f N ro ds) acs H) x
  unfold zvv;rw[h1]
  cases t with
  | true=>exact iha _ _ hna hκ _ _ _ _ hG h
  | false=>exact ihb _ _ hnb hκ _ _ _ _ hG h
 | block id c ih=>
  intro κ k hn hκ ds x tm H hG h;refine .step ?_
  rw[eI rfl];have nx:∀ds x tm H,G x->κ.norm tm H=some x->Fin C E ds (.next ⟨⟨.inBlock id::k,tm,RR f N ro ds⟩,acs,H⟩) x:=by
   intro ds x tm H hG h;refine .step ?_
   rw[eI rfl];exact hκ.norm _ _ _ _ hG h
  refine ih ⟨κ.norm,fun i tm H=>Bool.rec (motive:=fun _=>sB) (κ.exit i tm H) (κ.norm tm H) (Nat.beq id i),κ.ret⟩ _ hn ⟨nx,fun ds x i tm H hG h=>?_,hκ.ret⟩ ds x tm H hG h
  dsimp only at h
  cases hb:Nat.beq id i with
  | true=>
   rw[hb]at h;refine .step ?_
   rw[eI rfl];show Fin C E ds (zju i C (.inBlock id::k) tm (RR f N ro ds) acs H) x
   have e:kK i (.inBlock id::k)=some k:=by
    show(bif Nat.beq id i then some k else kK i k)=_
    rw[hb];rfl
   unfold zju;rw[e];exact hκ.norm _ _ _ _ hG h
  | false=>
   rw[hb]at h;exact zew hE (fun j e=>by cases e;exact hb) (hκ.exit _ _ _ _ _ hG h)
 | loop live c ih=>
  intro κ k hn hκ ds x tm H hG h;obtain⟨m,hm⟩:=zyz h
  have it:∀(m:Nat) ds x tm H,G x->(Nat.rec (motive:=fun _=>Tm->xA->sB) (fun _ _=>none) (fun _ r tm H=>pD C φ f N c ⟨r,κ.exit,κ.ret⟩ (keep live.kept tm) H) m:Tm->xA->sB) tm H=some x->Fin C E ds (.next ⟨⟨.inLoop (yF c)::k,tm,RR f N ro ds⟩,acs,H⟩) x:=by
   intro m;induction m with
   | zero=>intro ds x tm H _ h;cases h
   | succ m ihm=>
    intro ds x tm H hG h;refine zha (live:=live.kept) rfl (.step ?_)
    rw[eI rfl];exact ih ⟨_,κ.exit,κ.ret⟩ _ hn ⟨ihm,fun ds x i tm H hG h=>zew hE (fun _ e=>by cases e) (hκ.exit _ _ _ _ _ hG h),hκ.ret⟩ _ _ _ _ hG h
  exact zet hE (t1:=.code (yF (.loop live c))::k) rfl (t2:=.inLoop (yF c)::k) (fun _ _=>rfl) (it m _ _ tm H hG hm)
 | exit id=>exact fun κ k _ hκ ds x tm H hG h=>hκ.exit _ _ _ _ _ hG h
 | ret=>exact fun κ k _ hκ ds x tm H hG h=>hκ.ret _ _ _ _ hG h k
 | cut live c ih=>exact fun κ k hn hκ ds x tm H hG h=>zha rfl (ih κ k hn hκ _ _ _ _ hG h)
 | range i pl fo ps id ops c ih=>
  intro κ k hn hκ ds x tm H hG h;rcases hn with rfl | e
  ·exact zks hφ hE hκ h
  ·cases e
end
end
section
def endK (C:pA)(fn:Func)(tm:Tm)(H:xA):sB:=ob (gQ C H tm fn.results.toList) fun l=>some (qT l,H)
def z2b (C:pA)(fn:Func):Kt:=⟨endK C fn,fun _ _ _=>none,endK C fn⟩
def tW(ops:List Oper):Bool:=tC (fun o=>match o.op with | .move _=>zH o.guard | .assign _=>zH o.guard | _=>false) ops
def qW(c:nD):Option zp5:=match wN c with | [q]=>some q | _=>none
def rdOk (r:cL)(q:zp5):Prop:=r.assign=.region q.id q.ops false/\r.body=yF q.c/\r.params=q.ps.toList/\LoopState.tag r.state=0/\tW q.ops.toList=true/\wN q.c=[]
def zpx(r:cL):cL:=⟨.busy,r.pending,r.fn,r.n,r.tm,r.params,r.assign,r.body,r.defers⟩
def zix(b:Bool)(r:cL):cL:=⟨if b then .ready else .done,if b then none else some .ret,r.fn,r.n,r.tm,r.params,r.assign,r.body,r.defers⟩
def rdK:Kt:=⟨fun _ H=>some (.bool true,H),fun _ _ _=>none,fun _ H=>some (.bool false,H)⟩
def z5r(C:pA)(φ:Ora)(fn n:Nat)(q:zp5)(tm:Tm)(H:xA):sB:=pD C φ fn n (.seq (.region q.id q.ops false) q.c) rdK tm H
def zdl(C:pA)(A:Tr nD)(φ:Ora)(l:Nat)(args:List zA)(H:xA):sB:=
 ob (rI H l) fun r=>ob (jQ r.n r.params args r.tm) fun tm=>ob (A.get r.fn) fun c=>ob (qW c) fun q=>@ite _ (rdOk r q) (Classical.propDecidable _)
  (ob (z5r C φ r.fn r.n q tm (setBlk H l (.loop (zpx r)))) fun x=>ob (rI x.2 l) fun r2=>ob x.1.asBool fun b=>some (.bool b,setBlk x.2 l (.loop (zix b r2)))) none
def zvr (C:pA)(A:Tr nD)(φ:Ora)(f:Nat)(args:List zA)(H:xA):sB:=
 ob (A.get f) fun c=>ob (C.fns.get f) fun fn=>ob (lJ C f args false) fun g=>pD C φ f fn.ntmps c (z2b C fn) g.tm H
def zny(C:pA)(A:Tr nD)(φ:Ora):Ora
 | .func f=>zvr C A φ f
 | .yld l=>zdl C A φ l
def z6y (C:pA)(A:Tr nD):Nat->Ora
 | 0=>fun _ _ _=>none
 | n+1=>zny C A (z6y C A n)
def rD (C:pA)(A:Tr nD):Ora:=fun f args H=>lim fun n=>z6y C A n f args H
section
variable {C:pA}{A:Tr nD}
def fU{φ:Ora}{l:Nat}{args:List zA}{H:xA}{x:zA × xA}:zdl C A φ l args H=some x ↔ ∃r tm c q y r2 b,rI H l=some r/\jQ r.n r.params args r.tm=some tm/\A.get r.fn=some c/\qW c=some q/\rdOk r q/\z5r C φ r.fn r.n q tm (setBlk H l (.loop (zpx r)))=some y/\rI y.2 l=some r2/\y.1=.bool b/\x=(.bool b,setBlk y.2 l (.loop (zix b r2))):=by
 unfold zdl;simp only[sA];constructor
 ·rintro⟨r,h1,tm,h2,c,h3,q,h4,h⟩
  by_cases hq:rdOk r q
  ·rw[yab hq]at h
   simp only[sA]at h;obtain⟨y,h5,r2,h6,b,h7,h8⟩:=h
   exact⟨r,tm,c,q,y,r2,b,h1,h2,h3,h4,hq,h5,h6,rR.1 h7,by cases h8;rfl⟩
  ·rw[yaa hq]at h;cases h
 ·rintro⟨r,tm,c,q,y,r2,b,h1,h2,h3,h4,hq,h5,h6,h7,h8⟩
  refine⟨r,h1,tm,h2,c,h3,q,h4,?_⟩
  rw[yab hq];simp only[sA];exact⟨y,h5,r2,h6,b,rR.2 h7,by rw[h8]⟩
def zf8{φ φ':Ora}(h:OLe φ φ'):OLe (zny C A φ) (zny C A φ'):=by
 intro f args H x hx
 cases f with
 | yld l=>
  have hx:zdl C A φ l args H=some x:=hx
  obtain⟨r,tm,c,q,y,r2,b,h1,h2,h3,h4,hq,h5,h6,h7,h8⟩:=fU.1 hx
  exact fU.2 ⟨r,tm,c,q,y,r2,b,h1,h2,h3,h4,hq,yU h _ _ _ (KLe.refl _) _ _ _ h5,h6,h7,h8⟩
 | func f=>
 have hx:zvr C A φ f args H=some x:=hx
 show zvr C A φ' f args H=some x
 unfold zvr at hx ⊢
 rw[sA]at hx ⊢
 obtain⟨c,h1,hx⟩:=hx
 refine⟨c,h1,?_⟩
 rw[sA]at hx ⊢
 obtain⟨fn,h2,hx⟩:=hx
 refine⟨fn,h2,?_⟩
 rw[sA]at hx ⊢
 obtain⟨g,h3,hx⟩:=hx
 exact⟨g,h3,yU h c _ _ (KLe.refl _) _ _ _ hx⟩
def zyo:∀n,OLe (z6y C A n) (z6y C A (n+1)):=by
 intro n;induction n with
 | zero=>intro f args H x h;cases h
 | succ n ih=>exact zf8 ih
def cT{f:AFn}{args:List zA}{H:xA}{x:zA × xA}:rD C A f args H=some x ↔ ∃n,z6y C A n f args H=some x:=
 zcj fun n _ hy=>zyo n _ _ _ _ hy
def z0j:z57 (z6y C A) (rD C A):=⟨zyo,fun _ _ _ _ h=>cT.1 h⟩
def z7r(f:AFn)(args:List zA)(H:xA):rD C A f args H=zny C A (rD C A) f args H:=by
 have key:∀x,rD C A f args H=some x ↔ zny C A (rD C A) f args H=some x:=by
  intro x;constructor
  ·intro h
   obtain⟨n,hn⟩:=cT.1 h
   cases n with
   | zero=>cases hn
   | succ n=>exact zf8 (fun f a H y hy=>cT.2 ⟨n,hy⟩) _ _ _ _ hn
  ·intro h
   cases f with
   | yld l=>
    have h:zdl C A (rD C A) l args H=some x:=h
    obtain⟨r,tm,c,q,y,r2,b,h1,h2,h3,h4,hq,h5,h6,h7,h8⟩:=fU.1 h
    have sup:zza5 (fun _=>rdK) rdK:=⟨⟨fun _ _ _ _ h=>h,fun _ _ _ h=>⟨0,h⟩⟩,fun i=>⟨fun _ _ _ _ h=>h,fun _ _ _ h=>⟨0,h⟩⟩,⟨fun _ _ _ _ h=>h,fun _ _ _ h=>⟨0,h⟩⟩⟩
    obtain⟨n,hn⟩:=(zpm z0j _ _ _ sup).ex _ _ _ h5
    exact cT.2 ⟨n+1,fU.2 ⟨r,tm,c,q,y,r2,b,h1,h2,h3,h4,hq,hn,h6,h7,h8⟩⟩
   | func f=>
   have h:zvr C A (rD C A) f args H=some x:=h
   unfold zvr at h;rw[sA]at h;obtain⟨c,h1,h⟩:=h
   rw[sA]at h;obtain⟨fn,h2,h⟩:=h
   rw[sA]at h;obtain⟨g,h3,h⟩:=h
   have sup:zza5 (fun _=>z2b C fn) (z2b C fn):=⟨⟨fun _ _ _ _ h=>h,fun _ _ _ h=>⟨0,h⟩⟩,fun i=>⟨fun _ _ _ _ h=>h,fun _ _ _ h=>⟨0,h⟩⟩,⟨fun _ _ _ _ h=>h,fun _ _ _ h=>⟨0,h⟩⟩⟩
   obtain⟨n,hn⟩:=(zpm z0j c _ _ sup).ex _ _ _ h
   refine cT.2 ⟨n+1,?_⟩
   show zvr C A (z6y C A n) f args H=some x
   unfold zvr;rw[h1,tA,h2,tA,h3,tA];exact hn
 cases h:rD C A f args H with
 | some x=>exact((key x).1 h).symm
 | none=>
  cases h2:zny C A (rD C A) f args H with
  | none=>rfl
  | some x=>rw[(key x).2 h2]at h;cases h
def pU(C:pA)(A:Tr nD):Prop:=∀f c,A.get f=some c->∃fn,C.fns.get f=some fn/\fn.body=some (yF c)
def zpg{f:Nat}{args:List zA}{g:yC}(h:lJ C f args false=some g):∃fn c,C.fns.get f=some fn/\fn.body=some c/\g.todo=[.code c]/\g.R=⟨f,fn.ntmps,[],.run,false,none⟩:=by
 unfold lJ at h;simp only[sA,vB]at h;obtain⟨fn,h1,c,h2,k,h3,_,h⟩:=h
 cases h;exact⟨fn,c,h1,h2,rfl,rfl⟩
def cX{α β:Type}{f g:α->Option β}:∀(l:List α) {r:List β},(∀a b,f a=some b->g a=some b)->jF f l=some r->jF g l=some r:=by
 intro l;induction l with
 | nil=>intro r _ h;exact h
 | cons a l ih=>
  intro r hfg h;rw[nK,sA]at h ⊢
  obtain⟨b,h1,h⟩:=h
  refine⟨b,hfg _ _ h1,?_⟩
  rw[sA]at h ⊢
  obtain⟨s,h2,h⟩:=h
  exact⟨s,ih hfg h2,h⟩
def zza6(C:pA)(f:Nat)(acs:List yC):z7z:=fun ds o x=>∃fr',o=.next ⟨fr',acs,x.2⟩/\zjs C f ds fr' x.2 x.1
def zn5{H:xA}{tm:Tm}{r:Nat}{d e:Option (List bH)}(hr:H.t.get r=some (.deferred d)):∀(l:List ResultVar) vs,gQ C H tm l=some vs->gQ C (setBlk H r (.deferred e)) tm l=some vs:=by
 intro l vs h;refine cX l (fun rv v h=>?_) h
 cases rv with
 | tmp t=>exact h
 | cell a t=>
  have h:(ob (ob (tm.get a) zA.asPtr) fun p=>ob (C.tys.get t) fun ty=>ob (oD H p.1) fun c=>rN ty c.1 p.2)=some v:=h
  show(ob (ob (tm.get a) zA.asPtr) fun p=>ob (C.tys.get t) fun ty=>ob (oD (setBlk H r (.deferred e)) p.1) fun c=>rN ty c.1 p.2)=some v
  simp only[sA]at h ⊢
  obtain⟨p,hp,ty,ht,c,hc,hv⟩:=h
  refine⟨p,hp,ty,ht,c,?_,hv⟩
  unfold oD at hc ⊢
  rw[sA]at hc ⊢
  obtain⟨y,h1,h2⟩:=hc
  refine⟨y,?_,h2⟩
  show(H.t.set r (.deferred e)).get p.1=some y
  rw[Tr.get_set,yaa fun e=>by rw[e,hr]at h1;cases h1;cases h2]
  exact h1
def z40{f N:Nat}{acs:List yC}:zvl C (zza6 C f acs) (fun _=>True) f N none acs:=by
 refine⟨?_,fun _ _=>trivial,?_⟩
 ·rintro ds todo tm H x ⟨fr',h1,h2⟩
  cases h1;have:=h2.1
  cases this
 ·rintro _ r ds o x ⟨fr',rfl,h1,h2,h3,h4,fn,l,h5,h6,h7⟩ hd
  obtain⟨todo,tm,ffn,n,defers,mode,deferred,round⟩:=fr'
  simp only at h1 h2 h3 h4 h6
  subst h1 h2 h3 h4
  have hr:x.2.t.get r=some (.deferred (some [])):=by
   unfold wQ at hd;rw[vB,sA]at hd;obtain⟨_,y,e1,e2⟩:=hd
   cases y<;>cases e2
   exact e1
  refine⟨_,.step ?_,⟨⟨todo,tm,⟨ffn,n,ds,.returning,false,round⟩⟩,rfl,rfl,rfl,rfl,rfl,fn,l,h5,zn5 hr _ _ h6,h7⟩⟩
  show iJ C (zj8 C ⟨none,r,[]⟩ ds ⟨todo,tm,⟨ffn,n,⟨none,r,[]⟩::ds,.returning,false,round⟩⟩ acs x.2) _
  unfold zj8;simp only[hd,tA];exact .refl _
def zsi{f:Nat}{fn:Func}{acs:List yC}{x:zA × xA}{ds:List bH}(hf:C.fns.get f=some fn){tm:Tm}{H:xA}(h:endK C fn tm H=some x){todo:List fD}{N:Nat}
  (hs:pM C todo tm (RR f N none ds) acs H=.next ⟨zdh ⟨todo,tm,RR f N none ds⟩ .returning,acs,H⟩):Fin C (zza6 C f acs) ds (.next ⟨⟨todo,tm,RR f N none ds⟩,acs,H⟩) x:=by
 unfold endK at h;rw[sA]at h;obtain⟨l,h1,h2⟩:=h
 cases h2;refine .step ?_
 rw[eI rfl,hs];exact⟨_,.refl _,_,rfl,rfl,rfl,rfl,rfl,fn,l,hf,h1,rfl⟩
def RdG (l:Nat)(c:yC):zA × xA->Prop:=fun x=>∃b r2 c',x.1=.bool b/\rI x.2 l=some r2/\jG c (.bool b)=some c'
def RdEnd(l:Nat)(c:yC)(acs:List yC):z7z:=fun _ o x=>∃b r2 c',x.1=.bool b/\rI x.2 l=some r2/\jG c (.bool b)=some c'/\o=.next ⟨c',acs,setBlk x.2 l (.loop (zix b r2))⟩
def len_ne{α:Type}{a:α}{l:List α}:l≠a::l:=fun e=>by have:=congrArg List.length e;simp at this
def zvc{C:pA}{φ:Ora}{all:Array Oper}{n:Nat}{κn:Tm->xA->sB}:∀(l:List Oper) (tm:Tm) (H1:xA) (x:zA × xA),tW l=true->aJ C φ all n κn l tm H1=some x->∃tm',κn tm' H1=some x/\∀(k:List fD) (R:wI) (cs:List yC) (H:xA),R.n=n->pO C all k R cs l tm H=xGo k tm' R cs H:=by
 intro l;induction l with
 | nil=>intro tm H1 x _ h;exact⟨tm,h,fun _ _ _ _ _=>rfl⟩
 | cons o l ih=>
  intro tm H1 x hp h;have hp:(bif (match o.op with | .move _=>zH o.guard | .assign _=>zH o.guard | _=>false)then tW l else false)=true:=hp
  have hp1:(match o.op with | .move _=>zH o.guard | .assign _=>zH o.guard | _=>false)=true:=by
   cases hx:(match o.op with | .move _=>zH o.guard | .assign _=>zH o.guard | _=>false)with
   | true=>rfl
   | false=>rw[hx]at hp;cases hp
  rw[hp1]at hp;have hp:tW l=true:=hp
  have hmv:∃u,(∀H,(wF o.op).f C (.now tm) H=lv (iO u) C (.now tm) H)/\zH o.guard=true:=by
   cases ho:o.op<;>rw[ho]at hp1<;>first
    | (cases hp1;done)
    | exact⟨_,fun _=>rfl,hp1⟩
  obtain⟨u,hu,hg⟩:=hmv
  have hw:gE o.guard all tm=some true:=by
   cases hx:o.guard with
   | none=>rfl
   | some g=>rw[hx]at hg;cases hg
  rw[lT,hw,tA,yab rfl,hu]at h
  cases hv:ev u (.now tm)with
  | none=>
   have:lv (iO u) C (.now tm) H1=.fail:=by unfold lv iO;rw[hv]
   rw[this]at h;cases h
  | some v=>
   have hval:∀H,lv (iO u) C (.now tm) H=.val v H:=fun H=>by unfold lv iO;rw[hv]
   rw[hval]at h;simp only[oF,yL]at h;obtain⟨tm',h1,h2⟩:=ih _ _ _ hp h.2
   refine⟨tm',h1,fun k R cs H hR=>?_⟩
   rw[wZ,hw];simp only[];rw[hu,hval];simp only[iI.asVal];rw[hR];exact h2 k R cs H hR
def zkn{φ:Ora}(hφ:oQ C φ){l:Nat}{args:List zA}{H:xA}{x:zA × xA}(h:zdl C A φ l args H=some x) :
  ∃r tm,rI H l=some r/\jQ r.n r.params args r.tm=some tm/\∀c acs c',jG c x.1=some c'->iJ C (.next ⟨zn4 r l tm,c::acs,H⟩) (.next ⟨c',acs,x.2⟩):=by
 obtain⟨r,tm,cc,q,y,r2,b,h1,h2,h3,h4,⟨q1,q2,q3,q4,q5,q6⟩,h5,h6,h7,rfl⟩:=fU.1 h
 refine⟨r,tm,h1,h2,fun c acs c' hc=>?_⟩
 have h5:aJ C φ q.ops r.n (pD C φ r.fn r.n q.c rdK) q.ops.toList tm.cut (setBlk H l (.loop (zpx r)))=some y:=h5
 obtain⟨tm',h8,h9⟩:=zvc _ _ _ _ q5 h5
 unfold zn4;rw[q1,q2];refine .step ?_
 rw[eI rfl];show iJ C (pO C q.ops _ _ _ q.ops.toList tm.cut H) _
 rw[h9 _ _ _ _ rfl];refine .step ?_
 show iJ C (pM C (.beginRound::[.code (yF q.c)]) tm' ⟨r.fn,r.n,[],.run,false,some l⟩ (c::acs) H) _
 have hb:pM C (.beginRound::[.code (yF q.c)]) tm' ⟨r.fn,r.n,[],.run,false,some l⟩ (c::acs) H=.next ⟨⟨[.code (yF q.c)],tm',RR r.fn r.n (some l) []⟩,c::acs,setBlk H l (.loop (zpx r))⟩:=by
  show zjv C [.code (yF q.c)] tm' _ (c::acs) H=_
  unfold zjv;simp only[tA];rw[h1,tA,q4];rfl
 rw[hb];have hc:jG c (.bool b)=some c':=hc
 have hE:zvl C (RdEnd l c acs) (RdG l c) r.fn r.n (some l) (c::acs):=by
  refine⟨?_,fun e=>(by cases e),fun e=>(by cases e)⟩
  rintro ds todo tm H x ⟨b,r2,c',_,_,_,e⟩
  injection e with e
  injection e with _ e _
  exact len_ne e.symm
 have hK:zs2 C (RdEnd l c acs) (RdG l c) r.fn r.n (some l) (c::acs) rdK []:=by
  refine⟨?_,fun _ _ _ _ _ _ h=>(by cases h),?_⟩
  ·rintro ds x tm H ⟨b,r2,c',g1,g2,g3⟩ h
   cases h
   cases g1
   refine .step ?_
   rw[eI rfl];have:pM C [] tm (RR r.fn r.n (some l) ds) (c::acs) H=.next ⟨c',acs,setBlk H l (.loop (zix true r2))⟩:=by
    have e0:pM C [] tm (RR r.fn r.n (some l) ds) (c::acs) H=qN none C ⟨[],tm,RR r.fn r.n (some l) ds⟩ (c::acs) H:=rfl
    rw[e0];unfold qN;simp only[g2,tA];show bI (ob (jG c (.bool true)) _) 7=_
    rw[g3];rfl
   rw[this];exact⟨_,.refl _,true,r2,c',rfl,g2,g3,rfl⟩
  ·rintro ds x tm H ⟨b,r2,c',g1,g2,g3⟩ h k'
   cases h
   cases g1
   refine .step ?_
   rw[eI rfl];have:pM C (.code .ret::k') tm (RR r.fn r.n (some l) ds) (c::acs) H=.next ⟨c',acs,setBlk H l (.loop (zix false r2))⟩:=by
    have e0:pM C (.code .ret::k') tm (RR r.fn r.n (some l) ds) (c::acs) H=qN (some .ret) C ⟨.code .ret::k',tm,RR r.fn r.n (some l) ds⟩ (c::acs) H:=rfl
    rw[e0];unfold qN;simp only[g2,tA];show bI (ob (jG c (.bool false)) _) 7=_
    rw[g3];rfl
   rw[this];exact⟨_,.refl _,false,r2,c',rfl,g2,g3,rfl⟩
 obtain⟨o',k1,b',r2',c'',k2,k3,k4,rfl⟩:=zl9 hφ hE q.c rdK [] (Or.inr q6) hK [] y tm' _ ⟨b,r2,c',h7,h6,hc⟩ h8
 rw[h7]at k2;cases k2
 rw[h6]at k3;cases k3
 rw[hc]at k4;cases k4
 exact k1
def znx(hA:pU C A){φ:Ora}(hφ:oQ C φ):oQ C (zny C A φ):=by
 refine⟨fun f args H x h=>?_,fun l args H x h=>zkn hφ h⟩
 have h:zvr C A φ f args H=some x:=h
 unfold zvr at h;rw[sA]at h;obtain⟨c,h1,h⟩:=h
 rw[sA]at h;obtain⟨fn,h2,h⟩:=h
 rw[sA]at h;obtain⟨g,h3,h⟩:=h
 refine⟨g,h3,fun acs=>?_⟩
 obtain⟨fn',c',e1,e2,e3,e4⟩:=zpg h3
 rw[h2]at e1;cases e1
 obtain⟨fn',e5,e6⟩:=hA f c h1
 rw[h2]at e5;cases e5
 rw[e2]at e6;cases e6
 obtain⟨gt,gtm,gR⟩:=g
 simp only at e3 e4 h
 subst e3 e4
 have hK:zs2 C (zza6 C f acs) (fun _=>True) f fn.ntmps none acs (z2b C fn) []:=⟨fun ds x tm H _ h=>zsi h2 h rfl,fun ds x i tm H _ h=>(by cases h),fun ds x tm H _ h k'=>zsi h2 h rfl⟩
 obtain⟨o',k1,fr',rfl,k2⟩:=zl9 hφ z40 c (z2b C fn) [] (Or.inl rfl) hK [] x gtm H trivial h
 exact⟨fr',k1,k2⟩
def zgv(hA:pU C A):∀n,oQ C (z6y C A n):=by
 intro n;induction n with
 | zero=>exact⟨fun f args H x h=>(by cases h),fun l args H x h=>(by cases h)⟩
 | succ n ih=>exact znx hA ih
def z0k(hA:pU C A):oQ C (rD C A):=by
 refine⟨fun f args H x h=>?_,fun f args H x h=>?_⟩
 ·obtain⟨n,hn⟩:=cT.1 h
  exact(zgv hA n).fn _ _ _ _ hn
 ·obtain⟨n,hn⟩:=cT.1 h
  exact(zgv hA n).rd _ _ _ _ hn
def zmk{P:Program}{B N:Nat}{I:World->Prop}{μ:Mu}{w:World}(hS:Sim P C B N I)(hI:I w)(hA:pU C A){f:Nat}{args:List zA}{args':Array Value}{H H':xA}{v:zA}(hH:xB B N μ H w)(hl:wB μ args args'.toList)
  (h:rD C A (.func f) args H=some (v,H')):Calls P f args' w fun e w'=>∃v' μ',e=.returned v'/\μ.lw μ'/\uA μ' v v'/\xB B N μ' H' w'/\Below N w w':=by
 intro base;obtain⟨g,he,hr⟩:=(z0k hA).fn _ _ _ _ h
 obtain⟨fr',r1,h1,h2,h3,h4,fn,l,h5,h6,rfl⟩:=hr []
 have h0:qD P C B N μ base (lone (Frame.enter P f args' .normal) base w) w (.next ⟨g,[],H⟩):=zcf hS.fns hH hl he
 obtain⟨μ',b,cs,w',s1,s2,s3,s4,s5,s6⟩:=qD.reach hS hI r1 h0
 cases s6
 have hb:=s5.body
 rw[yaa (by rw[h1];simp[zfw.running])]at hb
 obtain⟨v',q1,q2⟩:=zgh hS.tys s4 hb h6
 have hm:=s5.rest.mode
 rw[h1]at hm;have hbm:b.mode=.returning:=by
  cases hb:b.mode with
  | returning=>rfl
  | _=>rw[hb]at hm;exact hm.elim
 have hd:=s5.rest.defers
 rw[h2]at hd;have hbd:b.defers=[]:=by
  generalize hx:b.defers=bd at hd
  cases hd;rfl
 have hk:=s5.rest.kind
 rw[h3]at hk;have hfn:b.fn=f:=by rw[s5.rest.fn,h4]
 exact⟨.returned v',w',b,⟨v',μ',rfl,s2,q2,s4,s3⟩,s1,hfn,hbm,hbd,hk,fn,by rw[hfn];exact(hS.fns _ _ h5).1,q1⟩
end
end
section
def oA(C:pA)(t:Nat)(H:xA)(v:zA):Option zA:=ob v.asPtr fun p=>ob (C.tys.get t) fun ty=>ob (oD H p.1) fun c=>rN ty c.1 p.2
def dK(C:pA)(s d:Nat)(H:xA)(a:zA):Option zA:=ob (C.tys.get s) fun s=>ob (C.tys.get d) fun d=>oM C s d a H
def uG(C:pA)(t:Nat)(H:xA)(a:zA)(l h:Option zA):Option zA:=ob (C.tys.get t) fun ty=>rK C H ty a l h
def jV(C:pA)(s f:Nat):Option Nat:=ob (C.tys.get s) fun ty=>ob ty.desc.asStruct fun fs=>ob (dC fs f) fun fd=>aA (!Nat.beq fd.2.2 0) (some fd.1)
def tB(C:pA)(s f:Nat)(v:zA):Option zA:=ob (jV C s f) fun k=>ob v.asPtr fun p=>some (.ptr p.1 (p.2+k))
def mB(C:pA)(t:Nat)(v i:zA):Option zA:=
 ob (C.tys.get t) fun ty=>ob i.asNat fun i=>
  match v.asSlice with
  | some s=>ob ty.desc.asSlice fun el=>ob (C.tys.get el) fun et=>aA (Nat.blt i s.2.2.1) (some (.ptr s.1 (s.2.1+i*et.size)))
  | none=>ob v.asPtr fun p=>ob ty.desc.asArr fun a=>ob (C.tys.get a.2) fun et=>aA (Nat.blt i a.1) (some (.ptr p.1 (p.2+i*et.size)))
def zqe(C:pA)(t i:Nat):Option Nat:=ob (C.tys.get t) fun ty=>ob ty.desc.asArr fun a=>ob (C.tys.get a.2) fun et=>aA (Nat.blt i a.1) (some (i*et.size))
def xJ(C:pA)(t:Nat)(v i:zA):Option zA:=
 ob (C.tys.get t) fun ty=>ob i.asNat fun i=>
  match v.asStr with
  | some s=>aA ty.desc.isString (ob (dC s i) fun b=>some (.int .u8 (.ofNat b)))
  | none=>ob v.asAgg fun l=>ob ty.desc.asArr fun a=>ob (C.tys.get a.2) fun et=>aA (Nat.blt i a.1) (nL C a.2 l (i*et.size))
def rB(i:Nat)(v:zA):Option zA:=ob v.asTup fun l=>dC l i
def zvo (C:pA)(t:Nat)(H:xA)(v:zA):Option zA:=ob (C.tys.get t) fun ty=>ob (zvq H ty v) fun n=>some (.int .i64 (.ofNat n))
def bB(v:zA):Option zA:=
 match v.asSlice with
 | some s=>some (.int .i64 (.ofNat s.2.2.1))
 | none=>aA (Nat.beq v.tag 5) (some (.int .i64 (.ofNat 0)))
def iC (v:zA):Option zA:=aA (Nat.beq v.tag 4||Nat.beq v.tag 9) (some v)
def znl(C:pA)(u:Nat)(ok:Bool)(v:zA):Option zA:=
 ob (C.tys.get u) fun ty=>aA (Nat.blt ty.desc.tag 9) (
  match v.asIface with
  | some p=>bif Nat.beq p.1 u then some (bif ok then .tup [p.2,.bool true]else p.2)else aA ok (some (.tup [jN ty,.bool false]))
  | none=>aA (Nat.beq v.tag 12&&ok) (some (.tup [jN ty,.bool false])))
def xH(C:pA)(t:Nat)(H:xA)(m k:zA)(ok:Bool):Option zA:=
 ob (C.tys.get t) fun ty=>ob ty.desc.asMap fun ke=>ob (C.tys.get ke.1) fun kty=>aA (aN C kty) (ob (C.tys.get ke.2) fun ety=>
  ob (tN H m) fun es=>aA (tM C kty k) (ob (yH k es) fun r=>
   match r with
   | some v=>some (bif ok then .tup [v,.bool true]else v)
   | none=>some (bif ok then .tup [jN ety,.bool false]else jN ety)))
def bG(C:pA)(t:Nat)(H:xA):Option (zA × xA):=ob (C.tys.get t) fun ty=>some (.ptr H.next 0,vE H ty.zero none)
def znk (v:zA)(H:xA):Option (zA × xA):=some (.ptr H.next 0,vE H v.cells none)
def zhv(C:pA)(t:Nat)(H:xA):Option (zA × xA):=ob (C.tys.get t) fun ty=>some (.ptr H.next 0,vE H ty.zero (fI C t))
def zs9(C:pA)(t:Nat)(v:zA)(H:xA):Option (zA × xA):=some (.ptr H.next 0,vE H v.cells (fI C t))
def gI(C:pA)(t len:Nat)(ps:List (Nat × zA))(H:xA):Option (zA × xA):=
 ob (C.tys.get t) fun ty=>ob ty.desc.asSlice fun el=>ob (C.tys.get el) fun et=>
  aA (Nat.blt (len*et.size) 1000000&&Nat.beq (yB et.zero) et.size) (ob (qM (fun i=>some (i*et.size,et.size)) ps (tI et.zero len)) fun l=>some (.slice H.next 0 len len,vE H l none))
def wD(C:pA)(t:Nat)(a v:zA)(H:xA):Option (zA × xA):=ob (C.tys.get t) fun ty=>ob a.asPtr fun p=>aA (Nat.beq (yB v.cells) ty.size) (ob (oI C H p.1 p.2 v.cells) fun H'=>some (gD,H'))
def tT(H:xA):Option (zA × xA):=some (.map H.next,newBlk H (.map []))
def aH(C:pA)(t:Nat)(m k v:zA)(H:xA):Option (zA × xA):=
 ob (C.tys.get t) fun ty=>ob ty.desc.asMap fun ke=>ob (C.tys.get ke.1) fun kty=>aA (aN C kty)
  (ob m.asMap fun b=>aA (!Nat.blt b C.base) (ob (gG H b) fun l=>aA (tM C kty k) (ob (nG k v l) fun l'=>some (gD,setBlk H b (.map l')))))
def qL(C:pA)(t:Nat)(l c:zA)(H:xA):Option (zA × xA):=
 ob (C.tys.get t) fun ty=>ob ty.desc.asSlice fun el=>ob (C.tys.get el) fun et=>ob l.asNat fun l=>ob c.asNat fun c=>
  aA (Nat.ble l c&&Nat.blt c 1000000&&Nat.blt (c*et.bytes) 1000000000&&Nat.beq (yB et.zero) et.size) (some (.slice H.next 0 l c,vE H (tI et.zero c) none))
def zht(C:pA)(s d:Nat)(v:zA)(H:xA):Option (zA × xA):=
 ob (C.tys.get s) fun _=>ob (C.tys.get d) fun ty=>ob ty.desc.asSlice fun el=>ob (C.tys.get el) fun et=>ob et.desc.asInt fun k=>aA (kEq k .u8) (ob v.asStr fun l=>
  some (.slice H.next 0 (yB l) (yB l),vE H (tP l) (some (.ty el))))
def cG(C:pA)(t u:Nat)(a b:zA)(H:xA):Option (zA × xA):=ob (C.tys.get t) fun ty=>ob (C.tys.get u) fun uty=>aA (!Nat.beq uty.desc.tag 1) (sQ C H ty a b)
def vNext(v:zA)(H:xA):Option (zA × xA):=ob v.asPtr fun p=>aA (Nat.beq p.2 0) (ob (ob (H.t.get p.1) rA.asIter) fun x=>
 match dC x.1 x.2 with
 | some c=>aA (Nat.blt c 128) (some (.tup [.bool true,.int .i64 (.ofNat x.2),.int .i32 (.ofNat c)],setBlk H p.1 (.siter x.1 (x.2+1))))
 | none=>some (.tup [.bool false],H))
structure uO where
 b:Nat->Bool
 i:Nat->Int
 s:Nat->List Nat
 v:Nat->zA
inductive T where
 | ret (v:zA)
 | fail
 | ite (b:Bool) (x y:T)
 | opt (x:Option zA) (K:zA->T)
 | light (x:Tr rA->Option zA) (K:zA->T)
 | heavy (x:xA->Option (zA × xA)) (K:zA->T)
 | call (f:Nat) (args:List zA) (K:zA->T)
 | callv (f:zA) (args:List zA) (K:zA->T)
 | asI (k:IntKind) (v:zA) (K:Int->T)
 | asB (v:zA) (K:Bool->T)
 | asS (v:zA) (K:List Nat->T)
 | asG (zs:List zA) (v:zA) (K:uO->T)
 | jump (i:Nat) (vals:List zA)
 | range (np:Nat->Bool) (f:zA) (i m:Nat) (vals:List zA) (K R:T)
def yo:Nat:=1099511627776
def zyp(z:zA)(X:uO)(j:Nat):zA:=
 match z with
 | .bool _=>.bool (X.b j)
 | .int k _=>.int k (X.i j)
 | .str _=>.str (X.s j)
 | _=>X.v j
def uN(zs:List zA)(X:uO):Nat->List zA:=
 List.rec (motive:=fun _=>Nat->List zA) (fun _=>[]) (fun z _ g j=>zyp z X j::g (j+1)) zs
def sP(l:List zA)(j:Nat):Bool:=match l[j]? with | some (.bool b)=>b | _=>false
def zz2(l:List zA)(j:Nat):Int:=match l[j]? with | some (.int _ n)=>n | _=>0
def zxi(l:List zA)(j:Nat):List Nat:=match l[j]? with | some (.str s)=>s | _=>[]
def zfh(l:List zA)(j:Nat):zA:=match l[j]? with | some v=>v | _=>.nilptr
def cellsOf(l:List zA):uO:=⟨sP l,zz2 l,zxi l,zfh l⟩
def zsd (z a:zA):Bool:=
 match z with
 | .bool _=>Nat.beq a.tag 0
 | .int k _=>match a.asIntK with | some p=>kEq p.1 k | none=>false
 | .str _=>Nat.beq a.tag 2
 | .nilptr=>Nat.beq a.tag 3||Nat.beq a.tag 4
 | .nilslice=>Nat.beq a.tag 5||Nat.beq a.tag 6
 | .nilmap=>Nat.beq a.tag 7||Nat.beq a.tag 8
 | .nilfunc=>Nat.beq a.tag 10||Nat.beq a.tag 9
 | .niliface=>Nat.beq a.tag 12||Nat.beq a.tag 11
 | _=>false
def lK:List zA->List zA->Bool
 | [],[]=>true
 | z::zs,a::l=>zsd z a&&lK zs l
 | _,_=>false
structure eF where
 tm:Tm
 ad:List (Nat × Nat × Nat)
 lo:Tr (List zA)
 lit:List Nat
abbrev KT:=eF->T
structure KtT where
 norm:KT
 exit:Nat->KT
 ret:KT
def aB {α:Type}(x:Option α)(K:α->T):T:=Option.rec (motive:=fun _=>T) .fail K x
def gdT (b:Bool)(K:T):T:=Bool.rec (motive:=fun _=>T) .fail K b
def gH(i:Nat)(l:List (Nat × Nat × Nat)):Option (Nat × Nat):=
 List.rec (motive:=fun _=>Option (Nat × Nat)) none (fun a _ g=>Bool.rec (motive:=fun _=>Option (Nat × Nat)) g (some a.2) (Nat.beq i a.1)) l
inductive uK where
 | now (ad:List (Nat × Nat × Nat))
 | mixed (ad old:List (Nat × Nat × Nat)) (olds names:List Nat)
def tAd (e:uK)(t:Nat):Option (Nat × Nat):=
 match e with
 | .now ad=>gH t ad
 | .mixed ad old olds names=>bif aE t names then gH t (bif aE t olds then old else ad)else none
def xAd (e:uK)(x:Operand):Option (Nat × Nat):=
 match x with
 | .tmp t=>tAd e t
 | _=>none
def H0A:xA:=⟨0,.leaf⟩
def kG (C:pA)(t:Nat):Nat:=
 match C.tys.get t with
 | some ty=>ty.desc.tag
 | none=>10
def zi2(x:Operand):Bool:=
 match x with
 | .const _=>true
 | _=>false
def z1a(x:Operand):Bool:=
 match x with
 | .const (.int _ n) => !iA n 0
 | _=>false
def binDir(C:pA)(op:BinOp)(t:Nat)(y:Operand):Bool:=
 match op with
 | .add=>Nat.beq (kG C t) 1
 | .sub=>true
 | .mul=>true
 | .quo=>z1a y
 | .rem=>z1a y
 | .shl=>zi2 y
 | .shr=>zi2 y
 | .eql=>Nat.ble (kG C t) 2
 | .neq=>Nat.ble (kG C t) 2
 | .lss=>Nat.ble (kG C t) 2
 | .leq=>Nat.ble (kG C t) 2
 | .gtr=>Nat.ble (kG C t) 2
 | .geq=>Nat.ble (kG C t) 2
 | _=>false
structure KOp where
 K:zA->T
 Kd:zA->T
 KA:Nat->Nat->T
def zql (C:pA)(op:Op)(e:gC)(k:KOp):T:=aB ((kE op).f C e H0A) k.Kd
def z2t(C:pA)(op:Op)(x:Operand)(e:gC)(ae:uK)(k:KOp):T:=
 match xAd ae x with
 | some p=>k.KA p.1 p.2
 | none=>zql C op e k
def tLoad(C:pA)(t:Nat)(a:Operand)(e:gC)(ae:uK)(lo:Tr (List zA))(k:KOp):T:=
 match xAd ae a with
 | some p=>aB (lo.get p.1) fun l=>aB (C.tys.get t) fun ty=>gdT (Nat.ble (p.2+ty.size) (yB l)) (aB (nL C t l p.2) k.Kd)
 | none=>aB (ev a e) fun v=>.light (fun m=>oA C t ⟨0,m⟩ v) k.K
def zf7(C:pA)(s:Nat)(x:Operand)(f:Nat)(e:gC)(ae:uK)(k:KOp):T:=
 match xAd ae x with
 | some p=>aB (jV C s f) fun o=>k.KA p.1 (p.2+o)
 | none=>aB (ev x e) fun v=>.opt (tB C s f v) k.K
def zf6(C:pA)(t:Nat)(x i:Operand)(e:gC)(ae:uK)(k:KOp):T:=
 match xAd ae x with
 | some p=>aB (ev i e) fun i=>aB i.asNat fun i=>aB (zqe C t i) fun o=>k.KA p.1 (p.2+o)
 | none=>aB (ev x e) fun v=>aB (ev i e) fun i=>.opt (mB C t v i) k.K
def tNil (x:Operand)(e:gC)(ae:uK)(k:KOp):T:=
 match xAd ae x with
 | some p=>k.KA p.1 p.2
 | none=>aB (ev x e) fun v=>.opt (iC v) k.K
def tLen (C:pA)(c:Call)(e:gC)(k:KOp):T:=
 aB (dC c.argTypes.toList 0) fun t=>aB (dC c.args.toList 0) fun x=>aB (ev x e) fun v=>
  bif Nat.beq (kG C t) 4 then .opt (bB v) k.K else bif Nat.beq (kG C t) 6 then .light (fun m=>zvo C t ⟨0,m⟩ v) k.K else aB (zvo C t H0A v) k.Kd
def tBin (C:pA)(op:BinOp)(t:Nat)(x y:Operand)(u:Nat)(e:gC)(k:KOp):T:=
 bif binDir C op t y then zql C (.binOp op t x y u) e k else aB (ev x e) fun a=>aB (ev y e) fun b=>.opt ((binA op).f C t x y a b) k.K
def z8j(C:pA)(s d:Nat)(x:Operand)(e:gC)(k:KOp):T:=
 bif Nat.beq (kG C d) 2 then(bif Nat.beq (kG C s) 2 then zql C (.convert s d x) e k else aB (ev x e) fun v=>.light (fun m=>dK C s d ⟨0,m⟩ v) k.K)else bif Nat.beq (kG C d) 1 then zql C (.convert s d x) e k else .fail
def z6h(C:pA)(t:Nat)(x:Operand)(lo hi:Option Operand)(e:gC)(k:KOp):T:=
 aB (ev x e) fun a=>aB (evo lo e) fun l=>aB (evo hi e) fun h=>
  bif Nat.beq (kG C t) 2 then .opt (uG C t H0A a l h) k.K else .light (fun m=>uG C t ⟨0,m⟩ a l h) k.K
def fV(C:pA)(c:Call)(e:gC)(k:KOp):Builtin->T
 | .len=>tLen C c e k
 | .max=>zql C (.call c) e k
 | .min=>zql C (.call c) e k
 | _=>.fail
def zhe(ty:pC)(v:zA):List zA:=bif ty.desc.isAgg then v.cells else [v]
def z49(cells:List zA)(off size:Nat)(vc:List zA):Option (List zA):=
 aA (Nat.beq (yB vc) size&&Nat.ble (off+yB vc) (yB cells)) (some (tD (zfs cells off) (tD vc (vM cells (off+yB vc)))))
def zya(C:pA)(tyAt:Nat->Option Nat):List (Nat × zA)->Option (List (Nat × zA × List zA) × List zA):=
 List.rec (motive:=fun _=>Option (List (Nat × zA × List zA) × List zA)) (some ([],[]))
  (fun p _ g=>ob (tyAt p.1) fun t=>ob (C.tys.get t) fun ty=>ob g fun r=>some (bif ty.desc.isAgg then((p.1,p.2,p.2.cells)::r.1,r.2)else((p.1,p.2,[p.2])::r.1,p.2::r.2)))
def z5a(place:Nat->Option (Nat × Nat)):List (Nat × zA × List zA)->List zA->Option (List zA):=
 List.rec (motive:=fun _=>List zA->Option (List zA)) (fun cells=>some cells) (fun p _ g cells=>ob (place p.1) fun q=>ob (z49 cells q.1 q.2 p.2.2) fun cells=>g cells)
def tyAtS(ty:pC)(i:Nat):Option Nat:=
 match ty.desc.asStruct with
 | some fs=>ob (dC fs i) fun x=>some x.2.1
 | none=>ob ty.desc.asArr fun a=>some a.2
def zgr(C:pA)(ty:pC)(i:Nat):Option (Nat × Nat):=
 match ty.desc.asStruct with
 | some fs=>ob (dC fs i) fun x=>some (x.1,x.2.2)
 | none=>ob ty.desc.asArr fun a=>ob (C.tys.get a.2) fun et=>some (i*et.size,et.size)
def zmr(C:pA)(ty:pC):Bool:=
 match ty.desc.asStruct with
 | some _=>true
 | none=>match ty.desc.asArr with
  | some a=>(match C.tys.get a.2 with | some _=>true | none=>false)
  | none=>false
def z6j(C:pA)(t:Nat)(ps:Array (Nat × Operand))(e:gC)(k:KOp):T:=
 aB (C.tys.get t) fun ty=>gdT (zmr C ty) <| aB (evp ps.toList e) fun vs=>aB (zya C (tyAtS ty) vs) fun q=>aB (z5a (zgr C ty) q.1 ty.zero) fun l=>.ite (tC zA.one q.2) (k.Kd (.agg l)) .fail
def tL (C:pA)(op:Op)(e:gC)(ae:uK)(lo:Tr (List zA))(k:KOp):T:=
 match op with
 | .move x=>z2t C (.move x) x e ae k
 | .assign x=>z2t C (.assign x) x e ae k
 | .load t a=>tLoad C t a e ae lo k
 | .fieldAddr s x f=>zf7 C s x f e ae k
 | .indexAddr t x i=>zf6 C t x i e ae k
 | .nilCheck x=>tNil x e ae k
 | .binOp op t x y u=>tBin C op t x y u e k
 | .convert s d x=>z8j C s d x e k
 | .slice t x lo hi none=>z6h C t x lo hi e k
 | .index t x i=>bif zi2 i&&Nat.beq (kG C t) 5 then zql C (.index t x i) e k else aB (ev x e) fun v=>aB (ev i e) fun i=>.opt (xJ C t v i) k.K
 | .extract t i=>aB (ev t e) fun v=>.opt (rB i v) k.K
 | .typeAssert x _ u ok=>aB (ev x e) fun v=>.opt (znl C u ok v) k.K
 | .lookup t x i ok=>aB (ev x e) fun m=>aB (ev i e) fun key=>.light (fun h=>xH C t ⟨0,h⟩ m key ok) k.K
 | .call c=>match c.callee with
  | .builtin b=>fV C c e k b
  | _=>.fail
 | .pick c a b=>zql C (.pick c a b) e k
 | .unOp o t x=>(match o with
  | .xor=>aB (ev x e) fun v=>.opt (znn v) k.K
  | o=>zql C (.unOp o t x) e k)
 | .makeInterface t x=>zql C (.makeInterface t x) e k
 | .makeFunc fn a b=>zql C (.makeFunc fn a b) e k
 | .field t x f=>zql C (.field t x f) e k
 | .build t ps=>z6j C t ps e k
 | _=>.fail
def laOf (la:List Nat)(dst:Option Nat):Option Nat:=
 match dst with
 | some d=>bif aE d la then some d else none
 | none=>none
structure KLo where
 new:Nat->List zA->T
 set:Nat->List zA->T
def z6i(f:Operand)(args:Array Operand)(e:gC)(k:KOp):T:=
 match f with
 | .func g=>gdT (Nat.blt g yo) (aB (evs args.toList e) fun aq=>.call g aq k.K)
 | f=>aB (ev f e) fun fv=>aB (evs args.toList e) fun aq=>.callv fv aq k.K
def two' (c:Call)(e:gC)(K:zA->zA->T):T:=aB (two c e) fun p=>K p.1 p.2
def zkc(C:pA)(c:Call)(e:gC)(k:KOp):Builtin->T
 | .append=>aB (dC c.argTypes.toList 0) fun t=>aB (dC c.argTypes.toList 1) fun u=>two' c e fun a b=>.heavy (cG C t u a b) k.K
 | b=>fV C c e k b
def z6g(C:pA)(t:Nat)(a x:Operand)(e:gC)(ae:uK)(lo:Tr (List zA))(k:KOp)(kl:KLo):T:=
 match xAd ae a with
 | some p=>aB (ev x e) fun v=>aB (C.tys.get t) fun ty=>aB (lo.get p.1) fun l=>aB (z49 l p.2 ty.size (zhe ty v)) fun l'=>.ite (tC zA.one (zhe ty v)) (kl.set p.1 l') .fail
 | none=>aB (ev a e) fun a=>aB (ev x e) fun v=>.heavy (wD C t a v) k.Kd
def tH (C:pA)(la:List Nat)(dst:Option Nat)(op:Op)(e:gC)(ae:uK)(lo:Tr (List zA))(k:KOp)(kl:KLo):T:=
 match op with
 | .box t x=>bif zH (fI C t)then aB (ev x e) fun v=>(match laOf la dst with
  | some d=>aB (C.tys.get t) fun ty=>bif ty.desc.isAgg then kl.new d v.cells else .ite (zA.one v) (kl.new d [v]) .fail
  | none=>.heavy (znk v) k.K)else aB (ev x e) fun v=>.heavy (zs9 C t v) k.K
 | .alloc t=>bif zH (fI C t)then(match laOf la dst with
  | some d=>aB (C.tys.get t) fun ty=>kl.new d ty.zero
  | none=>.heavy (bG C t) k.K)else .heavy (zhv C t) k.K
 | .store t a x=>z6g C t a x e ae lo k kl
 | .buildSlice t len ps=>aB (evp ps.toList e) fun ps=>.heavy (gI C t len ps) k.K
 | .makeMap _ none=>.heavy tT k.K
 | .insert t m key x=>aB (ev m e) fun m=>aB (ev key e) fun key=>aB (ev x e) fun v=>.heavy (aH C t m key v) k.Kd
 | .mapUpdate t m key x=>aB (ev m e) fun m=>aB (ev key e) fun key=>aB (ev x e) fun v=>.heavy (aH C t m key v) k.Kd
 | .makeSlice t l c=>aB (ev l e) fun l=>aB (ev c e) fun c=>.heavy (qL C t l c) k.K
 | .convert s d x=>bif Nat.beq (kG C d) 4 then aB (ev x e) fun v=>.heavy (zht C s d v) k.K else z8j C s d x e k
 | .call c=>match c.callee with
  | .value f=>z6i f c.args e k
  | .builtin b=>zkc C c e k b
  | _=>.fail
 | op=>tL C op e ae lo k
def rmNat(i:Nat)(l:List Nat):List Nat:=List.rec (motive:=fun _=>List Nat) [] (fun j _ g=>bif Nat.beq i j then g else j::g) l
def zqj (n:Nat)(dst:Option Nat)(v:zA)(lt:Bool)(st:eF)(κ:KT):T:=
 match dst with
 | none=>κ st
 | some d=>bif Nat.blt d n then gdT (zH (gH d st.ad)) (κ ⟨st.tm.set d v,st.ad,st.lo,bif lt then d::rmNat d st.lit else rmNat d st.lit⟩)else κ st
def z8g(n:Nat)(dst:Option Nat)(d off:Nat)(st:eF)(κ:KT):T:=
 aB dst fun i=>gdT (Nat.blt i n) (gdT (zH (st.tm.get i)) (κ ⟨st.tm,(i,d,off)::st.ad,st.lo,st.lit⟩))
def z6z(d:Nat)(ad:List (Nat × Nat × Nat)):Bool:=tC (fun a=>bif Nat.beq a.2.1 d then Nat.beq a.1 d else true) ad
def tNew (n:Nat)(d:Nat)(l:List zA)(st:eF)(κ:KT):T:=
 gdT (Nat.blt d n) (gdT (zH (st.tm.get d)) (gdT (z6z d st.ad) (κ ⟨st.tm,(d,d,0)::st.ad,st.lo.set d l,st.lit⟩)))
def fitB (C:pA)(t:Nat)(v:zA):Bool:=
 match C.tys.get t with
 | some ty=>(match ty.desc with
  | .bool=>Nat.beq v.tag 0
  | .int k=>(match v.asIntK with | some p=>kEq p.1 k | none=>false)
  | .string=>Nat.beq v.tag 2
  | _=>true)
 | none=>true
def zws(C:pA)(t:Nat)(v:zA)(K:zA->T):T:=
 match C.tys.get t with
 | some ty=>(match ty.desc with
  | .bool=>.asB v fun b=>K (.bool b)
  | .int k=>.asI k v fun n=>K (.int k n)
  | .string=>.asS v fun s=>K (.str s)
  | .struct _=>bif Nat.ble (yB ty.zero) 40 then .asG ty.zero v fun X=>K (.agg (uN ty.zero X 0))else K v
  | .arr _ _=>bif Nat.ble (yB ty.zero) 40 then .asG ty.zero v fun X=>K (.agg (uN ty.zero X 0))else K v
  | _=>K v)
 | none=>K v
def z61 (x:Operand)(lit:List Nat):Bool:=
 match x with
 | .tmp t=>lit.contains t
 | .const _=>true
 | _=>false
def z36(op:Op)(e:gC)(lit:List Nat):Bool:=
 match op with
 | .move x=>z61 x lit
 | .assign x=>z61 x lit
 | .unOp _ _ x=>z61 x lit
 | .pick c a b=>bif z61 c lit then(match ob (ev c e) zA.asBool with
  | some w=>bif w then z61 a lit else z61 b lit
  | none=>false)else false
 | _=>false
def zi1(all:List Oper)(dst:Option Nat)(l:List Oper):Bool:=
 match dst with
 | none=>false
 | some d => !tC (fun o=>match o.guard with
  | some g=>(match ob (dC all g.1) fun p=>p.dst with | some i => !Nat.beq i d | none=>true)
  | none=>true) l
def zf5(g lt:Bool)(v:zA)(K:zA->Bool->T):T:=
 bif g then(bif lt then K v true else aB v.asBool fun b=>.ite b (K (.bool true) true) (K (.bool false) true))else K v lt
def kop (C:pA)(all:Array Oper)(n:Nat)(o:Oper)(e:gC)(st:eF)(κ:KT):KOp:=
 ⟨fun v=>zws C o.type v fun v=>zf5 (zi1 all.toList o.dst all.toList) (z36 o.op e st.lit) v fun v lt=>zqj n o.dst v lt st κ,
  fun v=>gdT (fitB C o.type v) (zf5 (zi1 all.toList o.dst all.toList) (z36 o.op e st.lit) v fun v lt=>zqj n o.dst v lt st κ),
  fun d off=>gdT (!Nat.ble (kG C o.type) 2) (z8g n o.dst d off st κ)⟩
def klo (C:pA)(n:Nat)(o:Oper)(st:eF)(κ:KT):KLo:=
 ⟨fun d l=>gdT (!Nat.ble (kG C o.type) 2) (tNew n d l st κ),
  fun d l=>gdT (fitB C o.type gD) (zqj n o.dst gD false ⟨st.tm,st.ad,st.lo.set d l,st.lit⟩ κ)⟩
def gC.adCut(k:Nat)(l:List (Nat × Nat × Nat)):List (Nat × Nat × Nat):=l.filter fun a=>Nat.blt a.1 k
def eF.cut(st:eF):eF:=⟨st.tm.cut,gC.adCut st.tm.k st.ad,st.lo,st.lit⟩
def tops (C:pA)(la:List Nat)(all:Array Oper)(n:Nat)(κ:KT)(l:List Oper):KT:=
 List.rec (motive:=fun _=>KT) κ
  (fun o _ g st=>aB (gE o.guard all st.tm) fun w=>Bool.rec (motive:=fun _=>T) (zqj n o.dst gD false st g)
   (tH C la o.dst o.op (.now st.tm) (.now st.ad) st.lo (kop C all n o (.now st.tm) st g) (klo C n o st g)) w) l
def zor (st old:eF)(olds:List Nat)(op:Op):gC:=.mixed st.tm old.tm olds (xG op)
def z32 (st old:eF)(olds:List Nat)(op:Op):uK:=.mixed st.ad old.ad olds (xG op)
def bM(C:pA)(all:Array Oper)(n:Nat)(old:eF)(olds:List (Nat × List Nat))(κ:KT)(l:List Nat):KT:=
 List.rec (motive:=fun _=>KT) κ
  (fun i _ g st=>aB (dC all.toList i) fun o=>aB (gE o.guard all st.tm) fun w=>Bool.rec (motive:=fun _=>T) (zqj n o.dst gD false st g)
   (tL C o.op (zor st old (aD i olds) o.op) (z32 st old (aD i olds) o.op) st.lo (kop C all n o (zor st old (aD i olds) o.op) st g)) w) l
def mP(C:pA)(all:Array Oper)(old:eF)(olds:List (Nat × List Nat))(st:eF)(k:T)(l:List Nat):T:=
 List.rec (motive:=fun _=>T) k
  (fun i _ g=>aB (dC all.toList i) fun o=>aB o.dst fun d=>aB (gE o.guard all st.tm) fun w=>Bool.rec (motive:=fun _=>T) g
   (aB (st.tm.get d) fun u=>gdT (fitB C o.type u) (tL C o.op (zor st old (aD i olds) o.op) (z32 st old (aD i olds) o.op) st.lo ⟨fun v=>.ite (same 10 v u) g .fail,fun v=>.ite (same 10 v u) g .fail,fun _ _=>.fail⟩)) w) l
def nP(C:pA)(es:List Eff)(H:xA):Option (zA × xA):=ob (yQ C es H) fun H'=>some (gD,H')
def tEff (op:Op)(e:gC)(ae:uK):Option Eff:=
 match op with
 | .store t a x=>(match xAd ae a with
  | some _=>none
  | none=>wP (.store t a x) e)
 | op=>wP op e
def z2v(all:Array Oper)(old:eF)(olds:List (Nat × List Nat))(st:eF)(l:List Nat):Option (List Eff):=
 jF (fun i=>ob (dC all.toList i) fun o=>ob (gE o.guard all st.tm) fun w=>aA w (tEff o.op (zor st old (aD i olds) o.op) (z32 st old (aD i olds) o.op))) l
def fR(C:pA)(all:Array Oper)(n:Nat)(old:eF)(olds:List (Nat × List Nat))(κ:KT)(l:List pE):KT:=
 List.rec (motive:=fun _=>KT) κ
  (fun s _ g st=>Bool.rec (motive:=fun _=>T) (aB (dC all.toList (hvI all s.heavy)) fun o=>aB (sO C all s.heavy o st.tm) fun w=>
   (fun cont:KT=>Bool.rec (motive:=fun _=>T) (zqj n o.dst gD false st cont)
    (tH C [] o.dst o.op (zor st old (aD (hvI all s.heavy) olds) o.op) (z32 st old (aD (hvI all s.heavy) olds) o.op) st.lo (kop C all n o (zor st old (aD (hvI all s.heavy) olds) o.op) st cont) (klo C n o st cont)) w)
   (fun st'=>mP C all old olds st' (bM C all n old olds g s.lights st') s.again))
   (gdT (eP C all) (aB (z2v all old olds st s.again) fun es=>.heavy (nP C es) fun _=>bM C all n old olds g s.lights st)) (zO all s)) l
def zwi(C:pA)(la:List Nat)(fn n:Nat)(κ:KT)(id:Nat)(all:Array Oper)(draw:Bool):KT:=
 Bool.rec (motive:=fun _=>KT) (fun st=>tops C la all n κ all.toList st.cut)
  (fun st=>aB (ob (C.plans.get fn) fun t=>t.get id) fun p=>gdT (bN all p) (bM C all n st.cut p.olds (fR C all n st.cut p.olds κ p.stages) p.first st.cut)) draw
def zf0(st:eF)(ll:List (Nat × Nat)):Option (List zA):=
 List.rec (motive:=fun _=>Option (List zA)) (some []) (fun p _ g=>ob (gH p.1 st.ad) fun a=>aA (Nat.beq a.1 p.1&&Nat.beq a.2 0) (ob (st.lo.get p.1) fun l=>aA (Nat.beq (yB l) p.2) (ob g fun r=>some (tD l r)))) ll
def zfz(p:PI)(st:eF):Option (List zA):=ob (jF (fun i=>st.tm.get i) p.pl) fun a=>ob (zf0 st p.ll) fun b=>some (tD a b)
def z2c (ll:List (Nat × Nat)):List zA->Tr (List zA):=
 List.rec (motive:=fun _=>List zA->Tr (List zA)) (fun _=>.leaf) (fun p _ g vals=>(g (vM vals p.2)).set p.1 (zfs vals p.2)) ll
def zm7 (pl:List Nat):List zA->Tr zA:=
 List.rec (motive:=fun _=>List zA->Tr zA) (fun _=>.leaf) (fun i _ g vals=>List.rec (motive:=fun _=>Tr zA) .leaf (fun v vals _=>(g vals).set i v) vals) pl
def stAd (ll:List (Nat × Nat)):List (Nat × Nat × Nat):=List.rec (motive:=fun _=>List (Nat × Nat × Nat)) [] (fun p _ g=>(p.1,p.1,0)::g) ll
def zvp (k:Nat)(p:PI)(vals:List zA):eF:=⟨⟨k,zm7 p.pl vals,[]⟩,stAd p.ll,z2c p.ll (vM vals (yB p.pl)),[]⟩
def npC (C:pA)(g:Nat):Bool:=zH (C.prims.get g)
def z6u(pl:List Nat)(st:eF):Option (List zA):=jF (fun i=>st.tm.get i) pl
def zx0(k n:Nat)(pl ps:List Nat)(ops:List Oper)(c:nD):Bool:=
 tC (fun p=>Nat.blt p k&&Nat.blt p n && !aE p pl) ps&&Nat.ble (yB ps) 1&&tW ops&&(match wN c with | []=>true | _=>false)
def rdT:KtT:=⟨fun _=>.ret (.bool true),fun _ _=>.fail,fun _=>.ret (.bool false)⟩
def zxz(C:pA)(n:Nat)(κ:KtT)(i:Nat)(pl:List Nat)(f:Operand)(ps:List Nat)(ops:List Oper)(c:nD)(st:eF):T:=
 gdT (zx0 st.tm.k n pl ps ops c) (aB (z6u pl st) fun vals=>aB (ev f (.now st.tm)) fun fv=>.range (npC C) fv i (yB ps) vals (κ.norm st) (κ.ret st))
def znq (C:pA)(la:List Nat)(fn n:Nat)(c:nD):KtT->KT:=
 nD.rec (motive:=fun _=>KtT->KT)
  (fun κ st=>κ.norm st)
  (fun id all draw κ=>zwi C la fn n κ.norm id all draw)
  (fun _ _ ga gb κ=>ga ⟨gb κ,κ.exit,κ.ret⟩)
  (fun c _ _ gx gy κ st=>aB (ob (ev c (.now st.tm)) zA.asBool) fun b=>bif z61 c st.lit then Bool.rec (motive:=fun _=>T) (gy κ st) (gx κ st) b else .ite b (gx κ st) (gy κ st))
  (fun id _ g κ=>g ⟨κ.norm,fun i st=>Bool.rec (motive:=fun _=>T) (κ.exit i st) (κ.norm st) (Nat.beq id i),κ.ret⟩)
  (fun p _ _ _ st=>aB (zfz p st) fun vals=>.jump p.id vals)
  (fun id κ st=>κ.exit id st)
  (fun κ st=>κ.ret st)
  (fun p _ _ _ st=>aB (zfz p st) fun vals=>.jump p.id vals)
  (fun i pl f ps _ ops c _ κ st=>zxz C n κ i pl f ps.toList ops.toList c st) c
structure PtT where
 p:PI
 tree:List zA->T
def zui(p:PI):KT:=fun st=>aB (zfz p st) fun vals=>.jump p.id vals
def aR(C:pA)(la:List Nat)(fn n k:Nat)(c:nD):KtT->List PtT:=
 nD.rec (motive:=fun _=>KtT->List PtT)
  (fun _=>[])
  (fun _ _ _ _=>[])
  (fun _ b ga gb κ=>tD (ga ⟨znq C la fn n b κ,κ.exit,κ.ret⟩) (gb κ))
  (fun _ _ _ gx gy κ=>tD (gx κ) (gy κ))
  (fun id _ g κ=>g ⟨κ.norm,fun i st=>Bool.rec (motive:=fun _=>T) (κ.exit i st) (κ.norm st) (Nat.beq id i),κ.ret⟩)
  (fun p c g κ=>⟨p,fun vals=>znq C la fn n c ⟨zui p,κ.exit,κ.ret⟩ (zvp k p vals)⟩::g ⟨zui p,κ.exit,κ.ret⟩)
  (fun _ _=>[])
  (fun _=>[])
  (fun p c g κ=>⟨p,fun vals=>znq C la fn n c κ (zvp k p vals)⟩::g κ)
  (fun i pl _ ps id ops c g _=>⟨⟨i,tD pl ps.toList,[]⟩,fun vals=>znq C la fn n (.seq (.region id ops false) c) rdT (zvp k ⟨i,tD pl ps.toList,[]⟩ vals)⟩::g rdT) c
def resT (C:pA)(st:eF)(l:List ResultVar):(List zA->T)->T:=
 List.rec (motive:=fun _=>(List zA->T)->T) (fun K=>K [])
  (fun r _ g K=>match r with
   | .tmp t=>aB (st.tm.get t) fun v=>g fun l=>K (v::l)
   | .cell a t=>match gH a st.ad with
    | some p=>aB (st.lo.get p.1) fun l=>aB (C.tys.get t) fun ty=>gdT (Nat.ble (p.2+ty.size) (yB l)) (aB (nL C t l p.2) fun v=>g fun l=>K (v::l))
    | none=>aB (st.tm.get a) fun a=>.light (fun m=>oA C t ⟨0,m⟩ a) fun v=>g fun l=>K (v::l)) l
def endT (C:pA)(fn:Func):KT:=fun st=>resT C st fn.results.toList fun l=>.ret (qT l)
def topT (C:pA)(fn:Func):KtT:=⟨endT C fn,fun _ _=>.fail,endT C fn⟩
structure uB where
 code:nD
 la:List Nat
def entT (C:pA)(fn:Func)(k:Nat)(f:Nat)(A:uB)(args:List zA):T:=znq C A.la f fn.ntmps A.code (topT C fn) ⟨⟨k,Tr.ofList args,[]⟩,[],.leaf,[]⟩
def ptsT (C:pA)(fn:Func)(k:Nat)(f:Nat)(A:uB):List PtT:=aR C A.la f fn.ntmps k A.code (topT C fn)
def ztz(l:List PtT)(i:Nat)(vals:List zA):List T:=List.rec (motive:=fun _=>List T) [] (fun p _ g=>bif Nat.beq p.p.id i then p.tree vals::g else g) l
end
section
def uD {α:Type}(x:Option α)(P:α->Prop):Prop:=
 match x with
 | some a=>P a
 | none=>False
def mO{α:Type}{x:Option α}{P:α->Prop}:uD x P ↔ ∃a,x=some a/\P a:=by
 cases x with
 | none=>simp[uD]
 | some a=>simp[uD]
@[simp] theorem vA {α:Type} {a:α} {P:α->Prop}:uD (some a) P=P a:=rfl
@[simp] theorem optP_none {α:Type} {P:α->Prop}:uD (none:Option α) P=False:=rfl
abbrev uC:=zA->Tr rA->Prop
abbrev vI:=Nat->List zA->Tr rA->uC->Prop
def z7o{α:Type}:List α->Bool | []=>true | _::_=>false
def iM(f:zA)(args:List zA):Option (Nat × List zA):=ob f.asFunc fun p=>match p.1 with
 | .func g=>aA (Nat.blt g yo) (some (g,tD (tD p.2.1 args) p.2.2))
 | .yld l=>aA (z7o p.2.1&&z7o p.2.2) (some (yo+l,args))
def zaf(np:Nat->Bool)(f:zA)(l:Nat):Option (Nat × List zA):=ob f.asFunc fun p=>match p.1 with
 | .func g=>aA (Nat.blt g yo&&np g) (some (g,tD p.2.1 (.func (.yld l) [] []::p.2.2)))
 | .yld _=>none
def z94 (k:IntKind)(v:zA):Option Int:=ob v.asIntK fun p=>aA (kEq p.1 k) (some p.2)
def zm8 (zs:List zA)(v:zA):Option uO:=ob v.asAgg fun l=>aA (lK zs l) (some (cellsOf l))
def qA (base:Nat)(W:vI)(J:vI):T->Tr rA->uC->Prop
 | .ret v,t,Q=>Q v t
 | .fail,_,_=>False
 | .ite b x y,t,Q=>if b=true then qA base W J x t Q else qA base W J y t Q
 | .opt x K,t,Q=>uD x fun v=>qA base W J (K v) t Q
 | .light x K,t,Q=>uD (x t) fun v=>qA base W J (K v) t Q
 | .heavy x K,t,Q=>∀b,t.get b=none->base<=b->uD (x ⟨b,t⟩) fun p=>qA base W J (K p.1) p.2.t Q
 | .call f args K,t,Q=>W f args t fun v t'=>qA base W J (K v) t' Q
 | .callv f args K,t,Q=>uD (iM f args) fun p=>W p.1 p.2 t fun v t'=>qA base W J (K v) t' Q
 | .asI k v K,t,Q=>uD (z94 k v) fun n=>qA base W J (K n) t Q
 | .asB v K,t,Q=>uD v.asBool fun n=>qA base W J (K n) t Q
 | .asS v K,t,Q=>uD v.asStr fun n=>qA base W J (K n) t Q
 | .asG zs v K,t,Q=>uD (zm8 zs v) fun X=>qA base W J (K X) t Q
 | .jump i vals,t,Q=>J i vals t Q
 | .range np f i m vals K R,t,Q=>256<=base/\∀l r,t.get l=none->base<=l->r.state=.ready->r.pending=none →
   (∀args t1 Q1,args.length=m->t1.get l=some (.loop r)->J i (vals++args) (t1.del l) (fun v t2=>t2.get l=none->∃b,v=.bool b/\Q1 v (t2.set l (.loop (zix b r))))->W (yo+l) args t1 Q1) →
   uD (zaf np f l) fun p=>W p.1 p.2 (t.set l (.loop r)) fun _ t'=>(t'.get l=some (.loop r)/\qA base W J K (t'.del l) Q)\/(t'.get l=some (.loop (zix false r))/\qA base W J R (t'.del l) Q)
abbrev Xt:=Nat->Option rA
def XLe (X Y:Xt):Prop:=∀b y,X b=some y->Y b=some y
def XLe.refl(X:Xt):XLe X X:=fun _ _ h=>h
def XLe.trans{X Y Z:Xt}(h:XLe X Y)(k:XLe Y Z):XLe X Z:=fun b y e=>k b y (h b y e)
structure Ov (base:Nat) (t:Tr rA) (X:Xt) (H:xA):Prop where
 base:base<=H.next
 same:∀b,X b=none->H.t.get b=t.get b
 ext:∀b y,X b=some y->H.t.get b=some y/\t.get b=none/\b<H.next
 lt:∀b y,t.get b=some y->b<H.next
def HLe (H H':xA):Prop:=∀b y,H.t.get b=some y->H'.t.get b=some y
def kN(e e':gC):Prop:=∀i v,z2a i e=some v->z2a i e'=some v
section
variable {base:Nat}{t:Tr rA}{X:Xt}{H HA:xA}{e e':gC}{C:pA}{v:zA}
def Ov.notX(h:Ov base t X HA){b:Nat}{y:rA}(hb:t.get b=some y):X b=none:=by
 cases hx:X b with
 | none=>rfl
 | some z=>have:=(h.ext b z hx).2.1;rw[hb]at this;cases this
def Ov.up(h:Ov base t X HA){b:Nat}{y:rA}(hb:t.get b=some y):HA.t.get b=some y:=by rw[h.same b (h.notX hb)];exact hb
def Ov.le(h:Ov base t X HA){n:Nat}:HLe ⟨n,t⟩ HA:=fun _ _ hb=>h.up hb
def Ov.nextX(h:Ov base t X HA):X HA.next=none:=by
 cases hx:X HA.next with
 | none=>rfl
 | some z=>exact absurd (h.ext _ z hx).2.2 (Nat.lt_irrefl _)
def Ov.nextT(h:Ov base t X HA):t.get HA.next=none:=by
 cases hx:t.get HA.next with
 | none=>rfl
 | some z=>exact absurd (h.lt _ z hx) (Nat.lt_irrefl _)
def kM(h:HLe H HA){b:Nat}{p:Tr zA × Nat × Option Lo}(hb:oD H b=some p):oD HA b=some p:=by
 unfold oD at hb ⊢;rw[sA]at hb ⊢;obtain⟨y,h1,h2⟩:=hb;exact⟨y,h _ _ h1,h2⟩
def tU(h:HLe H HA){b:Nat}{p:List (zA × zA)}(hb:gG H b=some p):gG HA b=some p:=by
 unfold gG at hb ⊢;rw[sA]at hb ⊢;obtain⟨y,h1,h2⟩:=hb;exact⟨y,h _ _ h1,h2⟩
def bC(h:kN e e'){x:Operand}(hx:ev x e=some v):ev x e'=some v:=by
 cases x with
 | tmp i=>exact h i v hx
 | const c=>exact hx
 | global g=>exact hx
 | func f=>exact hx
def zje(h:kN e e'){l:List Operand}{vs:List zA}(hx:evs l e=some vs):evs l e'=some vs:=cX l (fun _ _ k=>bC h k) hx
def zse(h:kN e e'){x:Option Operand}{r:Option zA}(hx:evo x e=some r):evo x e'=some r:=by
 cases x with
 | none=>exact hx
 | some x=>
  have hx:ob (ev x e) (fun v=>some (some v))=some r:=hx
  show ob (ev x e') (fun v=>some (some v))=some r
  rw[sA]at hx ⊢
  obtain⟨a,h1,h2⟩:=hx
  exact⟨a,bC h h1,h2⟩
def zjf(h:kN e e'){l:List (Nat × Operand)}{vs:List (Nat × zA)}(hx:evp l e=some vs):evp l e'=some vs:=
 cX l (fun a b k=>by rw[sA]at k ⊢;obtain⟨u,h1,h2⟩:=k;exact⟨u,bC h h1,h2⟩) hx
def zh0(h:kN e e'){c:Call}{p:zA × zA}(hx:two c e=some p):two c e'=some p:=by
 unfold two at hx ⊢
 split at hx
 ·rw[sA]at hx ⊢
  obtain⟨a,h1,hx⟩:=hx
  refine⟨a,bC h h1,?_⟩
  rw[sA]at hx ⊢
  obtain⟨b,h2,hx⟩:=hx
  exact⟨b,bC h h2,hx⟩
 ·cases hx
def kV(h:HLe H HA){ty:Nat}{a:zA}(hx:oA C ty H a=some v):oA C ty HA a=some v:=by
 unfold oA at hx ⊢
 simp only[sA]at hx ⊢
 obtain⟨p,h1,y,h2,c,h3,h4⟩:=hx
 exact⟨p,h1,y,h2,c,kM h h3,h4⟩
def zbl(h:HLe H HA){s d:pC}{a:zA}(hx:oM C s d a H=some v):oM C s d a HA=some v:=by
 unfold oM at hx ⊢
 split at hx
 ·rename_i k hk;exact hx
 ·rename_i hk
  rw[vB]at hx ⊢
  refine⟨hx.1,?_⟩
  have hx:=hx.2
  rw[zC]at hx ⊢
  split at hx
  ·rename_i e;rw[yab e];exact hx
  ·rename_i e
   rw[yaa e];simp only[sA,vB]at hx ⊢
   obtain⟨a1,h1,b1,h2,k1,h3,h4,h5⟩:=hx
   refine⟨a1,h1,b1,h2,k1,h3,h4,?_⟩
   unfold xU at h5 ⊢
   split at h5
   ·simp only[sA]at h5 ⊢
    obtain⟨c,g1,g2⟩:=h5
    exact⟨c,kM h g1,g2⟩
   ·exact h5
def zs8(h:HLe H HA){s d:Nat}{a:zA}(hx:dK C s d H a=some v):dK C s d HA a=some v:=by
 unfold dK at hx ⊢
 simp only[sA]at hx ⊢
 obtain⟨a1,h1,b1,h2,h3⟩:=hx
 exact⟨a1,h1,b1,h2,zbl h h3⟩
def zfn(h:HLe H HA){b size cap l:Nat}{arr:Bool}(hx:jH H b size cap l arr=true):jH HA b size cap l arr=true:=by
 unfold jH at hx ⊢
 cases hc:oD H b with
 | none=>rw[hc]at hx;cases hx
 | some c=>rw[hc]at hx;rw[kM h hc];exact hx
def zZ(h:HLe H HA){ty:pC}{a:zA}{l r:Option zA}(hx:rK C H ty a l r=some v):rK C HA ty a l r=some v:=by
 have row:∀ {arr e b off len cap},pL C H arr e b off len cap l r=some v->pL C HA arr e b off len cap l r=some v:=by
  intro arr e b off len cap hx;unfold pL at hx ⊢
  simp only[sA]at hx ⊢
  obtain⟨a1,h1,b1,h2,hx⟩:=hx
  refine⟨a1,h1,b1,h2,?_⟩
  cases hb:oD H b with
  | none=>
   have e1:dI H b a1.size cap b1.1 arr=false:=by unfold dI;rw[hb]
   have e2:jH H b a1.size cap b1.1 arr=false:=by unfold jH;rw[hb]
   rw[e1,e2,yay,yay]at hx
   cases hx
  | some c=>
   have e1:dI HA b a1.size cap b1.1 arr=dI H b a1.size cap b1.1 arr:=by unfold dI;rw[hb,kM h hb]
   have e2:jH HA b a1.size cap b1.1 arr=jH H b a1.size cap b1.1 arr:=by unfold jH;rw[hb,kM h hb]
   rw[e1,e2];exact hx
 unfold rK at hx ⊢
 split at hx
 ·exact hx
 ·split at hx
  ·rw[sA]at hx ⊢;obtain⟨a1,h1,h2⟩:=hx;exact⟨a1,h1,row h2⟩
  ·split at hx
   ·rw[sA]at hx ⊢;obtain⟨a1,h1,h2⟩:=hx;exact⟨a1,h1,row h2⟩
   ·exact hx
def zni(h:HLe H HA){ty:Nat}{a:zA}{l r:Option zA}(hx:uG C ty H a l r=some v):uG C ty HA a l r=some v:=by
 unfold uG at hx ⊢
 rw[sA]at hx ⊢
 obtain⟨a1,h1,h2⟩:=hx
 exact⟨a1,h1,zZ h h2⟩
def zbb(h:HLe H HA){m:zA}{l:List (zA × zA)}(hx:tN H m=some l):tN HA m=some l:=by
 unfold tN at hx ⊢
 split at hx
 ·exact tU h hx
 ·exact hx
def zj2(h:HLe H HA){ty:Nat}{m k:zA}{ok:Bool}(hx:xH C ty H m k ok=some v):xH C ty HA m k ok=some v:=by
 unfold xH at hx ⊢
 simp only[sA,vB]at hx ⊢
 obtain⟨a1,h1,b1,h2,c1,h3,h4,d1,h5,es,h6,h7⟩:=hx
 exact⟨a1,h1,b1,h2,c1,h3,h4,d1,h5,es,zbb h h6,h7⟩
def zd4(h:HLe H HA){ty:pC}{a:zA}{n:Nat}(hx:zvq H ty a=some n):zvq HA ty a=some n:=by
 unfold zvq at hx ⊢
 split at hx
 ·exact hx
 ·split at hx
  ·exact hx
  ·split at hx
   ·exact hx
   ·split at hx
    ·rw[vB,sA]at hx ⊢
     obtain⟨h1,l,h2,h3⟩:=hx
     exact⟨h1,l,tU h h2,h3⟩
    ·exact hx
def zv2(h:HLe H HA){ty:Nat}{a:zA}(hx:zvo C ty H a=some v):zvo C ty HA a=some v:=by
 unfold zvo at hx ⊢
 simp only[sA]at hx ⊢
 obtain⟨a1,h1,n,h2,h3⟩:=hx
 exact⟨a1,h1,n,zd4 h h2,h3⟩
def zze{ty:Nat}{a:Operand}:gO ty a C e H=ob (ev a e) fun v=>oA C ty H v:=rfl
def zzh{s d:Nat}{x:Operand}{u:zA}(hx:ev x e=some u):xL s d x C e H=dK C s d H u:=by unfold xL dK;rw[hx];rfl
def z4g{ty:Nat}{x:Operand}{lo hi:Option Operand}{a:zA}{l r:Option zA}(h1:ev x e=some a)(h2:evo lo e=some l)(h3:evo hi e=some r):bQ ty x lo hi C e H=uG C ty H a l r:=by unfold bQ uG;rw[h1,tA,h2,tA,h3,tA]
def zb0{s f:Nat}{x:Operand}{u:zA}(hx:ev x e=some u):dO s x f C e H=tB C s f u:=by
 unfold dO tB jV;rw[hx]
 cases C.tys.get s with
 | none=>rfl
 | some ty=>
  simp only[tA]
  cases ty.desc.asStruct with
  | none=>rfl
  | some fs=>
   simp only[tA]
   cases dC fs f with
   | none=>rfl
   | some fd=>simp only[tA];cases hb:(!Nat.beq fd.2.2 0)<;>rfl
def zbz{ty:Nat}{x i:Operand}{u w:zA}(hx:ev x e=some u)(hi:ev i e=some w):fO ty x i C e H=mB C ty u w:=by unfold fO mB;rw[hx,hi];rfl
def z4j{ty:Nat}{x i:Operand}{u w:zA}(hx:ev x e=some u)(hi:ev i e=some w):eO ty x i C e H=xJ C ty u w:=by unfold eO xJ;rw[hx,hi];rfl
def z63{x:Operand}{u:zA}(hx:ev x e=some u):z4h x C e H=iC u:=by unfold z4h iC;rw[hx];rfl
def zuf{x:Operand}{i:Nat}{u:zA}(hx:ev x e=some u):cO x i C e H=rB i u:=by unfold cO rB;rw[hx];rfl
def lBin_v{op:BinOp}{ty:Nat}{x y:Operand}{u w:zA}(hx:ev x e=some u)(hy:ev y e=some w):zzj op ty x y C e H=(binA op).f C ty x y u w:=by unfold zzj;rw[hx,hy];rfl
def zzk{x:Operand}{a:Nat}{ok:Bool}{u:zA}(hx:ev x e=some u):bO x a ok C e H=znl C a ok u:=by
 unfold bO znl;rw[hx];rfl
def zzd{ty:Nat}{x i:Operand}{ok:Bool}{m k:zA}(hx:ev x e=some m)(hi:ev i e=some k):hO ty x i ok C e H=xH C ty H m k ok:=by unfold hO xH;rw[hx,hi];rfl
def lLen_v{c:Call}{ty:Nat}{x:Operand}{u:zA}(h1:dC c.argTypes.toList 0=some ty)(h2:dC c.args.toList 0=some x)(hx:ev x e=some u):zox c C e H=zvo C ty H u:=by unfold zox zvo;rw[h1,tA,h2,tA,hx];rfl
def z5f(he:kN e e'){op:Op}(hp:fN op=true\/(∃s d x,op=.convert s d x/\(kG C d=1\/kG C s=2))\/(∃c,op=.call c/\(c.callee=.builtin .max\/c.callee=.builtin .min))){H':xA}(h:(kE op).f C e H=some v):(kE op).f C e' H'=some v:=by
 rcases hp with hp | hp | hp
 ·cases op<;>simp only[fN]at hp<;>try (cases hp;done)
  case move x=>exact bC he h
  case assign x=>exact bC he h
  case pick c a b=>
   have h:ob (ev c e) (fun c=>ob c.asBool fun c=>bif c then ev a e else ev b e)=some v:=h
   show ob (ev c e') (fun c=>ob c.asBool fun c=>bif c then ev a e' else ev b e')=some v
   simp only[sA]at h ⊢
   obtain⟨u,h1,w,h2,h3⟩:=h
   refine⟨u,bC he h1,w,h2,?_⟩
   cases w with
   | true=>exact bC he h3
   | false=>exact bC he h3
  case nilCheck x=>
   have h:ob (ev x e) (fun u=>aA (Nat.beq u.tag 4||Nat.beq u.tag 9) (some u))=some v:=h
   show ob (ev x e') (fun u=>aA (Nat.beq u.tag 4||Nat.beq u.tag 9) (some u))=some v
   rw[sA]at h ⊢
   obtain⟨u,h1,h2⟩:=h
   exact⟨u,bC he h1,h2⟩
  case binOp op t x y u=>
   have h:zzj op t x y C e H=some v:=h
   show zzj op t x y C e' H'=some v
   unfold zzj at h ⊢
   simp only[sA]at h ⊢
   obtain⟨a,h1,b,h2,h3⟩:=h
   exact⟨a,bC he h1,b,bC he h2,h3⟩
  case unOp op t x=>
   have h:lUn op x C e H=some v:=h
   show lUn op x C e' H'=some v
   unfold lUn at h ⊢
   rw[sA]at h ⊢
   obtain⟨a,h1,h2⟩:=h
   exact⟨a,bC he h1,h2⟩
  case makeInterface t x=>
   have h:vS t x C e H=some v:=h
   show vS t x C e' H'=some v
   unfold vS at h ⊢
   simp only[sA,vB]at h ⊢
   obtain⟨a,h1,h2,b,h3,h4⟩:=h
   exact⟨a,h1,h2,b,bC he h3,h4⟩
  case makeFunc fn a b=>
   have h:(uS fn a b).f C e H=some v:=h
   show(uS fn a b).f C e' H'=some v
   unfold uS at h ⊢
   split at h
   ·show zzg _ a b C e' H'=some v
    unfold zzg at h ⊢
    simp only[sA]at h ⊢
    obtain⟨x,h1,y,h2,h3⟩:=h
    exact⟨x,zje he h1,y,zje he h2,h3⟩
   ·cases h
  case fieldAddr s x f=>
   have h:dO s x f C e H=some v:=h
   show dO s x f C e' H'=some v
   unfold dO at h ⊢
   simp only[sA,vB]at h ⊢
   obtain⟨a,h1,b,h2,c,h3,h4,u,h5,h6⟩:=h
   exact⟨a,h1,b,h2,c,h3,h4,u,bC he h5,h6⟩
  case field t x f=>
   have h:tS t x f C e H=some v:=h
   show tS t x f C e' H'=some v
   unfold tS at h ⊢
   simp only[sA]at h ⊢
   obtain⟨a,h1,b,h2,c,h3,u,h5,h6⟩:=h
   exact⟨a,h1,b,h2,c,h3,u,bC he h5,h6⟩
  case indexAddr t x i=>
   have h:fO t x i C e H=some v:=h
   show fO t x i C e' H'=some v
   unfold fO at h ⊢
   simp only[sA]at h ⊢
   obtain⟨a,h1,b,h2,c,h3,h4⟩:=h
   exact⟨a,h1,b,bC he h2,c,bC he h3,h4⟩
  case index t x i=>
   have h:eO t x i C e H=some v:=h
   show eO t x i C e' H'=some v
   unfold eO at h ⊢
   simp only[sA]at h ⊢
   obtain⟨a,h1,b,h2,c,h3,h4⟩:=h
   exact⟨a,h1,b,bC he h2,c,bC he h3,h4⟩
  case extract t i=>
   have h:cO t i C e H=some v:=h
   show cO t i C e' H'=some v
   unfold cO at h ⊢
   rw[sA]at h ⊢
   obtain⟨a,h1,h2⟩:=h
   exact⟨a,bC he h1,h2⟩
  case build t ps=>
   have h:cP t ps C e H=some v:=h
   show cP t ps C e' H'=some v
   unfold cP at h ⊢
   rw[sA]at h ⊢
   obtain⟨a,h1,h⟩:=h
   refine⟨a,h1,?_⟩
   rw[sA]at h ⊢
   obtain⟨b,h2,h⟩:=h
   exact⟨b,zjf he h2,h⟩
  case typeAssert x t u ok=>
   have h:bO x u ok C e H=some v:=h
   show bO x u ok C e' H'=some v
   unfold bO at h ⊢
   rw[sA]at h ⊢
   obtain⟨a,h1,h⟩:=h
   refine⟨a,h1,?_⟩
   rw[vB]at h ⊢
   refine⟨h.1,?_⟩
   have h:=h.2
   rw[sA]at h ⊢
   obtain⟨b,h2,h⟩:=h
   exact⟨b,bC he h2,h⟩
 ·obtain⟨s,d,x,rfl,hp⟩:=hp
  have h:xL s d x C e H=some v:=h
  show xL s d x C e' H'=some v
  unfold xL at h ⊢
  simp only[sA]at h ⊢
  obtain⟨u,h1,sy,h2,dy,h3,h4⟩:=h
  refine⟨u,bC he h1,sy,h2,dy,h3,?_⟩
  unfold oM at h4 ⊢
  split at h4
  ·exact h4
  ·rename_i hd
   rw[vB]at h4 ⊢
   refine⟨h4.1,?_⟩
   have h4:=h4.2
   rw[zC]at h4 ⊢
   split at h4
   ·rename_i e;rw[yab e];exact h4
   ·rename_i e
    exfalso
    rcases hp with hp | hp
    ·unfold kG at hp
     rw[h3]at hp;have hp:dy.desc.tag=1:=hp
     cases hx:dy.desc<;>rw[hx]at hp hd<;>first
      | (cases hp;done)
      | (cases hd;done)
    ·unfold kG at hp
     rw[h2]at hp;have hp:sy.desc.tag=2:=hp
     simp only[sA]at h4;obtain⟨el,h5,_⟩:=h4
     cases hx:sy.desc<;>rw[hx]at hp h5<;>first
      | (cases hp;done)
      | (cases h5;done)
 ·obtain⟨c,rfl,hc⟩:=hp
  rcases hc with hc | hc
  ·have h:(pN c c.callee).f C e H=some v:=h
   show(pN c c.callee).f C e' H'=some v
   rw[hc]at h ⊢
   have h:zzc c C e H=some v:=h
   show zzc c C e' H'=some v
   unfold zzc at h ⊢
   rw[sA]at h ⊢
   obtain⟨p,h1,h2⟩:=h
   exact⟨p,zh0 he h1,h2⟩
  ·have h:(pN c c.callee).f C e H=some v:=h
   show(pN c c.callee).f C e' H'=some v
   rw[hc]at h ⊢
   have h:zza c C e H=some v:=h
   show zza c C e' H'=some v
   unfold zza at h ⊢
   rw[sA]at h ⊢
   obtain⟨p,h1,h2⟩:=h
   exact⟨p,zh0 he h1,h2⟩
end
end
end Go.Am
