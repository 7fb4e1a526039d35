/- Code as a function: limits. -/
import Derived.Test.YtfijloeeppcipaaGreatDoorF04
set_option linter.all false
noncomputable section
namespace Go.Am
open Go Go.RowKit
section
def zxd{α:Type}{f:Nat->Option α}{r:α}(h:lim f=some r):∃n,f n=some r:=by
 unfold lim at h;by_cases hx:∃n r,f n=some r
 ·rw[dif_pos hx]at h;exact⟨_,h⟩
 ·rw[dif_neg hx]at h;cases h
structure zl7 {α β γ:Type} (ks:Nat->α->β->Option γ) (k:α->β->Option γ):Prop where
 up:∀n,Le2 (ks n) (ks (n+1))
 ex:∀a b x,k a b=some x->∃n,ks n a b=some x
def zum{α β γ:Type}{ks:Nat->α->β->Option γ}(h:∀n,Le2 (ks n) (ks (n+1))){n m:Nat}(hnm:n<=m):Le2 (ks n) (ks m):=by
 induction hnm with
 | refl=>exact fun _ _ _ h=>h
 | step _ ih=>exact fun a b x hx=>h _ _ _ _ (ih a b x hx)
structure z4f (φs:Nat->Ora) (φ:Ora):Prop where
 up:∀n,OLe (φs n) (φs (n+1))
 ex:∀f a H x,φ f a H=some x->∃n,φs n f a H=some x
def z4f.le{φs:Nat->Ora}{φ:Ora}(h:z4f φs φ){n m:Nat}(hnm:n<=m):OLe (φs n) (φs m):=by
 induction hnm with
 | refl=>exact fun _ _ _ _ h=>h
 | step _ ih=>exact fun f a H x hx=>h.up _ _ _ _ _ (ih f a H x hx)
structure z9c (κs:Nat->Kt) (κ:Kt):Prop where
 norm:zl7 (fun n=>(κs n).norm) κ.norm
 exit:∀i,zl7 (fun n=>(κs n).exit i) (κ.exit i)
 ret:zl7 (fun n=>(κs n).ret) κ.ret
section
variable {C:pA}{φ φ':Ora}{φs:Nat->Ora}{all:Array Oper}{N fn:Nat}
def zyb{g g':Kt->Tm->xA->wB}{κ κ':Kt}(hκ:KLe κ κ')(hg:∀ κ κ',KLe κ κ'->Le2 (g κ) (g' κ'))(live:List Nat):∀m,Le2 (Nat.rec (motive:=fun _=>Tm->xA->wB) (fun _ _=>none) (fun _ r tm H=>g ⟨r,κ.exit,κ.ret⟩ (keep live tm) H) m)
  (Nat.rec (motive:=fun _=>Tm->xA->wB) (fun _ _=>none) (fun _ r tm H=>g' ⟨r,κ'.exit,κ'.ret⟩ (keep live tm) H) m):=by
 intro m;induction m with
 | zero=>intro a b x h;cases h
 | succ m ih=>exact fun a b x h=>hg ⟨_,_,_⟩ ⟨_,_,_⟩ ⟨ih,hκ.exit,hκ.ret⟩ _ _ _ h
def KLe.refl(κ:Kt):KLe κ κ:=⟨fun _ _ _ h=>h,fun _ _ _ _ h=>h,fun _ _ _ h=>h⟩
def znq{g:Kt->Tm->xA->wB}{κ:Kt}(hg:∀ κ κ',KLe κ κ'->Le2 (g κ) (g κ'))(live:List Nat):∀m,Le2 (Nat.rec (motive:=fun _=>Tm->xA->wB) (fun _ _=>none) (fun _ r tm H=>g ⟨r,κ.exit,κ.ret⟩ (keep live tm) H) m)
  (Nat.rec (motive:=fun _=>Tm->xA->wB) (fun _ _=>none) (fun _ r tm H=>g ⟨r,κ.exit,κ.ret⟩ (keep live tm) H) (m+1)):=by
 intro m;induction m with
 | zero=>intro a b x h;cases h
 | succ m ih=>exact fun a b x h=>hg ⟨_,_,_⟩ ⟨_,_,_⟩ ⟨ih,(KLe.refl κ).exit,(KLe.refl κ).ret⟩ _ _ _ h
def lT(hφ:OLe φ φ'):∀(c:xD) (κ κ':Kt),KLe κ κ'->Le2 (zD C φ fn N c κ) (zD C φ' fn N c κ'):=by
 have self:∀(ψ:Ora),OLe ψ ψ:=fun _ _ _ _ _ h=>h
 intro c;suffices h:∀ φ φ',OLe φ φ'->∀(κ κ':Kt),KLe κ κ'->Le2 (zD C φ fn N c κ) (zD C φ' fn N c κ') from h φ φ' hφ
 induction c with
 | skip=>exact fun _ _ _ κ κ' hκ=>hκ.norm
 | region id ops d=>exact fun _ _ hφ κ κ' hκ=>zbd hφ hκ.norm
 | seq a b iha ihb=>exact fun _ _ hφ κ κ' hκ=>iha _ _ hφ _ _ ⟨ihb _ _ hφ _ _ hκ,hκ.exit,hκ.ret⟩
 | cond c a b iha ihb=>
  intro φ φ' hφ κ κ' hκ tm H x h;have h:(ob (ob (ev c (.now tm)) zA.asBool) fun t=>Bool.rec (motive:=fun _=>wB) (zD C φ fn N b κ tm H) (zD C φ fn N a κ tm H) t)=some x:=h
  show(ob (ob (ev c (.now tm)) zA.asBool) fun t=>Bool.rec (motive:=fun _=>wB) (zD C φ' fn N b κ' tm H) (zD C φ' fn N a κ' tm H) t)=some x
  rw[uA]at h ⊢
  obtain⟨t,h1,h2⟩:=h
  refine⟨t,h1,?_⟩
  cases t with
  | true=>exact iha _ _ hφ _ _ hκ _ _ _ h2
  | false=>exact ihb _ _ hφ _ _ hκ _ _ _ h2
 | block id c ih=>
  intro φ φ' hφ κ κ' hκ;refine ih _ _ hφ _ _ ⟨hκ.norm,fun i tm H x h=>?_,hκ.ret⟩
  simp only[wH]at h ⊢
  split at h
  ·rename_i e;rw[yab e];exact hκ.norm _ _ _ h
  ·rename_i e;rw[yaa e];exact hκ.exit _ _ _ _ h
 | loop live c ih=>
  intro φ φ' hφ κ κ' hκ tm H x h;obtain⟨m,hm⟩:=zxd h
  refine(zb0 fun m y hy=>znq (ih _ _ (self φ')) live.kept m _ _ _ hy).2 ⟨m,?_⟩
  exact zyb hκ (ih _ _ hφ) live.kept m _ _ _ hm
 | exit id=>exact fun _ _ _ κ κ' hκ=>hκ.exit id
 | ret=>exact fun _ _ _ κ κ' hκ=>hκ.ret
 | cut live c ih=>exact fun _ _ hφ κ κ' hκ tm H x h=>ih _ _ hφ _ _ hκ _ _ _ h
 | range i pl f ps id ops c ih=>exact fun _ _ hφ κ κ' hκ tm H x h=>zc2 hφ hκ _ _ _ h
def zpl(hφ:z4f φs φ){r:gI}{H:xA}{ks:Nat->zA->xA->wB}{k:zA->xA->wB}(hk:zl7 ks k){x:zA × xA}(h:pF φ r H k=some x):∃n,pF (φs n) r H (ks n)=some x:=by
 cases r<;>simp only[pF]at h ⊢<;>try (cases h;done)
 case val v H'=>exact hk.ex _ _ _ h
 case enter f args=>
  rw[uA]at h;obtain⟨p,h1,h2⟩:=h
  obtain⟨n,hn⟩:=hφ.ex _ _ _ _ h1
  obtain⟨m,hm⟩:=hk.ex _ _ _ h2
  exact⟨max n m,by rw[uA];exact⟨p,hφ.le (Nat.le_max_left n m) _ _ _ _ hn,zum hk.up (Nat.le_max_right n m) _ _ _ hm⟩⟩
 case round l args=>
  rw[uA]at h;obtain⟨p,h1,h2⟩:=h
  obtain⟨n,hn⟩:=hφ.ex _ _ _ _ h1
  obtain⟨m,hm⟩:=hk.ex _ _ _ h2
  exact⟨max n m,by rw[uA];exact⟨p,hφ.le (Nat.le_max_left n m) _ _ _ _ hn,zum hk.up (Nat.le_max_right n m) _ _ _ hm⟩⟩
def zj6{t:Nat}{ks:Nat->zA->xA->wB}{k:zA->xA->wB}(hk:zl7 ks k):zl7 (fun n v H=>dI C t v fun v=>ks n v H) (fun v H=>dI C t v fun v=>k v H):=by
 refine⟨fun n=>zay (hk.up n),fun v H x h=>?_⟩
 rw[eK]at h;obtain⟨n,hn⟩:=hk.ex _ _ _ h.2
 exact⟨n,by rw[eK];exact⟨h.1,hn⟩⟩
def z16(hφ:z4f φs φ){κs:Nat->Tm->xA->wB}{κ:Tm->xA->wB}(hκ:zl7 κs κ):∀(l:List Oper),zl7 (fun n=>zK C (φs n) all N (κs n) l) (zK C φ all N κ l):=by
 intro l;refine⟨fun n=>zc9 (hφ.up n) (hκ.up n) l,?_⟩
 induction l with
 | nil=>exact hκ.ex
 | cons o l ih=>
  intro tm H x h;rw[zT,uA]at h;obtain⟨w,h1,h2⟩:=h
  split at h2
  ·rename_i e
   obtain⟨n,hn⟩:=zpl hφ (zj6 (ks:=fun n v H'=>zK C (φs n) all N (κs n) l (putA N tm o.dst v) H') (k:=fun v H'=>zK C φ all N κ l (putA N tm o.dst v) H') ⟨fun n v H' y hy=>zc9 (hφ.up n) (hκ.up n) l _ _ _ hy,fun v H' y hy=>ih _ _ _ hy⟩) h2
   exact⟨n,by show zK C (φs n) all N (κs n) (o::l) tm H=some x;rw[zT,uA];exact⟨w,h1,by rw[yab e];exact hn⟩⟩
  ·rename_i e
   obtain⟨n,hn⟩:=ih _ _ _ h2
   exact⟨n,by show zK C (φs n) all N (κs n) (o::l) tm H=some x;rw[zT,uA];exact⟨w,h1,by rw[yaa e];exact hn⟩⟩
variable {old:Tm}{olds:List (Nat × List Nat)}
def uZ{H:xA}{ks:Nat->Tm->wB}{k:Tm->wB}(hk:∀tm x,k tm=some x->∃n,ks n tm=some x):∀(l:List Nat) tm x,mG C H all N old olds k l tm=some x->∃n,mG C H all N old olds (ks n) l tm=some x:=by
 intro l;induction l with
 | nil=>exact hk
 | cons i l ih=>
  intro tm x h;simp only[dX]at h ⊢
  rw[uA]at h;obtain⟨o,h1,h⟩:=h
  rw[uA]at h;obtain⟨w,h3,h4⟩:=h
  split at h4
  ·rename_i e
   rw[uA]at h4;obtain⟨v,h5,h6⟩:=h4
   rw[eK]at h6;obtain⟨n,hn⟩:=ih _ _ h6.2
   exact⟨n,by rw[h1,tA,h3,tA,yab e,h5,tA,eK];exact⟨h6.1,hn⟩⟩
  ·rename_i e
   obtain⟨n,hn⟩:=ih _ _ h4
   exact⟨n,by rw[h1,tA,h3,tA,yaa e];exact hn⟩
def zmw(hφ:z4f φs φ){κs:Nat->Tm->xA->wB}{κ:Tm->xA->wB}(hκ:zl7 κs κ):∀(l:List uE),zl7 (fun n=>jG C (φs n) all N old olds (κs n) l) (jG C φ all N old olds κ l):=by
 intro l;refine⟨fun n=>aY (hφ.up n) (hκ.up n) l,?_⟩
 induction l with
 | nil=>exact hκ.ex
 | cons st l ih=>
  intro tm H x h
  cases hg:kN all st with
  | true=>
   rw[iV hg,wY]at h;obtain⟨h0,es,H',h1,h2,h3⟩:=h
   obtain⟨n,hn⟩:=uZ (fun tm x hx=>ih tm H' x hx) _ _ _ h3
   exact⟨n,by show jG C (φs n) all N old olds (κs n) (st::l) tm H=some x;rw[iV hg,wY];exact⟨h0,es,H',h1,h2,hn⟩⟩
  | false=>
  rw[tU hg,uA]at h;obtain⟨o,h1,h⟩:=h
  rw[uA]at h;obtain⟨w,h2,h⟩:=h
  have cont:zl7 (fun n v H'=>qJ C H' all old olds (putA N tm o.dst v) (mG C H' all N old olds (fun tm=>jG C (φs n) all N old olds (κs n) l tm H') st.lights (putA N tm o.dst v)) st.again)
    (fun v H'=>qJ C H' all old olds (putA N tm o.dst v) (mG C H' all N old olds (fun tm=>jG C φ all N old olds κ l tm H') st.lights (putA N tm o.dst v)) st.again):=by
   refine⟨fun n v H' y hy=>zei (eX (fun tm x hx=>aY (hφ.up n) (hκ.up n) l _ _ _ hx) _ _ _ (bW _ hy).2) _ hy,fun v H' y hy=>?_⟩
   obtain⟨n,hn⟩:=uZ (fun tm x hx=>ih tm H' x hx) _ _ _ (bW _ hy).2
   exact⟨n,zei hn _ hy⟩
  simp only[]at h;split at h
  ·rename_i e
   obtain⟨n,hn⟩:=zpl hφ (zj6 cont) h
   exact⟨n,by show jG C (φs n) all N old olds (κs n) (st::l) tm H=some x;rw[tU hg,h1,tA,h2,tA];simp only[];rw[yab e];exact hn⟩
  ·rename_i e
   obtain⟨n,hn⟩:=cont.ex _ _ _ h
   exact⟨n,by show jG C (φs n) all N old olds (κs n) (st::l) tm H=some x;rw[tU hg,h1,tA,h2,tA];simp only[];rw[yaa e];exact hn⟩
def zm4(hφ:z4f φs φ){κs:Nat->Tm->xA->wB}{κ:Tm->xA->wB}(hκ:zl7 κs κ){id:Nat}{draw:Bool}:zl7 (fun n=>oU C (φs n) fn N (κs n) id all draw) (oU C φ fn N κ id all draw):=by
 refine⟨fun n=>zbd (hφ.up n) (hκ.up n),fun tm H x h=>?_⟩
 cases draw with
 | false=>exact(z16 hφ hκ _).ex _ _ _ h
 | true=>
  have h:(ob (ob (C.plans.get fn) fun t=>t.get id) fun p=>dA (nN all p) (mG C H all N tm.cut p.olds (fun tm'=>jG C φ all N tm.cut p.olds κ p.stages tm' H) p.first tm.cut))=some x:=h
  rw[uA]at h;obtain⟨p,h1,h⟩:=h
  rw[xB]at h;obtain⟨n,hn⟩:=uZ (fun tm' x hx=>(zmw hφ hκ p.stages).ex tm' H x hx) _ _ _ h.2
  refine⟨n,?_⟩
  show(ob (ob (C.plans.get fn) fun t=>t.get id) fun p=>dA (nN all p) (mG C H all N tm.cut p.olds (fun tm'=>jG C (φs n) all N tm.cut p.olds (κs n) p.stages tm' H) p.first tm.cut))=some x
  rw[h1,tA,xB];exact⟨h.1,hn⟩
def zfw(hφ:z4f φs φ){κs:Nat->Kt}{κ:Kt}(hκ:z9c κs κ){f:Operand}{ps:List Nat}{a b:Code}:zl7 (fun n=>gL C (φs n) fn N (κs n) f ps a b) (gL C φ fn N κ f ps a b):=by
 have kle:∀n,KLe (κs n) (κs (n+1)):=fun n=>⟨hκ.norm.up n,fun i=>(hκ.exit i).up n,hκ.ret.up n⟩
 have klm:∀n m,n<=m->KLe (κs n) (κs m):=fun n m h=>⟨zum hκ.norm.up h,fun i=>zum (hκ.exit i).up h,zum hκ.ret.up h⟩
 refine⟨fun n=>zc2 (hφ.up n) (kle n),fun tm H x h=>?_⟩
 unfold gL at h;rw[uA]at h;obtain⟨v,h1,h⟩:=h
 rw[uA]at h;obtain⟨q,h2,h⟩:=h
 split at h
 ·cases h
 ·rename_i g hg
  rw[xB,uA]at h;obtain⟨h3,y,h4,h⟩:=h
  rw[uA]at h;obtain⟨r,h5,h⟩:=h
  rw[xB,uA]at h;obtain⟨h6,z,h7,h⟩:=h
  obtain⟨n,hn⟩:=hφ.ex _ _ _ _ h4
  have:∃m,qR (κs m) r.pending (tm) (endLoop y.2 (H.next+1) r)=some z:=by
   unfold qR at h7 ⊢
   split at h7
   ·exact hκ.norm.ex _ _ _ h7
   ·exact hκ.ret.ex _ _ _ h7
   ·cases h7
  obtain⟨m,hm⟩:=this
  refine⟨max n m,?_⟩
  show gL C (φs (max n m)) fn N (κs (max n m)) f ps a b tm H=some x
  unfold gL;rw[h1,tA,h2,tA,hg];simp only[];rw[xB,uA];refine⟨h3,y,hφ.le (Nat.le_max_left n m) _ _ _ _ hn,?_⟩
  rw[h5,tA,xB,uA];exact⟨h6,z,zej (klm _ _ (Nat.le_max_right n m)) _ _ _ hm,h⟩
def zob(hφ:z4f φs φ):∀(c:xD) (κs:Nat->Kt) (κ:Kt),z9c κs κ->zl7 (fun n=>zD C (φs n) fn N c (κs n)) (zD C φ fn N c κ):=by
 have kle:∀ {κs:Nat->Kt} {κ:Kt},z9c κs κ->∀n,KLe (κs n) (κs (n+1)):=fun h n=>⟨h.norm.up n,fun i=>(h.exit i).up n,h.ret.up n⟩
 intro c;induction c with
 | skip=>exact fun κs κ hκ=>hκ.norm
 | region id ops d=>exact fun κs κ hκ=>zm4 hφ hκ.norm
 | seq a b iha ihb=>exact fun κs κ hκ=>iha (fun n=>⟨zD C (φs n) fn N b (κs n),(κs n).exit,(κs n).ret⟩) _ ⟨ihb _ _ hκ,hκ.exit,hκ.ret⟩
 | cond c a b iha ihb=>
  intro κs κ hκ;refine⟨fun n=>lT (hφ.up n) (.cond c a b) _ _ (kle hκ n),fun tm H x h=>?_⟩
  have h:(ob (ob (ev c (.now tm)) zA.asBool) fun t=>Bool.rec (motive:=fun _=>wB) (zD C φ fn N b κ tm H) (zD C φ fn N a κ tm H) t)=some x:=h
  rw[uA]at h;obtain⟨t,h1,h2⟩:=h
  have key:∀n,(Bool.rec (motive:=fun _=>wB) (zD C (φs n) fn N b (κs n) tm H) (zD C (φs n) fn N a (κs n) tm H) t:wB)=some x->zD C (φs n) fn N (.cond c a b) (κs n) tm H=some x:=by
   intro n hn;show(ob (ob (ev c (.now tm)) zA.asBool) fun t=>Bool.rec (motive:=fun _=>wB) (zD C (φs n) fn N b (κs n) tm H) (zD C (φs n) fn N a (κs n) tm H) t)=some x
   rw[h1,tA];exact hn
  cases t with
  | true=>obtain⟨n,hn⟩:=(iha _ _ hκ).ex _ _ _ h2;exact⟨n,key n hn⟩
  | false=>obtain⟨n,hn⟩:=(ihb _ _ hκ).ex _ _ _ h2;exact⟨n,key n hn⟩
 | block id c ih=>
  intro κs κ hκ;refine ih (fun n=>⟨(κs n).norm,fun i tm H=>Bool.rec (motive:=fun _=>wB) ((κs n).exit i tm H) ((κs n).norm tm H) (Nat.beq id i),(κs n).ret⟩) _ ⟨hκ.norm,fun i=>⟨fun n tm H x h=>?_,fun tm H x h=>?_⟩,hκ.ret⟩
  ·simp only[wH]at h ⊢
   split at h
   ·rename_i e;rw[yab e];exact hκ.norm.up n _ _ _ h
   ·rename_i e;rw[yaa e];exact(hκ.exit i).up n _ _ _ h
  ·simp only[wH]at h ⊢
   split at h
   ·rename_i e;obtain⟨n,hn⟩:=hκ.norm.ex _ _ _ h;exact⟨n,by rw[yab e];exact hn⟩
   ·rename_i e;obtain⟨n,hn⟩:=(hκ.exit i).ex _ _ _ h;exact⟨n,by rw[yaa e];exact hn⟩
 | loop live c ih=>
  intro κs κ hκ;refine⟨fun n=>lT (hφ.up n) (.loop live c) _ _ (kle hκ n),fun tm H x h=>?_⟩
  obtain⟨m,hm⟩:=zxd h
  have it:∀m,zl7 (fun n=>(Nat.rec (motive:=fun _=>Tm->xA->wB) (fun _ _=>none) (fun _ r tm H=>zD C (φs n) fn N c ⟨r,(κs n).exit,(κs n).ret⟩ (keep live.kept tm) H) m:Tm->xA->wB))
    (Nat.rec (motive:=fun _=>Tm->xA->wB) (fun _ _=>none) (fun _ r tm H=>zD C φ fn N c ⟨r,κ.exit,κ.ret⟩ (keep live.kept tm) H) m):=by
   intro m;induction m with
   | zero=>exact⟨fun _ _ _ _ h=>h,fun _ _ _ h=>by cases h⟩
   | succ m ihm=>
    have:=ih _ _ (⟨ihm,hκ.exit,hκ.ret⟩:z9c (fun n=>⟨(Nat.rec (motive:=fun _=>Tm->xA->wB) (fun _ _=>none) (fun _ r tm H=>zD C (φs n) fn N c ⟨r,(κs n).exit,(κs n).ret⟩ (keep live.kept tm) H) m:Tm->xA->wB),(κs n).exit,(κs n).ret⟩) ⟨(Nat.rec (motive:=fun _=>Tm->xA->wB) (fun _ _=>none) (fun _ r tm H=>zD C φ fn N c ⟨r,κ.exit,κ.ret⟩ (keep live.kept tm) H) m:Tm->xA->wB),κ.exit,κ.ret⟩)
    exact⟨fun n tm H x h=>this.up n _ _ _ h,fun tm H x h=>this.ex _ _ _ h⟩
  obtain⟨n,hn⟩:=(it m).ex _ _ _ hm
  exact⟨n,(zb0 fun m y hy=>znq (fun κ κ' h=>lT (fun _ _ _ _ h=>h) c κ κ' h) live.kept m _ _ _ hy).2 ⟨m,hn⟩⟩
 | exit id=>exact fun κs κ hκ=>hκ.exit id
 | ret=>exact fun κs κ hκ=>hκ.ret
 | cut live c ih=>exact fun κs κ hκ=>⟨fun n tm H x h=>(ih _ _ hκ).up n _ _ _ h,fun tm H x h=>(ih _ _ hκ).ex _ _ _ h⟩
 | range i pl f ps id ops c ih=>exact fun κs κ hκ=>⟨fun n tm H x h=>(zfw hφ hκ).up n _ _ _ h,fun tm H x h=>(zfw hφ hκ).ex _ _ _ h⟩
def z3u{live:PI}{c:xD}{κ:Kt}{tm:Tm}{H:xA}:zD C φ fn N (.loop live c) κ tm H=zD C φ fn N c ⟨zD C φ fn N (.loop live c) κ,κ.exit,κ.ret⟩ (keep live.kept tm) H:=by
 have self:OLe φ φ:=fun _ _ _ _ h=>h
 have up:∀m,Le2 (Nat.rec (motive:=fun _=>Tm->xA->wB) (fun _ _=>none) (fun _ r tm H=>zD C φ fn N c ⟨r,κ.exit,κ.ret⟩ (keep live.kept tm) H) m)
   (Nat.rec (motive:=fun _=>Tm->xA->wB) (fun _ _=>none) (fun _ r tm H=>zD C φ fn N c ⟨r,κ.exit,κ.ret⟩ (keep live.kept tm) H) (m+1)):=znq (lT self c) live.kept
 have some_iff:∀tm H x,zD C φ fn N (.loop live c) κ tm H=some x ↔ ∃m,(Nat.rec (motive:=fun _=>Tm->xA->wB) (fun _ _=>none) (fun _ r tm H=>zD C φ fn N c ⟨r,κ.exit,κ.ret⟩ (keep live.kept tm) H) m:Tm->xA->wB) tm H=some x:=
  fun tm H x=>zb0 fun m y hy=>up m _ _ _ hy
 have sup:z9c (fun m=>⟨(Nat.rec (motive:=fun _=>Tm->xA->wB) (fun _ _=>none) (fun _ r tm H=>zD C φ fn N c ⟨r,κ.exit,κ.ret⟩ (keep live.kept tm) H) m:Tm->xA->wB),κ.exit,κ.ret⟩) ⟨zD C φ fn N (.loop live c) κ,κ.exit,κ.ret⟩:=
  ⟨⟨up,fun tm H x h=>(some_iff tm H x).1 h⟩,fun i=>⟨fun _ _ _ _ h=>h,fun _ _ _ h=>⟨0,h⟩⟩,⟨fun _ _ _ _ h=>h,fun _ _ _ h=>⟨0,h⟩⟩⟩
 have key:∀x,zD C φ fn N (.loop live c) κ tm H=some x ↔ zD C φ fn N c ⟨zD C φ fn N (.loop live c) κ,κ.exit,κ.ret⟩ (keep live.kept tm) H=some x:=by
  intro x;rw[some_iff];constructor
  ·rintro⟨m,hm⟩
   cases m with
   | zero=>cases hm
   | succ m=>exact lT self c ⟨(Nat.rec (motive:=fun _=>Tm->xA->wB) (fun _ _=>none) (fun _ r tm H=>zD C φ fn N c ⟨r,κ.exit,κ.ret⟩ (keep live.kept tm) H) m:Tm->xA->wB),κ.exit,κ.ret⟩ ⟨zD C φ fn N (.loop live c) κ,κ.exit,κ.ret⟩ ⟨fun tm H y hy=>(some_iff tm H y).2 ⟨m,hy⟩,fun _ _ _ _ h=>h,fun _ _ _ h=>h⟩ _ _ _ hm
  ·intro h
   obtain⟨m,hm⟩:=(zob (φs:=fun _=>φ) ⟨fun _=>self,fun _ _ _ _ h=>⟨0,h⟩⟩ c _ _ sup).ex _ _ _ h
   exact⟨m+1,hm⟩
 cases h:zD C φ fn N (.loop live c) κ tm H with
 | some x=>exact((key x).1 h).symm
 | none=>
  cases h2:zD C φ fn N c ⟨zD C φ fn N (.loop live c) κ,κ.exit,κ.ret⟩ (keep live.kept tm) H with
  | none=>rfl
  | some x=>rw[(key x).2 h2]at h;cases h
end
end
section
def z21:List rD->Bool
 | .reg .. :: _=>true
 | _=>false
section
variable {P:Program}{C:pA}{B N:Nat}{I:World->Prop}{μ:Mu}{w:World}{base:List Frame}{m:Machine}
def z1g(hF:zl4 P C){f:Nat}{args:List zA}{args':Array Value}{H:xA}(hH:aA B N μ H w)(hl:yB μ args args'.toList){g:bB}(he:jJ C f args false=some g) :
  aC P C B N μ base (lone (Frame.enter P f args' .normal) base w) w (.next ⟨g,[],H⟩):=
 ⟨μ,_,[],w,.refl _ _,fun _ _ h=>h,Below.refl N w,hH,(gW (cur:=some H) hF he hl).1,.nil⟩
end
end
section
inductive fJ (C:pA):wE->wE->Prop
 | refl (o:wE):fJ C o o
 | step {o o':wE}:fJ C (zr0 C o) o'->fJ C o o'
 | forget {todo:List rD} {tm tm':Tm} {R:qI} {cs:List bB} {H:xA} {o':wE}:z21 todo=false->(∀i v,tm'.get i=some v->tm.get i=some v)->fJ C (.next ⟨⟨todo,tm',R⟩,cs,H⟩) o'->fJ C (.next ⟨⟨todo,tm,R⟩,cs,H⟩) o'
def fJ.trans{C:pA}{a b c:wE}(h:fJ C a b)(k:fJ C b c):fJ C a c:=by
 induction h with
 | refl=>exact k
 | step _ ih=>exact .step (ih k)
 | forget h1 h2 _ ih=>exact .forget h1 h2 (ih k)
section
variable {P:Program}{C:pA}{B N:Nat}{I:World->Prop}{μ:Mu}{w:World}{base:List Frame}{m:Machine}
def bD.forget{n:Nat}{tm tm':Tm}{tmps:Array Value}(h:bD μ n tm tmps)(hs:∀i v,tm'.get i=some v->tm.get i=some v):bD μ n tm' tmps:=⟨h.1,fun i v hv=>h.2 i v (hs i v hv)⟩
def zyu{todo:List rD}{tm tm':Tm}{R:qI}{acs:List bB}{H:xA}(hr:z21 todo=false)(hs:∀i v,tm'.get i=some v->tm.get i=some v)(h:aC P C B N μ base m w (.next ⟨⟨todo,tm,R⟩,acs,H⟩)) :
  aC P C B N μ base m w (.next ⟨⟨todo,tm',R⟩,acs,H⟩):=by
 obtain⟨μ',b,cs,w',h1,h2,h3,h4,h5,h6⟩:=h
 obtain⟨bfn,btmps,btodo,bdefers,bmode,bkind,bround⟩:=b
 refine⟨μ',_,cs,w',h1,h2,h3,h4,⟨h5.rest,?_⟩,h6⟩
 have hb:=h5.body
 simp only at hb ⊢
 split at hb
 ·rename_i hm
  rw[yab hm]
  cases hb with
  | plain a t=>exact .plain a (t.forget hs)
  | reg _ _ _ _=>cases hr
  | mid _ _ _ _ _=>cases hr
 ·rename_i hm
  rw[yaa hm];exact hb.forget hs
def aC.reach(hS:Sim P C B N I)(hI:I w){o o':wE}(h:fJ C o o'):aC P C B N μ base m w o->aC P C B N μ base m w o':=by
 induction h with
 | refl=>exact id
 | step _ ih=>exact fun h=>ih (zpc hS hI h)
 | forget hr hs _ ih=>exact fun h=>ih (zyu hr hs h)
end
def zis(C:pA)(f:Nat)(ds:List yI)(fr:bB)(H:xA)(v:zA):Prop:=
 fr.R.mode=.returning/\fr.R.defers=ds/\fr.R.deferred=false/\fr.R.fn=f/\∃fn l,C.fns.get f=some fn/\oQ C H fr.tm fn.results.toList=some l/\v=dS l
def zm0(r:lL)(l:Nat)(tm:Tm):bB:=⟨[.code r.assign,.beginRound,.code r.body],tm,⟨r.fn,r.n,[],.run,false,some l⟩⟩
structure yQ (C:pA) (φ:Ora):Prop where
 fn:∀f args H x,φ (.func f) args H=some x->∃g,jJ C f args false=some g/\∀acs,∃fr',fJ C (.next ⟨g,acs,H⟩) (.next ⟨fr',acs,x.2⟩)/\zis C f [] fr' x.2 x.1
 rd:∀l args H x,φ (.yld l) args H=some x->∃r tm,oI H l=some r/\qQ r.n r.params args r.tm=some tm/\∀c acs c',oG c x.1=some c'->fJ C (.next ⟨zm0 r l tm,c::acs,H⟩) (.next ⟨c',acs,x.2⟩)
abbrev z59:=List yI->wE->zA × xA->Prop
def Fin (C:pA)(E:z59)(ds:List yI)(o:wE)(x:zA × xA):Prop:=∃o',fJ C o o'/\E ds o' x
def Fin.step{C:pA}{E:z59}{ds:List yI}{o:wE}{x:zA × xA}(h:Fin C E ds (zr0 C o) x):Fin C E ds o x:=by
 obtain⟨fr,h1,h2⟩:=h;exact⟨fr,.step h1,h2⟩
def Fin.of{C:pA}{E:z59}{ds:List yI}{o o':wE}{x:zA × xA}(hr:fJ C o o')(h:Fin C E ds o' x):Fin C E ds o x:=by
 obtain⟨fr,h1,h2⟩:=h;exact⟨fr,hr.trans h1,h2⟩
abbrev RR(f N:Nat)(ro:Option Nat)(ds:List yI):qI:=⟨f,N,ds,.run,false,ro⟩
structure zt0 (C:pA) (E:z59) (G:zA × xA->Prop) (f N:Nat) (ro:Option Nat) (acs:List bB):Prop where
 not:∀ds todo tm H x,¬ E ds (.next ⟨⟨todo,tm,RR f N ro ds⟩,acs,H⟩) x
 all:ro=none->∀x,G x
 pop:ro=none->∀r ds o x,E (⟨none,r,[]⟩::ds) o x->eP x.2 r=some (some [])->∃o',fJ C o o'/\E ds o' (x.1,setBlk x.2 r (.deferred none))
structure zrh (C:pA) (E:z59) (G:zA × xA->Prop) (f N:Nat) (ro:Option Nat) (acs:List bB) (κ:Kt) (k:List rD):Prop where
 norm:∀ds x tm H,G x->κ.norm tm H=some x->Fin C E ds (.next ⟨⟨k,tm,RR f N ro ds⟩,acs,H⟩) x
 exit:∀ds x i tm H,G x->κ.exit i tm H=some x->Fin C E ds (.next ⟨⟨.code (.exit i)::k,tm,RR f N ro ds⟩,acs,H⟩) x
 ret:∀ds x tm H,G x->κ.ret tm H=some x->∀k',Fin C E ds (.next ⟨⟨.code .ret::k',tm,RR f N ro ds⟩,acs,H⟩) x
structure zot where
 i:Nat
 pl:List Nat
 f:Operand
 ps:Array Nat
 id:Nat
 ops:Array Oper
 c:xD
def iM(c:xD):List zot:=
 xD.rec (motive:=fun _=>List zot) [] (fun _ _ _=>[]) (fun _ _ a b=>eC a b) (fun _ _ _ a b=>eC a b) (fun _ _ a=>a) (fun _ _ a=>a) (fun _=>[]) [] (fun _ _ a=>a)
  (fun i pl f ps id ops c a=>⟨i,pl,f,ps,id,ops,c⟩::a) c
section
variable {C:pA}{φ:Ora}{E:z59}{G:zA × xA->Prop}{ds:List yI}{ro:Option Nat}{f N:Nat}{acs:List bB}{R:qI}{κ:Kt}{k:List rD}{x:zA × xA}{all:Array Oper}
def fI(hR:R.mode.running=true){todo:List rD}{tm:Tm}{H:xA}:zr0 C (.next ⟨⟨todo,tm,R⟩,acs,H⟩)=xM C todo tm R acs H:=by
 show(bif R.mode.running then xM C todo tm R acs H else _)=_
 rw[hR];rfl
def zyk{fr c c':bB}{H:xA}{v:zA}(hr:zis C f [] fr H v)(hf:oG c v=some c'):zr0 C (.next ⟨fr,c::acs,H⟩)=.next ⟨c',acs,H⟩:=by
 obtain⟨h1,h2,h3,h4,fn,l,h5,h6,rfl⟩:=hr
 obtain⟨todo,tm,ffn,n,defers,mode,deferred,round⟩:=fr
 simp only at h1 h2 h3 h4 h6
 subst h1 h2 h3 h4
 show zch C ⟨todo,tm,_⟩ (c::acs) H=_
 unfold zch;rw[h5,tA,h6];simp only[cond_false];rw[hf];rfl
def zfs(hφ:yQ C φ){r:gI}{H:xA}{K:zA->xA->wB}(h:pF φ r H K=some x){fr:bB}
  (hK:∀v H' c',oG fr v=some c'->K v H'=some x->Fin C E ds (.next ⟨c',acs,H'⟩) x) (hfin:∀v,∃c',oG fr v=some c'):Fin C E ds (za6 r C fr acs H) x:=by
 cases r<;>simp only[pF]at h<;>try (cases h;done)
 case val v H'=>
  have h2:K v H'=some x:=h
  obtain⟨c',hc⟩:=hfin v
  show Fin C E ds (z63 v H' C fr acs H) x
  unfold z63;rw[hc];exact hK _ _ _ hc h2
 case enter g args=>
  rw[uA]at h;obtain⟨p,h1,h4⟩:=h
  obtain⟨c',hc⟩:=hfin p.1
  show Fin C E ds (zjr g args C fr acs H) x
  unfold zjr;obtain⟨ge,he,r0⟩:=hφ.fn _ _ _ _ h1
  obtain⟨fr',r1,r2⟩:=r0 (fr::acs)
  rw[he];refine Fin.of (r1.trans (.step ?_)) (hK _ _ _ hc h4)
  rw[zyk r2 hc];exact .refl _
 case round l args=>
  rw[uA]at h;obtain⟨p,h1,h4⟩:=h
  obtain⟨c',hc⟩:=hfin p.1
  obtain⟨r,tm,e1,e2,r0⟩:=hφ.rd _ _ _ _ h1
  show Fin C E ds (zjq l args C fr acs H) x
  unfold zjq;rw[e1,tA,e2,tA];exact Fin.of (r0 _ _ _ hc) (hK _ _ _ hc h4)
def zsf(hφ:yQ C φ)(hR:R.mode.running=true)(hN:R.n=N){κn:Tm->xA->wB}(hκ:∀tm H,κn tm H=some x->Fin C E ds (.next ⟨⟨k,tm,R⟩,acs,H⟩) x) :
  ∀(l:List Oper) (tm:Tm) (H:xA),zK C φ all N κn l tm H=some x->Fin C E ds (xO C all k R acs l tm H) x:=by
 intro l;induction l with
 | nil=>exact fun tm H h=>hκ tm H h
 | cons o l ih=>
  intro tm H h;rw[zT,uA]at h;obtain⟨w,h1,h⟩:=h
  rw[wZ,h1]
  cases w with
  | false=>rw[yaa (by simp)]at h;simp only[];rw[hN];exact ih _ _ h
  | true=>
   rw[yab rfl]at h;simp only[];generalize (yF o.op).f C (.now tm) H=r at h
   cases hv:r.asVal with
   | some p=>
    have:r=.val p.1 p.2:=by cases r<;>simp[gI.asVal]at hv;rw[<- hv]
    subst this;simp only[pF,eK]at h;obtain⟨h2,h3⟩:=h
    simp only[];rw[hN];exact ih _ _ h3
   | none=>
    refine zfs hφ h (fun v H' c' hc hK=>?_) fun v=>⟨⟨.ops all l::k,putA R.n tm o.dst v,R⟩,by unfold oG;simp only[hR,cond_true];rfl⟩
    unfold oG at hc;simp only[hR,cond_true]at hc;have hc:some (⟨.ops all l::k,putA R.n tm o.dst v,R⟩:bB)=some c':=hc
    cases hc;refine .step ?_
    rw[fI hR,hN];rw[eK]at hK;exact ih _ _ hK.2
def fX{H:xA}{old:Tm}{olds:List (Nat × List Nat)}{K:Tm->wB}:∀(l:List Nat) (tm:Tm),mG C H all N old olds K l tm=some x->∃tm',dL C H all N old olds l tm=some tm'/\K tm'=some x:=by
 intro l;induction l with
 | nil=>exact fun tm h=>⟨tm,rfl,h⟩
 | cons i l ih=>
  intro tm h;rw[dX,uA]at h;obtain⟨o,h1,h⟩:=h
  rw[uA]at h;obtain⟨w,h2,h⟩:=h
  unfold dL;rw[h1,tA,h2,tA]
  cases w with
  | false=>rw[yaa (by simp)]at h;simp only[cond_false,tA];exact ih _ h
  | true=>
   rw[yab rfl,uA]at h;obtain⟨v,h3,h⟩:=h
   rw[eK]at h;obtain⟨h4,h⟩:=h
   simp only[cond_true];rw[h3,tA];exact ih _ h
def zqs{C:pA}{o:Op}{e:mC}{H:xA}{r:gI}(hf:kI o=true)(h:(yF o).f C e H=r)(h1:∀q,r≠nJ q):False:=by
 have key:∀q:Option (zA × xA),nJ q=r->False:=fun q e=>h1 q e.symm
 cases o<;>simp only[kI]at hf<;>first
  | (cases hf;done)
  | exact key _ h
def zha(hφ:yQ C φ)(hR:R.mode.running=true)(hN:R.n=N){κn:Tm->xA->wB}(hκ:∀tm H,κn tm H=some x->Fin C E ds (.next ⟨⟨k,tm,R⟩,acs,H⟩) x){old:Tm}{olds:List (Nat × List Nat)} :
  ∀(l:List uE) (tm:Tm) (H:xA),jG C φ all N old olds κn l tm H=some x->Fin C E ds (.next ⟨⟨.reg all old olds l::k,tm,R⟩,acs,H⟩) x:=by
 intro l;induction l with
 | nil=>
  intro tm H h;refine .step ?_
  rw[fI hR];exact hκ tm H h
 | cons st l ih=>
  intro tm H h
  cases hg:kN all st with
  | true=>
   rw[iV hg,wY]at h;obtain⟨h0,es,H',h1,h2,h3⟩:=h
   obtain⟨tm',hl1,hl2⟩:=fX _ _ h3
   refine .step ?_
   rw[fI hR];show Fin C E ds (zrj all old olds (st::l) C k tm R acs H) x
   unfold zrj;have hg0:=tC.1 hg
   rw[fC]at hg0;have hnone:lC all.toList st.heavy=none:=by
    rw[kF];exact List.getElem?_eq_none (by omega)
   simp only[hnone];rw[cB,yab (tC.2 (by rw[fC];omega)),cB,yab (show Nat.blt (zB all.toList+zB all.toList) st.heavy=true from hg)]
   unfold zoz;rw[h0,show ∀(x:Option rM),dA true x=x from fun _=>rfl,h1,tA,h2,tA,hN,hl1,tA]
   exact ih _ _ hl2
  | false=>
  rw[tU hg,uA]at h;obtain⟨o,h1,h⟩:=h
  rw[uA]at h;obtain⟨w,h2',h⟩:=h
  have hgn:Nat.blt (zB all.toList+zB all.toList) st.heavy=false:=hg
  by_cases hfl:Nat.blt (zB all.toList) st.heavy=true
  ·-- an operation that is done early
   unfold bN at h2';unfold hvI at h1 h;rw[hfl]at h1 h2' h
   simp only[cond_true,uA,xB,ybb]at h1 h2'
   obtain⟨w',h2,⟨⟨hw,hfo⟩,hlo⟩,h2'⟩:=h2'
   cases h2'
   subst hw;simp only[if_true,cond_true]at h;have hval:∃v H',(yF o.op).f C (.mixed tm old (jD (Nat.sub st.heavy (Nat.succ (zB all.toList))) olds) (eF o.op)) H=.val v H':=by
    cases hr:(yF o.op).f C (.mixed tm old (jD (Nat.sub st.heavy (Nat.succ (zB all.toList))) olds) (eF o.op)) H with
    | val v H'=>exact⟨v,H',rfl⟩
    | enter g args=>exact(zqs hfo hr fun q=>by cases q<;>simp[nJ]).elim
    | round g args=>exact(zqs hfo hr fun q=>by cases q<;>simp[nJ]).elim
    | _=>rw[hr]at h;cases h
   obtain⟨v,H',hv⟩:=hval
   rw[hv]at h;have h:(dI C o.type v fun v=>qJ C H' all old olds (putA N tm o.dst v) (mG C H' all N old olds (fun tm=>jG C φ all N old olds κn l tm H') st.lights (putA N tm o.dst v)) st.again)=some x:=h
   rw[eK]at h;obtain⟨ha,hl⟩:=bW _ h.2
   obtain⟨tm',hl1,hl2⟩:=fX _ _ hl
   refine .step ?_
   rw[fI hR];show Fin C E ds (zrj all old olds (st::l) C k tm R acs H) x
   unfold zrj;have hnone:lC all.toList st.heavy=none:=by
    rw[kF];have:=tC.1 hfl
    rw[fC]at this;exact List.getElem?_eq_none (by omega)
   simp only[hnone];rw[hfl,cond_true,hgn,cond_false];unfold zo0;rw[h1,tA,h2,tA,hv,hlo];show Fin C E ds (cI (ob (dL C H' all R.n old olds st.lights (putA R.n tm o.dst v)) fun tm'=>some ⟨⟨.reg all old olds l::k,tm',R⟩,acs,H'⟩) 23) x
   rw[hN,hl1,tA];exact ih _ _ hl2
  have hfl:Nat.blt (zB all.toList) st.heavy=false:=Bool.eq_false_iff.2 hfl
  unfold bN at h2';unfold hvI at h1 h;rw[hfl]at h1 h2' h
  simp only[cond_false,uA]at h1 h2'
  obtain⟨w',h2,h2'⟩:=h2'
  cases h2'
  simp only[cond_false]at h;have back0:∀v H' c',oG (⟨.reg all old olds (st::l)::k,tm,R⟩:bB) v=some c' →
    qJ C H' all old olds (putA N tm o.dst v) (mG C H' all N old olds (fun tm=>jG C φ all N old olds κn l tm H') st.lights (putA N tm o.dst v)) st.again=some x->Fin C E ds (.next ⟨c',acs,H'⟩) x:=by
   intro v H' c' hc hK;unfold oG at hc;simp only[hR,cond_true]at hc;have hc:(ob (lC all.toList st.heavy) fun o=>some (⟨.reg all old olds (⟨all.size,st.lights,st.again⟩::l)::k,putA R.n tm o.dst v,R⟩:bB))=some c':=hc
   rw[h1,tA]at hc
   cases hc;refine .step ?_
   rw[fI hR,hN];obtain⟨ha,hl⟩:=bW _ hK
   obtain⟨tm',hl1,hl2⟩:=fX _ _ hl
   show Fin C E ds (zrj all old olds (⟨all.size,st.lights,st.again⟩::l) C k (putA N tm o.dst v) R acs H') x
   unfold zrj;have:lC all.toList all.size=none:=by rw[kF];simp
   simp only[this];rw[cB,yaa fun e=>by have:=tC.1 e;rw[fC]at this;simp at this]
   show Fin C E ds (zcb all old olds ⟨all.size,st.lights,st.again⟩ l C k (putA N tm o.dst v) R acs H') x
   unfold zcb;simp only[ha,hN,hl1,tA];exact ih _ _ hl2
  have back:∀v H' c',oG (⟨.reg all old olds (st::l)::k,tm,R⟩:bB) v=some c' →
    (dI C o.type v fun v=>qJ C H' all old olds (putA N tm o.dst v) (mG C H' all N old olds (fun tm=>jG C φ all N old olds κn l tm H') st.lights (putA N tm o.dst v)) st.again)=some x->Fin C E ds (.next ⟨c',acs,H'⟩) x:=by
   intro v H' c' hc hK;rw[eK]at hK;exact back0 v H' c' hc hK.2
  refine .step ?_
  rw[fI hR];show Fin C E ds (zrj all old olds (st::l) C k tm R acs H) x
  unfold zrj;simp only[h1];unfold zoy;rw[h2];simp only[];have hfin:∀v,∃c',oG (⟨.reg all old olds (st::l)::k,tm,R⟩:bB) v=some c':=fun v=>⟨⟨.reg all old olds (⟨all.size,st.lights,st.again⟩::l)::k,putA R.n tm o.dst v,R⟩,by
   unfold oG;simp only[hR,cond_true];show(ob (lC all.toList st.heavy) fun o=>some (⟨.reg all old olds (⟨all.size,st.lights,st.again⟩::l)::k,putA R.n tm o.dst v,R⟩:bB))=_
   rw[h1];rfl⟩
  cases w with
  | true=>
   simp only[if_true]at h;exact zfs hφ h back hfin
  | false=>
   simp only[ybq,if_false]at h;obtain⟨c',hc⟩:=hfin pD
   show Fin C E ds (z63 pD H C _ acs H) x
   unfold z63;rw[hc];exact back0 _ _ _ hc h
def z2y{live:List Nat}{tm:Tm}{i:Nat}{v:zA}(h:(keep live tm).get i=some v):tm.get i=some v:=by
 unfold keep Tm.get at h;simp only[wH]at h;split at h
 case isFalse=>cases h
 rename_i hk;have key:∀live:List Nat,(zkp tm live).get i=some v->tm.get i=some v:=by
  intro live;induction live with
  | nil=>intro h;rw[show zkp tm []=.leaf from rfl,Tr.get_leaf]at h;cases h
  | cons j live ih=>
   intro h;have h:(match tm.get j with | some v=>(zkp tm live).set j v | none=>zkp tm live:Tr zA).get i=some v:=h
   cases hj:tm.get j with
   | none=>rw[hj]at h;exact ih h
   | some u=>
    rw[hj]at h;simp only[]at h;rw[Tr.get_set]at h;split at h
    ·rename_i e;rw[e,hj];exact h
    ·exact ih h
 exact key live h
def zgg{todo:List rD}(hr:z21 todo=false){live:List Nat}{tm:Tm}{H:xA}(h:Fin C E ds (.next ⟨⟨todo,keep live tm,R⟩,acs,H⟩) x):Fin C E ds (.next ⟨⟨todo,tm,R⟩,acs,H⟩) x:=
 Fin.of (.forget hr (fun _ _=>z2y) (.refl _)) h
def zd3(hE:zt0 C E G f N ro acs){t1 t2:List rD}(h1:z21 t1=false)(hs:∀tm H,xM C t1 tm (RR f N ro ds) acs H=xM C t2 tm (RR f N ro ds) acs H){tm:Tm}{H:xA}(h:Fin C E ds (.next ⟨⟨t2,tm,RR f N ro ds⟩,acs,H⟩) x):Fin C E ds (.next ⟨⟨t1,tm,RR f N ro ds⟩,acs,H⟩) x:=by
 obtain⟨o',hr,hv⟩:=h
 refine⟨o',?_,hv⟩
 generalize ho:(.next ⟨⟨t2,tm,RR f N ro ds⟩,acs,H⟩:wE)=o at hr
 induction hr generalizing tm with
 | refl=>
  subst ho;exact(hE.not _ _ _ _ _ hv).elim
 | step h ih=>
  subst ho;refine .step ?_
  rw[fI rfl,hs,<- fI rfl];exact h
 | forget hr2 hs2 h ih=>
  cases ho;exact .forget h1 hs2 (ih hv rfl)
def zso{i:Nat}{t1 t2:List rD}{tm:Tm}{H:xA}:cM (some (.exit i)) C ⟨t1,tm,R⟩ acs H=cM (some (.exit i)) C ⟨t2,tm,R⟩ acs H:=by
 obtain⟨a,b,c,d,e,ro⟩:=R
 unfold cM
 cases ro<;>rfl
def zd6(hE:zt0 C E G f N ro acs){i:Nat}{y:rD}(hy:∀j,y.blockId=some j->Nat.beq j i=false){tm:Tm}{H:xA}(h:Fin C E ds (.next ⟨⟨.code (.exit i)::k,tm,RR f N ro ds⟩,acs,H⟩) x):Fin C E ds (.next ⟨⟨.code (.exit i)::y::k,tm,RR f N ro ds⟩,acs,H⟩) x:=by
 refine zd3 hE rfl (fun tm H=>?_) h
 show ziu i C (y::k) tm (RR f N ro ds) acs H=ziu i C k tm (RR f N ro ds) acs H
 have e:oK i (y::k)=oK i k:=by
  show(match y.blockId with | some j=>bif Nat.beq j i then some k else oK i k | none=>oK i k)=_
  cases hb:y.blockId with
  | none=>rfl
  | some j=>simp only[hy j hb,cond_false]
 unfold ziu;rw[e]
 cases oK i k with
 | some k'=>rfl
 | none=>exact zso
def zjp(hφ:yQ C φ)(hE:zt0 C E G f N none acs){κ:Kt}(hκ:zrh C E G f N none acs κ k){fo:Operand}{ps:Array Nat}{a b:Code}{tm:Tm}{H:xA}(h:gL C φ f N κ fo ps.toList a b tm H=some x):Fin C E ds (.next ⟨⟨.code (.rangeFunc fo ps a b)::k,tm,RR f N none ds⟩,acs,H⟩) x:=by
 unfold gL at h;rw[uA]at h;obtain⟨v,h1,h⟩:=h
 rw[uA]at h;obtain⟨⟨qf,q1,q2⟩,h2,h⟩:=h
 cases qf with
 | yld l=>cases h
 | func g=>
  simp only[xB,uA]at h;obtain⟨h3,y,h4,r,h5,h6,z,h7,d,h8,h9,h10⟩:=h
  have hp:C.prims.get g=none:=by
   cases hx:C.prims.get g with
   | none=>rfl
   | some u=>rw[hx]at h3;cases h3
  obtain⟨ge,he,r0⟩:=hφ.fn _ _ _ _ h4
  obtain⟨fr',r1,r2⟩:=r0 (⟨.inRange (H.next+1)::k,tm,RR f N none (⟨none,H.next,[]⟩::ds)⟩::acs)
  refine .step ?_
  rw[fI rfl];show Fin C E ds (zit fo ps a b C k tm (RR f N none ds) acs H) x
  have hin:nQ C (H.next+1) v=some ge:=by
   unfold nQ;rw[h2,tA];simp only[hp];exact he
  unfold zit;rw[h1,tA];simp only[hin,tA];refine Fin.of (r1.trans (.step ?_)) (?_:Fin C E ds (.next ⟨⟨.endRange (H.next+1)::k,tm,RR f N none (⟨none,H.next,[]⟩::ds)⟩,acs,y.2⟩) x)
  ·rw[zyk r2 (c':=⟨.endRange (H.next+1)::k,tm,RR f N none (⟨none,H.next,[]⟩::ds)⟩) rfl]
   exact .refl _
  refine .step ?_
  rw[fI rfl];show Fin C E ds (rV (H.next+1) C k tm (RR f N none (⟨none,H.next,[]⟩::ds)) acs y.2) x
  unfold rV;rw[h5,tA,h6];have key:Fin C E (⟨none,H.next,[]⟩::ds) (.next ⟨⟨(match r.pending with | some c=>.code c::k | none=>k),tm,RR f N none (⟨none,H.next,[]⟩::ds)⟩,acs,endLoop y.2 (H.next+1) r⟩) z:=by
   unfold qR at h7;split at h7
   ·rename_i e;rw[e];exact hκ.norm _ _ _ _ (hE.all rfl _) h7
   ·rename_i e;rw[e];exact hκ.ret _ _ _ _ (hE.all rfl _) h7 k
   ·cases h7
  obtain⟨o',k1,k2⟩:=key
  have hd:eP z.2 H.next=some (some []):=by
   rw[h8]
   cases d with
   | none=>cases h9
   | some l=>cases l with | nil=>rfl | cons _ _=>cases h9
  obtain⟨o'',k3,k4⟩:=hE.pop rfl _ _ _ _ k2 hd
  cases h10;exact⟨o'',k1.trans k3,k4⟩
def pX{α:Type}{a b:List α}(h:eC a b=[]):a=[]/\b=[]:=by rw[pG]at h;exact List.append_eq_nil_iff.1 h
def zk9(hφ:yQ C φ)(hE:zt0 C E G f N ro acs):∀(c:xD) (κ:Kt) (k:List rD),(ro=none\/iM c=[])->zrh C E G f N ro acs κ k->∀ds x tm H,G x->zD C φ f N c κ tm H=some x->Fin C E ds (.next ⟨⟨.code (dE c)::k,tm,RR f N ro ds⟩,acs,H⟩) x:=by
 intro c;induction c with
 | skip=>
  intro κ k _ hκ ds x tm H hG h;refine .step ?_
  rw[fI rfl];exact hκ.norm _ _ _ _ hG h
 | region id ops d=>
  intro κ k _ hκ ds x tm H hG h;refine .step ?_
  rw[fI rfl]
  cases d with
  | false=>exact zsf hφ rfl rfl (fun tm H h=>hκ.norm _ _ _ _ hG h) _ _ _ h
  | true=>
   have h:(ob (ob (C.plans.get f) fun t=>t.get id) fun p=>dA (nN ops p) (mG C H ops N tm.cut p.olds (fun tm'=>jG C φ ops N tm.cut p.olds κ.norm p.stages tm' H) p.first tm.cut))=some x:=h
   rw[uA]at h;obtain⟨p,h1,h⟩:=h
   rw[xB]at h;obtain⟨tm',hl1,hl2⟩:=fX _ _ h.2
   show Fin C E ds (zt9 id ops C k tm (RR f N ro ds) acs H) x
   unfold zt9;rw[h1,tA,h.1,hl1];exact zha hφ rfl rfl (fun tm H h=>hκ.norm _ _ _ _ hG h) _ _ _ hl2
 | seq a b iha ihb=>
  intro κ k hn hκ ds x tm H hG h;have hna:ro=none\/iM a=[]:=hn.imp id fun e=>(pX e).1
  have hnb:ro=none\/iM b=[]:=hn.imp id fun e=>(pX e).2
  refine zd3 hE (t1:=.code (dE (.seq a b))::k) rfl (t2:=.code (dE a)::.code (dE b)::k) (fun _ _=>rfl) ?_
  exact iha ⟨zD C φ f N b κ,κ.exit,κ.ret⟩ _ hna ⟨fun ds x tm H hG h=>ihb _ _ hnb hκ ds x tm H hG h,fun ds x i tm H hG h=>zd6 hE (fun _ e=>by cases e) (hκ.exit _ _ _ _ _ hG h),hκ.ret⟩ ds x tm H hG h
 | cond c a b iha ihb=>
  intro κ k hn hκ ds x tm H hG h;have hna:ro=none\/iM a=[]:=hn.imp id fun e=>(pX e).1
  have hnb:ro=none\/iM b=[]:=hn.imp id fun e=>(pX e).2
  have h:(ob (ob (ev c (.now tm)) zA.asBool) fun t=>Bool.rec (motive:=fun _=>wB) (zD C φ f N b κ tm H) (zD C φ f N a κ tm H) t)=some x:=h
  rw[uA]at h;obtain⟨t,h1,h⟩:=h
  refine .step ?_
  rw[fI rfl];show Fin C E ds (zua c (dE a) (dE b) C k tm (RR f N ro ds) acs H) x
  unfold zua;rw[h1]
  cases t with
  | true=>exact iha _ _ hna hκ _ _ _ _ hG h
  | false=>exact ihb _ _ hnb hκ _ _ _ _ hG h
 | block id c ih=>
  intro κ k hn hκ ds x tm H hG h;refine .step ?_
  rw[fI rfl];have nx:∀ds x tm H,G x->κ.norm tm H=some x->Fin C E ds (.next ⟨⟨.inBlock id::k,tm,RR f N ro ds⟩,acs,H⟩) x:=by
   intro ds x tm H hG h;refine .step ?_
   rw[fI rfl];exact hκ.norm _ _ _ _ hG h
  refine ih ⟨κ.norm,fun i tm H=>Bool.rec (motive:=fun _=>wB) (κ.exit i tm H) (κ.norm tm H) (Nat.beq id i),κ.ret⟩ _ hn ⟨nx,fun ds x i tm H hG h=>?_,hκ.ret⟩ ds x tm H hG h
  dsimp only at h
  cases hb:Nat.beq id i with
  | true=>
   rw[hb]at h;refine .step ?_
   rw[fI rfl];show Fin C E ds (ziu i C (.inBlock id::k) tm (RR f N ro ds) acs H) x
   have e:oK i (.inBlock id::k)=some k:=by
    show(bif Nat.beq id i then some k else oK i k)=_
    rw[hb];rfl
   unfold ziu;rw[e];exact hκ.norm _ _ _ _ hG h
  | false=>
   rw[hb]at h;exact zd6 hE (fun j e=>by cases e;exact hb) (hκ.exit _ _ _ _ _ hG h)
 | loop live c ih=>
  intro κ k hn hκ ds x tm H hG h;obtain⟨m,hm⟩:=zxd h
  have it:∀(m:Nat) ds x tm H,G x->(Nat.rec (motive:=fun _=>Tm->xA->wB) (fun _ _=>none) (fun _ r tm H=>zD C φ f N c ⟨r,κ.exit,κ.ret⟩ (keep live.kept tm) H) m:Tm->xA->wB) tm H=some x->Fin C E ds (.next ⟨⟨.inLoop (dE c)::k,tm,RR f N ro ds⟩,acs,H⟩) x:=by
   intro m;induction m with
   | zero=>intro ds x tm H _ h;cases h
   | succ m ihm=>
    intro ds x tm H hG h;refine zgg (live:=live.kept) rfl (.step ?_)
    rw[fI rfl];exact ih ⟨_,κ.exit,κ.ret⟩ _ hn ⟨ihm,fun ds x i tm H hG h=>zd6 hE (fun _ e=>by cases e) (hκ.exit _ _ _ _ _ hG h),hκ.ret⟩ _ _ _ _ hG h
  exact zd3 hE (t1:=.code (dE (.loop live c))::k) rfl (t2:=.inLoop (dE c)::k) (fun _ _=>rfl) (it m _ _ tm H hG hm)
 | exit id=>exact fun κ k _ hκ ds x tm H hG h=>hκ.exit _ _ _ _ _ hG h
 | ret=>exact fun κ k _ hκ ds x tm H hG h=>hκ.ret _ _ _ _ hG h k
 | cut live c ih=>exact fun κ k hn hκ ds x tm H hG h=>zgg rfl (ih κ k hn hκ _ _ _ _ hG h)
 | range i pl fo ps id ops c ih=>
  intro κ k hn hκ ds x tm H hG h;rcases hn with rfl | e
  ·exact zjp hφ hE hκ h
  ·cases e
end
end
section
def endK (C:pA)(fn:Func)(tm:Tm)(H:xA):wB:=ob (oQ C H tm fn.results.toList) fun l=>some (dS l,H)
def z0o (C:pA)(fn:Func):Kt:=⟨endK C fn,fun _ _ _=>none,endK C fn⟩
def yW(ops:List Oper):Bool:=rB (fun o=>match o.op with | .move _=>fG o.guard | .assign _=>fG o.guard | _=>false) ops
def wW(c:xD):Option zot:=match iM c with | [q]=>some q | _=>none
def rdOk (r:lL)(q:zot):Prop:=r.assign=.region q.id q.ops false/\r.body=dE q.c/\r.params=q.ps.toList/\LoopState.tag r.state=0/\yW q.ops.toList=true/\iM q.c=[]
def zom(r:lL):lL:=⟨.busy,r.pending,r.fn,r.n,r.tm,r.params,r.assign,r.body,r.defers⟩
def zh2(b:Bool)(r:lL):lL:=⟨if b then .ready else .done,if b then none else some .ret,r.fn,r.n,r.tm,r.params,r.assign,r.body,r.defers⟩
def rdK:Kt:=⟨fun _ H=>some (.bool true,H),fun _ _ _=>none,fun _ H=>some (.bool false,H)⟩
def z31(C:pA)(φ:Ora)(fn n:Nat)(q:zot)(tm:Tm)(H:xA):wB:=zD C φ fn n (.seq (.region q.id q.ops false) q.c) rdK tm H
def zcx(C:pA)(A:Tr xD)(φ:Ora)(l:Nat)(args:List zA)(H:xA):wB:=
 ob (oI H l) fun r=>ob (qQ r.n r.params args r.tm) fun tm=>ob (A.get r.fn) fun c=>ob (wW c) fun q=>@ite _ (rdOk r q) (Classical.propDecidable _)
  (ob (z31 C φ r.fn r.n q tm (setBlk H l (.loop (zom r)))) fun x=>ob (oI x.2 l) fun r2=>ob x.1.asBool fun b=>some (.bool b,setBlk x.2 l (.loop (zh2 b r2)))) none
def zt7 (C:pA)(A:Tr xD)(φ:Ora)(f:Nat)(args:List zA)(H:xA):wB:=
 ob (A.get f) fun c=>ob (C.fns.get f) fun fn=>ob (jJ C f args false) fun g=>zD C φ f fn.ntmps c (z0o C fn) g.tm H
def zmv(C:pA)(A:Tr xD)(φ:Ora):Ora
 | .func f=>zt7 C A φ f
 | .yld l=>zcx C A φ l
def z47 (C:pA)(A:Tr xD):Nat->Ora
 | 0=>fun _ _ _=>none
 | n+1=>zmv C A (z47 C A n)
def bC (C:pA)(A:Tr xD):Ora:=fun f args H=>lim fun n=>z47 C A n f args H
section
variable {C:pA}{A:Tr xD}
def pU{φ:Ora}{l:Nat}{args:List zA}{H:xA}{x:zA × xA}:zcx C A φ l args H=some x ↔ ∃r tm c q y r2 b,oI H l=some r/\qQ r.n r.params args r.tm=some tm/\A.get r.fn=some c/\wW c=some q/\rdOk r q/\z31 C φ r.fn r.n q tm (setBlk H l (.loop (zom r)))=some y/\oI y.2 l=some r2/\y.1=.bool b/\x=(.bool b,setBlk y.2 l (.loop (zh2 b r2))):=by
 unfold zcx;simp only[uA];constructor
 ·rintro⟨r,h1,tm,h2,c,h3,q,h4,h⟩
  by_cases hq:rdOk r q
  ·rw[yab hq]at h
   simp only[uA]at h;obtain⟨y,h5,r2,h6,b,h7,h8⟩:=h
   exact⟨r,tm,c,q,y,r2,b,h1,h2,h3,h4,hq,h5,h6,uR.1 h7,by cases h8;rfl⟩
  ·rw[yaa hq]at h;cases h
 ·rintro⟨r,tm,c,q,y,r2,b,h1,h2,h3,h4,hq,h5,h6,h7,h8⟩
  refine⟨r,h1,tm,h2,c,h3,q,h4,?_⟩
  rw[yab hq];simp only[uA];exact⟨y,h5,r2,h6,b,uR.2 h7,by rw[h8]⟩
def zfi{φ φ':Ora}(h:OLe φ φ'):OLe (zmv C A φ) (zmv C A φ'):=by
 intro f args H x hx
 cases f with
 | yld l=>
  have hx:zcx C A φ l args H=some x:=hx
  obtain⟨r,tm,c,q,y,r2,b,h1,h2,h3,h4,hq,h5,h6,h7,h8⟩:=pU.1 hx
  exact pU.2 ⟨r,tm,c,q,y,r2,b,h1,h2,h3,h4,hq,lT h _ _ _ (KLe.refl _) _ _ _ h5,h6,h7,h8⟩
 | func f=>
 have hx:zt7 C A φ f args H=some x:=hx
 show zt7 C A φ' f args H=some x
 unfold zt7 at hx ⊢
 rw[uA]at hx ⊢
 obtain⟨c,h1,hx⟩:=hx
 refine⟨c,h1,?_⟩
 rw[uA]at hx ⊢
 obtain⟨fn,h2,hx⟩:=hx
 refine⟨fn,h2,?_⟩
 rw[uA]at hx ⊢
 obtain⟨g,h3,hx⟩:=hx
 exact⟨g,h3,lT h c _ _ (KLe.refl _) _ _ _ hx⟩
def zw2:∀n,OLe (z47 C A n) (z47 C A (n+1)):=by
 intro n;induction n with
 | zero=>intro f args H x h;cases h
 | succ n ih=>exact zfi ih
def rT{f:AFn}{args:List zA}{H:xA}{x:zA × xA}:bC C A f args H=some x ↔ ∃n,z47 C A n f args H=some x:=
 zb0 fun n _ hy=>zw2 n _ _ _ _ hy
def zyv:z4f (z47 C A) (bC C A):=⟨zw2,fun _ _ _ _ h=>rT.1 h⟩
def z5y(f:AFn)(args:List zA)(H:xA):bC C A f args H=zmv C A (bC C A) f args H:=by
 have key:∀x,bC C A f args H=some x ↔ zmv C A (bC C A) f args H=some x:=by
  intro x;constructor
  ·intro h
   obtain⟨n,hn⟩:=rT.1 h
   cases n with
   | zero=>cases hn
   | succ n=>exact zfi (fun f a H y hy=>rT.2 ⟨n,hy⟩) _ _ _ _ hn
  ·intro h
   cases f with
   | yld l=>
    have h:zcx C A (bC C A) l args H=some x:=h
    obtain⟨r,tm,c,q,y,r2,b,h1,h2,h3,h4,hq,h5,h6,h7,h8⟩:=pU.1 h
    have sup:z9c (fun _=>rdK) rdK:=⟨⟨fun _ _ _ _ h=>h,fun _ _ _ h=>⟨0,h⟩⟩,fun i=>⟨fun _ _ _ _ h=>h,fun _ _ _ h=>⟨0,h⟩⟩,⟨fun _ _ _ _ h=>h,fun _ _ _ h=>⟨0,h⟩⟩⟩
    obtain⟨n,hn⟩:=(zob zyv _ _ _ sup).ex _ _ _ h5
    exact rT.2 ⟨n+1,pU.2 ⟨r,tm,c,q,y,r2,b,h1,h2,h3,h4,hq,hn,h6,h7,h8⟩⟩
   | func f=>
   have h:zt7 C A (bC C A) f args H=some x:=h
   unfold zt7 at h;rw[uA]at h;obtain⟨c,h1,h⟩:=h
   rw[uA]at h;obtain⟨fn,h2,h⟩:=h
   rw[uA]at h;obtain⟨g,h3,h⟩:=h
   have sup:z9c (fun _=>z0o C fn) (z0o C fn):=⟨⟨fun _ _ _ _ h=>h,fun _ _ _ h=>⟨0,h⟩⟩,fun i=>⟨fun _ _ _ _ h=>h,fun _ _ _ h=>⟨0,h⟩⟩,⟨fun _ _ _ _ h=>h,fun _ _ _ h=>⟨0,h⟩⟩⟩
   obtain⟨n,hn⟩:=(zob zyv c _ _ sup).ex _ _ _ h
   refine rT.2 ⟨n+1,?_⟩
   show zt7 C A (z47 C A n) f args H=some x
   unfold zt7;rw[h1,tA,h2,tA,h3,tA];exact hn
 cases h:bC C A f args H with
 | some x=>exact((key x).1 h).symm
 | none=>
  cases h2:zmv C A (bC C A) f args H with
  | none=>rfl
  | some x=>rw[(key x).2 h2]at h;cases h
def yU(C:pA)(A:Tr xD):Prop:=∀f c,A.get f=some c->∃fn,C.fns.get f=some fn/\fn.body=some (dE c)
def zn4{f:Nat}{args:List zA}{g:bB}(h:jJ C f args false=some g):∃fn c,C.fns.get f=some fn/\fn.body=some c/\g.todo=[.code c]/\g.R=⟨f,fn.ntmps,[],.run,false,none⟩:=by
 unfold jJ at h;simp only[uA,xB]at h;obtain⟨fn,h1,c,h2,k,h3,_,h⟩:=h
 cases h;exact⟨fn,c,h1,h2,rfl,rfl⟩
def jX{α β:Type}{f g:α->Option β}:∀(l:List α) {r:List β},(∀a b,f a=some b->g a=some b)->zG f l=some r->zG g l=some r:=by
 intro l;induction l with
 | nil=>intro r _ h;exact h
 | cons a l ih=>
  intro r hfg h;rw[sL,uA]at h ⊢
  obtain⟨b,h1,h⟩:=h
  refine⟨b,hfg _ _ h1,?_⟩
  rw[uA]at h ⊢
  obtain⟨s,h2,h⟩:=h
  exact⟨s,ih hfg h2,h⟩
def z9d(C:pA)(f:Nat)(acs:List bB):z59:=fun ds o x=>∃fr',o=.next ⟨fr',acs,x.2⟩/\zis C f ds fr' x.2 x.1
def zm1{H:xA}{tm:Tm}{r:Nat}{d e:Option (List yI)}(hr:H.t.get r=some (.deferred d)):∀(l:List ResultVar) vs,oQ C H tm l=some vs->oQ C (setBlk H r (.deferred e)) tm l=some vs:=by
 intro l vs h;refine jX l (fun rv v h=>?_) h
 cases rv with
 | tmp t=>exact h
 | cell a t=>
  have h:(ob (ob (tm.get a) zA.asPtr) fun p=>ob (C.tys.get t) fun ty=>ob (tD H p.1) fun c=>dM ty c.1 p.2)=some v:=h
  show(ob (ob (tm.get a) zA.asPtr) fun p=>ob (C.tys.get t) fun ty=>ob (tD (setBlk H r (.deferred e)) p.1) fun c=>dM ty c.1 p.2)=some v
  simp only[uA]at h ⊢
  obtain⟨p,hp,ty,ht,c,hc,hv⟩:=h
  refine⟨p,hp,ty,ht,c,?_,hv⟩
  unfold tD at hc ⊢
  rw[uA]at hc ⊢
  obtain⟨y,h1,h2⟩:=hc
  refine⟨y,?_,h2⟩
  show(H.t.set r (.deferred e)).get p.1=some y
  rw[Tr.get_set,yaa fun e=>by rw[e,hr]at h1;cases h1;cases h2]
  exact h1
def z3e{f N:Nat}{acs:List bB}:zt0 C (z9d C f acs) (fun _=>True) f N none acs:=by
 refine⟨?_,fun _ _=>trivial,?_⟩
 ·rintro ds todo tm H x ⟨fr',h1,h2⟩
  cases h1;have:=h2.1
  cases this
 ·rintro _ r ds o x ⟨fr',rfl,h1,h2,h3,h4,fn,l,h5,h6,h7⟩ hd
  obtain⟨todo,tm,ffn,n,defers,mode,deferred,round⟩:=fr'
  simp only at h1 h2 h3 h4 h6
  subst h1 h2 h3 h4
  have hr:x.2.t.get r=some (.deferred (some [])):=by
   unfold eP at hd;rw[xB,uA]at hd;obtain⟨_,y,e1,e2⟩:=hd
   cases y<;>cases e2
   exact e1
  refine⟨_,.step ?_,⟨⟨todo,tm,⟨ffn,n,ds,.returning,false,round⟩⟩,rfl,rfl,rfl,rfl,rfl,fn,l,h5,zm1 hr _ _ h6,h7⟩⟩
  show fJ C (zi6 C ⟨none,r,[]⟩ ds ⟨todo,tm,⟨ffn,n,⟨none,r,[]⟩::ds,.returning,false,round⟩⟩ acs x.2) _
  unfold zi6;simp only[hd,tA];exact .refl _
def zqy{f:Nat}{fn:Func}{acs:List bB}{x:zA × xA}{ds:List yI}(hf:C.fns.get f=some fn){tm:Tm}{H:xA}(h:endK C fn tm H=some x){todo:List rD}{N:Nat}
  (hs:xM C todo tm (RR f N none ds) acs H=.next ⟨zcu ⟨todo,tm,RR f N none ds⟩ .returning,acs,H⟩):Fin C (z9d C f acs) ds (.next ⟨⟨todo,tm,RR f N none ds⟩,acs,H⟩) x:=by
 unfold endK at h;rw[uA]at h;obtain⟨l,h1,h2⟩:=h
 cases h2;refine .step ?_
 rw[fI rfl,hs];exact⟨_,.refl _,_,rfl,rfl,rfl,rfl,rfl,fn,l,hf,h1,rfl⟩
def RdG (l:Nat)(c:bB):zA × xA->Prop:=fun x=>∃b r2 c',x.1=.bool b/\oI x.2 l=some r2/\oG c (.bool b)=some c'
def RdEnd(l:Nat)(c:bB)(acs:List bB):z59:=fun _ o x=>∃b r2 c',x.1=.bool b/\oI x.2 l=some r2/\oG c (.bool b)=some c'/\o=.next ⟨c',acs,setBlk x.2 l (.loop (zh2 b r2))⟩
def len_ne{α:Type}{a:α}{l:List α}:l≠a::l:=fun e=>by have:=congrArg List.length e;simp at this
def ztr{C:pA}{φ:Ora}{all:Array Oper}{n:Nat}{κn:Tm->xA->wB}:∀(l:List Oper) (tm:Tm) (H1:xA) (x:zA × xA),yW l=true->zK C φ all n κn l tm H1=some x->∃tm',κn tm' H1=some x/\∀(k:List rD) (R:qI) (cs:List bB) (H:xA),R.n=n->xO C all k R cs l tm H=xGo k tm' R cs H:=by
 intro l;induction l with
 | nil=>intro tm H1 x _ h;exact⟨tm,h,fun _ _ _ _ _=>rfl⟩
 | cons o l ih=>
  intro tm H1 x hp h;have hp:(bif (match o.op with | .move _=>fG o.guard | .assign _=>fG o.guard | _=>false)then yW l else false)=true:=hp
  have hp1:(match o.op with | .move _=>fG o.guard | .assign _=>fG o.guard | _=>false)=true:=by
   cases hx:(match o.op with | .move _=>fG o.guard | .assign _=>fG o.guard | _=>false)with
   | true=>rfl
   | false=>rw[hx]at hp;cases hp
  rw[hp1]at hp;have hp:yW l=true:=hp
  have hmv:∃u,(∀H,(yF o.op).f C (.now tm) H=lv (rO u) C (.now tm) H)/\fG o.guard=true:=by
   cases ho:o.op<;>rw[ho]at hp1<;>first
    | (cases hp1;done)
    | exact⟨_,fun _=>rfl,hp1⟩
  obtain⟨u,hu,hg⟩:=hmv
  have hw:mE o.guard all tm=some true:=by
   cases hx:o.guard with
   | none=>rfl
   | some g=>rw[hx]at hg;cases hg
  rw[zT,hw,tA,yab rfl,hu]at h
  cases hv:ev u (.now tm)with
  | none=>
   have:lv (rO u) C (.now tm) H1=.fail:=by unfold lv rO;rw[hv]
   rw[this]at h;cases h
  | some v=>
   have hval:∀H,lv (rO u) C (.now tm) H=.val v H:=fun H=>by unfold lv rO;rw[hv]
   rw[hval]at h;simp only[pF,eK]at h;obtain⟨tm',h1,h2⟩:=ih _ _ _ hp h.2
   refine⟨tm',h1,fun k R cs H hR=>?_⟩
   rw[wZ,hw];simp only[];rw[hu,hval];simp only[gI.asVal];rw[hR];exact h2 k R cs H hR
def zjl{φ:Ora}(hφ:yQ C φ){l:Nat}{args:List zA}{H:xA}{x:zA × xA}(h:zcx C A φ l args H=some x) :
  ∃r tm,oI H l=some r/\qQ r.n r.params args r.tm=some tm/\∀c acs c',oG c x.1=some c'->fJ C (.next ⟨zm0 r l tm,c::acs,H⟩) (.next ⟨c',acs,x.2⟩):=by
 obtain⟨r,tm,cc,q,y,r2,b,h1,h2,h3,h4,⟨q1,q2,q3,q4,q5,q6⟩,h5,h6,h7,rfl⟩:=pU.1 h
 refine⟨r,tm,h1,h2,fun c acs c' hc=>?_⟩
 have h5:zK C φ q.ops r.n (zD C φ r.fn r.n q.c rdK) q.ops.toList tm.cut (setBlk H l (.loop (zom r)))=some y:=h5
 obtain⟨tm',h8,h9⟩:=ztr _ _ _ _ q5 h5
 unfold zm0;rw[q1,q2];refine .step ?_
 rw[fI rfl];show fJ C (xO C q.ops _ _ _ q.ops.toList tm.cut H) _
 rw[h9 _ _ _ _ rfl];refine .step ?_
 show fJ C (xM C (.beginRound::[.code (dE q.c)]) tm' ⟨r.fn,r.n,[],.run,false,some l⟩ (c::acs) H) _
 have hb:xM C (.beginRound::[.code (dE q.c)]) tm' ⟨r.fn,r.n,[],.run,false,some l⟩ (c::acs) H=.next ⟨⟨[.code (dE q.c)],tm',RR r.fn r.n (some l) []⟩,c::acs,setBlk H l (.loop (zom r))⟩:=by
  show ziv C [.code (dE q.c)] tm' _ (c::acs) H=_
  unfold ziv;simp only[tA];rw[h1,tA,q4];rfl
 rw[hb];have hc:oG c (.bool b)=some c':=hc
 have hE:zt0 C (RdEnd l c acs) (RdG l c) r.fn r.n (some l) (c::acs):=by
  refine⟨?_,fun e=>(by cases e),fun e=>(by cases e)⟩
  rintro ds todo tm H x ⟨b,r2,c',_,_,_,e⟩
  injection e with e
  injection e with _ e _
  exact len_ne e.symm
 have hK:zrh C (RdEnd l c acs) (RdG l c) r.fn r.n (some l) (c::acs) rdK []:=by
  refine⟨?_,fun _ _ _ _ _ _ h=>(by cases h),?_⟩
  ·rintro ds x tm H ⟨b,r2,c',g1,g2,g3⟩ h
   cases h
   cases g1
   refine .step ?_
   rw[fI rfl];have:xM C [] tm (RR r.fn r.n (some l) ds) (c::acs) H=.next ⟨c',acs,setBlk H l (.loop (zh2 true r2))⟩:=by
    have e0:xM C [] tm (RR r.fn r.n (some l) ds) (c::acs) H=cM none C ⟨[],tm,RR r.fn r.n (some l) ds⟩ (c::acs) H:=rfl
    rw[e0];unfold cM;simp only[g2,tA];show cI (ob (oG c (.bool true)) _) 7=_
    rw[g3];rfl
   rw[this];exact⟨_,.refl _,true,r2,c',rfl,g2,g3,rfl⟩
  ·rintro ds x tm H ⟨b,r2,c',g1,g2,g3⟩ h k'
   cases h
   cases g1
   refine .step ?_
   rw[fI rfl];have:xM C (.code .ret::k') tm (RR r.fn r.n (some l) ds) (c::acs) H=.next ⟨c',acs,setBlk H l (.loop (zh2 false r2))⟩:=by
    have e0:xM C (.code .ret::k') tm (RR r.fn r.n (some l) ds) (c::acs) H=cM (some .ret) C ⟨.code .ret::k',tm,RR r.fn r.n (some l) ds⟩ (c::acs) H:=rfl
    rw[e0];unfold cM;simp only[g2,tA];show cI (ob (oG c (.bool false)) _) 7=_
    rw[g3];rfl
   rw[this];exact⟨_,.refl _,false,r2,c',rfl,g2,g3,rfl⟩
 obtain⟨o',k1,b',r2',c'',k2,k3,k4,rfl⟩:=zk9 hφ hE q.c rdK [] (Or.inr q6) hK [] y tm' _ ⟨b,r2,c',h7,h6,hc⟩ h8
 rw[h7]at k2;cases k2
 rw[h6]at k3;cases k3
 rw[hc]at k4;cases k4
 exact k1
def zmu(hA:yU C A){φ:Ora}(hφ:yQ C φ):yQ C (zmv C A φ):=by
 refine⟨fun f args H x h=>?_,fun l args H x h=>zjl hφ h⟩
 have h:zt7 C A φ f args H=some x:=h
 unfold zt7 at h;rw[uA]at h;obtain⟨c,h1,h⟩:=h
 rw[uA]at h;obtain⟨fn,h2,h⟩:=h
 rw[uA]at h;obtain⟨g,h3,h⟩:=h
 refine⟨g,h3,fun acs=>?_⟩
 obtain⟨fn',c',e1,e2,e3,e4⟩:=zn4 h3
 rw[h2]at e1;cases e1
 obtain⟨fn',e5,e6⟩:=hA f c h1
 rw[h2]at e5;cases e5
 rw[e2]at e6;cases e6
 obtain⟨gt,gtm,gR⟩:=g
 simp only at e3 e4 h
 subst e3 e4
 have hK:zrh C (z9d C f acs) (fun _=>True) f fn.ntmps none acs (z0o C fn) []:=⟨fun ds x tm H _ h=>zqy h2 h rfl,fun ds x i tm H _ h=>(by cases h),fun ds x tm H _ h k'=>zqy h2 h rfl⟩
 obtain⟨o',k1,fr',rfl,k2⟩:=zk9 hφ z3e c (z0o C fn) [] (Or.inl rfl) hK [] x gtm H trivial h
 exact⟨fr',k1,k2⟩
def zf3(hA:yU C A):∀n,yQ C (z47 C A n):=by
 intro n;induction n with
 | zero=>exact⟨fun f args H x h=>(by cases h),fun l args H x h=>(by cases h)⟩
 | succ n ih=>exact zmu hA ih
def zyw(hA:yU C A):yQ C (bC C A):=by
 refine⟨fun f args H x h=>?_,fun f args H x h=>?_⟩
 ·obtain⟨n,hn⟩:=rT.1 h
  exact(zf3 hA n).fn _ _ _ _ hn
 ·obtain⟨n,hn⟩:=rT.1 h
  exact(zf3 hA n).rd _ _ _ _ hn
def zlh{P:Program}{B N:Nat}{I:World->Prop}{μ:Mu}{w:World}(hS:Sim P C B N I)(hI:I w)(hA:yU C A){f:Nat}{args:List zA}{args':Array Value}{H H':xA}{v:zA}(hH:aA B N μ H w)(hl:yB μ args args'.toList)
  (h:bC C A (.func f) args H=some (v,H')):Calls P f args' w fun e w'=>∃v' μ',e=.returned v'/\μ.lw μ'/\vA μ' v v'/\aA B N μ' H' w'/\Below N w w':=by
 intro base;obtain⟨g,he,hr⟩:=(zyw hA).fn _ _ _ _ h
 obtain⟨fr',r1,h1,h2,h3,h4,fn,l,h5,h6,rfl⟩:=hr []
 have h0:aC P C B N μ base (lone (Frame.enter P f args' .normal) base w) w (.next ⟨g,[],H⟩):=z1g hS.fns hH hl he
 obtain⟨μ',b,cs,w',s1,s2,s3,s4,s5,s6⟩:=aC.reach hS hI r1 h0
 cases s6
 have hb:=s5.body
 rw[yaa (by rw[h1];simp[ze6.running])]at hb
 obtain⟨v',q1,q2⟩:=zfq hS.tys s4 hb h6
 have hm:=s5.rest.mode
 rw[h1]at hm;have hbm:b.mode=.returning:=by
  cases hb:b.mode with
  | returning=>rfl
  | _=>rw[hb]at hm;exact hm.elim
 have hd:=s5.rest.defers
 rw[h2]at hd;have hbd:b.defers=[]:=by
  generalize hx:b.defers=bd at hd
  cases hd;rfl
 have hk:=s5.rest.kind
 rw[h3]at hk;have hfn:b.fn=f:=by rw[s5.rest.fn,h4]
 exact⟨.returned v',w',b,⟨v',μ',rfl,s2,q2,s4,s3⟩,s1,hfn,hbm,hbd,hk,fn,by rw[hfn];exact(hS.fns _ _ h5).1,q1⟩
end
end
section
def oA(C:pA)(t:Nat)(H:xA)(v:zA):Option zA:=ob v.asPtr fun p=>ob (C.tys.get t) fun ty=>ob (tD H p.1) fun c=>dM ty c.1 p.2
def rN(C:pA)(s d:Nat)(H:xA)(a:zA):Option zA:=ob (C.tys.get s) fun s=>ob (C.tys.get d) fun d=>xN C s d a H
def qF(C:pA)(t:Nat)(H:xA)(a:zA)(l h:Option zA):Option zA:=ob (C.tys.get t) fun ty=>bJ C H ty a l h
def nV(C:pA)(s f:Nat):Option Nat:=ob (C.tys.get s) fun ty=>ob ty.desc.asStruct fun fs=>ob (lC fs f) fun fd=>dA (!Nat.beq fd.2.2 0) (some fd.1)
def fB(C:pA)(s f:Nat)(v:zA):Option zA:=ob (nV C s f) fun k=>ob v.asPtr fun p=>some (.ptr p.1 (p.2+k))
def jB(C:pA)(t:Nat)(v i:zA):Option zA:=
 ob (C.tys.get t) fun ty=>ob i.asNat fun i=>
  match v.asSlice with
  | some s=>ob ty.desc.asSlice fun el=>ob (C.tys.get el) fun et=>dA (Nat.blt i s.2.2.1) (some (.ptr s.1 (s.2.1+i*et.size)))
  | none=>ob v.asPtr fun p=>ob ty.desc.asArr fun a=>ob (C.tys.get a.2) fun et=>dA (Nat.blt i a.1) (some (.ptr p.1 (p.2+i*et.size)))
def zo1(C:pA)(t i:Nat):Option Nat:=ob (C.tys.get t) fun ty=>ob ty.desc.asArr fun a=>ob (C.tys.get a.2) fun et=>dA (Nat.blt i a.1) (some (i*et.size))
def yJ(C:pA)(t:Nat)(v i:zA):Option zA:=
 ob (C.tys.get t) fun ty=>ob i.asNat fun i=>
  match v.asStr with
  | some s=>dA ty.desc.isString (ob (lC s i) fun b=>some (.int .u8 (.ofNat b)))
  | none=>ob v.asAgg fun l=>ob ty.desc.asArr fun a=>ob (C.tys.get a.2) fun et=>dA (Nat.blt i a.1) (vL C a.2 l (i*et.size))
def sB(i:Nat)(v:zA):Option zA:=ob v.asTup fun l=>lC l i
def zt3 (C:pA)(t:Nat)(H:xA)(v:zA):Option zA:=ob (C.tys.get t) fun ty=>ob (zt5 H ty v) fun n=>some (.int .i64 (.ofNat n))
def oB(v:zA):Option zA:=
 match v.asSlice with
 | some s=>some (.int .i64 (.ofNat s.2.2.1))
 | none=>dA (Nat.beq v.tag 5) (some (.int .i64 (.ofNat 0)))
def aE (v:zA):Option zA:=dA (Nat.beq v.tag 4||Nat.beq v.tag 9) (some v)
def zmg(C:pA)(u:Nat)(ok:Bool)(v:zA):Option zA:=
 ob (C.tys.get u) fun ty=>dA (Nat.blt ty.desc.tag 9) (
  match v.asIface with
  | some p=>bif Nat.beq p.1 u then some (bif ok then .tup [p.2,.bool true]else p.2)else dA ok (some (.tup [tN ty,.bool false]))
  | none=>dA (Nat.beq v.tag 12&&ok) (some (.tup [tN ty,.bool false])))
def bG(C:pA)(t:Nat)(H:xA)(m k:zA)(ok:Bool):Option zA:=
 ob (C.tys.get t) fun ty=>ob ty.desc.asMap fun ke=>ob (C.tys.get ke.1) fun kty=>dA (lN C kty) (ob (C.tys.get ke.2) fun ety=>
  ob (eM H m) fun es=>dA (aL C kty k) (ob (dG k es) fun r=>
   match r with
   | some v=>some (bif ok then .tup [v,.bool true]else v)
   | none=>some (bif ok then .tup [tN ety,.bool false]else tN ety)))
def aG(C:pA)(t:Nat)(H:xA):Option (zA × xA):=ob (C.tys.get t) fun ty=>some (.ptr H.next 0,sE H ty.zero none)
def zrn (v:zA)(H:xA):Option (zA × xA):=some (.ptr H.next 0,sE H v.cells none)
def zgy(C:pA)(t:Nat)(H:xA):Option (zA × xA):=ob (C.tys.get t) fun ty=>some (.ptr H.next 0,sE H ty.zero (xJ C t))
def z6h(C:pA)(t:Nat)(v:zA)(H:xA):Option (zA × xA):=some (.ptr H.next 0,sE H v.cells (xJ C t))
def sH(C:pA)(t len:Nat)(ps:List (Nat × zA))(H:xA):Option (zA × xA):=
 ob (C.tys.get t) fun ty=>ob ty.desc.asSlice fun el=>ob (C.tys.get el) fun et=>
  dA (Nat.blt (len*et.size) 1000000&&Nat.beq (zB et.zero) et.size) (ob (yM (fun i=>some (i*et.size,et.size)) ps (mJ et.zero len)) fun l=>some (.slice H.next 0 len len,sE H l none))
def qD(C:pA)(t:Nat)(a v:zA)(H:xA):Option (zA × xA):=ob (C.tys.get t) fun ty=>ob a.asPtr fun p=>dA (Nat.beq (zB v.cells) ty.size) (ob (aH C H p.1 p.2 v.cells) fun H'=>some (pD,H'))
def fS(H:xA):Option (zA × xA):=some (.map H.next,newBlk H (.map []))
def xI(C:pA)(t:Nat)(m k v:zA)(H:xA):Option (zA × xA):=
 ob (C.tys.get t) fun ty=>ob ty.desc.asMap fun ke=>ob (C.tys.get ke.1) fun kty=>dA (lN C kty)
  (ob m.asMap fun b=>dA (!Nat.blt b C.base) (ob (lG H b) fun l=>dA (aL C kty k) (ob (tG k v l) fun l'=>some (pD,setBlk H b (.map l')))))
def sN(C:pA)(t:Nat)(l c:zA)(H:xA):Option (zA × xA):=
 ob (C.tys.get t) fun ty=>ob ty.desc.asSlice fun el=>ob (C.tys.get el) fun et=>ob l.asNat fun l=>ob c.asNat fun c=>
  dA (Nat.ble l c&&Nat.blt c 1000000&&Nat.blt (c*et.bytes) 1000000000&&Nat.beq (zB et.zero) et.size) (some (.slice H.next 0 l c,sE H (mJ et.zero c) none))
def zgw(C:pA)(s d:Nat)(v:zA)(H:xA):Option (zA × xA):=
 ob (C.tys.get s) fun _=>ob (C.tys.get d) fun ty=>ob ty.desc.asSlice fun el=>ob (C.tys.get el) fun et=>ob et.desc.asInt fun k=>dA (kEq k .u8) (ob v.asStr fun l=>
  some (.slice H.next 0 (zB l) (zB l),sE H (eO l) (some (.ty el))))
def gE(C:pA)(t u:Nat)(a b:zA)(H:xA):Option (zA × xA):=ob (C.tys.get t) fun ty=>ob (C.tys.get u) fun uty=>dA (!Nat.beq uty.desc.tag 1) (aO C H ty a b)
def vNext(v:zA)(H:xA):Option (zA × xA):=ob v.asPtr fun p=>dA (Nat.beq p.2 0) (ob (ob (H.t.get p.1) rA.asIter) fun x=>
 match lC x.1 x.2 with
 | some c=>dA (Nat.blt c 128) (some (.tup [.bool true,.int .i64 (.ofNat x.2),.int .i32 (.ofNat c)],setBlk H p.1 (.siter x.1 (x.2+1))))
 | none=>some (.tup [.bool false],H))
structure tM where
 b:Nat->Bool
 i:Nat->Int
 s:Nat->List Nat
 v:Nat->zA
inductive T where
 | ret (v:zA)
 | fail
 | ite (b:Bool) (x y:T)
 | opt (x:Option zA) (K:zA->T)
 | light (x:Tr rA->Option zA) (K:zA->T)
 | heavy (x:xA->Option (zA × xA)) (K:zA->T)
 | call (f:Nat) (args:List zA) (K:zA->T)
 | callv (f:zA) (args:List zA) (K:zA->T)
 | asI (k:IntKind) (v:zA) (K:Int->T)
 | asB (v:zA) (K:Bool->T)
 | asS (v:zA) (K:List Nat->T)
 | asG (zs:List zA) (v:zA) (K:tM->T)
 | jump (i:Nat) (vals:List zA)
 | range (np:Nat->Bool) (f:zA) (i m:Nat) (vals:List zA) (K R:T)
def yo:Nat:=1099511627776
def zde(z:zA)(X:tM)(j:Nat):zA:=
 match z with
 | .bool _=>.bool (X.b j)
 | .int k _=>.int k (X.i j)
 | .str _=>.str (X.s j)
 | _=>X.v j
def vI(zs:List zA)(X:tM):Nat->List zA:=
 List.rec (motive:=fun _=>Nat->List zA) (fun _=>[]) (fun z _ g j=>zde z X j::g (j+1)) zs
def xR(l:List zA)(j:Nat):Bool:=match l[j]? with | some (.bool b)=>b | _=>false
def zyd(l:List zA)(j:Nat):Int:=match l[j]? with | some (.int _ n)=>n | _=>0
def zmp(l:List zA)(j:Nat):List Nat:=match l[j]? with | some (.str s)=>s | _=>[]
def aN(l:List zA)(j:Nat):zA:=match l[j]? with | some v=>v | _=>.nilptr
def cellsOf(l:List zA):tM:=⟨xR l,zyd l,zmp l,aN l⟩
def tI (z a:zA):Bool:=
 match z with
 | .bool _=>Nat.beq a.tag 0
 | .int k _=>match a.asIntK with | some p=>kEq p.1 k | none=>false
 | .str _=>Nat.beq a.tag 2
 | .nilptr=>Nat.beq a.tag 3||Nat.beq a.tag 4
 | .nilslice=>Nat.beq a.tag 5||Nat.beq a.tag 6
 | .nilmap=>Nat.beq a.tag 7||Nat.beq a.tag 8
 | .nilfunc=>Nat.beq a.tag 10||Nat.beq a.tag 9
 | .niliface=>Nat.beq a.tag 12||Nat.beq a.tag 11
 | _=>false
def pK:List zA->List zA->Bool
 | [],[]=>true
 | z::zs,a::l=>tI z a&&pK zs l
 | _,_=>false
structure gF where
 tm:Tm
 ad:List (Nat × Nat × Nat)
 lo:Tr (List zA)
 lit:List Nat
abbrev KT:=gF->T
structure KtT where
 norm:KT
 exit:Nat->KT
 ret:KT
def dB {α:Type}(x:Option α)(K:α->T):T:=Option.rec (motive:=fun _=>T) .fail K x
def gdT (b:Bool)(K:T):T:=Bool.rec (motive:=fun _=>T) .fail K b
def cH(i:Nat)(l:List (Nat × Nat × Nat)):Option (Nat × Nat):=
 List.rec (motive:=fun _=>Option (Nat × Nat)) none (fun a _ g=>Bool.rec (motive:=fun _=>Option (Nat × Nat)) g (some a.2) (Nat.beq i a.1)) l
inductive wK where
 | now (ad:List (Nat × Nat × Nat))
 | mixed (ad old:List (Nat × Nat × Nat)) (olds names:List Nat)
def tAd (e:wK)(t:Nat):Option (Nat × Nat):=
 match e with
 | .now ad=>cH t ad
 | .mixed ad old olds names=>bif fE t names then cH t (bif fE t olds then old else ad)else none
def xAd (e:wK)(x:Operand):Option (Nat × Nat):=
 match x with
 | .tmp t=>tAd e t
 | _=>none
def H0A:xA:=⟨0,.leaf⟩
def rG (C:pA)(t:Nat):Nat:=
 match C.tys.get t with
 | some ty=>ty.desc.tag
 | none=>10
def zh6(x:Operand):Bool:=
 match x with
 | .const _=>true
 | _=>false
def zzm(x:Operand):Bool:=
 match x with
 | .const (.int _ n) => !mA n 0
 | _=>false
def binDir(C:pA)(op:BinOp)(t:Nat)(y:Operand):Bool:=
 match op with
 | .add=>Nat.beq (rG C t) 1
 | .sub=>true
 | .mul=>true
 | .quo=>zzm y
 | .rem=>zzm y
 | .shl=>zh6 y
 | .shr=>zh6 y
 | .eql=>Nat.ble (rG C t) 2
 | .neq=>Nat.ble (rG C t) 2
 | .lss=>Nat.ble (rG C t) 2
 | .leq=>Nat.ble (rG C t) 2
 | .gtr=>Nat.ble (rG C t) 2
 | .geq=>Nat.ble (rG C t) 2
 | _=>false
structure KOp where
 K:zA->T
 Kd:zA->T
 KA:Nat->Nat->T
def zo8 (C:pA)(op:Op)(e:mC)(k:KOp):T:=dB ((oE op).f C e H0A) k.Kd
def z08(C:pA)(op:Op)(x:Operand)(e:mC)(ae:wK)(k:KOp):T:=
 match xAd ae x with
 | some p=>k.KA p.1 p.2
 | none=>zo8 C op e k
def tLoad(C:pA)(t:Nat)(a:Operand)(e:mC)(ae:wK)(lo:Tr (List zA))(k:KOp):T:=
 match xAd ae a with
 | some p=>dB (lo.get p.1) fun l=>dB (C.tys.get t) fun ty=>gdT (Nat.ble (p.2+ty.size) (zB l)) (dB (vL C t l p.2) k.Kd)
 | none=>dB (ev a e) fun v=>.light (fun m=>oA C t ⟨0,m⟩ v) k.K
def zfh(C:pA)(s:Nat)(x:Operand)(f:Nat)(e:mC)(ae:wK)(k:KOp):T:=
 match xAd ae x with
 | some p=>dB (nV C s f) fun o=>k.KA p.1 (p.2+o)
 | none=>dB (ev x e) fun v=>.opt (fB C s f v) k.K
def zfg(C:pA)(t:Nat)(x i:Operand)(e:mC)(ae:wK)(k:KOp):T:=
 match xAd ae x with
 | some p=>dB (ev i e) fun i=>dB i.asNat fun i=>dB (zo1 C t i) fun o=>k.KA p.1 (p.2+o)
 | none=>dB (ev x e) fun v=>dB (ev i e) fun i=>.opt (jB C t v i) k.K
def tNil (x:Operand)(e:mC)(ae:wK)(k:KOp):T:=
 match xAd ae x with
 | some p=>k.KA p.1 p.2
 | none=>dB (ev x e) fun v=>.opt (aE v) k.K
def tLen (C:pA)(c:Call)(e:mC)(k:KOp):T:=
 dB (lC c.argTypes.toList 0) fun t=>dB (lC c.args.toList 0) fun x=>dB (ev x e) fun v=>
  bif Nat.beq (rG C t) 4 then .opt (oB v) k.K else bif Nat.beq (rG C t) 6 then .light (fun m=>zt3 C t ⟨0,m⟩ v) k.K else dB (zt3 C t H0A v) k.Kd
def tBin (C:pA)(op:BinOp)(t:Nat)(x y:Operand)(u:Nat)(e:mC)(k:KOp):T:=
 bif binDir C op t y then zo8 C (.binOp op t x y u) e k else dB (ev x e) fun a=>dB (ev y e) fun b=>.opt ((binA op).f C t x y a b) k.K
def z6r(C:pA)(s d:Nat)(x:Operand)(e:mC)(k:KOp):T:=
 bif Nat.beq (rG C d) 2 then(bif Nat.beq (rG C s) 2 then zo8 C (.convert s d x) e k else dB (ev x e) fun v=>.light (fun m=>rN C s d ⟨0,m⟩ v) k.K)else bif Nat.beq (rG C d) 1 then zo8 C (.convert s d x) e k else .fail
def z4q(C:pA)(t:Nat)(x:Operand)(lo hi:Option Operand)(e:mC)(k:KOp):T:=
 dB (ev x e) fun a=>dB (evo lo e) fun l=>dB (evo hi e) fun h=>
  bif Nat.beq (rG C t) 2 then .opt (qF C t H0A a l h) k.K else .light (fun m=>qF C t ⟨0,m⟩ a l h) k.K
def kV(C:pA)(c:Call)(e:mC)(k:KOp):Builtin->T
 | .len=>tLen C c e k
 | .max=>zo8 C (.call c) e k
 | .min=>zo8 C (.call c) e k
 | _=>.fail
def zgk(ty:rC)(v:zA):List zA:=bif ty.desc.isAgg then v.cells else [v]
def z3l(cells:List zA)(off size:Nat)(vc:List zA):Option (List zA):=
 dA (Nat.beq (zB vc) size&&Nat.ble (off+zB vc) (zB cells)) (some (eC (ze1 cells off) (eC vc (cL cells (off+zB vc)))))
def zwm(C:pA)(tyAt:Nat->Option Nat):List (Nat × zA)->Option (List (Nat × zA × List zA) × List zA):=
 List.rec (motive:=fun _=>Option (List (Nat × zA × List zA) × List zA)) (some ([],[]))
  (fun p _ g=>ob (tyAt p.1) fun t=>ob (C.tys.get t) fun ty=>ob g fun r=>some (bif ty.desc.isAgg then((p.1,p.2,p.2.cells)::r.1,r.2)else((p.1,p.2,[p.2])::r.1,p.2::r.2)))
def z3m(place:Nat->Option (Nat × Nat)):List (Nat × zA × List zA)->List zA->Option (List zA):=
 List.rec (motive:=fun _=>List zA->Option (List zA)) (fun cells=>some cells) (fun p _ g cells=>ob (place p.1) fun q=>ob (z3l cells q.1 q.2 p.2.2) fun cells=>g cells)
def tyAtS(ty:rC)(i:Nat):Option Nat:=
 match ty.desc.asStruct with
 | some fs=>ob (lC fs i) fun x=>some x.2.1
 | none=>ob ty.desc.asArr fun a=>some a.2
def zfz(C:pA)(ty:rC)(i:Nat):Option (Nat × Nat):=
 match ty.desc.asStruct with
 | some fs=>ob (lC fs i) fun x=>some (x.1,x.2.2)
 | none=>ob ty.desc.asArr fun a=>ob (C.tys.get a.2) fun et=>some (i*et.size,et.size)
def zln(C:pA)(ty:rC):Bool:=
 match ty.desc.asStruct with
 | some _=>true
 | none=>match ty.desc.asArr with
  | some a=>(match C.tys.get a.2 with | some _=>true | none=>false)
  | none=>false
def z4s(C:pA)(t:Nat)(ps:Array (Nat × Operand))(e:mC)(k:KOp):T:=
 dB (C.tys.get t) fun ty=>gdT (zln C ty) <| dB (evp ps.toList e) fun vs=>dB (zwm C (tyAtS ty) vs) fun q=>dB (z3m (zfz C ty) q.1 ty.zero) fun l=>.ite (rB zA.one q.2) (k.Kd (.agg l)) .fail
def tL (C:pA)(op:Op)(e:mC)(ae:wK)(lo:Tr (List zA))(k:KOp):T:=
 match op with
 | .move x=>z08 C (.move x) x e ae k
 | .assign x=>z08 C (.assign x) x e ae k
 | .load t a=>tLoad C t a e ae lo k
 | .fieldAddr s x f=>zfh C s x f e ae k
 | .indexAddr t x i=>zfg C t x i e ae k
 | .nilCheck x=>tNil x e ae k
 | .binOp op t x y u=>tBin C op t x y u e k
 | .convert s d x=>z6r C s d x e k
 | .slice t x lo hi none=>z4q C t x lo hi e k
 | .index t x i=>bif zh6 i&&Nat.beq (rG C t) 5 then zo8 C (.index t x i) e k else dB (ev x e) fun v=>dB (ev i e) fun i=>.opt (yJ C t v i) k.K
 | .extract t i=>dB (ev t e) fun v=>.opt (sB i v) k.K
 | .typeAssert x _ u ok=>dB (ev x e) fun v=>.opt (zmg C u ok v) k.K
 | .lookup t x i ok=>dB (ev x e) fun m=>dB (ev i e) fun key=>.light (fun h=>bG C t ⟨0,h⟩ m key ok) k.K
 | .call c=>match c.callee with
  | .builtin b=>kV C c e k b
  | _=>.fail
 | .pick c a b=>zo8 C (.pick c a b) e k
 | .unOp o t x=>(match o with
  | .xor=>dB (ev x e) fun v=>.opt (zmi v) k.K
  | o=>zo8 C (.unOp o t x) e k)
 | .makeInterface t x=>zo8 C (.makeInterface t x) e k
 | .makeFunc fn a b=>zo8 C (.makeFunc fn a b) e k
 | .field t x f=>zo8 C (.field t x f) e k
 | .build t ps=>z4s C t ps e k
 | _=>.fail
def laOf (la:List Nat)(dst:Option Nat):Option Nat:=
 match dst with
 | some d=>bif fE d la then some d else none
 | none=>none
structure KLo where
 new:Nat->List zA->T
 set:Nat->List zA->T
def z4r(f:Operand)(args:Array Operand)(e:mC)(k:KOp):T:=
 match f with
 | .func g=>gdT (Nat.blt g yo) (dB (evs args.toList e) fun aq=>.call g aq k.K)
 | f=>dB (ev f e) fun fv=>dB (evs args.toList e) fun aq=>.callv fv aq k.K
def two' (c:Call)(e:mC)(K:zA->zA->T):T:=dB (two c e) fun p=>K p.1 p.2
def zja(C:pA)(c:Call)(e:mC)(k:KOp):Builtin->T
 | .append=>dB (lC c.argTypes.toList 0) fun t=>dB (lC c.argTypes.toList 1) fun u=>two' c e fun a b=>.heavy (gE C t u a b) k.K
 | b=>kV C c e k b
def z4p(C:pA)(t:Nat)(a x:Operand)(e:mC)(ae:wK)(lo:Tr (List zA))(k:KOp)(kl:KLo):T:=
 match xAd ae a with
 | some p=>dB (ev x e) fun v=>dB (C.tys.get t) fun ty=>dB (lo.get p.1) fun l=>dB (z3l l p.2 ty.size (zgk ty v)) fun l'=>.ite (rB zA.one (zgk ty v)) (kl.set p.1 l') .fail
 | none=>dB (ev a e) fun a=>dB (ev x e) fun v=>.heavy (qD C t a v) k.Kd
def tH (C:pA)(la:List Nat)(dst:Option Nat)(op:Op)(e:mC)(ae:wK)(lo:Tr (List zA))(k:KOp)(kl:KLo):T:=
 match op with
 | .box t x=>bif fG (xJ C t)then dB (ev x e) fun v=>(match laOf la dst with
  | some d=>dB (C.tys.get t) fun ty=>bif ty.desc.isAgg then kl.new d v.cells else .ite (zA.one v) (kl.new d [v]) .fail
  | none=>.heavy (zrn v) k.K)else dB (ev x e) fun v=>.heavy (z6h C t v) k.K
 | .alloc t=>bif fG (xJ C t)then(match laOf la dst with
  | some d=>dB (C.tys.get t) fun ty=>kl.new d ty.zero
  | none=>.heavy (aG C t) k.K)else .heavy (zgy C t) k.K
 | .store t a x=>z4p C t a x e ae lo k kl
 | .buildSlice t len ps=>dB (evp ps.toList e) fun ps=>.heavy (sH C t len ps) k.K
 | .makeMap _ none=>.heavy fS k.K
 | .insert t m key x=>dB (ev m e) fun m=>dB (ev key e) fun key=>dB (ev x e) fun v=>.heavy (xI C t m key v) k.Kd
 | .mapUpdate t m key x=>dB (ev m e) fun m=>dB (ev key e) fun key=>dB (ev x e) fun v=>.heavy (xI C t m key v) k.Kd
 | .makeSlice t l c=>dB (ev l e) fun l=>dB (ev c e) fun c=>.heavy (sN C t l c) k.K
 | .convert s d x=>bif Nat.beq (rG C d) 4 then dB (ev x e) fun v=>.heavy (zgw C s d v) k.K else z6r C s d x e k
 | .call c=>match c.callee with
  | .value f=>z4r f c.args e k
  | .builtin b=>zja C c e k b
  | _=>.fail
 | op=>tL C op e ae lo k
def rmNat(i:Nat)(l:List Nat):List Nat:=List.rec (motive:=fun _=>List Nat) [] (fun j _ g=>bif Nat.beq i j then g else j::g) l
def zo6 (n:Nat)(dst:Option Nat)(v:zA)(lt:Bool)(st:gF)(κ:KT):T:=
 match dst with
 | none=>κ st
 | some d=>bif Nat.blt d n then gdT (fG (cH d st.ad)) (κ ⟨st.tm.set d v,st.ad,st.lo,bif lt then d::rmNat d st.lit else rmNat d st.lit⟩)else κ st
def z6o(n:Nat)(dst:Option Nat)(d off:Nat)(st:gF)(κ:KT):T:=
 dB dst fun i=>gdT (Nat.blt i n) (gdT (fG (st.tm.get i)) (κ ⟨st.tm,(i,d,off)::st.ad,st.lo,st.lit⟩))
def z48(d:Nat)(ad:List (Nat × Nat × Nat)):Bool:=rB (fun a=>bif Nat.beq a.2.1 d then Nat.beq a.1 d else true) ad
def tNew (n:Nat)(d:Nat)(l:List zA)(st:gF)(κ:KT):T:=
 gdT (Nat.blt d n) (gdT (fG (st.tm.get d)) (gdT (z48 d st.ad) (κ ⟨st.tm,(d,d,0)::st.ad,st.lo.set d l,st.lit⟩)))
def fitB (C:pA)(t:Nat)(v:zA):Bool:=
 match C.tys.get t with
 | some ty=>(match ty.desc with
  | .bool=>Nat.beq v.tag 0
  | .int k=>(match v.asIntK with | some p=>kEq p.1 k | none=>false)
  | .string=>Nat.beq v.tag 2
  | _=>true)
 | none=>true
def zu6(C:pA)(t:Nat)(v:zA)(K:zA->T):T:=
 match C.tys.get t with
 | some ty=>(match ty.desc with
  | .bool=>.asB v fun b=>K (.bool b)
  | .int k=>.asI k v fun n=>K (.int k n)
  | .string=>.asS v fun s=>K (.str s)
  | .struct _=>bif Nat.ble (zB ty.zero) 40 then .asG ty.zero v fun X=>K (.agg (vI ty.zero X 0))else K v
  | .arr _ _=>bif Nat.ble (zB ty.zero) 40 then .asG ty.zero v fun X=>K (.agg (vI ty.zero X 0))else K v
  | _=>K v)
 | none=>K v
def z5a (x:Operand)(lit:List Nat):Bool:=
 match x with
 | .tmp t=>lit.contains t
 | .const _=>true
 | _=>false
def z2l(op:Op)(e:mC)(lit:List Nat):Bool:=
 match op with
 | .move x=>z5a x lit
 | .assign x=>z5a x lit
 | .unOp _ _ x=>z5a x lit
 | .pick c a b=>bif z5a c lit then(match ob (ev c e) zA.asBool with
  | some w=>bif w then z5a a lit else z5a b lit
  | none=>false)else false
 | _=>false
def zh5(all:List Oper)(dst:Option Nat)(l:List Oper):Bool:=
 match dst with
 | none=>false
 | some d => !rB (fun o=>match o.guard with
  | some g=>(match ob (lC all g.1) fun p=>p.dst with | some i => !Nat.beq i d | none=>true)
  | none=>true) l
def zff(g lt:Bool)(v:zA)(K:zA->Bool->T):T:=
 bif g then(bif lt then K v true else dB v.asBool fun b=>.ite b (K (.bool true) true) (K (.bool false) true))else K v lt
def kop (C:pA)(all:Array Oper)(n:Nat)(o:Oper)(e:mC)(st:gF)(κ:KT):KOp:=
 ⟨fun v=>zu6 C o.type v fun v=>zff (zh5 all.toList o.dst all.toList) (z2l o.op e st.lit) v fun v lt=>zo6 n o.dst v lt st κ,
  fun v=>gdT (fitB C o.type v) (zff (zh5 all.toList o.dst all.toList) (z2l o.op e st.lit) v fun v lt=>zo6 n o.dst v lt st κ),
  fun d off=>gdT (!Nat.ble (rG C o.type) 2) (z6o n o.dst d off st κ)⟩
def klo (C:pA)(n:Nat)(o:Oper)(st:gF)(κ:KT):KLo:=
 ⟨fun d l=>gdT (!Nat.ble (rG C o.type) 2) (tNew n d l st κ),
  fun d l=>gdT (fitB C o.type pD) (zo6 n o.dst pD false ⟨st.tm,st.ad,st.lo.set d l,st.lit⟩ κ)⟩
def mC.adCut(k:Nat)(l:List (Nat × Nat × Nat)):List (Nat × Nat × Nat):=l.filter fun a=>Nat.blt a.1 k
def gF.cut(st:gF):gF:=⟨st.tm.cut,mC.adCut st.tm.k st.ad,st.lo,st.lit⟩
def tops (C:pA)(la:List Nat)(all:Array Oper)(n:Nat)(κ:KT)(l:List Oper):KT:=
 List.rec (motive:=fun _=>KT) κ
  (fun o _ g st=>dB (mE o.guard all st.tm) fun w=>Bool.rec (motive:=fun _=>T) (zo6 n o.dst pD false st g)
   (tH C la o.dst o.op (.now st.tm) (.now st.ad) st.lo (kop C all n o (.now st.tm) st g) (klo C n o st g)) w) l
def znk (st old:gF)(olds:List Nat)(op:Op):mC:=.mixed st.tm old.tm olds (eF op)
def z2h (st old:gF)(olds:List Nat)(op:Op):wK:=.mixed st.ad old.ad olds (eF op)
def nM(C:pA)(all:Array Oper)(n:Nat)(old:gF)(olds:List (Nat × List Nat))(κ:KT)(l:List Nat):KT:=
 List.rec (motive:=fun _=>KT) κ
  (fun i _ g st=>dB (lC all.toList i) fun o=>dB (mE o.guard all st.tm) fun w=>Bool.rec (motive:=fun _=>T) (zo6 n o.dst pD false st g)
   (tL C o.op (znk st old (jD i olds) o.op) (z2h st old (jD i olds) o.op) st.lo (kop C all n o (znk st old (jD i olds) o.op) st g)) w) l
def uP(C:pA)(all:Array Oper)(old:gF)(olds:List (Nat × List Nat))(st:gF)(k:T)(l:List Nat):T:=
 List.rec (motive:=fun _=>T) k
  (fun i _ g=>dB (lC all.toList i) fun o=>dB o.dst fun d=>dB (mE o.guard all st.tm) fun w=>Bool.rec (motive:=fun _=>T) g
   (dB (st.tm.get d) fun u=>gdT (fitB C o.type u) (tL C o.op (znk st old (jD i olds) o.op) (z2h st old (jD i olds) o.op) st.lo ⟨fun v=>.ite (same 10 v u) g .fail,fun v=>.ite (same 10 v u) g .fail,fun _ _=>.fail⟩)) w) l
def vP(C:pA)(es:List Eff)(H:xA):Option (zA × xA):=ob (gP C es H) fun H'=>some (pD,H')
def tEff (op:Op)(e:mC)(ae:wK):Option Eff:=
 match op with
 | .store t a x=>(match xAd ae a with
  | some _=>none
  | none=>gO (.store t a x) e)
 | op=>gO op e
def z1a(all:Array Oper)(old:gF)(olds:List (Nat × List Nat))(st:gF)(l:List Nat):Option (List Eff):=
 zG (fun i=>ob (lC all.toList i) fun o=>ob (mE o.guard all st.tm) fun w=>dA w (tEff o.op (znk st old (jD i olds) o.op) (z2h st old (jD i olds) o.op))) l
def nR(C:pA)(all:Array Oper)(n:Nat)(old:gF)(olds:List (Nat × List Nat))(κ:KT)(l:List uE):KT:=
 List.rec (motive:=fun _=>KT) κ
  (fun s _ g st=>Bool.rec (motive:=fun _=>T) (dB (lC all.toList (hvI all s.heavy)) fun o=>dB (bN C all s.heavy o st.tm) fun w=>
   (fun cont:KT=>Bool.rec (motive:=fun _=>T) (zo6 n o.dst pD false st cont)
    (tH C [] o.dst o.op (znk st old (jD (hvI all s.heavy) olds) o.op) (z2h st old (jD (hvI all s.heavy) olds) o.op) st.lo (kop C all n o (znk st old (jD (hvI all s.heavy) olds) o.op) st cont) (klo C n o st cont)) w)
   (fun st'=>uP C all old olds st' (nM C all n old olds g s.lights st') s.again))
   (gdT (oP C all) (dB (z1a all old olds st s.again) fun es=>.heavy (vP C es) fun _=>nM C all n old olds g s.lights st)) (kN all s)) l
def zuw(C:pA)(la:List Nat)(fn n:Nat)(κ:KT)(id:Nat)(all:Array Oper)(draw:Bool):KT:=
 Bool.rec (motive:=fun _=>KT) (fun st=>tops C la all n κ all.toList st.cut)
  (fun st=>dB (ob (C.plans.get fn) fun t=>t.get id) fun p=>gdT (nN all p) (nM C all n st.cut p.olds (nR C all n st.cut p.olds κ p.stages) p.first st.cut)) draw
def zfa(st:gF)(ll:List (Nat × Nat)):Option (List zA):=
 List.rec (motive:=fun _=>Option (List zA)) (some []) (fun p _ g=>ob (cH p.1 st.ad) fun a=>dA (Nat.beq a.1 p.1&&Nat.beq a.2 0) (ob (st.lo.get p.1) fun l=>dA (Nat.beq (zB l) p.2) (ob g fun r=>some (eC l r)))) ll
def ze9(p:PI)(st:gF):Option (List zA):=ob (zG (fun i=>st.tm.get i) p.pl) fun a=>ob (zfa st p.ll) fun b=>some (eC a b)
def z0q (ll:List (Nat × Nat)):List zA->Tr (List zA):=
 List.rec (motive:=fun _=>List zA->Tr (List zA)) (fun _=>.leaf) (fun p _ g vals=>(g (cL vals p.2)).set p.1 (ze1 vals p.2)) ll
def zl5 (pl:List Nat):List zA->Tr zA:=
 List.rec (motive:=fun _=>List zA->Tr zA) (fun _=>.leaf) (fun i _ g vals=>List.rec (motive:=fun _=>Tr zA) .leaf (fun v vals _=>(g vals).set i v) vals) pl
def stAd (ll:List (Nat × Nat)):List (Nat × Nat × Nat):=List.rec (motive:=fun _=>List (Nat × Nat × Nat)) [] (fun p _ g=>(p.1,p.1,0)::g) ll
def zt4 (k:Nat)(p:PI)(vals:List zA):gF:=⟨⟨k,zl5 p.pl vals,[]⟩,stAd p.ll,z0q p.ll (cL vals (zB p.pl)),[]⟩
def npC (C:pA)(g:Nat):Bool:=fG (C.prims.get g)
def z41(pl:List Nat)(st:gF):Option (List zA):=zG (fun i=>st.tm.get i) pl
def zwc(k n:Nat)(pl ps:List Nat)(ops:List Oper)(c:xD):Bool:=
 rB (fun p=>Nat.blt p k&&Nat.blt p n && !fE p pl) ps&&Nat.ble (zB ps) 1&&yW ops&&(match iM c with | []=>true | _=>false)
def rdT:KtT:=⟨fun _=>.ret (.bool true),fun _ _=>.fail,fun _=>.ret (.bool false)⟩
def zwb(C:pA)(n:Nat)(κ:KtT)(i:Nat)(pl:List Nat)(f:Operand)(ps:List Nat)(ops:List Oper)(c:xD)(st:gF):T:=
 gdT (zwc st.tm.k n pl ps ops c) (dB (z41 pl st) fun vals=>dB (ev f (.now st.tm)) fun fv=>.range (npC C) fv i (zB ps) vals (κ.norm st) (κ.ret st))
def zmm (C:pA)(la:List Nat)(fn n:Nat)(c:xD):KtT->KT:=
 xD.rec (motive:=fun _=>KtT->KT)
  (fun κ st=>κ.norm st)
  (fun id all draw κ=>zuw C la fn n κ.norm id all draw)
  (fun _ _ ga gb κ=>ga ⟨gb κ,κ.exit,κ.ret⟩)
  (fun c _ _ gx gy κ st=>dB (ob (ev c (.now st.tm)) zA.asBool) fun b=>bif z5a c st.lit then Bool.rec (motive:=fun _=>T) (gy κ st) (gx κ st) b else .ite b (gx κ st) (gy κ st))
  (fun id _ g κ=>g ⟨κ.norm,fun i st=>Bool.rec (motive:=fun _=>T) (κ.exit i st) (κ.norm st) (Nat.beq id i),κ.ret⟩)
  (fun p _ _ _ st=>dB (ze9 p st) fun vals=>.jump p.id vals)
  (fun id κ st=>κ.exit id st)
  (fun κ st=>κ.ret st)
  (fun p _ _ _ st=>dB (ze9 p st) fun vals=>.jump p.id vals)
  (fun i pl f ps _ ops c _ κ st=>zwb C n κ i pl f ps.toList ops.toList c st) c
structure PtT where
 p:PI
 tree:List zA->T
def zst(p:PI):KT:=fun st=>dB (ze9 p st) fun vals=>.jump p.id vals
def jR(C:pA)(la:List Nat)(fn n k:Nat)(c:xD):KtT->List PtT:=
 xD.rec (motive:=fun _=>KtT->List PtT)
  (fun _=>[])
  (fun _ _ _ _=>[])
  (fun _ b ga gb κ=>eC (ga ⟨zmm C la fn n b κ,κ.exit,κ.ret⟩) (gb κ))
  (fun _ _ _ gx gy κ=>eC (gx κ) (gy κ))
  (fun id _ g κ=>g ⟨κ.norm,fun i st=>Bool.rec (motive:=fun _=>T) (κ.exit i st) (κ.norm st) (Nat.beq id i),κ.ret⟩)
  (fun p c g κ=>⟨p,fun vals=>zmm C la fn n c ⟨zst p,κ.exit,κ.ret⟩ (zt4 k p vals)⟩::g ⟨zst p,κ.exit,κ.ret⟩)
  (fun _ _=>[])
  (fun _=>[])
  (fun p c g κ=>⟨p,fun vals=>zmm C la fn n c κ (zt4 k p vals)⟩::g κ)
  (fun i pl _ ps id ops c g _=>⟨⟨i,eC pl ps.toList,[]⟩,fun vals=>zmm C la fn n (.seq (.region id ops false) c) rdT (zt4 k ⟨i,eC pl ps.toList,[]⟩ vals)⟩::g rdT) c
def resT (C:pA)(st:gF)(l:List ResultVar):(List zA->T)->T:=
 List.rec (motive:=fun _=>(List zA->T)->T) (fun K=>K [])
  (fun r _ g K=>match r with
   | .tmp t=>dB (st.tm.get t) fun v=>g fun l=>K (v::l)
   | .cell a t=>match cH a st.ad with
    | some p=>dB (st.lo.get p.1) fun l=>dB (C.tys.get t) fun ty=>gdT (Nat.ble (p.2+ty.size) (zB l)) (dB (vL C t l p.2) fun v=>g fun l=>K (v::l))
    | none=>dB (st.tm.get a) fun a=>.light (fun m=>oA C t ⟨0,m⟩ a) fun v=>g fun l=>K (v::l)) l
def endT (C:pA)(fn:Func):KT:=fun st=>resT C st fn.results.toList fun l=>.ret (dS l)
def topT (C:pA)(fn:Func):KtT:=⟨endT C fn,fun _ _=>.fail,endT C fn⟩
structure vB where
 code:xD
 la:List Nat
def entT (C:pA)(fn:Func)(k:Nat)(f:Nat)(A:vB)(args:List zA):T:=zmm C A.la f fn.ntmps A.code (topT C fn) ⟨⟨k,Tr.ofList args,[]⟩,[],.leaf,[]⟩
def ptsT (C:pA)(fn:Func)(k:Nat)(f:Nat)(A:vB):List PtT:=jR C A.la f fn.ntmps k A.code (topT C fn)
def zsb(l:List PtT)(i:Nat)(vals:List zA):List T:=List.rec (motive:=fun _=>List T) [] (fun p _ g=>bif Nat.beq p.p.id i then p.tree vals::g else g) l
end
section
def vD {α:Type}(x:Option α)(P:α->Prop):Prop:=
 match x with
 | some a=>P a
 | none=>False
def vO{α:Type}{x:Option α}{P:α->Prop}:vD x P ↔ ∃a,x=some a/\P a:=by
 cases x with
 | none=>simp[vD]
 | some a=>simp[vD]
@[simp] theorem wA {α:Type} {a:α} {P:α->Prop}:vD (some a) P=P a:=rfl
@[simp] theorem optP_none {α:Type} {P:α->Prop}:vD (none:Option α) P=False:=rfl
abbrev xC:=zA->Tr rA->Prop
abbrev cG:=Nat->List zA->Tr rA->xC->Prop
def z5v{α:Type}:List α->Bool | []=>true | _::_=>false
def wN(f:zA)(args:List zA):Option (Nat × List zA):=ob f.asFunc fun p=>match p.1 with
 | .func g=>dA (Nat.blt g yo) (some (g,eC (eC p.2.1 args) p.2.2))
 | .yld l=>dA (z5v p.2.1&&z5v p.2.2) (some (yo+l,args))
def oX(np:Nat->Bool)(f:zA)(l:Nat):Option (Nat × List zA):=ob f.asFunc fun p=>match p.1 with
 | .func g=>dA (Nat.blt g yo&&np g) (some (g,eC p.2.1 (.func (.yld l) [] []::p.2.2)))
 | .yld _=>none
def z77 (k:IntKind)(v:zA):Option Int:=ob v.asIntK fun p=>dA (kEq p.1 k) (some p.2)
def rJ (zs:List zA)(v:zA):Option tM:=ob v.asAgg fun l=>dA (pK zs l) (some (cellsOf l))
def qA (base:Nat)(W:cG)(J:cG):T->Tr rA->xC->Prop
 | .ret v,t,Q=>Q v t
 | .fail,_,_=>False
 | .ite b x y,t,Q=>if b=true then qA base W J x t Q else qA base W J y t Q
 | .opt x K,t,Q=>vD x fun v=>qA base W J (K v) t Q
 | .light x K,t,Q=>vD (x t) fun v=>qA base W J (K v) t Q
 | .heavy x K,t,Q=>∀b,t.get b=none->base<=b->vD (x ⟨b,t⟩) fun p=>qA base W J (K p.1) p.2.t Q
 | .call f args K,t,Q=>W f args t fun v t'=>qA base W J (K v) t' Q
 | .callv f args K,t,Q=>vD (wN f args) fun p=>W p.1 p.2 t fun v t'=>qA base W J (K v) t' Q
 | .asI k v K,t,Q=>vD (z77 k v) fun n=>qA base W J (K n) t Q
 | .asB v K,t,Q=>vD v.asBool fun n=>qA base W J (K n) t Q
 | .asS v K,t,Q=>vD v.asStr fun n=>qA base W J (K n) t Q
 | .asG zs v K,t,Q=>vD (rJ zs v) fun X=>qA base W J (K X) t Q
 | .jump i vals,t,Q=>J i vals t Q
 | .range np f i m vals K R,t,Q=>256<=base/\∀l r,t.get l=none->base<=l->r.state=.ready->r.pending=none →
   (∀args t1 Q1,args.length=m->t1.get l=some (.loop r)->J i (vals++args) (t1.del l) (fun v t2=>t2.get l=none->∃b,v=.bool b/\Q1 v (t2.set l (.loop (zh2 b r))))->W (yo+l) args t1 Q1) →
   vD (oX np f l) fun p=>W p.1 p.2 (t.set l (.loop r)) fun _ t'=>(t'.get l=some (.loop r)/\qA base W J K (t'.del l) Q)\/(t'.get l=some (.loop (zh2 false r))/\qA base W J R (t'.del l) Q)
abbrev Xt:=Nat->Option rA
def XLe (X Y:Xt):Prop:=∀b y,X b=some y->Y b=some y
def XLe.refl(X:Xt):XLe X X:=fun _ _ h=>h
def XLe.trans{X Y Z:Xt}(h:XLe X Y)(k:XLe Y Z):XLe X Z:=fun b y e=>k b y (h b y e)
structure Ov (base:Nat) (t:Tr rA) (X:Xt) (H:xA):Prop where
 base:base<=H.next
 same:∀b,X b=none->H.t.get b=t.get b
 ext:∀b y,X b=some y->H.t.get b=some y/\t.get b=none/\b<H.next
 lt:∀b y,t.get b=some y->b<H.next
def HLe (H H':xA):Prop:=∀b y,H.t.get b=some y->H'.t.get b=some y
def uN(e e':mC):Prop:=∀i v,z0n i e=some v->z0n i e'=some v
section
variable {base:Nat}{t:Tr rA}{X:Xt}{H HA:xA}{e e':mC}{C:pA}{v:zA}
def Ov.notX(h:Ov base t X HA){b:Nat}{y:rA}(hb:t.get b=some y):X b=none:=by
 cases hx:X b with
 | none=>rfl
 | some z=>have:=(h.ext b z hx).2.1;rw[hb]at this;cases this
def Ov.up(h:Ov base t X HA){b:Nat}{y:rA}(hb:t.get b=some y):HA.t.get b=some y:=by rw[h.same b (h.notX hb)];exact hb
def Ov.le(h:Ov base t X HA){n:Nat}:HLe ⟨n,t⟩ HA:=fun _ _ hb=>h.up hb
def Ov.nextX(h:Ov base t X HA):X HA.next=none:=by
 cases hx:X HA.next with
 | none=>rfl
 | some z=>exact absurd (h.ext _ z hx).2.2 (Nat.lt_irrefl _)
def Ov.nextT(h:Ov base t X HA):t.get HA.next=none:=by
 cases hx:t.get HA.next with
 | none=>rfl
 | some z=>exact absurd (h.lt _ z hx) (Nat.lt_irrefl _)
def vM(h:HLe H HA){b:Nat}{p:Tr zA × Nat × Option Lo}(hb:tD H b=some p):tD HA b=some p:=by
 unfold tD at hb ⊢;rw[uA]at hb ⊢;obtain⟨y,h1,h2⟩:=hb;exact⟨y,h _ _ h1,h2⟩
def eT(h:HLe H HA){b:Nat}{p:List (zA × zA)}(hb:lG H b=some p):lG HA b=some p:=by
 unfold lG at hb ⊢;rw[uA]at hb ⊢;obtain⟨y,h1,h2⟩:=hb;exact⟨y,h _ _ h1,h2⟩
def gC(h:uN e e'){x:Operand}(hx:ev x e=some v):ev x e'=some v:=by
 cases x with
 | tmp i=>exact h i v hx
 | const c=>exact hx
 | global g=>exact hx
 | func f=>exact hx
def zig(h:uN e e'){l:List Operand}{vs:List zA}(hx:evs l e=some vs):evs l e'=some vs:=jX l (fun _ _ k=>gC h k) hx
def zqu(h:uN e e'){x:Option Operand}{r:Option zA}(hx:evo x e=some r):evo x e'=some r:=by
 cases x with
 | none=>exact hx
 | some x=>
  have hx:ob (ev x e) (fun v=>some (some v))=some r:=hx
  show ob (ev x e') (fun v=>some (some v))=some r
  rw[uA]at hx ⊢
  obtain⟨a,h1,h2⟩:=hx
  exact⟨a,gC h h1,h2⟩
def zih(h:uN e e'){l:List (Nat × Operand)}{vs:List (Nat × zA)}(hx:evp l e=some vs):evp l e'=some vs:=
 jX l (fun a b k=>by rw[uA]at k ⊢;obtain⟨u,h1,h2⟩:=k;exact⟨u,gC h h1,h2⟩) hx
def zg3(h:uN e e'){c:Call}{p:zA × zA}(hx:two c e=some p):two c e'=some p:=by
 unfold two at hx ⊢
 split at hx
 ·rw[uA]at hx ⊢
  obtain⟨a,h1,hx⟩:=hx
  refine⟨a,gC h h1,?_⟩
  rw[uA]at hx ⊢
  obtain⟨b,h2,hx⟩:=hx
  exact⟨b,gC h h2,hx⟩
 ·cases hx
def zaq(h:HLe H HA){ty:Nat}{a:zA}(hx:oA C ty H a=some v):oA C ty HA a=some v:=by
 unfold oA at hx ⊢
 simp only[uA]at hx ⊢
 obtain⟨p,h1,y,h2,c,h3,h4⟩:=hx
 exact⟨p,h1,y,h2,c,vM h h3,h4⟩
def za4(h:HLe H HA){s d:rC}{a:zA}(hx:xN C s d a H=some v):xN C s d a HA=some v:=by
 unfold xN at hx ⊢
 split at hx
 ·rename_i k hk;exact hx
 ·rename_i hk
  rw[xB]at hx ⊢
  refine⟨hx.1,?_⟩
  have hx:=hx.2
  rw[cB]at hx ⊢
  split at hx
  ·rename_i e;rw[yab e];exact hx
  ·rename_i e
   rw[yaa e];simp only[uA,xB]at hx ⊢
   obtain⟨a1,h1,b1,h2,k1,h3,h4,h5⟩:=hx
   refine⟨a1,h1,b1,h2,k1,h3,h4,?_⟩
   unfold vV at h5 ⊢
   split at h5
   ·simp only[uA]at h5 ⊢
    obtain⟨c,g1,g2⟩:=h5
    exact⟨c,vM h g1,g2⟩
   ·exact h5
def zrm(h:HLe H HA){s d:Nat}{a:zA}(hx:rN C s d H a=some v):rN C s d HA a=some v:=by
 unfold rN at hx ⊢
 simp only[uA]at hx ⊢
 obtain⟨a1,h1,b1,h2,h3⟩:=hx
 exact⟨a1,h1,b1,h2,za4 h h3⟩
def zev(h:HLe H HA){b size cap l:Nat}{arr:Bool}(hx:gG H b size cap l arr=true):gG HA b size cap l arr=true:=by
 unfold gG at hx ⊢
 cases hc:tD H b with
 | none=>rw[hc]at hx;cases hx
 | some c=>rw[hc]at hx;rw[vM h hc];exact hx
def zZ(h:HLe H HA){ty:rC}{a:zA}{l r:Option zA}(hx:bJ C H ty a l r=some v):bJ C HA ty a l r=some v:=by
 have row:∀ {arr e b off len cap},kK C H arr e b off len cap l r=some v->kK C HA arr e b off len cap l r=some v:=by
  intro arr e b off len cap hx;unfold kK at hx ⊢
  simp only[uA]at hx ⊢
  obtain⟨a1,h1,b1,h2,hx⟩:=hx
  refine⟨a1,h1,b1,h2,?_⟩
  cases hb:tD H b with
  | none=>
   have e1:wI H b a1.size cap b1.1 arr=false:=by unfold wI;rw[hb]
   have e2:gG H b a1.size cap b1.1 arr=false:=by unfold gG;rw[hb]
   rw[e1,e2,yay,yay]at hx
   cases hx
  | some c=>
   have e1:wI HA b a1.size cap b1.1 arr=wI H b a1.size cap b1.1 arr:=by unfold wI;rw[hb,vM h hb]
   have e2:gG HA b a1.size cap b1.1 arr=gG H b a1.size cap b1.1 arr:=by unfold gG;rw[hb,vM h hb]
   rw[e1,e2];exact hx
 unfold bJ at hx ⊢
 split at hx
 ·exact hx
 ·split at hx
  ·rw[uA]at hx ⊢;obtain⟨a1,h1,h2⟩:=hx;exact⟨a1,h1,row h2⟩
  ·split at hx
   ·rw[uA]at hx ⊢;obtain⟨a1,h1,h2⟩:=hx;exact⟨a1,h1,row h2⟩
   ·exact hx
def zme(h:HLe H HA){ty:Nat}{a:zA}{l r:Option zA}(hx:qF C ty H a l r=some v):qF C ty HA a l r=some v:=by
 unfold qF at hx ⊢
 rw[uA]at hx ⊢
 obtain⟨a1,h1,h2⟩:=hx
 exact⟨a1,h1,zZ h h2⟩
def zaz(h:HLe H HA){m:zA}{l:List (zA × zA)}(hx:eM H m=some l):eM HA m=some l:=by
 unfold eM at hx ⊢
 split at hx
 ·exact eT h hx
 ·exact hx
def zi0(h:HLe H HA){ty:Nat}{m k:zA}{ok:Bool}(hx:bG C ty H m k ok=some v):bG C ty HA m k ok=some v:=by
 unfold bG at hx ⊢
 simp only[uA,xB]at hx ⊢
 obtain⟨a1,h1,b1,h2,c1,h3,h4,d1,h5,es,h6,h7⟩:=hx
 exact⟨a1,h1,b1,h2,c1,h3,h4,d1,h5,es,zaz h h6,h7⟩
def zdi(h:HLe H HA){ty:rC}{a:zA}{n:Nat}(hx:zt5 H ty a=some n):zt5 HA ty a=some n:=by
 unfold zt5 at hx ⊢
 split at hx
 ·exact hx
 ·split at hx
  ·exact hx
  ·split at hx
   ·exact hx
   ·split at hx
    ·rw[xB,uA]at hx ⊢
     obtain⟨h1,l,h2,h3⟩:=hx
     exact⟨h1,l,eT h h2,h3⟩
    ·exact hx
def zui(h:HLe H HA){ty:Nat}{a:zA}(hx:zt3 C ty H a=some v):zt3 C ty HA a=some v:=by
 unfold zt3 at hx ⊢
 simp only[uA]at hx ⊢
 obtain⟨a1,h1,n,h2,h3⟩:=hx
 exact⟨a1,h1,n,zdi h h2,h3⟩
def zxr{ty:Nat}{a:Operand}:pO ty a C e H=ob (ev a e) fun v=>oA C ty H v:=rfl
def zxu{s d:Nat}{x:Operand}{u:zA}(hx:ev x e=some u):bK s d x C e H=rN C s d H u:=by unfold bK rN;rw[hx];rfl
def z2u{ty:Nat}{x:Operand}{lo hi:Option Operand}{a:zA}{l r:Option zA}(h1:ev x e=some a)(h2:evo lo e=some l)(h3:evo hi e=some r):iQ ty x lo hi C e H=qF C ty H a l r:=by unfold iQ qF;rw[h1,tA,h2,tA,h3,tA]
def zbi{s f:Nat}{x:Operand}{u:zA}(hx:ev x e=some u):mO s x f C e H=fB C s f u:=by
 unfold mO fB nV;rw[hx]
 cases C.tys.get s with
 | none=>rfl
 | some ty=>
  simp only[tA]
  cases ty.desc.asStruct with
  | none=>rfl
  | some fs=>
   simp only[tA]
   cases lC fs f with
   | none=>rfl
   | some fd=>simp only[tA];cases hb:(!Nat.beq fd.2.2 0)<;>rfl
def zbh{ty:Nat}{x i:Operand}{u w:zA}(hx:ev x e=some u)(hi:ev i e=some w):oO ty x i C e H=jB C ty u w:=by unfold oO jB;rw[hx,hi];rfl
def z2x{ty:Nat}{x i:Operand}{u w:zA}(hx:ev x e=some u)(hi:ev i e=some w):nO ty x i C e H=yJ C ty u w:=by unfold nO yJ;rw[hx,hi];rfl
def z5c{x:Operand}{u:zA}(hx:ev x e=some u):z2v x C e H=aE u:=by unfold z2v aE;rw[hx];rfl
def zsp{x:Operand}{i:Nat}{u:zA}(hx:ev x e=some u):lO x i C e H=sB i u:=by unfold lO sB;rw[hx];rfl
def lBin_v{op:BinOp}{ty:Nat}{x y:Operand}{u w:zA}(hx:ev x e=some u)(hy:ev y e=some w):zxw op ty x y C e H=(binA op).f C ty x y u w:=by unfold zxw;rw[hx,hy];rfl
def zxx{x:Operand}{a:Nat}{ok:Bool}{u:zA}(hx:ev x e=some u):kO x a ok C e H=zmg C a ok u:=by
 unfold kO zmg;rw[hx];rfl
def zxq{ty:Nat}{x i:Operand}{ok:Bool}{m k:zA}(hx:ev x e=some m)(hi:ev i e=some k):qO ty x i ok C e H=bG C ty H m k ok:=by unfold qO bG;rw[hx,hi];rfl
def lLen_v{c:Call}{ty:Nat}{x:Operand}{u:zA}(h1:lC c.argTypes.toList 0=some ty)(h2:lC c.args.toList 0=some x)(hx:ev x e=some u):znn c C e H=zt3 C ty H u:=by unfold znn zt3;rw[h1,tA,h2,tA,hx];rfl
def z3q(he:uN e e'){op:Op}(hp:pN op=true\/(∃s d x,op=.convert s d x/\(rG C d=1\/rG C s=2))\/(∃c,op=.call c/\(c.callee=.builtin .max\/c.callee=.builtin .min))){H':xA}(h:(oE op).f C e H=some v):(oE op).f C e' H'=some v:=by
 rcases hp with hp | hp | hp
 ·cases op<;>simp only[pN]at hp<;>try (cases hp;done)
  case move x=>exact gC he h
  case assign x=>exact gC he h
  case pick c a b=>
   have h:ob (ev c e) (fun c=>ob c.asBool fun c=>bif c then ev a e else ev b e)=some v:=h
   show ob (ev c e') (fun c=>ob c.asBool fun c=>bif c then ev a e' else ev b e')=some v
   simp only[uA]at h ⊢
   obtain⟨u,h1,w,h2,h3⟩:=h
   refine⟨u,gC he h1,w,h2,?_⟩
   cases w with
   | true=>exact gC he h3
   | false=>exact gC he h3
  case nilCheck x=>
   have h:ob (ev x e) (fun u=>dA (Nat.beq u.tag 4||Nat.beq u.tag 9) (some u))=some v:=h
   show ob (ev x e') (fun u=>dA (Nat.beq u.tag 4||Nat.beq u.tag 9) (some u))=some v
   rw[uA]at h ⊢
   obtain⟨u,h1,h2⟩:=h
   exact⟨u,gC he h1,h2⟩
  case binOp op t x y u=>
   have h:zxw op t x y C e H=some v:=h
   show zxw op t x y C e' H'=some v
   unfold zxw at h ⊢
   simp only[uA]at h ⊢
   obtain⟨a,h1,b,h2,h3⟩:=h
   exact⟨a,gC he h1,b,gC he h2,h3⟩
  case unOp op t x=>
   have h:lUn op x C e H=some v:=h
   show lUn op x C e' H'=some v
   unfold lUn at h ⊢
   rw[uA]at h ⊢
   obtain⟨a,h1,h2⟩:=h
   exact⟨a,gC he h1,h2⟩
  case makeInterface t x=>
   have h:iR t x C e H=some v:=h
   show iR t x C e' H'=some v
   unfold iR at h ⊢
   simp only[uA,xB]at h ⊢
   obtain⟨a,h1,h2,b,h3,h4⟩:=h
   exact⟨a,h1,h2,b,gC he h3,h4⟩
  case makeFunc fn a b=>
   have h:(fR fn a b).f C e H=some v:=h
   show(fR fn a b).f C e' H'=some v
   unfold fR at h ⊢
   split at h
   ·show zxt _ a b C e' H'=some v
    unfold zxt at h ⊢
    simp only[uA]at h ⊢
    obtain⟨x,h1,y,h2,h3⟩:=h
    exact⟨x,zig he h1,y,zig he h2,h3⟩
   ·cases h
  case fieldAddr s x f=>
   have h:mO s x f C e H=some v:=h
   show mO s x f C e' H'=some v
   unfold mO at h ⊢
   simp only[uA,xB]at h ⊢
   obtain⟨a,h1,b,h2,c,h3,h4,u,h5,h6⟩:=h
   exact⟨a,h1,b,h2,c,h3,h4,u,gC he h5,h6⟩
  case field t x f=>
   have h:eR t x f C e H=some v:=h
   show eR t x f C e' H'=some v
   unfold eR at h ⊢
   simp only[uA]at h ⊢
   obtain⟨a,h1,b,h2,c,h3,u,h5,h6⟩:=h
   exact⟨a,h1,b,h2,c,h3,u,gC he h5,h6⟩
  case indexAddr t x i=>
   have h:oO t x i C e H=some v:=h
   show oO t x i C e' H'=some v
   unfold oO at h ⊢
   simp only[uA]at h ⊢
   obtain⟨a,h1,b,h2,c,h3,h4⟩:=h
   exact⟨a,h1,b,gC he h2,c,gC he h3,h4⟩
  case index t x i=>
   have h:nO t x i C e H=some v:=h
   show nO t x i C e' H'=some v
   unfold nO at h ⊢
   simp only[uA]at h ⊢
   obtain⟨a,h1,b,h2,c,h3,h4⟩:=h
   exact⟨a,h1,b,gC he h2,c,gC he h3,h4⟩
  case extract t i=>
   have h:lO t i C e H=some v:=h
   show lO t i C e' H'=some v
   unfold lO at h ⊢
   rw[uA]at h ⊢
   obtain⟨a,h1,h2⟩:=h
   exact⟨a,gC he h1,h2⟩
  case build t ps=>
   have h:mP t ps C e H=some v:=h
   show mP t ps C e' H'=some v
   unfold mP at h ⊢
   rw[uA]at h ⊢
   obtain⟨a,h1,h⟩:=h
   refine⟨a,h1,?_⟩
   rw[uA]at h ⊢
   obtain⟨b,h2,h⟩:=h
   exact⟨b,zih he h2,h⟩
  case typeAssert x t u ok=>
   have h:kO x u ok C e H=some v:=h
   show kO x u ok C e' H'=some v
   unfold kO at h ⊢
   rw[uA]at h ⊢
   obtain⟨a,h1,h⟩:=h
   refine⟨a,h1,?_⟩
   rw[xB]at h ⊢
   refine⟨h.1,?_⟩
   have h:=h.2
   rw[uA]at h ⊢
   obtain⟨b,h2,h⟩:=h
   exact⟨b,gC he h2,h⟩
 ·obtain⟨s,d,x,rfl,hp⟩:=hp
  have h:bK s d x C e H=some v:=h
  show bK s d x C e' H'=some v
  unfold bK at h ⊢
  simp only[uA]at h ⊢
  obtain⟨u,h1,sy,h2,dy,h3,h4⟩:=h
  refine⟨u,gC he h1,sy,h2,dy,h3,?_⟩
  unfold xN at h4 ⊢
  split at h4
  ·exact h4
  ·rename_i hd
   rw[xB]at h4 ⊢
   refine⟨h4.1,?_⟩
   have h4:=h4.2
   rw[cB]at h4 ⊢
   split at h4
   ·rename_i e;rw[yab e];exact h4
   ·rename_i e
    exfalso
    rcases hp with hp | hp
    ·unfold rG at hp
     rw[h3]at hp;have hp:dy.desc.tag=1:=hp
     cases hx:dy.desc<;>rw[hx]at hp hd<;>first
      | (cases hp;done)
      | (cases hd;done)
    ·unfold rG at hp
     rw[h2]at hp;have hp:sy.desc.tag=2:=hp
     simp only[uA]at h4;obtain⟨el,h5,_⟩:=h4
     cases hx:sy.desc<;>rw[hx]at hp h5<;>first
      | (cases hp;done)
      | (cases h5;done)
 ·obtain⟨c,rfl,hc⟩:=hp
  rcases hc with hc | hc
  ·have h:(bM c c.callee).f C e H=some v:=h
   show(bM c c.callee).f C e' H'=some v
   rw[hc]at h ⊢
   have h:zxp c C e H=some v:=h
   show zxp c C e' H'=some v
   unfold zxp at h ⊢
   rw[uA]at h ⊢
   obtain⟨p,h1,h2⟩:=h
   exact⟨p,zg3 he h1,h2⟩
  ·have h:(bM c c.callee).f C e H=some v:=h
   show(bM c c.callee).f C e' H'=some v
   rw[hc]at h ⊢
   have h:zxn c C e H=some v:=h
   show zxn c C e' H'=some v
   unfold zxn at h ⊢
   rw[uA]at h ⊢
   obtain⟨p,h1,h2⟩:=h
   exact⟨p,zg3 he h1,h2⟩
end
end
end Go.Am
