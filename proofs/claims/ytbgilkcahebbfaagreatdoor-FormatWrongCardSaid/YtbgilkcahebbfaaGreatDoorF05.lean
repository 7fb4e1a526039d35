/- Code as a function: limits. -/
import Derived.Test.YtbgilkcahebbfaaGreatDoorF04
set_option linter.all false
noncomputable section
namespace Go.Am
open Go Go.RowKit
section
def zwi{α:Type}{f:Nat->Option α}{r:α}(h:lim f=some r):∃n,f n=some r:=by
 unfold lim at h;by_cases hx:∃n r,f n=some r
 ·rw[dif_pos hx]at h;exact⟨_,h⟩
 ·rw[dif_neg hx]at h;cases h
structure iK {α β γ:Type} (ks:Nat->α->β->Option γ) (k:α->β->Option γ):Prop where
 up:∀n,Le2 (ks n) (ks (n+1))
 ex:∀a b x,k a b=some x->∃n,ks n a b=some x
def ztw{α β γ:Type}{ks:Nat->α->β->Option γ}(h:∀n,Le2 (ks n) (ks (n+1))){n m:Nat}(hnm:n<=m):Le2 (ks n) (ks m):=by
 induction hnm with
 | refl=>exact fun _ _ _ h=>h
 | step _ ih=>exact fun a b x hx=>h _ _ _ _ (ih a b x hx)
structure z26 (φs:Nat->vG) (φ:vG):Prop where
 up:∀n,OLe (φs n) (φs (n+1))
 ex:∀f a H x,φ f a H=some x->∃n,φs n f a H=some x
def z26.le{φs:Nat->vG}{φ:vG}(h:z26 φs φ){n m:Nat}(hnm:n<=m):OLe (φs n) (φs m):=by
 induction hnm with
 | refl=>exact fun _ _ _ _ h=>h
 | step _ ih=>exact fun f a H x hx=>h.up _ _ _ _ _ (ih f a H x hx)
structure z7i (κs:Nat->Kt) (κ:Kt):Prop where
 norm:iK (fun n=>(κs n).norm) κ.norm
 exit:∀i,iK (fun n=>(κs n).exit i) (κ.exit i)
 ret:iK (fun n=>(κs n).ret) κ.ret
section
variable {C:oA}{φ φ':vG}{φs:Nat->vG}{all:Array Oper}{N fn:Nat}
def zxd{g g':Kt->Tm->xA->wB}{κ κ':Kt}(hκ:KLe κ κ')(hg:∀ κ κ',KLe κ κ'->Le2 (g κ) (g' κ'))(live:List Nat):∀m,Le2 (Nat.rec (motive:=fun _=>Tm->xA->wB) (fun _ _=>none) (fun _ r tm H=>g ⟨r,κ.exit,κ.ret⟩ (keep live tm) H) m)
  (Nat.rec (motive:=fun _=>Tm->xA->wB) (fun _ _=>none) (fun _ r tm H=>g' ⟨r,κ'.exit,κ'.ret⟩ (keep live tm) H) m):=by
 intro m;induction m with
 | zero=>intro a b x h;cases h
 | succ m ih=>exact fun a b x h=>hg ⟨_,_,_⟩ ⟨_,_,_⟩ ⟨ih,hκ.exit,hκ.ret⟩ _ _ _ h
def KLe.refl(κ:Kt):KLe κ κ:=⟨fun _ _ _ h=>h,fun _ _ _ _ h=>h,fun _ _ _ h=>h⟩
def zm2{g:Kt->Tm->xA->wB}{κ:Kt}(hg:∀ κ κ',KLe κ κ'->Le2 (g κ) (g κ'))(live:List Nat):∀m,Le2 (Nat.rec (motive:=fun _=>Tm->xA->wB) (fun _ _=>none) (fun _ r tm H=>g ⟨r,κ.exit,κ.ret⟩ (keep live tm) H) m)
  (Nat.rec (motive:=fun _=>Tm->xA->wB) (fun _ _=>none) (fun _ r tm H=>g ⟨r,κ.exit,κ.ret⟩ (keep live tm) H) (m+1)):=by
 intro m;induction m with
 | zero=>intro a b x h;cases h
 | succ m ih=>exact fun a b x h=>hg ⟨_,_,_⟩ ⟨_,_,_⟩ ⟨ih,(KLe.refl κ).exit,(KLe.refl κ).ret⟩ _ _ _ h
def vT(hφ:OLe φ φ'):∀(c:aC) (κ κ':Kt),KLe κ κ'->Le2 (bC C φ fn N c κ) (bC C φ' fn N c κ'):=by
 have self:∀(ψ:vG),OLe ψ ψ:=fun _ _ _ _ _ h=>h
 intro c;suffices h:∀ φ φ',OLe φ φ'->∀(κ κ':Kt),KLe κ κ'->Le2 (bC C φ fn N c κ) (bC C φ' fn N c κ') from h φ φ' hφ
 induction c with
 | skip=>exact fun _ _ _ κ κ' hκ=>hκ.norm
 | region id ops d=>exact fun _ _ hφ κ κ' hκ=>za3 hφ hκ.norm
 | seq a b iha ihb=>exact fun _ _ hφ κ κ' hκ=>iha _ _ hφ _ _ ⟨ihb _ _ hφ _ _ hκ,hκ.exit,hκ.ret⟩
 | cond c a b iha ihb=>
  intro φ φ' hφ κ κ' hκ tm H x h;have h:(ob (ob (ev c (.now tm)) zA.asBool) fun t=>Bool.rec (motive:=fun _=>wB) (bC C φ fn N b κ tm H) (bC C φ fn N a κ tm H) t)=some x:=h
  show(ob (ob (ev c (.now tm)) zA.asBool) fun t=>Bool.rec (motive:=fun _=>wB) (bC C φ' fn N b κ' tm H) (bC C φ' fn N a κ' tm H) t)=some x
  rw[uA]at h ⊢
  obtain⟨t,h1,h2⟩:=h
  refine⟨t,h1,?_⟩
  cases t with
  | true=>exact iha _ _ hφ _ _ hκ _ _ _ h2
  | false=>exact ihb _ _ hφ _ _ hκ _ _ _ h2
 | block id c ih=>
  intro φ φ' hφ κ κ' hκ;refine ih _ _ hφ _ _ ⟨hκ.norm,fun i tm H x h=>?_,hκ.ret⟩
  simp only[bG]at h ⊢
  split at h
  ·rename_i e;rw[yab e];exact hκ.norm _ _ _ h
  ·rename_i e;rw[yaa e];exact hκ.exit _ _ _ _ h
 | loop live c ih=>
  intro φ φ' hφ κ κ' hκ tm H x h;obtain⟨m,hm⟩:=zwi h
  refine(zbs fun m y hy=>zm2 (ih _ _ (self φ')) live.kept m _ _ _ hy).2 ⟨m,?_⟩
  exact zxd hκ (ih _ _ hφ) live.kept m _ _ _ hm
 | exit id=>exact fun _ _ _ κ κ' hκ=>hκ.exit id
 | ret=>exact fun _ _ _ κ κ' hκ=>hκ.ret
 | cut live c ih=>exact fun _ _ hφ κ κ' hκ tm H x h=>ih _ _ hφ _ _ hκ _ _ _ h
 | range i pl f ps id ops c ih=>exact fun _ _ hφ κ κ' hκ tm H x h=>zcz hφ hκ _ _ _ h
def zow(hφ:z26 φs φ){r:uI}{H:xA}{ks:Nat->zA->xA->wB}{k:zA->xA->wB}(hk:iK ks k){x:zA × xA}(h:vF φ r H k=some x):∃n,vF (φs n) r H (ks n)=some x:=by
 cases r<;>simp only[vF]at h ⊢<;>try (cases h;done)
 case val v H'=>exact hk.ex _ _ _ h
 case enter f args=>
  rw[uA]at h;obtain⟨p,h1,h2⟩:=h
  obtain⟨n,hn⟩:=hφ.ex _ _ _ _ h1
  obtain⟨m,hm⟩:=hk.ex _ _ _ h2
  exact⟨max n m,by rw[uA];exact⟨p,hφ.le (Nat.le_max_left n m) _ _ _ _ hn,ztw hk.up (Nat.le_max_right n m) _ _ _ hm⟩⟩
 case round l args=>
  rw[uA]at h;obtain⟨p,h1,h2⟩:=h
  obtain⟨n,hn⟩:=hφ.ex _ _ _ _ h1
  obtain⟨m,hm⟩:=hk.ex _ _ _ h2
  exact⟨max n m,by rw[uA];exact⟨p,hφ.le (Nat.le_max_left n m) _ _ _ _ hn,ztw hk.up (Nat.le_max_right n m) _ _ _ hm⟩⟩
def zjp{t:Nat}{ks:Nat->zA->xA->wB}{k:zA->xA->wB}(hk:iK ks k):iK (fun n v H=>qI C t v fun v=>ks n v H) (fun v H=>qI C t v fun v=>k v H):=by
 refine⟨fun n=>zar (hk.up n),fun v H x h=>?_⟩
 rw[qK]at h;obtain⟨n,hn⟩:=hk.ex _ _ _ h.2
 exact⟨n,by rw[qK];exact⟨h.1,hn⟩⟩
def z0u(hφ:z26 φs φ){κs:Nat->Tm->xA->wB}{κ:Tm->xA->wB}(hκ:iK κs κ):∀(l:List Oper),iK (fun n=>qJ C (φs n) all N (κs n) l) (qJ C φ all N κ l):=by
 intro l;refine⟨fun n=>zc4 (hφ.up n) (hκ.up n) l,?_⟩
 induction l with
 | nil=>exact hκ.ex
 | cons o l ih=>
  intro tm H x h;rw[gS,uA]at h;obtain⟨w,h1,h2⟩:=h
  split at h2
  ·rename_i e
   obtain⟨n,hn⟩:=zow hφ (zjp (ks:=fun n v H'=>qJ C (φs n) all N (κs n) l (putA N tm o.dst v) H') (k:=fun v H'=>qJ C φ all N κ l (putA N tm o.dst v) H') ⟨fun n v H' y hy=>zc4 (hφ.up n) (hκ.up n) l _ _ _ hy,fun v H' y hy=>ih _ _ _ hy⟩) h2
   exact⟨n,by show qJ C (φs n) all N (κs n) (o::l) tm H=some x;rw[gS,uA];exact⟨w,h1,by rw[yab e];exact hn⟩⟩
  ·rename_i e
   obtain⟨n,hn⟩:=ih _ _ _ h2
   exact⟨n,by show qJ C (φs n) all N (κs n) (o::l) tm H=some x;rw[gS,uA];exact⟨w,h1,by rw[yaa e];exact hn⟩⟩
variable {old:Tm}{olds:List (Nat × List Nat)}
def vZ{H:xA}{ks:Nat->Tm->wB}{k:Tm->wB}(hk:∀tm x,k tm=some x->∃n,ks n tm=some x):∀(l:List Nat) tm x,pG C H all N old olds k l tm=some x->∃n,pG C H all N old olds (ks n) l tm=some x:=by
 intro l;induction l with
 | nil=>exact hk
 | cons i l ih=>
  intro tm x h;simp only[fX]at h ⊢
  rw[uA]at h;obtain⟨o,h1,h⟩:=h
  rw[uA]at h;obtain⟨w,h3,h4⟩:=h
  split at h4
  ·rename_i e
   rw[uA]at h4;obtain⟨v,h5,h6⟩:=h4
   rw[qK]at h6;obtain⟨n,hn⟩:=ih _ _ h6.2
   exact⟨n,by rw[h1,vA,h3,vA,yab e,h5,vA,qK];exact⟨h6.1,hn⟩⟩
  ·rename_i e
   obtain⟨n,hn⟩:=ih _ _ h4
   exact⟨n,by rw[h1,vA,h3,vA,yaa e];exact hn⟩
def zl1(hφ:z26 φs φ){κs:Nat->Tm->xA->wB}{κ:Tm->xA->wB}(hκ:iK κs κ):∀(l:List xE),iK (fun n=>lG C (φs n) all N old olds (κs n) l) (lG C φ all N old olds κ l):=by
 intro l;refine⟨fun n=>bY (hφ.up n) (hκ.up n) l,?_⟩
 induction l with
 | nil=>exact hκ.ex
 | cons st l ih=>
  intro tm H x h
  cases hg:rN all st with
  | true=>
   rw[oV hg,aX]at h;obtain⟨h0,es,H',h1,h2,h3⟩:=h
   obtain⟨n,hn⟩:=vZ (fun tm x hx=>ih tm H' x hx) _ _ _ h3
   exact⟨n,by show lG C (φs n) all N old olds (κs n) (st::l) tm H=some x;rw[oV hg,aX];exact⟨h0,es,H',h1,h2,hn⟩⟩
  | false=>
  rw[bT hg,uA]at h;obtain⟨o,h1,h⟩:=h
  rw[uA]at h;obtain⟨w,h2,h⟩:=h
  have cont:iK (fun n v H'=>iI C H' all old olds (putA N tm o.dst v) (pG C H' all N old olds (fun tm=>lG C (φs n) all N old olds (κs n) l tm H') st.lights (putA N tm o.dst v)) st.again)
    (fun v H'=>iI C H' all old olds (putA N tm o.dst v) (pG C H' all N old olds (fun tm=>lG C φ all N old olds κ l tm H') st.lights (putA N tm o.dst v)) st.again):=by
   refine⟨fun n v H' y hy=>zec (iX (fun tm x hx=>bY (hφ.up n) (hκ.up n) l _ _ _ hx) _ _ _ (iW _ hy).2) _ hy,fun v H' y hy=>?_⟩
   obtain⟨n,hn⟩:=vZ (fun tm x hx=>ih tm H' x hx) _ _ _ (iW _ hy).2
   exact⟨n,zec hn _ hy⟩
  simp only[]at h;split at h
  ·rename_i e
   obtain⟨n,hn⟩:=zow hφ (zjp cont) h
   exact⟨n,by show lG C (φs n) all N old olds (κs n) (st::l) tm H=some x;rw[bT hg,h1,vA,h2,vA];simp only[];rw[yab e];exact hn⟩
  ·rename_i e
   obtain⟨n,hn⟩:=cont.ex _ _ _ h
   exact⟨n,by show lG C (φs n) all N old olds (κs n) (st::l) tm H=some x;rw[bT hg,h1,vA,h2,vA];simp only[];rw[yaa e];exact hn⟩
def zl9(hφ:z26 φs φ){κs:Nat->Tm->xA->wB}{κ:Tm->xA->wB}(hκ:iK κs κ){id:Nat}{draw:Bool}:iK (fun n=>xU C (φs n) fn N (κs n) id all draw) (xU C φ fn N κ id all draw):=by
 refine⟨fun n=>za3 (hφ.up n) (hκ.up n),fun tm H x h=>?_⟩
 cases draw with
 | false=>exact(z0u hφ hκ _).ex _ _ _ h
 | true=>
  have h:(ob (ob (C.plans.get fn) fun t=>t.get id) fun p=>jA (vN all p) (pG C H all N tm.cut p.olds (fun tm'=>lG C φ all N tm.cut p.olds κ p.stages tm' H) p.first tm.cut))=some x:=h
  rw[uA]at h;obtain⟨p,h1,h⟩:=h
  rw[zB]at h;obtain⟨n,hn⟩:=vZ (fun tm' x hx=>(zl1 hφ hκ p.stages).ex tm' H x hx) _ _ _ h.2
  refine⟨n,?_⟩
  show(ob (ob (C.plans.get fn) fun t=>t.get id) fun p=>jA (vN all p) (pG C H all N tm.cut p.olds (fun tm'=>lG C (φs n) all N tm.cut p.olds (κs n) p.stages tm' H) p.first tm.cut))=some x
  rw[h1,vA,zB];exact⟨h.1,hn⟩
def zfn(hφ:z26 φs φ){κs:Nat->Kt}{κ:Kt}(hκ:z7i κs κ){f:Operand}{ps:List Nat}{a b:Code}:iK (fun n=>sL C (φs n) fn N (κs n) f ps a b) (sL C φ fn N κ f ps a b):=by
 have kle:∀n,KLe (κs n) (κs (n+1)):=fun n=>⟨hκ.norm.up n,fun i=>(hκ.exit i).up n,hκ.ret.up n⟩
 have klm:∀n m,n<=m->KLe (κs n) (κs m):=fun n m h=>⟨ztw hκ.norm.up h,fun i=>ztw (hκ.exit i).up h,ztw hκ.ret.up h⟩
 refine⟨fun n=>zcz (hφ.up n) (kle n),fun tm H x h=>?_⟩
 unfold sL at h;rw[uA]at h;obtain⟨v,h1,h⟩:=h
 rw[uA]at h;obtain⟨q,h2,h⟩:=h
 split at h
 ·cases h
 ·rename_i g hg
  rw[zB,uA]at h;obtain⟨h3,y,h4,h⟩:=h
  rw[uA]at h;obtain⟨r,h5,h⟩:=h
  rw[zB,uA]at h;obtain⟨h6,z,h7,h⟩:=h
  obtain⟨n,hn⟩:=hφ.ex _ _ _ _ h4
  have:∃m,bQ (κs m) r.pending (tm) (endLoop y.2 (H.next+1) r)=some z:=by
   unfold bQ at h7 ⊢
   split at h7
   ·exact hκ.norm.ex _ _ _ h7
   ·exact hκ.ret.ex _ _ _ h7
   ·cases h7
  obtain⟨m,hm⟩:=this
  refine⟨max n m,?_⟩
  show sL C (φs (max n m)) fn N (κs (max n m)) f ps a b tm H=some x
  unfold sL;rw[h1,vA,h2,vA,hg];simp only[];rw[zB,uA];refine⟨h3,y,hφ.le (Nat.le_max_left n m) _ _ _ _ hn,?_⟩
  rw[h5,vA,zB,uA];exact⟨h6,z,zed (klm _ _ (Nat.le_max_right n m)) _ _ _ hm,h⟩
def znl(hφ:z26 φs φ):∀(c:aC) (κs:Nat->Kt) (κ:Kt),z7i κs κ->iK (fun n=>bC C (φs n) fn N c (κs n)) (bC C φ fn N c κ):=by
 have kle:∀ {κs:Nat->Kt} {κ:Kt},z7i κs κ->∀n,KLe (κs n) (κs (n+1)):=fun h n=>⟨h.norm.up n,fun i=>(h.exit i).up n,h.ret.up n⟩
 intro c;induction c with
 | skip=>exact fun κs κ hκ=>hκ.norm
 | region id ops d=>exact fun κs κ hκ=>zl9 hφ hκ.norm
 | seq a b iha ihb=>exact fun κs κ hκ=>iha (fun n=>⟨bC C (φs n) fn N b (κs n),(κs n).exit,(κs n).ret⟩) _ ⟨ihb _ _ hκ,hκ.exit,hκ.ret⟩
 | cond c a b iha ihb=>
  intro κs κ hκ;refine⟨fun n=>vT (hφ.up n) (.cond c a b) _ _ (kle hκ n),fun tm H x h=>?_⟩
  have h:(ob (ob (ev c (.now tm)) zA.asBool) fun t=>Bool.rec (motive:=fun _=>wB) (bC C φ fn N b κ tm H) (bC C φ fn N a κ tm H) t)=some x:=h
  rw[uA]at h;obtain⟨t,h1,h2⟩:=h
  have key:∀n,(Bool.rec (motive:=fun _=>wB) (bC C (φs n) fn N b (κs n) tm H) (bC C (φs n) fn N a (κs n) tm H) t:wB)=some x->bC C (φs n) fn N (.cond c a b) (κs n) tm H=some x:=by
   intro n hn;show(ob (ob (ev c (.now tm)) zA.asBool) fun t=>Bool.rec (motive:=fun _=>wB) (bC C (φs n) fn N b (κs n) tm H) (bC C (φs n) fn N a (κs n) tm H) t)=some x
   rw[h1,vA];exact hn
  cases t with
  | true=>obtain⟨n,hn⟩:=(iha _ _ hκ).ex _ _ _ h2;exact⟨n,key n hn⟩
  | false=>obtain⟨n,hn⟩:=(ihb _ _ hκ).ex _ _ _ h2;exact⟨n,key n hn⟩
 | block id c ih=>
  intro κs κ hκ;refine ih (fun n=>⟨(κs n).norm,fun i tm H=>Bool.rec (motive:=fun _=>wB) ((κs n).exit i tm H) ((κs n).norm tm H) (Nat.beq id i),(κs n).ret⟩) _ ⟨hκ.norm,fun i=>⟨fun n tm H x h=>?_,fun tm H x h=>?_⟩,hκ.ret⟩
  ·simp only[bG]at h ⊢
   split at h
   ·rename_i e;rw[yab e];exact hκ.norm.up n _ _ _ h
   ·rename_i e;rw[yaa e];exact(hκ.exit i).up n _ _ _ h
  ·simp only[bG]at h ⊢
   split at h
   ·rename_i e;obtain⟨n,hn⟩:=hκ.norm.ex _ _ _ h;exact⟨n,by rw[yab e];exact hn⟩
   ·rename_i e;obtain⟨n,hn⟩:=(hκ.exit i).ex _ _ _ h;exact⟨n,by rw[yaa e];exact hn⟩
 | loop live c ih=>
  intro κs κ hκ;refine⟨fun n=>vT (hφ.up n) (.loop live c) _ _ (kle hκ n),fun tm H x h=>?_⟩
  obtain⟨m,hm⟩:=zwi h
  have it:∀m,iK (fun n=>(Nat.rec (motive:=fun _=>Tm->xA->wB) (fun _ _=>none) (fun _ r tm H=>bC C (φs n) fn N c ⟨r,(κs n).exit,(κs n).ret⟩ (keep live.kept tm) H) m:Tm->xA->wB))
    (Nat.rec (motive:=fun _=>Tm->xA->wB) (fun _ _=>none) (fun _ r tm H=>bC C φ fn N c ⟨r,κ.exit,κ.ret⟩ (keep live.kept tm) H) m):=by
   intro m;induction m with
   | zero=>exact⟨fun _ _ _ _ h=>h,fun _ _ _ h=>by cases h⟩
   | succ m ihm=>
    have:=ih _ _ (⟨ihm,hκ.exit,hκ.ret⟩:z7i (fun n=>⟨(Nat.rec (motive:=fun _=>Tm->xA->wB) (fun _ _=>none) (fun _ r tm H=>bC C (φs n) fn N c ⟨r,(κs n).exit,(κs n).ret⟩ (keep live.kept tm) H) m:Tm->xA->wB),(κs n).exit,(κs n).ret⟩) ⟨(Nat.rec (motive:=fun _=>Tm->xA->wB) (fun _ _=>none) (fun _ r tm H=>bC C φ fn N c ⟨r,κ.exit,κ.ret⟩ (keep live.kept tm) H) m:Tm->xA->wB),κ.exit,κ.ret⟩)
    exact⟨fun n tm H x h=>this.up n _ _ _ h,fun tm H x h=>this.ex _ _ _ h⟩
  obtain⟨n,hn⟩:=(it m).ex _ _ _ hm
  exact⟨n,(zbs fun m y hy=>zm2 (fun κ κ' h=>vT (fun _ _ _ _ h=>h) c κ κ' h) live.kept m _ _ _ hy).2 ⟨m,hn⟩⟩
 | exit id=>exact fun κs κ hκ=>hκ.exit id
 | ret=>exact fun κs κ hκ=>hκ.ret
 | cut live c ih=>exact fun κs κ hκ=>⟨fun n tm H x h=>(ih _ _ hκ).up n _ _ _ h,fun tm H x h=>(ih _ _ hκ).ex _ _ _ h⟩
 | range i pl f ps id ops c ih=>exact fun κs κ hκ=>⟨fun n tm H x h=>(zfn hφ hκ).up n _ _ _ h,fun tm H x h=>(zfn hφ hκ).ex _ _ _ h⟩
def z2i{live:PI}{c:aC}{κ:Kt}{tm:Tm}{H:xA}:bC C φ fn N (.loop live c) κ tm H=bC C φ fn N c ⟨bC C φ fn N (.loop live c) κ,κ.exit,κ.ret⟩ (keep live.kept tm) H:=by
 have self:OLe φ φ:=fun _ _ _ _ h=>h
 have up:∀m,Le2 (Nat.rec (motive:=fun _=>Tm->xA->wB) (fun _ _=>none) (fun _ r tm H=>bC C φ fn N c ⟨r,κ.exit,κ.ret⟩ (keep live.kept tm) H) m)
   (Nat.rec (motive:=fun _=>Tm->xA->wB) (fun _ _=>none) (fun _ r tm H=>bC C φ fn N c ⟨r,κ.exit,κ.ret⟩ (keep live.kept tm) H) (m+1)):=zm2 (vT self c) live.kept
 have some_iff:∀tm H x,bC C φ fn N (.loop live c) κ tm H=some x ↔ ∃m,(Nat.rec (motive:=fun _=>Tm->xA->wB) (fun _ _=>none) (fun _ r tm H=>bC C φ fn N c ⟨r,κ.exit,κ.ret⟩ (keep live.kept tm) H) m:Tm->xA->wB) tm H=some x:=
  fun tm H x=>zbs fun m y hy=>up m _ _ _ hy
 have sup:z7i (fun m=>⟨(Nat.rec (motive:=fun _=>Tm->xA->wB) (fun _ _=>none) (fun _ r tm H=>bC C φ fn N c ⟨r,κ.exit,κ.ret⟩ (keep live.kept tm) H) m:Tm->xA->wB),κ.exit,κ.ret⟩) ⟨bC C φ fn N (.loop live c) κ,κ.exit,κ.ret⟩:=
  ⟨⟨up,fun tm H x h=>(some_iff tm H x).1 h⟩,fun i=>⟨fun _ _ _ _ h=>h,fun _ _ _ h=>⟨0,h⟩⟩,⟨fun _ _ _ _ h=>h,fun _ _ _ h=>⟨0,h⟩⟩⟩
 have key:∀x,bC C φ fn N (.loop live c) κ tm H=some x ↔ bC C φ fn N c ⟨bC C φ fn N (.loop live c) κ,κ.exit,κ.ret⟩ (keep live.kept tm) H=some x:=by
  intro x;rw[some_iff];constructor
  ·rintro⟨m,hm⟩
   cases m with
   | zero=>cases hm
   | succ m=>exact vT self c ⟨(Nat.rec (motive:=fun _=>Tm->xA->wB) (fun _ _=>none) (fun _ r tm H=>bC C φ fn N c ⟨r,κ.exit,κ.ret⟩ (keep live.kept tm) H) m:Tm->xA->wB),κ.exit,κ.ret⟩ ⟨bC C φ fn N (.loop live c) κ,κ.exit,κ.ret⟩ ⟨fun tm H y hy=>(some_iff tm H y).2 ⟨m,hy⟩,fun _ _ _ _ h=>h,fun _ _ _ h=>h⟩ _ _ _ hm
  ·intro h
   obtain⟨m,hm⟩:=(znl (φs:=fun _=>φ) ⟨fun _=>self,fun _ _ _ _ h=>⟨0,h⟩⟩ c _ _ sup).ex _ _ _ h
   exact⟨m+1,hm⟩
 cases h:bC C φ fn N (.loop live c) κ tm H with
 | some x=>exact((key x).1 h).symm
 | none=>
  cases h2:bC C φ fn N c ⟨bC C φ fn N (.loop live c) κ,κ.exit,κ.ret⟩ (keep live.kept tm) H with
  | none=>rfl
  | some x=>rw[(key x).2 h2]at h;cases h
end
end
section
def z1m:List oD->Bool
 | .reg .. :: _=>true
 | _=>false
section
variable {P:Program}{C:oA}{B N:Nat}{I:World->Prop}{μ:Mu}{w:World}{base:List Frame}{m:Machine}
def zbm(hF:zk8 P C){f:Nat}{args:List zA}{args':Array Value}{H:xA}(hH:cA B N μ H w)(hl:yB μ args args'.toList){g:fB}(he:bI C f args false=some g) :
  cC P C B N μ base (lone (Frame.enter P f args' .normal) base w) w (.next ⟨g,[],H⟩):=
 ⟨μ,_,[],w,.refl _ _,fun _ _ h=>h,Below.refl N w,hH,(nW (cur:=some H) hF he hl).1,.nil⟩
end
end
section
inductive xJ (C:oA):qE->qE->Prop
 | refl (o:qE):xJ C o o
 | step {o o':qE}:xJ C (zrd C o) o'->xJ C o o'
 | forget {todo:List oD} {tm tm':Tm} {R:fH} {cs:List fB} {H:xA} {o':qE}:z1m todo=false->(∀i v,tm'.get i=some v->tm.get i=some v)->xJ C (.next ⟨⟨todo,tm',R⟩,cs,H⟩) o'->xJ C (.next ⟨⟨todo,tm,R⟩,cs,H⟩) o'
def xJ.trans{C:oA}{a b c:qE}(h:xJ C a b)(k:xJ C b c):xJ C a c:=by
 induction h with
 | refl=>exact k
 | step _ ih=>exact .step (ih k)
 | forget h1 h2 _ ih=>exact .forget h1 h2 (ih k)
section
variable {P:Program}{C:oA}{B N:Nat}{I:World->Prop}{μ:Mu}{w:World}{base:List Frame}{m:Machine}
def fD.forget{n:Nat}{tm tm':Tm}{tmps:Array Value}(h:fD μ n tm tmps)(hs:∀i v,tm'.get i=some v->tm.get i=some v):fD μ n tm' tmps:=⟨h.1,fun i v hv=>h.2 i v (hs i v hv)⟩
def zxw{todo:List oD}{tm tm':Tm}{R:fH}{acs:List fB}{H:xA}(hr:z1m todo=false)(hs:∀i v,tm'.get i=some v->tm.get i=some v)(h:cC P C B N μ base m w (.next ⟨⟨todo,tm,R⟩,acs,H⟩)) :
  cC P C B N μ base m w (.next ⟨⟨todo,tm',R⟩,acs,H⟩):=by
 obtain⟨μ',b,cs,w',h1,h2,h3,h4,h5,h6⟩:=h
 obtain⟨bfn,btmps,btodo,bdefers,bmode,bkind,bround⟩:=b
 refine⟨μ',_,cs,w',h1,h2,h3,h4,⟨h5.rest,?_⟩,h6⟩
 have hb:=h5.body
 simp only at hb ⊢
 split at hb
 ·rename_i hm
  rw[yab hm]
  cases hb with
  | plain a t=>exact .plain a (t.forget hs)
  | reg _ _ _ _=>cases hr
  | mid _ _ _ _ _=>cases hr
 ·rename_i hm
  rw[yaa hm];exact hb.forget hs
def cC.reach(hS:Sim P C B N I)(hI:I w){o o':qE}(h:xJ C o o'):cC P C B N μ base m w o->cC P C B N μ base m w o':=by
 induction h with
 | refl=>exact id
 | step _ ih=>exact fun h=>ih (zoo hS hI h)
 | forget hr hs _ ih=>exact fun h=>ih (zxw hr hs h)
end
def zid(C:oA)(f:Nat)(ds:List jH)(fr:fB)(H:xA)(v:zA):Prop:=
 fr.R.mode=.returning/\fr.R.defers=ds/\fr.R.deferred=false/\fr.R.fn=f/\∃fn l,C.fns.get f=some fn/\sQ C H fr.tm fn.results.toList=some l/\v=lS l
def zl5(r:wL)(l:Nat)(tm:Tm):fB:=⟨[.code r.assign,.beginRound,.code r.body],tm,⟨r.fn,r.n,[],.run,false,some l⟩⟩
structure bP (C:oA) (φ:vG):Prop where
 fn:∀f args H x,φ (.func f) args H=some x->∃g,bI C f args false=some g/\∀acs,∃fr',xJ C (.next ⟨g,acs,H⟩) (.next ⟨fr',acs,x.2⟩)/\zid C f [] fr' x.2 x.1
 rd:∀l args H x,φ (.yld l) args H=some x->∃r tm,dH H l=some r/\uQ r.n r.params args r.tm=some tm/\∀c acs c',tG c x.1=some c'->xJ C (.next ⟨zl5 r l tm,c::acs,H⟩) (.next ⟨c',acs,x.2⟩)
abbrev z4u:=List jH->qE->zA × xA->Prop
def Fin (C:oA)(E:z4u)(ds:List jH)(o:qE)(x:zA × xA):Prop:=∃o',xJ C o o'/\E ds o' x
def Fin.step{C:oA}{E:z4u}{ds:List jH}{o:qE}{x:zA × xA}(h:Fin C E ds (zrd C o) x):Fin C E ds o x:=by
 obtain⟨fr,h1,h2⟩:=h;exact⟨fr,.step h1,h2⟩
def Fin.of{C:oA}{E:z4u}{ds:List jH}{o o':qE}{x:zA × xA}(hr:xJ C o o')(h:Fin C E ds o' x):Fin C E ds o x:=by
 obtain⟨fr,h1,h2⟩:=h;exact⟨fr,hr.trans h1,h2⟩
abbrev RR(f N:Nat)(ro:Option Nat)(ds:List jH):fH:=⟨f,N,ds,.run,false,ro⟩
structure ztb (C:oA) (E:z4u) (G:zA × xA->Prop) (f N:Nat) (ro:Option Nat) (acs:List fB):Prop where
 not:∀ds todo tm H x,¬ E ds (.next ⟨⟨todo,tm,RR f N ro ds⟩,acs,H⟩) x
 all:ro=none->∀x,G x
 pop:ro=none->∀r ds o x,E (⟨none,r,[]⟩::ds) o x->iP x.2 r=some (some [])->∃o',xJ C o o'/\E ds o' (x.1,setBlk x.2 r (.deferred none))
structure zqn (C:oA) (E:z4u) (G:zA × xA->Prop) (f N:Nat) (ro:Option Nat) (acs:List fB) (κ:Kt) (k:List oD):Prop where
 norm:∀ds x tm H,G x->κ.norm tm H=some x->Fin C E ds (.next ⟨⟨k,tm,RR f N ro ds⟩,acs,H⟩) x
 exit:∀ds x i tm H,G x->κ.exit i tm H=some x->Fin C E ds (.next ⟨⟨.code (.exit i)::k,tm,RR f N ro ds⟩,acs,H⟩) x
 ret:∀ds x tm H,G x->κ.ret tm H=some x->∀k',Fin C E ds (.next ⟨⟨.code .ret::k',tm,RR f N ro ds⟩,acs,H⟩) x
structure zn4 where
 i:Nat
 pl:List Nat
 f:Operand
 ps:Array Nat
 id:Nat
 ops:Array Oper
 c:aC
def pM(c:aC):List zn4:=
 aC.rec (motive:=fun _=>List zn4) [] (fun _ _ _=>[]) (fun _ _ a b=>eC a b) (fun _ _ _ a b=>eC a b) (fun _ _ a=>a) (fun _ _ a=>a) (fun _=>[]) [] (fun _ _ a=>a)
  (fun i pl f ps id ops c a=>⟨i,pl,f,ps,id,ops,c⟩::a) c
section
variable {C:oA}{φ:vG}{E:z4u}{G:zA × xA->Prop}{ds:List jH}{ro:Option Nat}{f N:Nat}{acs:List fB}{R:fH}{κ:Kt}{k:List oD}{x:zA × xA}{all:Array Oper}
def sI(hR:R.mode.running=true){todo:List oD}{tm:Tm}{H:xA}:zrd C (.next ⟨⟨todo,tm,R⟩,acs,H⟩)=jL C todo tm R acs H:=by
 show(bif R.mode.running then jL C todo tm R acs H else _)=_
 rw[hR];rfl
def zxl{fr c c':fB}{H:xA}{v:zA}(hr:zid C f [] fr H v)(hf:tG c v=some c'):zrd C (.next ⟨fr,c::acs,H⟩)=.next ⟨c',acs,H⟩:=by
 obtain⟨h1,h2,h3,h4,fn,l,h5,h6,rfl⟩:=hr
 obtain⟨todo,tm,ffn,n,defers,mode,deferred,round⟩:=fr
 simp only at h1 h2 h3 h4 h6
 subst h1 h2 h3 h4
 show zcd C ⟨todo,tm,_⟩ (c::acs) H=_
 unfold zcd;rw[h5,vA,h6];simp only[cond_false];rw[hf];rfl
def zfj(hφ:bP C φ){r:uI}{H:xA}{K:zA->xA->wB}(h:vF φ r H K=some x){fr:fB}
  (hK:∀v H' c',tG fr v=some c'->K v H'=some x->Fin C E ds (.next ⟨c',acs,H'⟩) x) (hfin:∀v,∃c',tG fr v=some c'):Fin C E ds (zV r C fr acs H) x:=by
 cases r<;>simp only[vF]at h<;>try (cases h;done)
 case val v H'=>
  have h2:K v H'=some x:=h
  obtain⟨c',hc⟩:=hfin v
  show Fin C E ds (z5m v H' C fr acs H) x
  unfold z5m;rw[hc];exact hK _ _ _ hc h2
 case enter g args=>
  rw[uA]at h;obtain⟨p,h1,h4⟩:=h
  obtain⟨c',hc⟩:=hfin p.1
  show Fin C E ds (zjd g args C fr acs H) x
  unfold zjd;obtain⟨ge,he,r0⟩:=hφ.fn _ _ _ _ h1
  obtain⟨fr',r1,r2⟩:=r0 (fr::acs)
  rw[he];refine Fin.of (r1.trans (.step ?_)) (hK _ _ _ hc h4)
  rw[zxl r2 hc];exact .refl _
 case round l args=>
  rw[uA]at h;obtain⟨p,h1,h4⟩:=h
  obtain⟨c',hc⟩:=hfin p.1
  obtain⟨r,tm,e1,e2,r0⟩:=hφ.rd _ _ _ _ h1
  show Fin C E ds (zjc l args C fr acs H) x
  unfold zjc;rw[e1,vA,e2,vA];exact Fin.of (r0 _ _ _ hc) (hK _ _ _ hc h4)
def zrv(hφ:bP C φ)(hR:R.mode.running=true)(hN:R.n=N){κn:Tm->xA->wB}(hκ:∀tm H,κn tm H=some x->Fin C E ds (.next ⟨⟨k,tm,R⟩,acs,H⟩) x) :
  ∀(l:List Oper) (tm:Tm) (H:xA),qJ C φ all N κn l tm H=some x->Fin C E ds (fN C all k R acs l tm H) x:=by
 intro l;induction l with
 | nil=>exact fun tm H h=>hκ tm H h
 | cons o l ih=>
  intro tm H h;rw[gS,uA]at h;obtain⟨w,h1,h⟩:=h
  rw[xZ,h1]
  cases w with
  | false=>rw[yaa (by simp)]at h;simp only[];rw[hN];exact ih _ _ h
  | true=>
   rw[yab rfl]at h;simp only[];generalize (aE o.op).f C (.now tm) H=r at h
   cases hv:r.asVal with
   | some p=>
    have:r=.val p.1 p.2:=by cases r<;>simp[uI.asVal]at hv;rw[<- hv]
    subst this;simp only[vF,qK]at h;obtain⟨h2,h3⟩:=h
    simp only[];rw[hN];exact ih _ _ h3
   | none=>
    refine zfj hφ h (fun v H' c' hc hK=>?_) fun v=>⟨⟨.ops all l::k,putA R.n tm o.dst v,R⟩,by unfold tG;simp only[hR,cond_true];rfl⟩
    unfold tG at hc;simp only[hR,cond_true]at hc;have hc:some (⟨.ops all l::k,putA R.n tm o.dst v,R⟩:fB)=some c':=hc
    cases hc;refine .step ?_
    rw[sI hR,hN];rw[qK]at hK;exact ih _ _ hK.2
def jX{H:xA}{old:Tm}{olds:List (Nat × List Nat)}{K:Tm->wB}:∀(l:List Nat) (tm:Tm),pG C H all N old olds K l tm=some x->∃tm',oL C H all N old olds l tm=some tm'/\K tm'=some x:=by
 intro l;induction l with
 | nil=>exact fun tm h=>⟨tm,rfl,h⟩
 | cons i l ih=>
  intro tm h;rw[fX,uA]at h;obtain⟨o,h1,h⟩:=h
  rw[uA]at h;obtain⟨w,h2,h⟩:=h
  unfold oL;rw[h1,vA,h2,vA]
  cases w with
  | false=>rw[yaa (by simp)]at h;simp only[cond_false,vA];exact ih _ h
  | true=>
   rw[yab rfl,uA]at h;obtain⟨v,h3,h⟩:=h
   rw[qK]at h;obtain⟨h4,h⟩:=h
   simp only[cond_true];rw[h3,vA];exact ih _ h
def zp1{C:oA}{o:Op}{e:nC}{H:xA}{r:uI}(hf:wI o=true)(h:(aE o).f C e H=r)(h1:∀q,r≠eI q):False:=by
 have key:∀q:Option (zA × xA),eI q=r->False:=fun q e=>h1 q e.symm
 cases o<;>simp only[wI]at hf<;>first
  | (cases hf;done)
  | exact key _ h
def zg1(hφ:bP C φ)(hR:R.mode.running=true)(hN:R.n=N){κn:Tm->xA->wB}(hκ:∀tm H,κn tm H=some x->Fin C E ds (.next ⟨⟨k,tm,R⟩,acs,H⟩) x){old:Tm}{olds:List (Nat × List Nat)} :
  ∀(l:List xE) (tm:Tm) (H:xA),lG C φ all N old olds κn l tm H=some x->Fin C E ds (.next ⟨⟨.reg all old olds l::k,tm,R⟩,acs,H⟩) x:=by
 intro l;induction l with
 | nil=>
  intro tm H h;refine .step ?_
  rw[sI hR];exact hκ tm H h
 | cons st l ih=>
  intro tm H h
  cases hg:rN all st with
  | true=>
   rw[oV hg,aX]at h;obtain⟨h0,es,H',h1,h2,h3⟩:=h
   obtain⟨tm',hl1,hl2⟩:=jX _ _ h3
   refine .step ?_
   rw[sI hR];show Fin C E ds (zqr all old olds (st::l) C k tm R acs H) x
   unfold zqr;have hg0:=dB.1 hg
   rw[gC]at hg0;have hnone:lC all.toList st.heavy=none:=by
    rw[oF];exact List.getElem?_eq_none (by omega)
   simp only[hnone];rw[iB,yab (dB.2 (by rw[gC];omega)),iB,yab (show Nat.blt (aA all.toList+aA all.toList) st.heavy=true from hg)]
   unfold zoa;rw[h0,show ∀(x:Option zM),jA true x=x from fun _=>rfl,h1,vA,h2,vA,hN,hl1,vA]
   exact ih _ _ hl2
  | false=>
  rw[bT hg,uA]at h;obtain⟨o,h1,h⟩:=h
  rw[uA]at h;obtain⟨w,h2',h⟩:=h
  have hgn:Nat.blt (aA all.toList+aA all.toList) st.heavy=false:=hg
  by_cases hfl:Nat.blt (aA all.toList) st.heavy=true
  ·-- an operation that is done early
   unfold iN at h2';unfold hvI at h1 h;rw[hfl]at h1 h2' h
   simp only[cond_true,uA,zB,ybb]at h1 h2'
   obtain⟨w',h2,⟨⟨hw,hfo⟩,hlo⟩,h2'⟩:=h2'
   cases h2'
   subst hw;simp only[if_true,cond_true]at h;have hval:∃v H',(aE o.op).f C (.mixed tm old (kD (Nat.sub st.heavy (Nat.succ (aA all.toList))) olds) (iF o.op)) H=.val v H':=by
    cases hr:(aE o.op).f C (.mixed tm old (kD (Nat.sub st.heavy (Nat.succ (aA all.toList))) olds) (iF o.op)) H with
    | val v H'=>exact⟨v,H',rfl⟩
    | enter g args=>exact(zp1 hfo hr fun q=>by cases q<;>simp[eI]).elim
    | round g args=>exact(zp1 hfo hr fun q=>by cases q<;>simp[eI]).elim
    | _=>rw[hr]at h;cases h
   obtain⟨v,H',hv⟩:=hval
   rw[hv]at h;have h:(qI C o.type v fun v=>iI C H' all old olds (putA N tm o.dst v) (pG C H' all N old olds (fun tm=>lG C φ all N old olds κn l tm H') st.lights (putA N tm o.dst v)) st.again)=some x:=h
   rw[qK]at h;obtain⟨ha,hl⟩:=iW _ h.2
   obtain⟨tm',hl1,hl2⟩:=jX _ _ hl
   refine .step ?_
   rw[sI hR];show Fin C E ds (zqr all old olds (st::l) C k tm R acs H) x
   unfold zqr;have hnone:lC all.toList st.heavy=none:=by
    rw[oF];have:=dB.1 hfl
    rw[gC]at this;exact List.getElem?_eq_none (by omega)
   simp only[hnone];rw[hfl,cond_true,hgn,cond_false];unfold zob;rw[h1,vA,h2,vA,hv,hlo];show Fin C E ds (pI (ob (oL C H' all R.n old olds st.lights (putA R.n tm o.dst v)) fun tm'=>some ⟨⟨.reg all old olds l::k,tm',R⟩,acs,H'⟩) 23) x
   rw[hN,hl1,vA];exact ih _ _ hl2
  have hfl:Nat.blt (aA all.toList) st.heavy=false:=Bool.eq_false_iff.2 hfl
  unfold iN at h2';unfold hvI at h1 h;rw[hfl]at h1 h2' h
  simp only[cond_false,uA]at h1 h2'
  obtain⟨w',h2,h2'⟩:=h2'
  cases h2'
  simp only[cond_false]at h;have back0:∀v H' c',tG (⟨.reg all old olds (st::l)::k,tm,R⟩:fB) v=some c' →
    iI C H' all old olds (putA N tm o.dst v) (pG C H' all N old olds (fun tm=>lG C φ all N old olds κn l tm H') st.lights (putA N tm o.dst v)) st.again=some x->Fin C E ds (.next ⟨c',acs,H'⟩) x:=by
   intro v H' c' hc hK;unfold tG at hc;simp only[hR,cond_true]at hc;have hc:(ob (lC all.toList st.heavy) fun o=>some (⟨.reg all old olds (⟨all.size,st.lights,st.again⟩::l)::k,putA R.n tm o.dst v,R⟩:fB))=some c':=hc
   rw[h1,vA]at hc
   cases hc;refine .step ?_
   rw[sI hR,hN];obtain⟨ha,hl⟩:=iW _ hK
   obtain⟨tm',hl1,hl2⟩:=jX _ _ hl
   show Fin C E ds (zqr all old olds (⟨all.size,st.lights,st.again⟩::l) C k (putA N tm o.dst v) R acs H') x
   unfold zqr;have:lC all.toList all.size=none:=by rw[oF];simp
   simp only[this];rw[iB,yaa fun e=>by have:=dB.1 e;rw[gC]at this;simp at this]
   show Fin C E ds (zb4 all old olds ⟨all.size,st.lights,st.again⟩ l C k (putA N tm o.dst v) R acs H') x
   unfold zb4;simp only[ha,hN,hl1,vA];exact ih _ _ hl2
  have back:∀v H' c',tG (⟨.reg all old olds (st::l)::k,tm,R⟩:fB) v=some c' →
    (qI C o.type v fun v=>iI C H' all old olds (putA N tm o.dst v) (pG C H' all N old olds (fun tm=>lG C φ all N old olds κn l tm H') st.lights (putA N tm o.dst v)) st.again)=some x->Fin C E ds (.next ⟨c',acs,H'⟩) x:=by
   intro v H' c' hc hK;rw[qK]at hK;exact back0 v H' c' hc hK.2
  refine .step ?_
  rw[sI hR];show Fin C E ds (zqr all old olds (st::l) C k tm R acs H) x
  unfold zqr;simp only[h1];unfold zn9;rw[h2];simp only[];have hfin:∀v,∃c',tG (⟨.reg all old olds (st::l)::k,tm,R⟩:fB) v=some c':=fun v=>⟨⟨.reg all old olds (⟨all.size,st.lights,st.again⟩::l)::k,putA R.n tm o.dst v,R⟩,by
   unfold tG;simp only[hR,cond_true];show(ob (lC all.toList st.heavy) fun o=>some (⟨.reg all old olds (⟨all.size,st.lights,st.again⟩::l)::k,putA R.n tm o.dst v,R⟩:fB))=_
   rw[h1];rfl⟩
  cases w with
  | true=>
   simp only[if_true]at h;exact zfj hφ h back hfin
  | false=>
   simp only[ybq,if_false]at h;obtain⟨c',hc⟩:=hfin tD
   show Fin C E ds (z5m tD H C _ acs H) x
   unfold z5m;rw[hc];exact back0 _ _ _ hc h
def z1l{live:List Nat}{tm:Tm}{i:Nat}{v:zA}(h:(keep live tm).get i=some v):tm.get i=some v:=by
 unfold keep Tm.get at h;simp only[bG]at h;split at h
 case isFalse=>cases h
 rename_i hk;have key:∀live:List Nat,(zj5 tm live).get i=some v->tm.get i=some v:=by
  intro live;induction live with
  | nil=>intro h;rw[show zj5 tm []=.leaf from rfl,Tr.get_leaf]at h;cases h
  | cons j live ih=>
   intro h;have h:(match tm.get j with | some v=>(zj5 tm live).set j v | none=>zj5 tm live:Tr zA).get i=some v:=h
   cases hj:tm.get j with
   | none=>rw[hj]at h;exact ih h
   | some u=>
    rw[hj]at h;simp only[]at h;rw[Tr.get_set]at h;split at h
    ·rename_i e;rw[e,hj];exact h
    ·exact ih h
 exact key live h
def zf5{todo:List oD}(hr:z1m todo=false){live:List Nat}{tm:Tm}{H:xA}(h:Fin C E ds (.next ⟨⟨todo,keep live tm,R⟩,acs,H⟩) x):Fin C E ds (.next ⟨⟨todo,tm,R⟩,acs,H⟩) x:=
 Fin.of (.forget hr (fun _ _=>z1l) (.refl _)) h
def zdz(hE:ztb C E G f N ro acs){t1 t2:List oD}(h1:z1m t1=false)(hs:∀tm H,jL C t1 tm (RR f N ro ds) acs H=jL C t2 tm (RR f N ro ds) acs H){tm:Tm}{H:xA}(h:Fin C E ds (.next ⟨⟨t2,tm,RR f N ro ds⟩,acs,H⟩) x):Fin C E ds (.next ⟨⟨t1,tm,RR f N ro ds⟩,acs,H⟩) x:=by
 obtain⟨o',hr,hv⟩:=h
 refine⟨o',?_,hv⟩
 generalize ho:(.next ⟨⟨t2,tm,RR f N ro ds⟩,acs,H⟩:qE)=o at hr
 induction hr generalizing tm with
 | refl=>
  subst ho;exact(hE.not _ _ _ _ _ hv).elim
 | step h ih=>
  subst ho;refine .step ?_
  rw[sI rfl,hs,<- sI rfl];exact h
 | forget hr2 hs2 h ih=>
  cases ho;exact .forget h1 hs2 (ih hv rfl)
def zr3{i:Nat}{t1 t2:List oD}{tm:Tm}{H:xA}:lM (some (.exit i)) C ⟨t1,tm,R⟩ acs H=lM (some (.exit i)) C ⟨t2,tm,R⟩ acs H:=by
 obtain⟨a,b,c,d,e,ro⟩:=R
 unfold lM
 cases ro<;>rfl
def zd1(hE:ztb C E G f N ro acs){i:Nat}{y:oD}(hy:∀j,y.blockId=some j->Nat.beq j i=false){tm:Tm}{H:xA}(h:Fin C E ds (.next ⟨⟨.code (.exit i)::k,tm,RR f N ro ds⟩,acs,H⟩) x):Fin C E ds (.next ⟨⟨.code (.exit i)::y::k,tm,RR f N ro ds⟩,acs,H⟩) x:=by
 refine zdz hE rfl (fun tm H=>?_) h
 show zif i C (y::k) tm (RR f N ro ds) acs H=zif i C k tm (RR f N ro ds) acs H
 have e:bJ i (y::k)=bJ i k:=by
  show(match y.blockId with | some j=>bif Nat.beq j i then some k else bJ i k | none=>bJ i k)=_
  cases hb:y.blockId with
  | none=>rfl
  | some j=>simp only[hy j hb,cond_false]
 unfold zif;rw[e]
 cases bJ i k with
 | some k'=>rfl
 | none=>exact zr3
def zjb(hφ:bP C φ)(hE:ztb C E G f N none acs){κ:Kt}(hκ:zqn C E G f N none acs κ k){fo:Operand}{ps:Array Nat}{a b:Code}{tm:Tm}{H:xA}(h:sL C φ f N κ fo ps.toList a b tm H=some x):Fin C E ds (.next ⟨⟨.code (.rangeFunc fo ps a b)::k,tm,RR f N none ds⟩,acs,H⟩) x:=by
 unfold sL at h;rw[uA]at h;obtain⟨v,h1,h⟩:=h
 rw[uA]at h;obtain⟨⟨qf,q1,q2⟩,h2,h⟩:=h
 cases qf with
 | yld l=>cases h
 | func g=>
  simp only[zB,uA]at h;obtain⟨h3,y,h4,r,h5,h6,z,h7,d,h8,h9,h10⟩:=h
  have hp:C.prims.get g=none:=by
   cases hx:C.prims.get g with
   | none=>rfl
   | some u=>rw[hx]at h3;cases h3
  obtain⟨ge,he,r0⟩:=hφ.fn _ _ _ _ h4
  obtain⟨fr',r1,r2⟩:=r0 (⟨.inRange (H.next+1)::k,tm,RR f N none (⟨none,H.next,[]⟩::ds)⟩::acs)
  refine .step ?_
  rw[sI rfl];show Fin C E ds (zie fo ps a b C k tm (RR f N none ds) acs H) x
  have hin:rQ C (H.next+1) v=some ge:=by
   unfold rQ;rw[h2,vA];simp only[hp];exact he
  unfold zie;rw[h1,vA];simp only[hin,vA];refine Fin.of (r1.trans (.step ?_)) (?_:Fin C E ds (.next ⟨⟨.endRange (H.next+1)::k,tm,RR f N none (⟨none,H.next,[]⟩::ds)⟩,acs,y.2⟩) x)
  ·rw[zxl r2 (c':=⟨.endRange (H.next+1)::k,tm,RR f N none (⟨none,H.next,[]⟩::ds)⟩) rfl]
   exact .refl _
  refine .step ?_
  rw[sI rfl];show Fin C E ds (vV (H.next+1) C k tm (RR f N none (⟨none,H.next,[]⟩::ds)) acs y.2) x
  unfold vV;rw[h5,vA,h6];have key:Fin C E (⟨none,H.next,[]⟩::ds) (.next ⟨⟨(match r.pending with | some c=>.code c::k | none=>k),tm,RR f N none (⟨none,H.next,[]⟩::ds)⟩,acs,endLoop y.2 (H.next+1) r⟩) z:=by
   unfold bQ at h7;split at h7
   ·rename_i e;rw[e];exact hκ.norm _ _ _ _ (hE.all rfl _) h7
   ·rename_i e;rw[e];exact hκ.ret _ _ _ _ (hE.all rfl _) h7 k
   ·cases h7
  obtain⟨o',k1,k2⟩:=key
  have hd:iP z.2 H.next=some (some []):=by
   rw[h8]
   cases d with
   | none=>cases h9
   | some l=>cases l with | nil=>rfl | cons _ _=>cases h9
  obtain⟨o'',k3,k4⟩:=hE.pop rfl _ _ _ _ k2 hd
  cases h10;exact⟨o'',k1.trans k3,k4⟩
def rX{α:Type}{a b:List α}(h:eC a b=[]):a=[]/\b=[]:=by rw[oG]at h;exact List.append_eq_nil_iff.1 h
def zkk(hφ:bP C φ)(hE:ztb C E G f N ro acs):∀(c:aC) (κ:Kt) (k:List oD),(ro=none\/pM c=[])->zqn C E G f N ro acs κ k->∀ds x tm H,G x->bC C φ f N c κ tm H=some x->Fin C E ds (.next ⟨⟨.code (cE c)::k,tm,RR f N ro ds⟩,acs,H⟩) x:=by
 intro c;induction c with
 | skip=>
  intro κ k _ hκ ds x tm H hG h;refine .step ?_
  rw[sI rfl];exact hκ.norm _ _ _ _ hG h
 | region id ops d=>
  intro κ k _ hκ ds x tm H hG h;refine .step ?_
  rw[sI rfl]
  cases d with
  | false=>exact zrv hφ rfl rfl (fun tm H h=>hκ.norm _ _ _ _ hG h) _ _ _ h
  | true=>
   have h:(ob (ob (C.plans.get f) fun t=>t.get id) fun p=>jA (vN ops p) (pG C H ops N tm.cut p.olds (fun tm'=>lG C φ ops N tm.cut p.olds κ.norm p.stages tm' H) p.first tm.cut))=some x:=h
   rw[uA]at h;obtain⟨p,h1,h⟩:=h
   rw[zB]at h;obtain⟨tm',hl1,hl2⟩:=jX _ _ h.2
   show Fin C E ds (ztj id ops C k tm (RR f N ro ds) acs H) x
   unfold ztj;rw[h1,vA,h.1,hl1];exact zg1 hφ rfl rfl (fun tm H h=>hκ.norm _ _ _ _ hG h) _ _ _ hl2
 | seq a b iha ihb=>
  intro κ k hn hκ ds x tm H hG h;have hna:ro=none\/pM a=[]:=hn.imp id fun e=>(rX e).1
  have hnb:ro=none\/pM b=[]:=hn.imp id fun e=>(rX e).2
  refine zdz hE (t1:=.code (cE (.seq a b))::k) rfl (t2:=.code (cE a)::.code (cE b)::k) (fun _ _=>rfl) ?_
  exact iha ⟨bC C φ f N b κ,κ.exit,κ.ret⟩ _ hna ⟨fun ds x tm H hG h=>ihb _ _ hnb hκ ds x tm H hG h,fun ds x i tm H hG h=>zd1 hE (fun _ e=>by cases e) (hκ.exit _ _ _ _ _ hG h),hκ.ret⟩ ds x tm H hG h
 | cond c a b iha ihb=>
  intro κ k hn hκ ds x tm H hG h;have hna:ro=none\/pM a=[]:=hn.imp id fun e=>(rX e).1
  have hnb:ro=none\/pM b=[]:=hn.imp id fun e=>(rX e).2
  have h:(ob (ob (ev c (.now tm)) zA.asBool) fun t=>Bool.rec (motive:=fun _=>wB) (bC C φ f N b κ tm H) (bC C φ f N a κ tm H) t)=some x:=h
  rw[uA]at h;obtain⟨t,h1,h⟩:=h
  refine .step ?_
  rw[sI rfl];show Fin C E ds (ztk c (cE a) (cE b) C k tm (RR f N ro ds) acs H) x
  unfold ztk;rw[h1]
  cases t with
  | true=>exact iha _ _ hna hκ _ _ _ _ hG h
  | false=>exact ihb _ _ hnb hκ _ _ _ _ hG h
 | block id c ih=>
  intro κ k hn hκ ds x tm H hG h;refine .step ?_
  rw[sI rfl];have nx:∀ds x tm H,G x->κ.norm tm H=some x->Fin C E ds (.next ⟨⟨.inBlock id::k,tm,RR f N ro ds⟩,acs,H⟩) x:=by
   intro ds x tm H hG h;refine .step ?_
   rw[sI rfl];exact hκ.norm _ _ _ _ hG h
  refine ih ⟨κ.norm,fun i tm H=>Bool.rec (motive:=fun _=>wB) (κ.exit i tm H) (κ.norm tm H) (Nat.beq id i),κ.ret⟩ _ hn ⟨nx,fun ds x i tm H hG h=>?_,hκ.ret⟩ ds x tm H hG h
  dsimp only at h
  cases hb:Nat.beq id i with
  | true=>
   rw[hb]at h;refine .step ?_
   rw[sI rfl];show Fin C E ds (zif i C (.inBlock id::k) tm (RR f N ro ds) acs H) x
   have e:bJ i (.inBlock id::k)=some k:=by
    show(bif Nat.beq id i then some k else bJ i k)=_
    rw[hb];rfl
   unfold zif;rw[e];exact hκ.norm _ _ _ _ hG h
  | false=>
   rw[hb]at h;exact zd1 hE (fun j e=>by cases e;exact hb) (hκ.exit _ _ _ _ _ hG h)
 | loop live c ih=>
  intro κ k hn hκ ds x tm H hG h;obtain⟨m,hm⟩:=zwi h
  have it:∀(m:Nat) ds x tm H,G x->(Nat.rec (motive:=fun _=>Tm->xA->wB) (fun _ _=>none) (fun _ r tm H=>bC C φ f N c ⟨r,κ.exit,κ.ret⟩ (keep live.kept tm) H) m:Tm->xA->wB) tm H=some x->Fin C E ds (.next ⟨⟨.inLoop (cE c)::k,tm,RR f N ro ds⟩,acs,H⟩) x:=by
   intro m;induction m with
   | zero=>intro ds x tm H _ h;cases h
   | succ m ihm=>
    intro ds x tm H hG h;refine zf5 (live:=live.kept) rfl (.step ?_)
    rw[sI rfl];exact ih ⟨_,κ.exit,κ.ret⟩ _ hn ⟨ihm,fun ds x i tm H hG h=>zd1 hE (fun _ e=>by cases e) (hκ.exit _ _ _ _ _ hG h),hκ.ret⟩ _ _ _ _ hG h
  exact zdz hE (t1:=.code (cE (.loop live c))::k) rfl (t2:=.inLoop (cE c)::k) (fun _ _=>rfl) (it m _ _ tm H hG hm)
 | exit id=>exact fun κ k _ hκ ds x tm H hG h=>hκ.exit _ _ _ _ _ hG h
 | ret=>exact fun κ k _ hκ ds x tm H hG h=>hκ.ret _ _ _ _ hG h k
 | cut live c ih=>exact fun κ k hn hκ ds x tm H hG h=>zf5 rfl (ih κ k hn hκ _ _ _ _ hG h)
 | range i pl fo ps id ops c ih=>
  intro κ k hn hκ ds x tm H hG h;rcases hn with rfl | e
  ·exact zjb hφ hE hκ h
  ·cases e
end
end
section
def endK (C:oA)(fn:Func)(tm:Tm)(H:xA):wB:=ob (sQ C H tm fn.results.toList) fun l=>some (lS l,H)
def zzk (C:oA)(fn:Func):Kt:=⟨endK C fn,fun _ _ _=>none,endK C fn⟩
def fV(ops:List Oper):Bool:=tC (fun o=>match o.op with | .move _=>gG o.guard | .assign _=>gG o.guard | _=>false) ops
def dV(c:aC):Option zn4:=match pM c with | [q]=>some q | _=>none
def rdOk (r:wL)(q:zn4):Prop:=r.assign=.region q.id q.ops false/\r.body=cE q.c/\r.params=q.ps.toList/\LoopState.tag r.state=0/\fV q.ops.toList=true/\pM q.c=[]
def znu(r:wL):wL:=⟨.busy,r.pending,r.fn,r.n,r.tm,r.params,r.assign,r.body,r.defers⟩
def zhj(b:Bool)(r:wL):wL:=⟨if b then .ready else .done,if b then none else some .ret,r.fn,r.n,r.tm,r.params,r.assign,r.body,r.defers⟩
def rdK:Kt:=⟨fun _ H=>some (.bool true,H),fun _ _ _=>none,fun _ H=>some (.bool false,H)⟩
def z2r(C:oA)(φ:vG)(fn n:Nat)(q:zn4)(tm:Tm)(H:xA):wB:=bC C φ fn n (.seq (.region q.id q.ops false) q.c) rdK tm H
def zcw(C:oA)(A:Tr aC)(φ:vG)(l:Nat)(args:List zA)(H:xA):wB:=
 ob (dH H l) fun r=>ob (uQ r.n r.params args r.tm) fun tm=>ob (A.get r.fn) fun c=>ob (dV c) fun q=>@ite _ (rdOk r q) (Classical.propDecidable _)
  (ob (z2r C φ r.fn r.n q tm (setBlk H l (.loop (znu r)))) fun x=>ob (dH x.2 l) fun r2=>ob x.1.asBool fun b=>some (.bool b,setBlk x.2 l (.loop (zhj b r2)))) none
def zti (C:oA)(A:Tr aC)(φ:vG)(f:Nat)(args:List zA)(H:xA):wB:=
 ob (A.get f) fun c=>ob (C.fns.get f) fun fn=>ob (bI C f args false) fun g=>bC C φ f fn.ntmps c (zzk C fn) g.tm H
def zl0(C:oA)(A:Tr aC)(φ:vG):vG
 | .func f=>zti C A φ f
 | .yld l=>zcw C A φ l
def z3x (C:oA)(A:Tr aC):Nat->vG
 | 0=>fun _ _ _=>none
 | n+1=>zl0 C A (z3x C A n)
def dC (C:oA)(A:Tr aC):vG:=fun f args H=>lim fun n=>z3x C A n f args H
section
variable {C:oA}{A:Tr aC}
def yU{φ:vG}{l:Nat}{args:List zA}{H:xA}{x:zA × xA}:zcw C A φ l args H=some x ↔ ∃r tm c q y r2 b,dH H l=some r/\uQ r.n r.params args r.tm=some tm/\A.get r.fn=some c/\dV c=some q/\rdOk r q/\z2r C φ r.fn r.n q tm (setBlk H l (.loop (znu r)))=some y/\dH y.2 l=some r2/\y.1=.bool b/\x=(.bool b,setBlk y.2 l (.loop (zhj b r2))):=by
 unfold zcw;simp only[uA];constructor
 ·rintro⟨r,h1,tm,h2,c,h3,q,h4,h⟩
  by_cases hq:rdOk r q
  ·rw[yab hq]at h
   simp only[uA]at h;obtain⟨y,h5,r2,h6,b,h7,h8⟩:=h
   exact⟨r,tm,c,q,y,r2,b,h1,h2,h3,h4,hq,h5,h6,eQ.1 h7,by cases h8;rfl⟩
  ·rw[yaa hq]at h;cases h
 ·rintro⟨r,tm,c,q,y,r2,b,h1,h2,h3,h4,hq,h5,h6,h7,h8⟩
  refine⟨r,h1,tm,h2,c,h3,q,h4,?_⟩
  rw[yab hq];simp only[uA];exact⟨y,h5,r2,h6,b,eQ.2 h7,by rw[h8]⟩
def ze8{φ φ':vG}(h:OLe φ φ'):OLe (zl0 C A φ) (zl0 C A φ'):=by
 intro f args H x hx
 cases f with
 | yld l=>
  have hx:zcw C A φ l args H=some x:=hx
  obtain⟨r,tm,c,q,y,r2,b,h1,h2,h3,h4,hq,h5,h6,h7,h8⟩:=yU.1 hx
  exact yU.2 ⟨r,tm,c,q,y,r2,b,h1,h2,h3,h4,hq,vT h _ _ _ (KLe.refl _) _ _ _ h5,h6,h7,h8⟩
 | func f=>
 have hx:zti C A φ f args H=some x:=hx
 show zti C A φ' f args H=some x
 unfold zti at hx ⊢
 rw[uA]at hx ⊢
 obtain⟨c,h1,hx⟩:=hx
 refine⟨c,h1,?_⟩
 rw[uA]at hx ⊢
 obtain⟨fn,h2,hx⟩:=hx
 refine⟨fn,h2,?_⟩
 rw[uA]at hx ⊢
 obtain⟨g,h3,hx⟩:=hx
 exact⟨g,h3,vT h c _ _ (KLe.refl _) _ _ _ hx⟩
def zv6:∀n,OLe (z3x C A n) (z3x C A (n+1)):=by
 intro n;induction n with
 | zero=>intro f args H x h;cases h
 | succ n ih=>exact ze8 ih
def zT{f:AFn}{args:List zA}{H:xA}{x:zA × xA}:dC C A f args H=some x ↔ ∃n,z3x C A n f args H=some x:=
 zbs fun n _ hy=>zv6 n _ _ _ _ hy
def zxx:z26 (z3x C A) (dC C A):=⟨zv6,fun _ _ _ _ h=>zT.1 h⟩
def z4m(f:AFn)(args:List zA)(H:xA):dC C A f args H=zl0 C A (dC C A) f args H:=by
 have key:∀x,dC C A f args H=some x ↔ zl0 C A (dC C A) f args H=some x:=by
  intro x;constructor
  ·intro h
   obtain⟨n,hn⟩:=zT.1 h
   cases n with
   | zero=>cases hn
   | succ n=>exact ze8 (fun f a H y hy=>zT.2 ⟨n,hy⟩) _ _ _ _ hn
  ·intro h
   cases f with
   | yld l=>
    have h:zcw C A (dC C A) l args H=some x:=h
    obtain⟨r,tm,c,q,y,r2,b,h1,h2,h3,h4,hq,h5,h6,h7,h8⟩:=yU.1 h
    have sup:z7i (fun _=>rdK) rdK:=⟨⟨fun _ _ _ _ h=>h,fun _ _ _ h=>⟨0,h⟩⟩,fun i=>⟨fun _ _ _ _ h=>h,fun _ _ _ h=>⟨0,h⟩⟩,⟨fun _ _ _ _ h=>h,fun _ _ _ h=>⟨0,h⟩⟩⟩
    obtain⟨n,hn⟩:=(znl zxx _ _ _ sup).ex _ _ _ h5
    exact zT.2 ⟨n+1,yU.2 ⟨r,tm,c,q,y,r2,b,h1,h2,h3,h4,hq,hn,h6,h7,h8⟩⟩
   | func f=>
   have h:zti C A (dC C A) f args H=some x:=h
   unfold zti at h;rw[uA]at h;obtain⟨c,h1,h⟩:=h
   rw[uA]at h;obtain⟨fn,h2,h⟩:=h
   rw[uA]at h;obtain⟨g,h3,h⟩:=h
   have sup:z7i (fun _=>zzk C fn) (zzk C fn):=⟨⟨fun _ _ _ _ h=>h,fun _ _ _ h=>⟨0,h⟩⟩,fun i=>⟨fun _ _ _ _ h=>h,fun _ _ _ h=>⟨0,h⟩⟩,⟨fun _ _ _ _ h=>h,fun _ _ _ h=>⟨0,h⟩⟩⟩
   obtain⟨n,hn⟩:=(znl zxx c _ _ sup).ex _ _ _ h
   refine zT.2 ⟨n+1,?_⟩
   show zti C A (z3x C A n) f args H=some x
   unfold zti;rw[h1,vA,h2,vA,h3,vA];exact hn
 cases h:dC C A f args H with
 | some x=>exact((key x).1 h).symm
 | none=>
  cases h2:zl0 C A (dC C A) f args H with
  | none=>rfl
  | some x=>rw[(key x).2 h2]at h;cases h
def gT(C:oA)(A:Tr aC):Prop:=∀f c,A.get f=some c->∃fn,C.fns.get f=some fn/\fn.body=some (cE c)
def znf{f:Nat}{args:List zA}{g:fB}(h:bI C f args false=some g):∃fn c,C.fns.get f=some fn/\fn.body=some c/\g.todo=[.code c]/\g.R=⟨f,fn.ntmps,[],.run,false,none⟩:=by
 unfold bI at h;simp only[uA,zB]at h;obtain⟨fn,h1,c,h2,k,h3,_,h⟩:=h
 cases h;exact⟨fn,c,h1,h2,rfl,rfl⟩
def lX{α β:Type}{f g:α->Option β}:∀(l:List α) {r:List β},(∀a b,f a=some b->g a=some b)->tF f l=some r->tF g l=some r:=by
 intro l;induction l with
 | nil=>intro r _ h;exact h
 | cons a l ih=>
  intro r hfg h;rw[pK,uA]at h ⊢
  obtain⟨b,h1,h⟩:=h
  refine⟨b,hfg _ _ h1,?_⟩
  rw[uA]at h ⊢
  obtain⟨s,h2,h⟩:=h
  exact⟨s,ih hfg h2,h⟩
def z7k(C:oA)(f:Nat)(acs:List fB):z4u:=fun ds o x=>∃fr',o=.next ⟨fr',acs,x.2⟩/\zid C f ds fr' x.2 x.1
def zl6{H:xA}{tm:Tm}{r:Nat}{d e:Option (List jH)}(hr:H.t.get r=some (.deferred d)):∀(l:List ResultVar) vs,sQ C H tm l=some vs->sQ C (setBlk H r (.deferred e)) tm l=some vs:=by
 intro l vs h;refine lX l (fun rv v h=>?_) h
 cases rv with
 | tmp t=>exact h
 | cell a t=>
  have h:(ob (ob (tm.get a) zA.asPtr) fun p=>ob (C.tys.get t) fun ty=>ob (fC H p.1) fun c=>mM ty c.1 p.2)=some v:=h
  show(ob (ob (tm.get a) zA.asPtr) fun p=>ob (C.tys.get t) fun ty=>ob (fC (setBlk H r (.deferred e)) p.1) fun c=>mM ty c.1 p.2)=some v
  simp only[uA]at h ⊢
  obtain⟨p,hp,ty,ht,c,hc,hv⟩:=h
  refine⟨p,hp,ty,ht,c,?_,hv⟩
  unfold fC at hc ⊢
  rw[uA]at hc ⊢
  obtain⟨y,h1,h2⟩:=hc
  refine⟨y,?_,h2⟩
  show(H.t.set r (.deferred e)).get p.1=some y
  rw[Tr.get_set,yaa fun e=>by rw[e,hr]at h1;cases h1;cases h2]
  exact h1
def z13{f N:Nat}{acs:List fB}:ztb C (z7k C f acs) (fun _=>True) f N none acs:=by
 refine⟨?_,fun _ _=>trivial,?_⟩
 ·rintro ds todo tm H x ⟨fr',h1,h2⟩
  cases h1;have:=h2.1
  cases this
 ·rintro _ r ds o x ⟨fr',rfl,h1,h2,h3,h4,fn,l,h5,h6,h7⟩ hd
  obtain⟨todo,tm,ffn,n,defers,mode,deferred,round⟩:=fr'
  simp only at h1 h2 h3 h4 h6
  subst h1 h2 h3 h4
  have hr:x.2.t.get r=some (.deferred (some [])):=by
   unfold iP at hd;rw[zB,uA]at hd;obtain⟨_,y,e1,e2⟩:=hd
   cases y<;>cases e2
   exact e1
  refine⟨_,.step ?_,⟨⟨todo,tm,⟨ffn,n,ds,.returning,false,round⟩⟩,rfl,rfl,rfl,rfl,rfl,fn,l,h5,zl6 hr _ _ h6,h7⟩⟩
  show xJ C (ziu C ⟨none,r,[]⟩ ds ⟨todo,tm,⟨ffn,n,⟨none,r,[]⟩::ds,.returning,false,round⟩⟩ acs x.2) _
  unfold ziu;simp only[hd,vA];exact .refl _
def zp9{f:Nat}{fn:Func}{acs:List fB}{x:zA × xA}{ds:List jH}(hf:C.fns.get f=some fn){tm:Tm}{H:xA}(h:endK C fn tm H=some x){todo:List oD}{N:Nat}
  (hs:jL C todo tm (RR f N none ds) acs H=.next ⟨zcs ⟨todo,tm,RR f N none ds⟩ .returning,acs,H⟩):Fin C (z7k C f acs) ds (.next ⟨⟨todo,tm,RR f N none ds⟩,acs,H⟩) x:=by
 unfold endK at h;rw[uA]at h;obtain⟨l,h1,h2⟩:=h
 cases h2;refine .step ?_
 rw[sI rfl,hs];exact⟨_,.refl _,_,rfl,rfl,rfl,rfl,rfl,fn,l,hf,h1,rfl⟩
def RdG (l:Nat)(c:fB):zA × xA->Prop:=fun x=>∃b r2 c',x.1=.bool b/\dH x.2 l=some r2/\tG c (.bool b)=some c'
def RdEnd(l:Nat)(c:fB)(acs:List fB):z4u:=fun _ o x=>∃b r2 c',x.1=.bool b/\dH x.2 l=some r2/\tG c (.bool b)=some c'/\o=.next ⟨c',acs,setBlk x.2 l (.loop (zhj b r2))⟩
def len_ne{α:Type}{a:α}{l:List α}:l≠a::l:=fun e=>by have:=congrArg List.length e;simp at this
def zs2{C:oA}{φ:vG}{all:Array Oper}{n:Nat}{κn:Tm->xA->wB}:∀(l:List Oper) (tm:Tm) (H1:xA) (x:zA × xA),fV l=true->qJ C φ all n κn l tm H1=some x->∃tm',κn tm' H1=some x/\∀(k:List oD) (R:fH) (cs:List fB) (H:xA),R.n=n->fN C all k R cs l tm H=xGo k tm' R cs H:=by
 intro l;induction l with
 | nil=>intro tm H1 x _ h;exact⟨tm,h,fun _ _ _ _ _=>rfl⟩
 | cons o l ih=>
  intro tm H1 x hp h;have hp:(bif (match o.op with | .move _=>gG o.guard | .assign _=>gG o.guard | _=>false)then fV l else false)=true:=hp
  have hp1:(match o.op with | .move _=>gG o.guard | .assign _=>gG o.guard | _=>false)=true:=by
   cases hx:(match o.op with | .move _=>gG o.guard | .assign _=>gG o.guard | _=>false)with
   | true=>rfl
   | false=>rw[hx]at hp;cases hp
  rw[hp1]at hp;have hp:fV l=true:=hp
  have hmv:∃u,(∀H,(aE o.op).f C (.now tm) H=lv (wO u) C (.now tm) H)/\gG o.guard=true:=by
   cases ho:o.op<;>rw[ho]at hp1<;>first
    | (cases hp1;done)
    | exact⟨_,fun _=>rfl,hp1⟩
  obtain⟨u,hu,hg⟩:=hmv
  have hw:jE o.guard all tm=some true:=by
   cases hx:o.guard with
   | none=>rfl
   | some g=>rw[hx]at hg;cases hg
  rw[gS,hw,vA,yab rfl,hu]at h
  cases hv:ev u (.now tm)with
  | none=>
   have:lv (wO u) C (.now tm) H1=.fail:=by unfold lv wO;rw[hv]
   rw[this]at h;cases h
  | some v=>
   have hval:∀H,lv (wO u) C (.now tm) H=.val v H:=fun H=>by unfold lv wO;rw[hv]
   rw[hval]at h;simp only[vF,qK]at h;obtain⟨tm',h1,h2⟩:=ih _ _ _ hp h.2
   refine⟨tm',h1,fun k R cs H hR=>?_⟩
   rw[xZ,hw];simp only[];rw[hu,hval];simp only[uI.asVal];rw[hR];exact h2 k R cs H hR
def zi8{φ:vG}(hφ:bP C φ){l:Nat}{args:List zA}{H:xA}{x:zA × xA}(h:zcw C A φ l args H=some x) :
  ∃r tm,dH H l=some r/\uQ r.n r.params args r.tm=some tm/\∀c acs c',tG c x.1=some c'->xJ C (.next ⟨zl5 r l tm,c::acs,H⟩) (.next ⟨c',acs,x.2⟩):=by
 obtain⟨r,tm,cc,q,y,r2,b,h1,h2,h3,h4,⟨q1,q2,q3,q4,q5,q6⟩,h5,h6,h7,rfl⟩:=yU.1 h
 refine⟨r,tm,h1,h2,fun c acs c' hc=>?_⟩
 have h5:qJ C φ q.ops r.n (bC C φ r.fn r.n q.c rdK) q.ops.toList tm.cut (setBlk H l (.loop (znu r)))=some y:=h5
 obtain⟨tm',h8,h9⟩:=zs2 _ _ _ _ q5 h5
 unfold zl5;rw[q1,q2];refine .step ?_
 rw[sI rfl];show xJ C (fN C q.ops _ _ _ q.ops.toList tm.cut H) _
 rw[h9 _ _ _ _ rfl];refine .step ?_
 show xJ C (jL C (.beginRound::[.code (cE q.c)]) tm' ⟨r.fn,r.n,[],.run,false,some l⟩ (c::acs) H) _
 have hb:jL C (.beginRound::[.code (cE q.c)]) tm' ⟨r.fn,r.n,[],.run,false,some l⟩ (c::acs) H=.next ⟨⟨[.code (cE q.c)],tm',RR r.fn r.n (some l) []⟩,c::acs,setBlk H l (.loop (znu r))⟩:=by
  show zig C [.code (cE q.c)] tm' _ (c::acs) H=_
  unfold zig;simp only[vA];rw[h1,vA,q4];rfl
 rw[hb];have hc:tG c (.bool b)=some c':=hc
 have hE:ztb C (RdEnd l c acs) (RdG l c) r.fn r.n (some l) (c::acs):=by
  refine⟨?_,fun e=>(by cases e),fun e=>(by cases e)⟩
  rintro ds todo tm H x ⟨b,r2,c',_,_,_,e⟩
  injection e with e
  injection e with _ e _
  exact len_ne e.symm
 have hK:zqn C (RdEnd l c acs) (RdG l c) r.fn r.n (some l) (c::acs) rdK []:=by
  refine⟨?_,fun _ _ _ _ _ _ h=>(by cases h),?_⟩
  ·rintro ds x tm H ⟨b,r2,c',g1,g2,g3⟩ h
   cases h
   cases g1
   refine .step ?_
   rw[sI rfl];have:jL C [] tm (RR r.fn r.n (some l) ds) (c::acs) H=.next ⟨c',acs,setBlk H l (.loop (zhj true r2))⟩:=by
    have e0:jL C [] tm (RR r.fn r.n (some l) ds) (c::acs) H=lM none C ⟨[],tm,RR r.fn r.n (some l) ds⟩ (c::acs) H:=rfl
    rw[e0];unfold lM;simp only[g2,vA];show pI (ob (tG c (.bool true)) _) 7=_
    rw[g3];rfl
   rw[this];exact⟨_,.refl _,true,r2,c',rfl,g2,g3,rfl⟩
  ·rintro ds x tm H ⟨b,r2,c',g1,g2,g3⟩ h k'
   cases h
   cases g1
   refine .step ?_
   rw[sI rfl];have:jL C (.code .ret::k') tm (RR r.fn r.n (some l) ds) (c::acs) H=.next ⟨c',acs,setBlk H l (.loop (zhj false r2))⟩:=by
    have e0:jL C (.code .ret::k') tm (RR r.fn r.n (some l) ds) (c::acs) H=lM (some .ret) C ⟨.code .ret::k',tm,RR r.fn r.n (some l) ds⟩ (c::acs) H:=rfl
    rw[e0];unfold lM;simp only[g2,vA];show pI (ob (tG c (.bool false)) _) 7=_
    rw[g3];rfl
   rw[this];exact⟨_,.refl _,false,r2,c',rfl,g2,g3,rfl⟩
 obtain⟨o',k1,b',r2',c'',k2,k3,k4,rfl⟩:=zkk hφ hE q.c rdK [] (Or.inr q6) hK [] y tm' _ ⟨b,r2,c',h7,h6,hc⟩ h8
 rw[h7]at k2;cases k2
 rw[h6]at k3;cases k3
 rw[hc]at k4;cases k4
 exact k1
def zlz(hA:gT C A){φ:vG}(hφ:bP C φ):bP C (zl0 C A φ):=by
 refine⟨fun f args H x h=>?_,fun l args H x h=>zi8 hφ h⟩
 have h:zti C A φ f args H=some x:=h
 unfold zti at h;rw[uA]at h;obtain⟨c,h1,h⟩:=h
 rw[uA]at h;obtain⟨fn,h2,h⟩:=h
 rw[uA]at h;obtain⟨g,h3,h⟩:=h
 refine⟨g,h3,fun acs=>?_⟩
 obtain⟨fn',c',e1,e2,e3,e4⟩:=znf h3
 rw[h2]at e1;cases e1
 obtain⟨fn',e5,e6⟩:=hA f c h1
 rw[h2]at e5;cases e5
 rw[e2]at e6;cases e6
 obtain⟨gt,gtm,gR⟩:=g
 simp only at e3 e4 h
 subst e3 e4
 have hK:zqn C (z7k C f acs) (fun _=>True) f fn.ntmps none acs (zzk C fn) []:=⟨fun ds x tm H _ h=>zp9 h2 h rfl,fun ds x i tm H _ h=>(by cases h),fun ds x tm H _ h k'=>zp9 h2 h rfl⟩
 obtain⟨o',k1,fr',rfl,k2⟩:=zkk hφ z13 c (zzk C fn) [] (Or.inl rfl) hK [] x gtm H trivial h
 exact⟨fr',k1,k2⟩
def zfs(hA:gT C A):∀n,bP C (z3x C A n):=by
 intro n;induction n with
 | zero=>exact⟨fun f args H x h=>(by cases h),fun l args H x h=>(by cases h)⟩
 | succ n ih=>exact zlz hA ih
def zxy(hA:gT C A):bP C (dC C A):=by
 refine⟨fun f args H x h=>?_,fun f args H x h=>?_⟩
 ·obtain⟨n,hn⟩:=zT.1 h
  exact(zfs hA n).fn _ _ _ _ hn
 ·obtain⟨n,hn⟩:=zT.1 h
  exact(zfs hA n).rd _ _ _ _ hn
def zkp{P:Program}{B N:Nat}{I:World->Prop}{μ:Mu}{w:World}(hS:Sim P C B N I)(hI:I w)(hA:gT C A){f:Nat}{args:List zA}{args':Array Value}{H H':xA}{v:zA}(hH:cA B N μ H w)(hl:yB μ args args'.toList)
  (h:dC C A (.func f) args H=some (v,H')):Calls P f args' w fun e w'=>∃v' μ',e=.returned v'/\μ.lw μ'/\wA μ' v v'/\cA B N μ' H' w'/\Below N w w':=by
 intro base;obtain⟨g,he,hr⟩:=(zxy hA).fn _ _ _ _ h
 obtain⟨fr',r1,h1,h2,h3,h4,fn,l,h5,h6,rfl⟩:=hr []
 have h0:cC P C B N μ base (lone (Frame.enter P f args' .normal) base w) w (.next ⟨g,[],H⟩):=zbm hS.fns hH hl he
 obtain⟨μ',b,cs,w',s1,s2,s3,s4,s5,s6⟩:=cC.reach hS hI r1 h0
 cases s6
 have hb:=s5.body
 rw[yaa (by rw[h1];simp[zey.running])]at hb
 obtain⟨v',q1,q2⟩:=zfh hS.tys s4 hb h6
 have hm:=s5.rest.mode
 rw[h1]at hm;have hbm:b.mode=.returning:=by
  cases hb:b.mode with
  | returning=>rfl
  | _=>rw[hb]at hm;exact hm.elim
 have hd:=s5.rest.defers
 rw[h2]at hd;have hbd:b.defers=[]:=by
  generalize hx:b.defers=bd at hd
  cases hd;rfl
 have hk:=s5.rest.kind
 rw[h3]at hk;have hfn:b.fn=f:=by rw[s5.rest.fn,h4]
 exact⟨.returned v',w',b,⟨v',μ',rfl,s2,q2,s4,s3⟩,s1,hfn,hbm,hbd,hk,fn,by rw[hfn];exact(hS.fns _ _ h5).1,q1⟩
end
end
section
def mA(C:oA)(t:Nat)(H:xA)(v:zA):Option zA:=ob v.asPtr fun p=>ob (C.tys.get t) fun ty=>ob (fC H p.1) fun c=>mM ty c.1 p.2
def xK(C:oA)(s d:Nat)(H:xA)(a:zA):Option zA:=ob (C.tys.get s) fun s=>ob (C.tys.get d) fun d=>gL C s d a H
def gF(C:oA)(t:Nat)(H:xA)(a:zA)(l h:Option zA):Option zA:=ob (C.tys.get t) fun ty=>iJ C H ty a l h
def gN(C:oA)(s f:Nat):Option Nat:=ob (C.tys.get s) fun ty=>ob ty.desc.asStruct fun fs=>ob (lC fs f) fun fd=>jA (!Nat.beq fd.2.2 0) (some fd.1)
def vB(C:oA)(s f:Nat)(v:zA):Option zA:=ob (gN C s f) fun k=>ob v.asPtr fun p=>some (.ptr p.1 (p.2+k))
def zC(C:oA)(t:Nat)(v i:zA):Option zA:=
 ob (C.tys.get t) fun ty=>ob i.asNat fun i=>
  match v.asSlice with
  | some s=>ob ty.desc.asSlice fun el=>ob (C.tys.get el) fun et=>jA (Nat.blt i s.2.2.1) (some (.ptr s.1 (s.2.1+i*et.size)))
  | none=>ob v.asPtr fun p=>ob ty.desc.asArr fun a=>ob (C.tys.get a.2) fun et=>jA (Nat.blt i a.1) (some (.ptr p.1 (p.2+i*et.size)))
def zoc(C:oA)(t i:Nat):Option Nat:=ob (C.tys.get t) fun ty=>ob ty.desc.asArr fun a=>ob (C.tys.get a.2) fun et=>jA (Nat.blt i a.1) (some (i*et.size))
def xQ(C:oA)(t:Nat)(v i:zA):Option zA:=
 ob (C.tys.get t) fun ty=>ob i.asNat fun i=>
  match v.asStr with
  | some s=>jA ty.desc.isString (ob (lC s i) fun b=>some (.int .u8 (.ofNat b)))
  | none=>ob v.asAgg fun l=>ob ty.desc.asArr fun a=>ob (C.tys.get a.2) fun et=>jA (Nat.blt i a.1) (dK C a.2 l (i*et.size))
def zD(i:Nat)(v:zA):Option zA:=ob v.asTup fun l=>lC l i
def ztf (C:oA)(t:Nat)(H:xA)(v:zA):Option zA:=ob (C.tys.get t) fun ty=>ob (zth H ty v) fun n=>some (.int .i64 (.ofNat n))
def yC(v:zA):Option zA:=
 match v.asSlice with
 | some s=>some (.int .i64 (.ofNat s.2.2.1))
 | none=>jA (Nat.beq v.tag 5) (some (.int .i64 (.ofNat 0)))
def oB (v:zA):Option zA:=jA (Nat.beq v.tag 4||Nat.beq v.tag 9) (some v)
def zln(C:oA)(u:Nat)(ok:Bool)(v:zA):Option zA:=
 ob (C.tys.get u) fun ty=>jA (Nat.blt ty.desc.tag 9) (
  match v.asIface with
  | some p=>bif Nat.beq p.1 u then some (bif ok then .tup [p.2,.bool true]else p.2)else jA ok (some (.tup [bO ty,.bool false]))
  | none=>jA (Nat.beq v.tag 12&&ok) (some (.tup [bO ty,.bool false])))
def zP(C:oA)(t:Nat)(H:xA)(m k:zA)(ok:Bool):Option zA:=
 ob (C.tys.get t) fun ty=>ob ty.desc.asMap fun ke=>ob (C.tys.get ke.1) fun kty=>jA (sN C kty) (ob (C.tys.get ke.2) fun ety=>
  ob (zO H m) fun es=>jA (mL C kty k) (ob (cH k es) fun r=>
   match r with
   | some v=>some (bif ok then .tup [v,.bool true]else v)
   | none=>some (bif ok then .tup [bO ety,.bool false]else bO ety)))
def uM(C:oA)(t:Nat)(H:xA):Option (zA × xA):=ob (C.tys.get t) fun ty=>some (.ptr H.next 0,bD H ty.zero none)
def zq0 (v:zA)(H:xA):Option (zA × xA):=some (.ptr H.next 0,bD H v.cells none)
def zcc(C:oA)(t:Nat)(H:xA):Option (zA × xA):=ob (C.tys.get t) fun ty=>some (.ptr H.next 0,bD H ty.zero (tI C t))
def zqz(C:oA)(t:Nat)(v:zA)(H:xA):Option (zA × xA):=some (.ptr H.next 0,bD H v.cells (tI C t))
def dG(C:oA)(t len:Nat)(ps:List (Nat × zA))(H:xA):Option (zA × xA):=
 ob (C.tys.get t) fun ty=>ob ty.desc.asSlice fun el=>ob (C.tys.get el) fun et=>
  jA (Nat.blt (len*et.size) 1000000&&Nat.beq (aA et.zero) et.size) (ob (kL (fun i=>some (i*et.size,et.size)) ps (dI et.zero len)) fun l=>some (.slice H.next 0 len len,bD H l none))
def sC(C:oA)(t:Nat)(a v:zA)(H:xA):Option (zA × xA):=ob (C.tys.get t) fun ty=>ob a.asPtr fun p=>jA (Nat.beq (aA v.cells) ty.size) (ob (lH C H p.1 p.2 v.cells) fun H'=>some (tD,H'))
def zbi(H:xA):Option (zA × xA):=some (.map H.next,newBlk H (.map []))
def wM(C:oA)(t:Nat)(m k v:zA)(H:xA):Option (zA × xA):=
 ob (C.tys.get t) fun ty=>ob ty.desc.asMap fun ke=>ob (C.tys.get ke.1) fun kty=>jA (sN C kty)
  (ob m.asMap fun b=>jA (!Nat.blt b C.base) (ob (bH H b) fun l=>jA (mL C kty k) (ob (sJ k v l) fun l'=>some (tD,setBlk H b (.map l')))))
def zN(C:oA)(t:Nat)(l c:zA)(H:xA):Option (zA × xA):=
 ob (C.tys.get t) fun ty=>ob ty.desc.asSlice fun el=>ob (C.tys.get el) fun et=>ob l.asNat fun l=>ob c.asNat fun c=>
  jA (Nat.ble l c&&Nat.blt c 1000000&&Nat.blt (c*et.bytes) 1000000000&&Nat.beq (aA et.zero) et.size) (some (.slice H.next 0 l c,bD H (dI et.zero c) none))
def zgo(C:oA)(s d:Nat)(v:zA)(H:xA):Option (zA × xA):=
 ob (C.tys.get s) fun _=>ob (C.tys.get d) fun ty=>ob ty.desc.asSlice fun el=>ob (C.tys.get el) fun et=>ob et.desc.asInt fun k=>jA (kEq k .u8) (ob v.asStr fun l=>
  some (.slice H.next 0 (aA l) (aA l),bD H (jO l) (some (.ty el))))
def bE(C:oA)(t u:Nat)(a b:zA)(H:xA):Option (zA × xA):=ob (C.tys.get t) fun ty=>ob (C.tys.get u) fun uty=>jA (!Nat.beq uty.desc.tag 1) (gO C H ty a b)
def vNext(v:zA)(H:xA):Option (zA × xA):=ob v.asPtr fun p=>jA (Nat.beq p.2 0) (ob (ob (H.t.get p.1) qA.asIter) fun x=>
 match lC x.1 x.2 with
 | some c=>jA (Nat.blt c 128) (some (.tup [.bool true,.int .i64 (.ofNat x.2),.int .i32 (.ofNat c)],setBlk H p.1 (.siter x.1 (x.2+1))))
 | none=>some (.tup [.bool false],H))
structure jN where
 b:Nat->Bool
 i:Nat->Int
 s:Nat->List Nat
 v:Nat->zA
inductive T where
 | ret (v:zA)
 | fail
 | ite (b:Bool) (x y:T)
 | opt (x:Option zA) (K:zA->T)
 | light (x:Tr qA->Option zA) (K:zA->T)
 | heavy (x:xA->Option (zA × xA)) (K:zA->T)
 | call (f:Nat) (args:List zA) (K:zA->T)
 | callv (f:zA) (args:List zA) (K:zA->T)
 | asI (k:IntKind) (v:zA) (K:Int->T)
 | asB (v:zA) (K:Bool->T)
 | asS (v:zA) (K:List Nat->T)
 | asG (zs:List zA) (v:zA) (K:jN->T)
 | jump (i:Nat) (vals:List zA)
 | range (np:Nat->Bool) (f:zA) (i m:Nat) (vals:List zA) (K R:T)
def yo:Nat:=1099511627776
def zv9(z:zA)(X:jN)(j:Nat):zA:=
 match z with
 | .bool _=>.bool (X.b j)
 | .int k _=>.int k (X.i j)
 | .str _=>.str (X.s j)
 | _=>X.v j
def pL(zs:List zA)(X:jN):Nat->List zA:=
 List.rec (motive:=fun _=>Nat->List zA) (fun _=>[]) (fun z _ g j=>zv9 z X j::g (j+1)) zs
def zd7(l:List zA)(j:Nat):Bool:=match l[j]? with | some (.bool b)=>b | _=>false
def z1p(l:List zA)(j:Nat):Int:=match l[j]? with | some (.int _ n)=>n | _=>0
def z5g(l:List zA)(j:Nat):List Nat:=match l[j]? with | some (.str s)=>s | _=>[]
def zqx(l:List zA)(j:Nat):zA:=match l[j]? with | some v=>v | _=>.nilptr
def cellsOf(l:List zA):jN:=⟨zd7 l,z1p l,z5g l,zqx l⟩
def z15 (z a:zA):Bool:=
 match z with
 | .bool _=>Nat.beq a.tag 0
 | .int k _=>match a.asIntK with | some p=>kEq p.1 k | none=>false
 | .str _=>Nat.beq a.tag 2
 | .nilptr=>Nat.beq a.tag 3||Nat.beq a.tag 4
 | .nilslice=>Nat.beq a.tag 5||Nat.beq a.tag 6
 | .nilmap=>Nat.beq a.tag 7||Nat.beq a.tag 8
 | .nilfunc=>Nat.beq a.tag 10||Nat.beq a.tag 9
 | .niliface=>Nat.beq a.tag 12||Nat.beq a.tag 11
 | _=>false
def aK:List zA->List zA->Bool
 | [],[]=>true
 | z::zs,a::l=>z15 z a&&aK zs l
 | _,_=>false
structure lF where
 tm:Tm
 ad:List (Nat × Nat × Nat)
 lo:Tr (List zA)
 lit:List Nat
abbrev KT:=lF->T
structure KtT where
 norm:KT
 exit:Nat->KT
 ret:KT
def lB {α:Type}(x:Option α)(K:α->T):T:=Option.rec (motive:=fun _=>T) .fail K x
def gdT (b:Bool)(K:T):T:=Bool.rec (motive:=fun _=>T) .fail K b
def pH(i:Nat)(l:List (Nat × Nat × Nat)):Option (Nat × Nat):=
 List.rec (motive:=fun _=>Option (Nat × Nat)) none (fun a _ g=>Bool.rec (motive:=fun _=>Option (Nat × Nat)) g (some a.2) (Nat.beq i a.1)) l
inductive lJ where
 | now (ad:List (Nat × Nat × Nat))
 | mixed (ad old:List (Nat × Nat × Nat)) (olds names:List Nat)
def tAd (e:lJ)(t:Nat):Option (Nat × Nat):=
 match e with
 | .now ad=>pH t ad
 | .mixed ad old olds names=>bif pF t names then pH t (bif pF t olds then old else ad)else none
def xAd (e:lJ)(x:Operand):Option (Nat × Nat):=
 match x with
 | .tmp t=>tAd e t
 | _=>none
def H0A:xA:=⟨0,.leaf⟩
def uG (C:oA)(t:Nat):Nat:=
 match C.tys.get t with
 | some ty=>ty.desc.tag
 | none=>10
def zho(x:Operand):Bool:=
 match x with
 | .const _=>true
 | _=>false
def zyl(x:Operand):Bool:=
 match x with
 | .const (.int _ n) => !uB n 0
 | _=>false
def binDir(C:oA)(op:BinOp)(t:Nat)(y:Operand):Bool:=
 match op with
 | .add=>Nat.beq (uG C t) 1
 | .sub=>true
 | .mul=>true
 | .quo=>zyl y
 | .rem=>zyl y
 | .shl=>zho y
 | .shr=>zho y
 | .eql=>Nat.ble (uG C t) 2
 | .neq=>Nat.ble (uG C t) 2
 | .lss=>Nat.ble (uG C t) 2
 | .leq=>Nat.ble (uG C t) 2
 | .gtr=>Nat.ble (uG C t) 2
 | .geq=>Nat.ble (uG C t) 2
 | _=>false
structure KOp where
 K:zA->T
 Kd:zA->T
 KA:Nat->Nat->T
def zok (C:oA)(op:Op)(e:nC)(k:KOp):T:=lB ((mE op).f C e H0A) k.Kd
def zz2(C:oA)(op:Op)(x:Operand)(e:nC)(ae:lJ)(k:KOp):T:=
 match xAd ae x with
 | some p=>k.KA p.1 p.2
 | none=>zok C op e k
def tLoad(C:oA)(t:Nat)(a:Operand)(e:nC)(ae:lJ)(lo:Tr (List zA))(k:KOp):T:=
 match xAd ae a with
 | some p=>lB (lo.get p.1) fun l=>lB (C.tys.get t) fun ty=>gdT (Nat.ble (p.2+ty.size) (aA l)) (lB (dK C t l p.2) k.Kd)
 | none=>lB (ev a e) fun v=>.light (fun m=>mA C t ⟨0,m⟩ v) k.K
def ze7(C:oA)(s:Nat)(x:Operand)(f:Nat)(e:nC)(ae:lJ)(k:KOp):T:=
 match xAd ae x with
 | some p=>lB (gN C s f) fun o=>k.KA p.1 (p.2+o)
 | none=>lB (ev x e) fun v=>.opt (vB C s f v) k.K
def ze6(C:oA)(t:Nat)(x i:Operand)(e:nC)(ae:lJ)(k:KOp):T:=
 match xAd ae x with
 | some p=>lB (ev i e) fun i=>lB i.asNat fun i=>lB (zoc C t i) fun o=>k.KA p.1 (p.2+o)
 | none=>lB (ev x e) fun v=>lB (ev i e) fun i=>.opt (zC C t v i) k.K
def tNil (x:Operand)(e:nC)(ae:lJ)(k:KOp):T:=
 match xAd ae x with
 | some p=>k.KA p.1 p.2
 | none=>lB (ev x e) fun v=>.opt (oB v) k.K
def tLen (C:oA)(c:Call)(e:nC)(k:KOp):T:=
 lB (lC c.argTypes.toList 0) fun t=>lB (lC c.args.toList 0) fun x=>lB (ev x e) fun v=>
  bif Nat.beq (uG C t) 4 then .opt (yC v) k.K else bif Nat.beq (uG C t) 6 then .light (fun m=>ztf C t ⟨0,m⟩ v) k.K else lB (ztf C t H0A v) k.Kd
def tBin (C:oA)(op:BinOp)(t:Nat)(x y:Operand)(u:Nat)(e:nC)(k:KOp):T:=
 bif binDir C op t y then zok C (.binOp op t x y u) e k else lB (ev x e) fun a=>lB (ev y e) fun b=>.opt ((binA op).f C t x y a b) k.K
def z5c(C:oA)(s d:Nat)(x:Operand)(e:nC)(k:KOp):T:=
 bif Nat.beq (uG C d) 2 then(bif Nat.beq (uG C s) 2 then zok C (.convert s d x) e k else lB (ev x e) fun v=>.light (fun m=>xK C s d ⟨0,m⟩ v) k.K)else bif Nat.beq (uG C d) 1 then zok C (.convert s d x) e k else .fail
def z3h(C:oA)(t:Nat)(x:Operand)(lo hi:Option Operand)(e:nC)(k:KOp):T:=
 lB (ev x e) fun a=>lB (evo lo e) fun l=>lB (evo hi e) fun h=>
  bif Nat.beq (uG C t) 2 then .opt (gF C t H0A a l h) k.K else .light (fun m=>gF C t ⟨0,m⟩ a l h) k.K
def qV(C:oA)(c:Call)(e:nC)(k:KOp):Builtin->T
 | .len=>tLen C c e k
 | .max=>zok C (.call c) e k
 | .min=>zok C (.call c) e k
 | _=>.fail
def zga(ty:uC)(v:zA):List zA:=bif ty.desc.isAgg then v.cells else [v]
def z19(cells:List zA)(off size:Nat)(vc:List zA):Option (List zA):=
 jA (Nat.beq (aA vc) size&&Nat.ble (off+aA vc) (aA cells)) (some (eC (zes cells off) (eC vc (nL cells (off+aA vc)))))
def zvt(C:oA)(tyAt:Nat->Option Nat):List (Nat × zA)->Option (List (Nat × zA × List zA) × List zA):=
 List.rec (motive:=fun _=>Option (List (Nat × zA × List zA) × List zA)) (some ([],[]))
  (fun p _ g=>ob (tyAt p.1) fun t=>ob (C.tys.get t) fun ty=>ob g fun r=>some (bif ty.desc.isAgg then((p.1,p.2,p.2.cells)::r.1,r.2)else((p.1,p.2,[p.2])::r.1,p.2::r.2)))
def z2a(place:Nat->Option (Nat × Nat)):List (Nat × zA × List zA)->List zA->Option (List zA):=
 List.rec (motive:=fun _=>List zA->Option (List zA)) (fun cells=>some cells) (fun p _ g cells=>ob (place p.1) fun q=>ob (z19 cells q.1 q.2 p.2.2) fun cells=>g cells)
def tyAtS(ty:uC)(i:Nat):Option Nat:=
 match ty.desc.asStruct with
 | some fs=>ob (lC fs i) fun x=>some x.2.1
 | none=>ob ty.desc.asArr fun a=>some a.2
def zfq(C:oA)(ty:uC)(i:Nat):Option (Nat × Nat):=
 match ty.desc.asStruct with
 | some fs=>ob (lC fs i) fun x=>some (x.1,x.2.2)
 | none=>ob ty.desc.asArr fun a=>ob (C.tys.get a.2) fun et=>some (i*et.size,et.size)
def zkw(C:oA)(ty:uC):Bool:=
 match ty.desc.asStruct with
 | some _=>true
 | none=>match ty.desc.asArr with
  | some a=>(match C.tys.get a.2 with | some _=>true | none=>false)
  | none=>false
def z3j(C:oA)(t:Nat)(ps:Array (Nat × Operand))(e:nC)(k:KOp):T:=
 lB (C.tys.get t) fun ty=>gdT (zkw C ty) <| lB (evp ps.toList e) fun vs=>lB (zvt C (tyAtS ty) vs) fun q=>lB (z2a (zfq C ty) q.1 ty.zero) fun l=>.ite (tC zA.one q.2) (k.Kd (.agg l)) .fail
def tL (C:oA)(op:Op)(e:nC)(ae:lJ)(lo:Tr (List zA))(k:KOp):T:=
 match op with
 | .move x=>zz2 C (.move x) x e ae k
 | .assign x=>zz2 C (.assign x) x e ae k
 | .load t a=>tLoad C t a e ae lo k
 | .fieldAddr s x f=>ze7 C s x f e ae k
 | .indexAddr t x i=>ze6 C t x i e ae k
 | .nilCheck x=>tNil x e ae k
 | .binOp op t x y u=>tBin C op t x y u e k
 | .convert s d x=>z5c C s d x e k
 | .slice t x lo hi none=>z3h C t x lo hi e k
 | .index t x i=>bif zho i&&Nat.beq (uG C t) 5 then zok C (.index t x i) e k else lB (ev x e) fun v=>lB (ev i e) fun i=>.opt (xQ C t v i) k.K
 | .extract t i=>lB (ev t e) fun v=>.opt (zD i v) k.K
 | .typeAssert x _ u ok=>lB (ev x e) fun v=>.opt (zln C u ok v) k.K
 | .lookup t x i ok=>lB (ev x e) fun m=>lB (ev i e) fun key=>.light (fun h=>zP C t ⟨0,h⟩ m key ok) k.K
 | .call c=>match c.callee with
  | .builtin b=>qV C c e k b
  | _=>.fail
 | .pick c a b=>zok C (.pick c a b) e k
 | .unOp o t x=>(match o with
  | .xor=>lB (ev x e) fun v=>.opt (zlp v) k.K
  | o=>zok C (.unOp o t x) e k)
 | .makeInterface t x=>zok C (.makeInterface t x) e k
 | .makeFunc fn a b=>zok C (.makeFunc fn a b) e k
 | .field t x f=>zok C (.field t x f) e k
 | .build t ps=>z3j C t ps e k
 | _=>.fail
def laOf (la:List Nat)(dst:Option Nat):Option Nat:=
 match dst with
 | some d=>bif pF d la then some d else none
 | none=>none
structure KLo where
 new:Nat->List zA->T
 set:Nat->List zA->T
def z3i(f:Operand)(args:Array Operand)(e:nC)(k:KOp):T:=
 match f with
 | .func g=>gdT (Nat.blt g yo) (lB (evs args.toList e) fun aq=>.call g aq k.K)
 | f=>lB (ev f e) fun fv=>lB (evs args.toList e) fun aq=>.callv fv aq k.K
def two' (c:Call)(e:nC)(K:zA->zA->T):T:=lB (two c e) fun p=>K p.1 p.2
def zix(C:oA)(c:Call)(e:nC)(k:KOp):Builtin->T
 | .append=>lB (lC c.argTypes.toList 0) fun t=>lB (lC c.argTypes.toList 1) fun u=>two' c e fun a b=>.heavy (bE C t u a b) k.K
 | b=>qV C c e k b
def z3g(C:oA)(t:Nat)(a x:Operand)(e:nC)(ae:lJ)(lo:Tr (List zA))(k:KOp)(kl:KLo):T:=
 match xAd ae a with
 | some p=>lB (ev x e) fun v=>lB (C.tys.get t) fun ty=>lB (lo.get p.1) fun l=>lB (z19 l p.2 ty.size (zga ty v)) fun l'=>.ite (tC zA.one (zga ty v)) (kl.set p.1 l') .fail
 | none=>lB (ev a e) fun a=>lB (ev x e) fun v=>.heavy (sC C t a v) k.Kd
def tH (C:oA)(la:List Nat)(dst:Option Nat)(op:Op)(e:nC)(ae:lJ)(lo:Tr (List zA))(k:KOp)(kl:KLo):T:=
 match op with
 | .box t x=>bif gG (tI C t)then lB (ev x e) fun v=>(match laOf la dst with
  | some d=>lB (C.tys.get t) fun ty=>bif ty.desc.isAgg then kl.new d v.cells else .ite (zA.one v) (kl.new d [v]) .fail
  | none=>.heavy (zq0 v) k.K)else lB (ev x e) fun v=>.heavy (zqz C t v) k.K
 | .alloc t=>bif gG (tI C t)then(match laOf la dst with
  | some d=>lB (C.tys.get t) fun ty=>kl.new d ty.zero
  | none=>.heavy (uM C t) k.K)else .heavy (zcc C t) k.K
 | .store t a x=>z3g C t a x e ae lo k kl
 | .buildSlice t len ps=>lB (evp ps.toList e) fun ps=>.heavy (dG C t len ps) k.K
 | .makeMap _ none=>.heavy zbi k.K
 | .insert t m key x=>lB (ev m e) fun m=>lB (ev key e) fun key=>lB (ev x e) fun v=>.heavy (wM C t m key v) k.Kd
 | .mapUpdate t m key x=>lB (ev m e) fun m=>lB (ev key e) fun key=>lB (ev x e) fun v=>.heavy (wM C t m key v) k.Kd
 | .makeSlice t l c=>lB (ev l e) fun l=>lB (ev c e) fun c=>.heavy (zN C t l c) k.K
 | .convert s d x=>bif Nat.beq (uG C d) 4 then lB (ev x e) fun v=>.heavy (zgo C s d v) k.K else z5c C s d x e k
 | .call c=>match c.callee with
  | .value f=>z3i f c.args e k
  | .builtin b=>zix C c e k b
  | _=>.fail
 | op=>tL C op e ae lo k
def rmNat(i:Nat)(l:List Nat):List Nat:=List.rec (motive:=fun _=>List Nat) [] (fun j _ g=>bif Nat.beq i j then g else j::g) l
def zoi (n:Nat)(dst:Option Nat)(v:zA)(lt:Bool)(st:lF)(κ:KT):T:=
 match dst with
 | none=>κ st
 | some d=>bif Nat.blt d n then gdT (gG (pH d st.ad)) (κ ⟨st.tm.set d v,st.ad,st.lo,bif lt then d::rmNat d st.lit else rmNat d st.lit⟩)else κ st
def z49(n:Nat)(dst:Option Nat)(d off:Nat)(st:lF)(κ:KT):T:=
 lB dst fun i=>gdT (Nat.blt i n) (gdT (gG (st.tm.get i)) (κ ⟨st.tm,(i,d,off)::st.ad,st.lo,st.lit⟩))
def z3y(d:Nat)(ad:List (Nat × Nat × Nat)):Bool:=tC (fun a=>bif Nat.beq a.2.1 d then Nat.beq a.1 d else true) ad
def tNew (n:Nat)(d:Nat)(l:List zA)(st:lF)(κ:KT):T:=
 gdT (Nat.blt d n) (gdT (gG (st.tm.get d)) (gdT (z3y d st.ad) (κ ⟨st.tm,(d,d,0)::st.ad,st.lo.set d l,st.lit⟩)))
def fitB (C:oA)(t:Nat)(v:zA):Bool:=
 match C.tys.get t with
 | some ty=>(match ty.desc with
  | .bool=>Nat.beq v.tag 0
  | .int k=>(match v.asIntK with | some p=>kEq p.1 k | none=>false)
  | .string=>Nat.beq v.tag 2
  | _=>true)
 | none=>true
def zuh(C:oA)(t:Nat)(v:zA)(K:zA->T):T:=
 match C.tys.get t with
 | some ty=>(match ty.desc with
  | .bool=>.asB v fun b=>K (.bool b)
  | .int k=>.asI k v fun n=>K (.int k n)
  | .string=>.asS v fun s=>K (.str s)
  | .struct _=>bif Nat.ble (aA ty.zero) 40 then .asG ty.zero v fun X=>K (.agg (pL ty.zero X 0))else K v
  | .arr _ _=>bif Nat.ble (aA ty.zero) 40 then .asG ty.zero v fun X=>K (.agg (pL ty.zero X 0))else K v
  | _=>K v)
 | none=>K v
def z31 (x:Operand)(lit:List Nat):Bool:=
 match x with
 | .tmp t=>lit.contains t
 | .const _=>true
 | _=>false
def z09(op:Op)(e:nC)(lit:List Nat):Bool:=
 match op with
 | .move x=>z31 x lit
 | .assign x=>z31 x lit
 | .unOp _ _ x=>z31 x lit
 | .pick c a b=>bif z31 c lit then(match ob (ev c e) zA.asBool with
  | some w=>bif w then z31 a lit else z31 b lit
  | none=>false)else false
 | _=>false
def zhn(all:List Oper)(dst:Option Nat)(l:List Oper):Bool:=
 match dst with
 | none=>false
 | some d => !tC (fun o=>match o.guard with
  | some g=>(match ob (lC all g.1) fun p=>p.dst with | some i => !Nat.beq i d | none=>true)
  | none=>true) l
def ze5(g lt:Bool)(v:zA)(K:zA->Bool->T):T:=
 bif g then(bif lt then K v true else lB v.asBool fun b=>.ite b (K (.bool true) true) (K (.bool false) true))else K v lt
def kop (C:oA)(all:Array Oper)(n:Nat)(o:Oper)(e:nC)(st:lF)(κ:KT):KOp:=
 ⟨fun v=>zuh C o.type v fun v=>ze5 (zhn all.toList o.dst all.toList) (z09 o.op e st.lit) v fun v lt=>zoi n o.dst v lt st κ,
  fun v=>gdT (fitB C o.type v) (ze5 (zhn all.toList o.dst all.toList) (z09 o.op e st.lit) v fun v lt=>zoi n o.dst v lt st κ),
  fun d off=>gdT (!Nat.ble (uG C o.type) 2) (z49 n o.dst d off st κ)⟩
def klo (C:oA)(n:Nat)(o:Oper)(st:lF)(κ:KT):KLo:=
 ⟨fun d l=>gdT (!Nat.ble (uG C o.type) 2) (tNew n d l st κ),
  fun d l=>gdT (fitB C o.type tD) (zoi n o.dst tD false ⟨st.tm,st.ad,st.lo.set d l,st.lit⟩ κ)⟩
def nC.adCut(k:Nat)(l:List (Nat × Nat × Nat)):List (Nat × Nat × Nat):=l.filter fun a=>Nat.blt a.1 k
def lF.cut(st:lF):lF:=⟨st.tm.cut,nC.adCut st.tm.k st.ad,st.lo,st.lit⟩
def tops (C:oA)(la:List Nat)(all:Array Oper)(n:Nat)(κ:KT)(l:List Oper):KT:=
 List.rec (motive:=fun _=>KT) κ
  (fun o _ g st=>lB (jE o.guard all st.tm) fun w=>Bool.rec (motive:=fun _=>T) (zoi n o.dst tD false st g)
   (tH C la o.dst o.op (.now st.tm) (.now st.ad) st.lo (kop C all n o (.now st.tm) st g) (klo C n o st g)) w) l
def zms (st old:lF)(olds:List Nat)(op:Op):nC:=.mixed st.tm old.tm olds (iF op)
def z04 (st old:lF)(olds:List Nat)(op:Op):lJ:=.mixed st.ad old.ad olds (iF op)
def tM(C:oA)(all:Array Oper)(n:Nat)(old:lF)(olds:List (Nat × List Nat))(κ:KT)(l:List Nat):KT:=
 List.rec (motive:=fun _=>KT) κ
  (fun i _ g st=>lB (lC all.toList i) fun o=>lB (jE o.guard all st.tm) fun w=>Bool.rec (motive:=fun _=>T) (zoi n o.dst tD false st g)
   (tL C o.op (zms st old (kD i olds) o.op) (z04 st old (kD i olds) o.op) st.lo (kop C all n o (zms st old (kD i olds) o.op) st g)) w) l
def yP(C:oA)(all:Array Oper)(old:lF)(olds:List (Nat × List Nat))(st:lF)(k:T)(l:List Nat):T:=
 List.rec (motive:=fun _=>T) k
  (fun i _ g=>lB (lC all.toList i) fun o=>lB o.dst fun d=>lB (jE o.guard all st.tm) fun w=>Bool.rec (motive:=fun _=>T) g
   (lB (st.tm.get d) fun u=>gdT (fitB C o.type u) (tL C o.op (zms st old (kD i olds) o.op) (z04 st old (kD i olds) o.op) st.lo ⟨fun v=>.ite (same 10 v u) g .fail,fun v=>.ite (same 10 v u) g .fail,fun _ _=>.fail⟩)) w) l
def vM(C:oA)(es:List Eff)(H:xA):Option (zA × xA):=ob (jP C es H) fun H'=>some (tD,H')
def tEff (op:Op)(e:nC)(ae:lJ):Option Eff:=
 match op with
 | .store t a x=>(match xAd ae a with
  | some _=>none
  | none=>lO (.store t a x) e)
 | op=>lO op e
def zz4(all:Array Oper)(old:lF)(olds:List (Nat × List Nat))(st:lF)(l:List Nat):Option (List Eff):=
 tF (fun i=>ob (lC all.toList i) fun o=>ob (jE o.guard all st.tm) fun w=>jA w (tEff o.op (zms st old (kD i olds) o.op) (z04 st old (kD i olds) o.op))) l
def xR(C:oA)(all:Array Oper)(n:Nat)(old:lF)(olds:List (Nat × List Nat))(κ:KT)(l:List xE):KT:=
 List.rec (motive:=fun _=>KT) κ
  (fun s _ g st=>Bool.rec (motive:=fun _=>T) (lB (lC all.toList (hvI all s.heavy)) fun o=>lB (iN C all s.heavy o st.tm) fun w=>
   (fun cont:KT=>Bool.rec (motive:=fun _=>T) (zoi n o.dst tD false st cont)
    (tH C [] o.dst o.op (zms st old (kD (hvI all s.heavy) olds) o.op) (z04 st old (kD (hvI all s.heavy) olds) o.op) st.lo (kop C all n o (zms st old (kD (hvI all s.heavy) olds) o.op) st cont) (klo C n o st cont)) w)
   (fun st'=>yP C all old olds st' (tM C all n old olds g s.lights st') s.again))
   (gdT (sP C all) (lB (zz4 all old olds st s.again) fun es=>.heavy (vM C es) fun _=>tM C all n old olds g s.lights st)) (rN all s)) l
def zt9(C:oA)(la:List Nat)(fn n:Nat)(κ:KT)(id:Nat)(all:Array Oper)(draw:Bool):KT:=
 Bool.rec (motive:=fun _=>KT) (fun st=>tops C la all n κ all.toList st.cut)
  (fun st=>lB (ob (C.plans.get fn) fun t=>t.get id) fun p=>gdT (vN all p) (tM C all n st.cut p.olds (xR C all n st.cut p.olds κ p.stages) p.first st.cut)) draw
def ze2(st:lF)(ll:List (Nat × Nat)):Option (List zA):=
 List.rec (motive:=fun _=>Option (List zA)) (some []) (fun p _ g=>ob (pH p.1 st.ad) fun a=>jA (Nat.beq a.1 p.1&&Nat.beq a.2 0) (ob (st.lo.get p.1) fun l=>jA (Nat.beq (aA l) p.2) (ob g fun r=>some (eC l r)))) ll
def ze1(p:PI)(st:lF):Option (List zA):=ob (tF (fun i=>st.tm.get i) p.pl) fun a=>ob (ze2 st p.ll) fun b=>some (eC a b)
def zzl (ll:List (Nat × Nat)):List zA->Tr (List zA):=
 List.rec (motive:=fun _=>List zA->Tr (List zA)) (fun _=>.leaf) (fun p _ g vals=>(g (nL vals p.2)).set p.1 (zes vals p.2)) ll
def wK (pl:List Nat):List zA->Tr zA:=
 List.rec (motive:=fun _=>List zA->Tr zA) (fun _=>.leaf) (fun i _ g vals=>List.rec (motive:=fun _=>Tr zA) .leaf (fun v vals _=>(g vals).set i v) vals) pl
def stAd (ll:List (Nat × Nat)):List (Nat × Nat × Nat):=List.rec (motive:=fun _=>List (Nat × Nat × Nat)) [] (fun p _ g=>(p.1,p.1,0)::g) ll
def ztg (k:Nat)(p:PI)(vals:List zA):lF:=⟨⟨k,wK p.pl vals,[]⟩,stAd p.ll,zzl p.ll (nL vals (aA p.pl)),[]⟩
def npC (C:oA)(g:Nat):Bool:=gG (C.prims.get g)
def z3t(pl:List Nat)(st:lF):Option (List zA):=tF (fun i=>st.tm.get i) pl
def zvj(k n:Nat)(pl ps:List Nat)(ops:List Oper)(c:aC):Bool:=
 tC (fun p=>Nat.blt p k&&Nat.blt p n && !pF p pl) ps&&Nat.ble (aA ps) 1&&fV ops&&(match pM c with | []=>true | _=>false)
def rdT:KtT:=⟨fun _=>.ret (.bool true),fun _ _=>.fail,fun _=>.ret (.bool false)⟩
def zvi(C:oA)(n:Nat)(κ:KtT)(i:Nat)(pl:List Nat)(f:Operand)(ps:List Nat)(ops:List Oper)(c:aC)(st:lF):T:=
 gdT (zvj st.tm.k n pl ps ops c) (lB (z3t pl st) fun vals=>lB (ev f (.now st.tm)) fun fv=>.range (npC C) fv i (aA ps) vals (κ.norm st) (κ.ret st))
def zlq (C:oA)(la:List Nat)(fn n:Nat)(c:aC):KtT->KT:=
 aC.rec (motive:=fun _=>KtT->KT)
  (fun κ st=>κ.norm st)
  (fun id all draw κ=>zt9 C la fn n κ.norm id all draw)
  (fun _ _ ga gb κ=>ga ⟨gb κ,κ.exit,κ.ret⟩)
  (fun c _ _ gx gy κ st=>lB (ob (ev c (.now st.tm)) zA.asBool) fun b=>bif z31 c st.lit then Bool.rec (motive:=fun _=>T) (gy κ st) (gx κ st) b else .ite b (gx κ st) (gy κ st))
  (fun id _ g κ=>g ⟨κ.norm,fun i st=>Bool.rec (motive:=fun _=>T) (κ.exit i st) (κ.norm st) (Nat.beq id i),κ.ret⟩)
  (fun p _ _ _ st=>lB (ze1 p st) fun vals=>.jump p.id vals)
  (fun id κ st=>κ.exit id st)
  (fun κ st=>κ.ret st)
  (fun p _ _ _ st=>lB (ze1 p st) fun vals=>.jump p.id vals)
  (fun i pl f ps _ ops c _ κ st=>zvi C n κ i pl f ps.toList ops.toList c st) c
structure PtT where
 p:PI
 tree:List zA->T
def zr6(p:PI):KT:=fun st=>lB (ze1 p st) fun vals=>.jump p.id vals
def sR(C:oA)(la:List Nat)(fn n k:Nat)(c:aC):KtT->List PtT:=
 aC.rec (motive:=fun _=>KtT->List PtT)
  (fun _=>[])
  (fun _ _ _ _=>[])
  (fun _ b ga gb κ=>eC (ga ⟨zlq C la fn n b κ,κ.exit,κ.ret⟩) (gb κ))
  (fun _ _ _ gx gy κ=>eC (gx κ) (gy κ))
  (fun id _ g κ=>g ⟨κ.norm,fun i st=>Bool.rec (motive:=fun _=>T) (κ.exit i st) (κ.norm st) (Nat.beq id i),κ.ret⟩)
  (fun p c g κ=>⟨p,fun vals=>zlq C la fn n c ⟨zr6 p,κ.exit,κ.ret⟩ (ztg k p vals)⟩::g ⟨zr6 p,κ.exit,κ.ret⟩)
  (fun _ _=>[])
  (fun _=>[])
  (fun p c g κ=>⟨p,fun vals=>zlq C la fn n c κ (ztg k p vals)⟩::g κ)
  (fun i pl _ ps id ops c g _=>⟨⟨i,eC pl ps.toList,[]⟩,fun vals=>zlq C la fn n (.seq (.region id ops false) c) rdT (ztg k ⟨i,eC pl ps.toList,[]⟩ vals)⟩::g rdT) c
def resT (C:oA)(st:lF)(l:List ResultVar):(List zA->T)->T:=
 List.rec (motive:=fun _=>(List zA->T)->T) (fun K=>K [])
  (fun r _ g K=>match r with
   | .tmp t=>lB (st.tm.get t) fun v=>g fun l=>K (v::l)
   | .cell a t=>match pH a st.ad with
    | some p=>lB (st.lo.get p.1) fun l=>lB (C.tys.get t) fun ty=>gdT (Nat.ble (p.2+ty.size) (aA l)) (lB (dK C t l p.2) fun v=>g fun l=>K (v::l))
    | none=>lB (st.tm.get a) fun a=>.light (fun m=>mA C t ⟨0,m⟩ a) fun v=>g fun l=>K (v::l)) l
def endT (C:oA)(fn:Func):KT:=fun st=>resT C st fn.results.toList fun l=>.ret (lS l)
def topT (C:oA)(fn:Func):KtT:=⟨endT C fn,fun _ _=>.fail,endT C fn⟩
structure xB where
 code:aC
 la:List Nat
def entT (C:oA)(fn:Func)(k:Nat)(f:Nat)(A:xB)(args:List zA):T:=zlq C A.la f fn.ntmps A.code (topT C fn) ⟨⟨k,Tr.ofList args,[]⟩,[],.leaf,[]⟩
def ptsT (C:oA)(fn:Func)(k:Nat)(f:Nat)(A:xB):List PtT:=sR C A.la f fn.ntmps k A.code (topT C fn)
def zrr(l:List PtT)(i:Nat)(vals:List zA):List T:=List.rec (motive:=fun _=>List T) [] (fun p _ g=>bif Nat.beq p.p.id i then p.tree vals::g else g) l
end
section
def cD {α:Type}(x:Option α)(P:α->Prop):Prop:=
 match x with
 | some a=>P a
 | none=>False
def cN{α:Type}{x:Option α}{P:α->Prop}:cD x P ↔ ∃a,x=some a/\P a:=by
 cases x with
 | none=>simp[cD]
 | some a=>simp[cD]
@[simp] theorem sA {α:Type} {a:α} {P:α->Prop}:cD (some a) P=P a:=rfl
@[simp] theorem optP_none {α:Type} {P:α->Prop}:cD (none:Option α) P=False:=rfl
abbrev bB:=zA->Tr qA->Prop
abbrev fG:=Nat->List zA->Tr qA->bB->Prop
def z4j{α:Type}:List α->Bool | []=>true | _::_=>false
def mN(f:zA)(args:List zA):Option (Nat × List zA):=ob f.asFunc fun p=>match p.1 with
 | .func g=>jA (Nat.blt g yo) (some (g,eC (eC p.2.1 args) p.2.2))
 | .yld l=>jA (z4j p.2.1&&z4j p.2.2) (some (yo+l,args))
def qX(np:Nat->Bool)(f:zA)(l:Nat):Option (Nat × List zA):=ob f.asFunc fun p=>match p.1 with
 | .func g=>jA (Nat.blt g yo&&np g) (some (g,eC p.2.1 (.func (.yld l) [] []::p.2.2)))
 | .yld _=>none
def z6f (k:IntKind)(v:zA):Option Int:=ob v.asIntK fun p=>jA (kEq p.1 k) (some p.2)
def zs7 (zs:List zA)(v:zA):Option jN:=ob v.asAgg fun l=>jA (aK zs l) (some (cellsOf l))
def pA (base:Nat)(W:fG)(J:fG):T->Tr qA->bB->Prop
 | .ret v,t,Q=>Q v t
 | .fail,_,_=>False
 | .ite b x y,t,Q=>if b=true then pA base W J x t Q else pA base W J y t Q
 | .opt x K,t,Q=>cD x fun v=>pA base W J (K v) t Q
 | .light x K,t,Q=>cD (x t) fun v=>pA base W J (K v) t Q
 | .heavy x K,t,Q=>∀b,t.get b=none->base<=b->cD (x ⟨b,t⟩) fun p=>pA base W J (K p.1) p.2.t Q
 | .call f args K,t,Q=>W f args t fun v t'=>pA base W J (K v) t' Q
 | .callv f args K,t,Q=>cD (mN f args) fun p=>W p.1 p.2 t fun v t'=>pA base W J (K v) t' Q
 | .asI k v K,t,Q=>cD (z6f k v) fun n=>pA base W J (K n) t Q
 | .asB v K,t,Q=>cD v.asBool fun n=>pA base W J (K n) t Q
 | .asS v K,t,Q=>cD v.asStr fun n=>pA base W J (K n) t Q
 | .asG zs v K,t,Q=>cD (zs7 zs v) fun X=>pA base W J (K X) t Q
 | .jump i vals,t,Q=>J i vals t Q
 | .range np f i m vals K R,t,Q=>256<=base/\∀l r,t.get l=none->base<=l->r.state=.ready->r.pending=none →
   (∀args t1 Q1,args.length=m->t1.get l=some (.loop r)->J i (vals++args) (t1.del l) (fun v t2=>t2.get l=none->∃b,v=.bool b/\Q1 v (t2.set l (.loop (zhj b r))))->W (yo+l) args t1 Q1) →
   cD (qX np f l) fun p=>W p.1 p.2 (t.set l (.loop r)) fun _ t'=>(t'.get l=some (.loop r)/\pA base W J K (t'.del l) Q)\/(t'.get l=some (.loop (zhj false r))/\pA base W J R (t'.del l) Q)
abbrev Xt:=Nat->Option qA
def XLe (X Y:Xt):Prop:=∀b y,X b=some y->Y b=some y
def XLe.refl(X:Xt):XLe X X:=fun _ _ h=>h
def XLe.trans{X Y Z:Xt}(h:XLe X Y)(k:XLe Y Z):XLe X Z:=fun b y e=>k b y (h b y e)
structure Ov (base:Nat) (t:Tr qA) (X:Xt) (H:xA):Prop where
 base:base<=H.next
 same:∀b,X b=none->H.t.get b=t.get b
 ext:∀b y,X b=some y->H.t.get b=some y/\t.get b=none/\b<H.next
 lt:∀b y,t.get b=some y->b<H.next
def HLe (H H':xA):Prop:=∀b y,H.t.get b=some y->H'.t.get b=some y
def cM(e e':nC):Prop:=∀i v,zzj i e=some v->zzj i e'=some v
section
variable {base:Nat}{t:Tr qA}{X:Xt}{H HA:xA}{e e':nC}{C:oA}{v:zA}
def Ov.notX(h:Ov base t X HA){b:Nat}{y:qA}(hb:t.get b=some y):X b=none:=by
 cases hx:X b with
 | none=>rfl
 | some z=>have:=(h.ext b z hx).2.1;rw[hb]at this;cases this
def Ov.up(h:Ov base t X HA){b:Nat}{y:qA}(hb:t.get b=some y):HA.t.get b=some y:=by rw[h.same b (h.notX hb)];exact hb
def Ov.le(h:Ov base t X HA){n:Nat}:HLe ⟨n,t⟩ HA:=fun _ _ hb=>h.up hb
def Ov.nextX(h:Ov base t X HA):X HA.next=none:=by
 cases hx:X HA.next with
 | none=>rfl
 | some z=>exact absurd (h.ext _ z hx).2.2 (Nat.lt_irrefl _)
def Ov.nextT(h:Ov base t X HA):t.get HA.next=none:=by
 cases hx:t.get HA.next with
 | none=>rfl
 | some z=>exact absurd (h.lt _ z hx) (Nat.lt_irrefl _)
def cL(h:HLe H HA){b:Nat}{p:Tr zA × Nat × Option Lo}(hb:fC H b=some p):fC HA b=some p:=by
 unfold fC at hb ⊢;rw[uA]at hb ⊢;obtain⟨y,h1,h2⟩:=hb;exact⟨y,h _ _ h1,h2⟩
def mT(h:HLe H HA){b:Nat}{p:List (zA × zA)}(hb:bH H b=some p):bH HA b=some p:=by
 unfold bH at hb ⊢;rw[uA]at hb ⊢;obtain⟨y,h1,h2⟩:=hb;exact⟨y,h _ _ h1,h2⟩
def iC(h:cM e e'){x:Operand}(hx:ev x e=some v):ev x e'=some v:=by
 cases x with
 | tmp i=>exact h i v hx
 | const c=>exact hx
 | global g=>exact hx
 | func f=>exact hx
def zh0(h:cM e e'){l:List Operand}{vs:List zA}(hx:evs l e=some vs):evs l e'=some vs:=lX l (fun _ _ k=>iC h k) hx
def zp5(h:cM e e'){x:Option Operand}{r:Option zA}(hx:evo x e=some r):evo x e'=some r:=by
 cases x with
 | none=>exact hx
 | some x=>
  have hx:ob (ev x e) (fun v=>some (some v))=some r:=hx
  show ob (ev x e') (fun v=>some (some v))=some r
  rw[uA]at hx ⊢
  obtain⟨a,h1,h2⟩:=hx
  exact⟨a,iC h h1,h2⟩
def zh1(h:cM e e'){l:List (Nat × Operand)}{vs:List (Nat × zA)}(hx:evp l e=some vs):evp l e'=some vs:=
 lX l (fun a b k=>by rw[uA]at k ⊢;obtain⟨u,h1,h2⟩:=k;exact⟨u,iC h h1,h2⟩) hx
def zgt(h:cM e e'){c:Call}{p:zA × zA}(hx:two c e=some p):two c e'=some p:=by
 unfold two at hx ⊢
 split at hx
 ·rw[uA]at hx ⊢
  obtain⟨a,h1,hx⟩:=hx
  refine⟨a,iC h h1,?_⟩
  rw[uA]at hx ⊢
  obtain⟨b,h2,hx⟩:=hx
  exact⟨b,iC h h2,hx⟩
 ·cases hx
def cW(h:HLe H HA){ty:Nat}{a:zA}(hx:mA C ty H a=some v):mA C ty HA a=some v:=by
 unfold mA at hx ⊢
 simp only[uA]at hx ⊢
 obtain⟨p,h1,y,h2,c,h3,h4⟩:=hx
 exact⟨p,h1,y,h2,c,cL h h3,h4⟩
def zax(h:HLe H HA){s d:uC}{a:zA}(hx:gL C s d a H=some v):gL C s d a HA=some v:=by
 unfold gL at hx ⊢
 split at hx
 ·rename_i k hk;exact hx
 ·rename_i hk
  rw[zB]at hx ⊢
  refine⟨hx.1,?_⟩
  have hx:=hx.2
  rw[iB]at hx ⊢
  split at hx
  ·rename_i e;rw[yab e];exact hx
  ·rename_i e
   rw[yaa e];simp only[uA,zB]at hx ⊢
   obtain⟨a1,h1,b1,h2,k1,h3,h4,h5⟩:=hx
   refine⟨a1,h1,b1,h2,k1,h3,h4,?_⟩
   unfold uT at h5 ⊢
   split at h5
   ·simp only[uA]at h5 ⊢
    obtain⟨c,g1,g2⟩:=h5
    exact⟨c,cL h g1,g2⟩
   ·exact h5
def zqy(h:HLe H HA){s d:Nat}{a:zA}(hx:xK C s d H a=some v):xK C s d HA a=some v:=by
 unfold xK at hx ⊢
 simp only[uA]at hx ⊢
 obtain⟨a1,h1,b1,h2,h3⟩:=hx
 exact⟨a1,h1,b1,h2,zax h h3⟩
def zel(h:HLe H HA){b size cap l:Nat}{arr:Bool}(hx:sH H b size cap l arr=true):sH HA b size cap l arr=true:=by
 unfold sH at hx ⊢
 cases hc:fC H b with
 | none=>rw[hc]at hx;cases hx
 | some c=>rw[hc]at hx;rw[cL h hc];exact hx
def aY(h:HLe H HA){ty:uC}{a:zA}{l r:Option zA}(hx:iJ C H ty a l r=some v):iJ C HA ty a l r=some v:=by
 have row:∀ {arr e b off len cap},fK C H arr e b off len cap l r=some v->fK C HA arr e b off len cap l r=some v:=by
  intro arr e b off len cap hx;unfold fK at hx ⊢
  simp only[uA]at hx ⊢
  obtain⟨a1,h1,b1,h2,hx⟩:=hx
  refine⟨a1,h1,b1,h2,?_⟩
  cases hb:fC H b with
  | none=>
   have e1:rI H b a1.size cap b1.1 arr=false:=by unfold rI;rw[hb]
   have e2:sH H b a1.size cap b1.1 arr=false:=by unfold sH;rw[hb]
   rw[e1,e2,yay,yay]at hx
   cases hx
  | some c=>
   have e1:rI HA b a1.size cap b1.1 arr=rI H b a1.size cap b1.1 arr:=by unfold rI;rw[hb,cL h hb]
   have e2:sH HA b a1.size cap b1.1 arr=sH H b a1.size cap b1.1 arr:=by unfold sH;rw[hb,cL h hb]
   rw[e1,e2];exact hx
 unfold iJ at hx ⊢
 split at hx
 ·exact hx
 ·split at hx
  ·rw[uA]at hx ⊢;obtain⟨a1,h1,h2⟩:=hx;exact⟨a1,h1,row h2⟩
  ·split at hx
   ·rw[uA]at hx ⊢;obtain⟨a1,h1,h2⟩:=hx;exact⟨a1,h1,row h2⟩
   ·exact hx
def zll(h:HLe H HA){ty:Nat}{a:zA}{l r:Option zA}(hx:gF C ty H a l r=some v):gF C ty HA a l r=some v:=by
 unfold gF at hx ⊢
 rw[uA]at hx ⊢
 obtain⟨a1,h1,h2⟩:=hx
 exact⟨a1,h1,aY h h2⟩
def zas(h:HLe H HA){m:zA}{l:List (zA × zA)}(hx:zO H m=some l):zO HA m=some l:=by
 unfold zO at hx ⊢
 split at hx
 ·exact mT h hx
 ·exact hx
def zin(h:HLe H HA){ty:Nat}{m k:zA}{ok:Bool}(hx:zP C ty H m k ok=some v):zP C ty HA m k ok=some v:=by
 unfold zP at hx ⊢
 simp only[uA,zB]at hx ⊢
 obtain⟨a1,h1,b1,h2,c1,h3,h4,d1,h5,es,h6,h7⟩:=hx
 exact⟨a1,h1,b1,h2,c1,h3,h4,d1,h5,es,zas h h6,h7⟩
def zdd(h:HLe H HA){ty:uC}{a:zA}{n:Nat}(hx:zth H ty a=some n):zth HA ty a=some n:=by
 unfold zth at hx ⊢
 split at hx
 ·exact hx
 ·split at hx
  ·exact hx
  ·split at hx
   ·exact hx
   ·split at hx
    ·rw[zB,uA]at hx ⊢
     obtain⟨h1,l,h2,h3⟩:=hx
     exact⟨h1,l,mT h h2,h3⟩
    ·exact hx
def zts(h:HLe H HA){ty:Nat}{a:zA}(hx:ztf C ty H a=some v):ztf C ty HA a=some v:=by
 unfold ztf at hx ⊢
 simp only[uA]at hx ⊢
 obtain⟨a1,h1,n,h2,h3⟩:=hx
 exact⟨a1,h1,n,zdd h h2,h3⟩
def zwx{ty:Nat}{a:Operand}:uO ty a C e H=ob (ev a e) fun v=>mA C ty H v:=rfl
def zw0{s d:Nat}{x:Operand}{u:zA}(hx:ev x e=some u):oK s d x C e H=xK C s d H u:=by unfold oK xK;rw[hx];rfl
def z1h{ty:Nat}{x:Operand}{lo hi:Option Operand}{a:zA}{l r:Option zA}(h1:ev x e=some a)(h2:evo lo e=some l)(h3:evo hi e=some r):nQ ty x lo hi C e H=gF C ty H a l r:=by unfold nQ gF;rw[h1,vA,h2,vA,h3,vA]
def za7{s f:Nat}{x:Operand}{u:zA}(hx:ev x e=some u):rO s x f C e H=vB C s f u:=by
 unfold rO vB gN;rw[hx]
 cases C.tys.get s with
 | none=>rfl
 | some ty=>
  simp only[vA]
  cases ty.desc.asStruct with
  | none=>rfl
  | some fs=>
   simp only[vA]
   cases lC fs f with
   | none=>rfl
   | some fd=>simp only[vA];cases hb:(!Nat.beq fd.2.2 0)<;>rfl
def za6{ty:Nat}{x i:Operand}{u w:zA}(hx:ev x e=some u)(hi:ev i e=some w):tO ty x i C e H=zC C ty u w:=by unfold tO zC;rw[hx,hi];rfl
def z1k{ty:Nat}{x i:Operand}{u w:zA}(hx:ev x e=some u)(hi:ev i e=some w):sO ty x i C e H=xQ C ty u w:=by unfold sO xQ;rw[hx,hi];rfl
def z33{x:Operand}{u:zA}(hx:ev x e=some u):z1i x C e H=oB u:=by unfold z1i oB;rw[hx];rfl
def zr4{x:Operand}{i:Nat}{u:zA}(hx:ev x e=some u):qO x i C e H=zD i u:=by unfold qO zD;rw[hx];rfl
def lBin_v{op:BinOp}{ty:Nat}{x y:Operand}{u w:zA}(hx:ev x e=some u)(hy:ev y e=some w):zw2 op ty x y C e H=(binA op).f C ty x y u w:=by unfold zw2;rw[hx,hy];rfl
def zw3{x:Operand}{a:Nat}{ok:Bool}{u:zA}(hx:ev x e=some u):pO x a ok C e H=zln C a ok u:=by
 unfold pO zln;rw[hx];rfl
def zww{ty:Nat}{x i:Operand}{ok:Bool}{m k:zA}(hx:ev x e=some m)(hi:ev i e=some k):vO ty x i ok C e H=zP C ty H m k ok:=by unfold vO zP;rw[hx,hi];rfl
def lLen_v{c:Call}{ty:Nat}{x:Operand}{u:zA}(h1:lC c.argTypes.toList 0=some ty)(h2:lC c.args.toList 0=some x)(hx:ev x e=some u):zmz c C e H=ztf C ty H u:=by unfold zmz ztf;rw[h1,vA,h2,vA,hx];rfl
def z2e(he:cM e e'){op:Op}(hp:xN op=true\/(∃s d x,op=.convert s d x/\(uG C d=1\/uG C s=2))\/(∃c,op=.call c/\(c.callee=.builtin .max\/c.callee=.builtin .min))){H':xA}(h:(mE op).f C e H=some v):(mE op).f C e' H'=some v:=by
 rcases hp with hp | hp | hp
 ·cases op<;>simp only[xN]at hp<;>try (cases hp;done)
  case move x=>exact iC he h
  case assign x=>exact iC he h
  case pick c a b=>
   have h:ob (ev c e) (fun c=>ob c.asBool fun c=>bif c then ev a e else ev b e)=some v:=h
   show ob (ev c e') (fun c=>ob c.asBool fun c=>bif c then ev a e' else ev b e')=some v
   simp only[uA]at h ⊢
   obtain⟨u,h1,w,h2,h3⟩:=h
   refine⟨u,iC he h1,w,h2,?_⟩
   cases w with
   | true=>exact iC he h3
   | false=>exact iC he h3
  case nilCheck x=>
   have h:ob (ev x e) (fun u=>jA (Nat.beq u.tag 4||Nat.beq u.tag 9) (some u))=some v:=h
   show ob (ev x e') (fun u=>jA (Nat.beq u.tag 4||Nat.beq u.tag 9) (some u))=some v
   rw[uA]at h ⊢
   obtain⟨u,h1,h2⟩:=h
   exact⟨u,iC he h1,h2⟩
  case binOp op t x y u=>
   have h:zw2 op t x y C e H=some v:=h
   show zw2 op t x y C e' H'=some v
   unfold zw2 at h ⊢
   simp only[uA]at h ⊢
   obtain⟨a,h1,b,h2,h3⟩:=h
   exact⟨a,iC he h1,b,iC he h2,h3⟩
  case unOp op t x=>
   have h:lUn op x C e H=some v:=h
   show lUn op x C e' H'=some v
   unfold lUn at h ⊢
   rw[uA]at h ⊢
   obtain⟨a,h1,h2⟩:=h
   exact⟨a,iC he h1,h2⟩
  case makeInterface t x=>
   have h:pR t x C e H=some v:=h
   show pR t x C e' H'=some v
   unfold pR at h ⊢
   simp only[uA,zB]at h ⊢
   obtain⟨a,h1,h2,b,h3,h4⟩:=h
   exact⟨a,h1,h2,b,iC he h3,h4⟩
  case makeFunc fn a b=>
   have h:(oR fn a b).f C e H=some v:=h
   show(oR fn a b).f C e' H'=some v
   unfold oR at h ⊢
   split at h
   ·show zwz _ a b C e' H'=some v
    unfold zwz at h ⊢
    simp only[uA]at h ⊢
    obtain⟨x,h1,y,h2,h3⟩:=h
    exact⟨x,zh0 he h1,y,zh0 he h2,h3⟩
   ·cases h
  case fieldAddr s x f=>
   have h:rO s x f C e H=some v:=h
   show rO s x f C e' H'=some v
   unfold rO at h ⊢
   simp only[uA,zB]at h ⊢
   obtain⟨a,h1,b,h2,c,h3,h4,u,h5,h6⟩:=h
   exact⟨a,h1,b,h2,c,h3,h4,u,iC he h5,h6⟩
  case field t x f=>
   have h:nR t x f C e H=some v:=h
   show nR t x f C e' H'=some v
   unfold nR at h ⊢
   simp only[uA]at h ⊢
   obtain⟨a,h1,b,h2,c,h3,u,h5,h6⟩:=h
   exact⟨a,h1,b,h2,c,h3,u,iC he h5,h6⟩
  case indexAddr t x i=>
   have h:tO t x i C e H=some v:=h
   show tO t x i C e' H'=some v
   unfold tO at h ⊢
   simp only[uA]at h ⊢
   obtain⟨a,h1,b,h2,c,h3,h4⟩:=h
   exact⟨a,h1,b,iC he h2,c,iC he h3,h4⟩
  case index t x i=>
   have h:sO t x i C e H=some v:=h
   show sO t x i C e' H'=some v
   unfold sO at h ⊢
   simp only[uA]at h ⊢
   obtain⟨a,h1,b,h2,c,h3,h4⟩:=h
   exact⟨a,h1,b,iC he h2,c,iC he h3,h4⟩
  case extract t i=>
   have h:qO t i C e H=some v:=h
   show qO t i C e' H'=some v
   unfold qO at h ⊢
   rw[uA]at h ⊢
   obtain⟨a,h1,h2⟩:=h
   exact⟨a,iC he h1,h2⟩
  case build t ps=>
   have h:qP t ps C e H=some v:=h
   show qP t ps C e' H'=some v
   unfold qP at h ⊢
   rw[uA]at h ⊢
   obtain⟨a,h1,h⟩:=h
   refine⟨a,h1,?_⟩
   rw[uA]at h ⊢
   obtain⟨b,h2,h⟩:=h
   exact⟨b,zh1 he h2,h⟩
  case typeAssert x t u ok=>
   have h:pO x u ok C e H=some v:=h
   show pO x u ok C e' H'=some v
   unfold pO at h ⊢
   rw[uA]at h ⊢
   obtain⟨a,h1,h⟩:=h
   refine⟨a,h1,?_⟩
   rw[zB]at h ⊢
   refine⟨h.1,?_⟩
   have h:=h.2
   rw[uA]at h ⊢
   obtain⟨b,h2,h⟩:=h
   exact⟨b,iC he h2,h⟩
 ·obtain⟨s,d,x,rfl,hp⟩:=hp
  have h:oK s d x C e H=some v:=h
  show oK s d x C e' H'=some v
  unfold oK at h ⊢
  simp only[uA]at h ⊢
  obtain⟨u,h1,sy,h2,dy,h3,h4⟩:=h
  refine⟨u,iC he h1,sy,h2,dy,h3,?_⟩
  unfold gL at h4 ⊢
  split at h4
  ·exact h4
  ·rename_i hd
   rw[zB]at h4 ⊢
   refine⟨h4.1,?_⟩
   have h4:=h4.2
   rw[iB]at h4 ⊢
   split at h4
   ·rename_i e;rw[yab e];exact h4
   ·rename_i e
    exfalso
    rcases hp with hp | hp
    ·unfold uG at hp
     rw[h3]at hp;have hp:dy.desc.tag=1:=hp
     cases hx:dy.desc<;>rw[hx]at hp hd<;>first
      | (cases hp;done)
      | (cases hd;done)
    ·unfold uG at hp
     rw[h2]at hp;have hp:sy.desc.tag=2:=hp
     simp only[uA]at h4;obtain⟨el,h5,_⟩:=h4
     cases hx:sy.desc<;>rw[hx]at hp h5<;>first
      | (cases hp;done)
      | (cases h5;done)
 ·obtain⟨c,rfl,hc⟩:=hp
  rcases hc with hc | hc
  ·have h:(kM c c.callee).f C e H=some v:=h
   show(kM c c.callee).f C e' H'=some v
   rw[hc]at h ⊢
   have h:zwv c C e H=some v:=h
   show zwv c C e' H'=some v
   unfold zwv at h ⊢
   rw[uA]at h ⊢
   obtain⟨p,h1,h2⟩:=h
   exact⟨p,zgt he h1,h2⟩
  ·have h:(kM c c.callee).f C e H=some v:=h
   show(kM c c.callee).f C e' H'=some v
   rw[hc]at h ⊢
   have h:zwt c C e H=some v:=h
   show zwt c C e' H'=some v
   unfold zwt at h ⊢
   rw[uA]at h ⊢
   obtain⟨p,h1,h2⟩:=h
   exact⟨p,zgt he h1,h2⟩
end
end
end Go.Am
