/- Code as a function: limits. -/
import Derived.Test.YtfijloeeppcipaaGreatDoorH04
set_option linter.all false
noncomputable section
namespace Go.Am
open Go Go.RowKit
section
def zyr{α:Type}{f:Nat->Option α}{r:α}(h:lim f=some r):∃n,f n=some r:=by
 unfold lim at h;by_cases hx:∃n r,f n=some r
 ·rw[dif_pos hx]at h;exact⟨_,h⟩
 ·rw[dif_neg hx]at h;cases h
structure zms {α β γ:Type} (ks:Nat->α->β->Option γ) (k:α->β->Option γ):Prop where
 up:∀n,Le2 (ks n) (ks (n+1))
 ex:∀a b x,k a b=some x->∃n,ks n a b=some x
def zvt{α β γ:Type}{ks:Nat->α->β->Option γ}(h:∀n,Le2 (ks n) (ks (n+1))){n m:Nat}(hnm:n<=m):Le2 (ks n) (ks m):=by
 induction hnm with
 | refl=>exact fun _ _ _ h=>h
 | step _ ih=>exact fun a b x hx=>h _ _ _ _ (ih a b x hx)
structure z5x (φs:Nat->Ora) (φ:Ora):Prop where
 up:∀n,OLe (φs n) (φs (n+1))
 ex:∀f a H x,φ f a H=some x->∃n,φs n f a H=some x
def z5x.le{φs:Nat->Ora}{φ:Ora}(h:z5x φs φ){n m:Nat}(hnm:n<=m):OLe (φs n) (φs m):=by
 induction hnm with
 | refl=>exact fun _ _ _ _ h=>h
 | step _ ih=>exact fun f a H x hx=>h.up _ _ _ _ _ (ih f a H x hx)
structure zzap (κs:Nat->Kt) (κ:Kt):Prop where
 norm:zms (fun n=>(κs n).norm) κ.norm
 exit:∀i,zms (fun n=>(κs n).exit i) (κ.exit i)
 ret:zms (fun n=>(κs n).ret) κ.ret
section
variable {C:oA}{φ φ':Ora}{φs:Nat->Ora}{all:Array Oper}{N fn:Nat}
def zzr{g g':Kt->Tm->xA->wB}{κ κ':Kt}(hκ:KLe κ κ')(hg:∀ κ κ',KLe κ κ'->Le2 (g κ) (g' κ'))(live:List Nat):∀m,Le2 (Nat.rec (motive:=fun _=>Tm->xA->wB) (fun _ _=>none) (fun _ r tm H=>g ⟨r,κ.exit,κ.ret⟩ (keep live tm) H) m)
  (Nat.rec (motive:=fun _=>Tm->xA->wB) (fun _ _=>none) (fun _ r tm H=>g' ⟨r,κ'.exit,κ'.ret⟩ (keep live tm) H) m):=by
 intro m;induction m with
 | zero=>intro a b x h;cases h
 | succ m ih=>exact fun a b x h=>hg ⟨_,_,_⟩ ⟨_,_,_⟩ ⟨ih,hκ.exit,hκ.ret⟩ _ _ _ h
def KLe.refl(κ:Kt):KLe κ κ:=⟨fun _ _ _ h=>h,fun _ _ _ _ h=>h,fun _ _ _ h=>h⟩
def zok{g:Kt->Tm->xA->wB}{κ:Kt}(hg:∀ κ κ',KLe κ κ'->Le2 (g κ) (g κ'))(live:List Nat):∀m,Le2 (Nat.rec (motive:=fun _=>Tm->xA->wB) (fun _ _=>none) (fun _ r tm H=>g ⟨r,κ.exit,κ.ret⟩ (keep live tm) H) m)
  (Nat.rec (motive:=fun _=>Tm->xA->wB) (fun _ _=>none) (fun _ r tm H=>g ⟨r,κ.exit,κ.ret⟩ (keep live tm) H) (m+1)):=by
 intro m;induction m with
 | zero=>intro a b x h;cases h
 | succ m ih=>exact fun a b x h=>hg ⟨_,_,_⟩ ⟨_,_,_⟩ ⟨ih,(KLe.refl κ).exit,(KLe.refl κ).ret⟩ _ _ _ h
def aT(hφ:OLe φ φ'):∀(c:qD) (κ κ':Kt),KLe κ κ'->Le2 (rD C φ fn N c κ) (rD C φ' fn N c κ'):=by
 have self:∀(ψ:Ora),OLe ψ ψ:=fun _ _ _ _ _ h=>h
 intro c;suffices h:∀ φ φ',OLe φ φ'->∀(κ κ':Kt),KLe κ κ'->Le2 (rD C φ fn N c κ) (rD C φ' fn N c κ') from h φ φ' hφ
 induction c with
 | skip=>exact fun _ _ _ κ κ' hκ=>hκ.norm
 | region id ops d=>exact fun _ _ hφ κ κ' hκ=>zbm hφ hκ.norm
 | seq a b iha ihb=>exact fun _ _ hφ κ κ' hκ=>iha _ _ hφ _ _ ⟨ihb _ _ hφ _ _ hκ,hκ.exit,hκ.ret⟩
 | cond c a b iha ihb=>
  intro φ φ' hφ κ κ' hκ tm H x h;have h:(ob (ob (ev c (.now tm)) zA.asBool) fun t=>Bool.rec (motive:=fun _=>wB) (rD C φ fn N b κ tm H) (rD C φ fn N a κ tm H) t)=some x:=h
  show(ob (ob (ev c (.now tm)) zA.asBool) fun t=>Bool.rec (motive:=fun _=>wB) (rD C φ' fn N b κ' tm H) (rD C φ' fn N a κ' tm H) t)=some x
  rw[sA]at h ⊢
  obtain⟨t,h1,h2⟩:=h
  refine⟨t,h1,?_⟩
  cases t with
  | true=>exact iha _ _ hφ _ _ hκ _ _ _ h2
  | false=>exact ihb _ _ hφ _ _ hκ _ _ _ h2
 | block id c ih=>
  intro φ φ' hφ κ κ' hκ;refine ih _ _ hφ _ _ ⟨hκ.norm,fun i tm H x h=>?_,hκ.ret⟩
  simp only[xH]at h ⊢
  split at h
  ·rename_i e;rw[yab e];exact hκ.norm _ _ _ h
  ·rename_i e;rw[yaa e];exact hκ.exit _ _ _ _ h
 | loop live c ih=>
  intro φ φ' hφ κ κ' hκ tm H x h;obtain⟨m,hm⟩:=zyr h
  refine(zca fun m y hy=>zok (ih _ _ (self φ')) live.kept m _ _ _ hy).2 ⟨m,?_⟩
  exact zzr hκ (ih _ _ hφ) live.kept m _ _ _ hm
 | exit id=>exact fun _ _ _ κ κ' hκ=>hκ.exit id
 | ret=>exact fun _ _ _ κ κ' hκ=>hκ.ret
 | cut live c ih=>exact fun _ _ hφ κ κ' hκ tm H x h=>ih _ _ hφ _ _ hκ _ _ _ h
 | range i pl f ps id ops c ih=>exact fun _ _ hφ κ κ' hκ tm H x h=>zdg hφ hκ _ _ _ h
def zqk(hφ:z5x φs φ){r:dI}{H:xA}{ks:Nat->zA->xA->wB}{k:zA->xA->wB}(hk:zms ks k){x:zA × xA}(h:oF φ r H k=some x):∃n,oF (φs n) r H (ks n)=some x:=by
 cases r<;>simp only[oF]at h ⊢<;>try (cases h;done)
 case val v H'=>exact hk.ex _ _ _ h
 case enter f args=>
  rw[sA]at h;obtain⟨p,h1,h2⟩:=h
  obtain⟨n,hn⟩:=hφ.ex _ _ _ _ h1
  obtain⟨m,hm⟩:=hk.ex _ _ _ h2
  exact⟨max n m,by rw[sA];exact⟨p,hφ.le (Nat.le_max_left n m) _ _ _ _ hn,zvt hk.up (Nat.le_max_right n m) _ _ _ hm⟩⟩
 case round l args=>
  rw[sA]at h;obtain⟨p,h1,h2⟩:=h
  obtain⟨n,hn⟩:=hφ.ex _ _ _ _ h1
  obtain⟨m,hm⟩:=hk.ex _ _ _ h2
  exact⟨max n m,by rw[sA];exact⟨p,hφ.le (Nat.le_max_left n m) _ _ _ _ hn,zvt hk.up (Nat.le_max_right n m) _ _ _ hm⟩⟩
def zko{t:Nat}{ks:Nat->zA->xA->wB}{k:zA->xA->wB}(hk:zms ks k):zms (fun n v H=>xJ C t v fun v=>ks n v H) (fun v H=>xJ C t v fun v=>k v H):=by
 refine⟨fun n=>za1 (hk.up n),fun v H x h=>?_⟩
 rw[cK]at h;obtain⟨n,hn⟩:=hk.ex _ _ _ h.2
 exact⟨n,by rw[cK];exact⟨h.1,hn⟩⟩
def z3j(hφ:z5x φs φ){κs:Nat->Tm->xA->wB}{κ:Tm->xA->wB}(hκ:zms κs κ):∀(l:List Oper),zms (fun n=>aJ C (φs n) all N (κs n) l) (aJ C φ all N κ l):=by
 intro l;refine⟨fun n=>zdk (hφ.up n) (hκ.up n) l,?_⟩
 induction l with
 | nil=>exact hκ.ex
 | cons o l ih=>
  intro tm H x h;rw[oT,sA]at h;obtain⟨w,h1,h2⟩:=h
  split at h2
  ·rename_i e
   obtain⟨n,hn⟩:=zqk hφ (zko (ks:=fun n v H'=>aJ C (φs n) all N (κs n) l (putA N tm o.dst v) H') (k:=fun v H'=>aJ C φ all N κ l (putA N tm o.dst v) H') ⟨fun n v H' y hy=>zdk (hφ.up n) (hκ.up n) l _ _ _ hy,fun v H' y hy=>ih _ _ _ hy⟩) h2
   exact⟨n,by show aJ C (φs n) all N (κs n) (o::l) tm H=some x;rw[oT,sA];exact⟨w,h1,by rw[yab e];exact hn⟩⟩
  ·rename_i e
   obtain⟨n,hn⟩:=ih _ _ _ h2
   exact⟨n,by show aJ C (φs n) all N (κs n) (o::l) tm H=some x;rw[oT,sA];exact⟨w,h1,by rw[yaa e];exact hn⟩⟩
variable {old:Tm}{olds:List (Nat × List Nat)}
def qZ{H:xA}{ks:Nat->Tm->wB}{k:Tm->wB}(hk:∀tm x,k tm=some x->∃n,ks n tm=some x):∀(l:List Nat) tm x,jG C H all N old olds k l tm=some x->∃n,jG C H all N old olds (ks n) l tm=some x:=by
 intro l;induction l with
 | nil=>exact hk
 | cons i l ih=>
  intro tm x h;simp only[wY]at h ⊢
  rw[sA]at h;obtain⟨o,h1,h⟩:=h
  rw[sA]at h;obtain⟨w,h3,h4⟩:=h
  split at h4
  ·rename_i e
   rw[sA]at h4;obtain⟨v,h5,h6⟩:=h4
   rw[cK]at h6;obtain⟨n,hn⟩:=ih _ _ h6.2
   exact⟨n,by rw[h1,uA,h3,uA,yab e,h5,uA,cK];exact⟨h6.1,hn⟩⟩
  ·rename_i e
   obtain⟨n,hn⟩:=ih _ _ h4
   exact⟨n,by rw[h1,uA,h3,uA,yaa e];exact hn⟩
def zng(hφ:z5x φs φ){κs:Nat->Tm->xA->wB}{κ:Tm->xA->wB}(hκ:zms κs κ):∀(l:List uE),zms (fun n=>dG C (φs n) all N old olds (κs n) l) (dG C φ all N old olds κ l):=by
 intro l;refine⟨fun n=>vZ (hφ.up n) (hκ.up n) l,?_⟩
 induction l with
 | nil=>exact hκ.ex
 | cons st l ih=>
  intro tm H x h
  cases hg:cN all st with
  | true=>
   rw[aV hg,qY]at h;obtain⟨h0,es,H',h1,h2,h3⟩:=h
   obtain⟨n,hn⟩:=qZ (fun tm x hx=>ih tm H' x hx) _ _ _ h3
   exact⟨n,by show dG C (φs n) all N old olds (κs n) (st::l) tm H=some x;rw[aV hg,qY];exact⟨h0,es,H',h1,h2,hn⟩⟩
  | false=>
  rw[kU hg,sA]at h;obtain⟨o,h1,h⟩:=h
  rw[sA]at h;obtain⟨w,h2,h⟩:=h
  have cont:zms (fun n v H'=>rJ C H' all old olds (putA N tm o.dst v) (jG C H' all N old olds (fun tm=>dG C (φs n) all N old olds (κs n) l tm H') st.lights (putA N tm o.dst v)) st.again)
    (fun v H'=>rJ C H' all old olds (putA N tm o.dst v) (jG C H' all N old olds (fun tm=>dG C φ all N old olds κ l tm H') st.lights (putA N tm o.dst v)) st.again):=by
   refine⟨fun n v H' y hy=>zey (xY (fun tm x hx=>vZ (hφ.up n) (hκ.up n) l _ _ _ hx) _ _ _ (wX _ hy).2) _ hy,fun v H' y hy=>?_⟩
   obtain⟨n,hn⟩:=qZ (fun tm x hx=>ih tm H' x hx) _ _ _ (wX _ hy).2
   exact⟨n,zey hn _ hy⟩
  simp only[]at h;split at h
  ·rename_i e
   obtain⟨n,hn⟩:=zqk hφ (zko cont) h
   exact⟨n,by show dG C (φs n) all N old olds (κs n) (st::l) tm H=some x;rw[kU hg,h1,uA,h2,uA];simp only[];rw[yab e];exact hn⟩
  ·rename_i e
   obtain⟨n,hn⟩:=cont.ex _ _ _ h
   exact⟨n,by show dG C (φs n) all N old olds (κs n) (st::l) tm H=some x;rw[kU hg,h1,uA,h2,uA];simp only[];rw[yaa e];exact hn⟩
def znp(hφ:z5x φs φ){κs:Nat->Tm->xA->wB}{κ:Tm->xA->wB}(hκ:zms κs κ){id:Nat}{draw:Bool}:zms (fun n=>dU C (φs n) fn N (κs n) id all draw) (dU C φ fn N κ id all draw):=by
 refine⟨fun n=>zbm (hφ.up n) (hκ.up n),fun tm H x h=>?_⟩
 cases draw with
 | false=>exact(z3j hφ hκ _).ex _ _ _ h
 | true=>
  have h:(ob (ob (C.plans.get fn) fun t=>t.get id) fun p=>cA (fN all p) (jG C H all N tm.cut p.olds (fun tm'=>dG C φ all N tm.cut p.olds κ p.stages tm' H) p.first tm.cut))=some x:=h
  rw[sA]at h;obtain⟨p,h1,h⟩:=h
  rw[xB]at h;obtain⟨n,hn⟩:=qZ (fun tm' x hx=>(zng hφ hκ p.stages).ex tm' H x hx) _ _ _ h.2
  refine⟨n,?_⟩
  show(ob (ob (C.plans.get fn) fun t=>t.get id) fun p=>cA (fN all p) (jG C H all N tm.cut p.olds (fun tm'=>dG C (φs n) all N tm.cut p.olds (κs n) p.stages tm' H) p.first tm.cut))=some x
  rw[h1,uA,xB];exact⟨h.1,hn⟩
def zf7(hφ:z5x φs φ){κs:Nat->Kt}{κ:Kt}(hκ:zzap κs κ){f:Operand}{ps:List Nat}{a b:Code}:zms (fun n=>dL C (φs n) fn N (κs n) f ps a b) (dL C φ fn N κ f ps a b):=by
 have kle:∀n,KLe (κs n) (κs (n+1)):=fun n=>⟨hκ.norm.up n,fun i=>(hκ.exit i).up n,hκ.ret.up n⟩
 have klm:∀n m,n<=m->KLe (κs n) (κs m):=fun n m h=>⟨zvt hκ.norm.up h,fun i=>zvt (hκ.exit i).up h,zvt hκ.ret.up h⟩
 refine⟨fun n=>zdg (hφ.up n) (kle n),fun tm H x h=>?_⟩
 unfold dL at h;rw[sA]at h;obtain⟨v,h1,h⟩:=h
 rw[sA]at h;obtain⟨q,h2,h⟩:=h
 split at h
 ·cases h
 ·rename_i g hg
  rw[xB,sA]at h;obtain⟨h3,y,h4,h⟩:=h
  rw[sA]at h;obtain⟨r,h5,h⟩:=h
  rw[xB,sA]at h;obtain⟨h6,z,h7,h⟩:=h
  obtain⟨n,hn⟩:=hφ.ex _ _ _ _ h4
  have:∃m,pR (κs m) r.pending (tm) (endLoop y.2 (H.next+1) r)=some z:=by
   unfold pR at h7 ⊢
   split at h7
   ·exact hκ.norm.ex _ _ _ h7
   ·exact hκ.ret.ex _ _ _ h7
   ·cases h7
  obtain⟨m,hm⟩:=this
  refine⟨max n m,?_⟩
  show dL C (φs (max n m)) fn N (κs (max n m)) f ps a b tm H=some x
  unfold dL;rw[h1,uA,h2,uA,hg];simp only[];rw[xB,sA];refine⟨h3,y,hφ.le (Nat.le_max_left n m) _ _ _ _ hn,?_⟩
  rw[h5,uA,xB,sA];exact⟨h6,z,zez (klm _ _ (Nat.le_max_right n m)) _ _ _ hm,h⟩
def zo6(hφ:z5x φs φ):∀(c:qD) (κs:Nat->Kt) (κ:Kt),zzap κs κ->zms (fun n=>rD C (φs n) fn N c (κs n)) (rD C φ fn N c κ):=by
 have kle:∀ {κs:Nat->Kt} {κ:Kt},zzap κs κ->∀n,KLe (κs n) (κs (n+1)):=fun h n=>⟨h.norm.up n,fun i=>(h.exit i).up n,h.ret.up n⟩
 intro c;induction c with
 | skip=>exact fun κs κ hκ=>hκ.norm
 | region id ops d=>exact fun κs κ hκ=>znp hφ hκ.norm
 | seq a b iha ihb=>exact fun κs κ hκ=>iha (fun n=>⟨rD C (φs n) fn N b (κs n),(κs n).exit,(κs n).ret⟩) _ ⟨ihb _ _ hκ,hκ.exit,hκ.ret⟩
 | cond c a b iha ihb=>
  intro κs κ hκ;refine⟨fun n=>aT (hφ.up n) (.cond c a b) _ _ (kle hκ n),fun tm H x h=>?_⟩
  have h:(ob (ob (ev c (.now tm)) zA.asBool) fun t=>Bool.rec (motive:=fun _=>wB) (rD C φ fn N b κ tm H) (rD C φ fn N a κ tm H) t)=some x:=h
  rw[sA]at h;obtain⟨t,h1,h2⟩:=h
  have key:∀n,(Bool.rec (motive:=fun _=>wB) (rD C (φs n) fn N b (κs n) tm H) (rD C (φs n) fn N a (κs n) tm H) t:wB)=some x->rD C (φs n) fn N (.cond c a b) (κs n) tm H=some x:=by
   intro n hn;show(ob (ob (ev c (.now tm)) zA.asBool) fun t=>Bool.rec (motive:=fun _=>wB) (rD C (φs n) fn N b (κs n) tm H) (rD C (φs n) fn N a (κs n) tm H) t)=some x
   rw[h1,uA];exact hn
  cases t with
  | true=>obtain⟨n,hn⟩:=(iha _ _ hκ).ex _ _ _ h2;exact⟨n,key n hn⟩
  | false=>obtain⟨n,hn⟩:=(ihb _ _ hκ).ex _ _ _ h2;exact⟨n,key n hn⟩
 | block id c ih=>
  intro κs κ hκ;refine ih (fun n=>⟨(κs n).norm,fun i tm H=>Bool.rec (motive:=fun _=>wB) ((κs n).exit i tm H) ((κs n).norm tm H) (Nat.beq id i),(κs n).ret⟩) _ ⟨hκ.norm,fun i=>⟨fun n tm H x h=>?_,fun tm H x h=>?_⟩,hκ.ret⟩
  ·simp only[xH]at h ⊢
   split at h
   ·rename_i e;rw[yab e];exact hκ.norm.up n _ _ _ h
   ·rename_i e;rw[yaa e];exact(hκ.exit i).up n _ _ _ h
  ·simp only[xH]at h ⊢
   split at h
   ·rename_i e;obtain⟨n,hn⟩:=hκ.norm.ex _ _ _ h;exact⟨n,by rw[yab e];exact hn⟩
   ·rename_i e;obtain⟨n,hn⟩:=(hκ.exit i).ex _ _ _ h;exact⟨n,by rw[yaa e];exact hn⟩
 | loop live c ih=>
  intro κs κ hκ;refine⟨fun n=>aT (hφ.up n) (.loop live c) _ _ (kle hκ n),fun tm H x h=>?_⟩
  obtain⟨m,hm⟩:=zyr h
  have it:∀m,zms (fun n=>(Nat.rec (motive:=fun _=>Tm->xA->wB) (fun _ _=>none) (fun _ r tm H=>rD C (φs n) fn N c ⟨r,(κs n).exit,(κs n).ret⟩ (keep live.kept tm) H) m:Tm->xA->wB))
    (Nat.rec (motive:=fun _=>Tm->xA->wB) (fun _ _=>none) (fun _ r tm H=>rD C φ fn N c ⟨r,κ.exit,κ.ret⟩ (keep live.kept tm) H) m):=by
   intro m;induction m with
   | zero=>exact⟨fun _ _ _ _ h=>h,fun _ _ _ h=>by cases h⟩
   | succ m ihm=>
    have:=ih _ _ (⟨ihm,hκ.exit,hκ.ret⟩:zzap (fun n=>⟨(Nat.rec (motive:=fun _=>Tm->xA->wB) (fun _ _=>none) (fun _ r tm H=>rD C (φs n) fn N c ⟨r,(κs n).exit,(κs n).ret⟩ (keep live.kept tm) H) m:Tm->xA->wB),(κs n).exit,(κs n).ret⟩) ⟨(Nat.rec (motive:=fun _=>Tm->xA->wB) (fun _ _=>none) (fun _ r tm H=>rD C φ fn N c ⟨r,κ.exit,κ.ret⟩ (keep live.kept tm) H) m:Tm->xA->wB),κ.exit,κ.ret⟩)
    exact⟨fun n tm H x h=>this.up n _ _ _ h,fun tm H x h=>this.ex _ _ _ h⟩
  obtain⟨n,hn⟩:=(it m).ex _ _ _ hm
  exact⟨n,(zca fun m y hy=>zok (fun κ κ' h=>aT (fun _ _ _ _ h=>h) c κ κ' h) live.kept m _ _ _ hy).2 ⟨m,hn⟩⟩
 | exit id=>exact fun κs κ hκ=>hκ.exit id
 | ret=>exact fun κs κ hκ=>hκ.ret
 | cut live c ih=>exact fun κs κ hκ=>⟨fun n tm H x h=>(ih _ _ hκ).up n _ _ _ h,fun tm H x h=>(ih _ _ hκ).ex _ _ _ h⟩
 | range i pl f ps id ops c ih=>exact fun κs κ hκ=>⟨fun n tm H x h=>(zf7 hφ hκ).up n _ _ _ h,fun tm H x h=>(zf7 hφ hκ).ex _ _ _ h⟩
def z5a{live:PI}{c:qD}{κ:Kt}{tm:Tm}{H:xA}:rD C φ fn N (.loop live c) κ tm H=rD C φ fn N c ⟨rD C φ fn N (.loop live c) κ,κ.exit,κ.ret⟩ (keep live.kept tm) H:=by
 have self:OLe φ φ:=fun _ _ _ _ h=>h
 have up:∀m,Le2 (Nat.rec (motive:=fun _=>Tm->xA->wB) (fun _ _=>none) (fun _ r tm H=>rD C φ fn N c ⟨r,κ.exit,κ.ret⟩ (keep live.kept tm) H) m)
   (Nat.rec (motive:=fun _=>Tm->xA->wB) (fun _ _=>none) (fun _ r tm H=>rD C φ fn N c ⟨r,κ.exit,κ.ret⟩ (keep live.kept tm) H) (m+1)):=zok (aT self c) live.kept
 have some_iff:∀tm H x,rD C φ fn N (.loop live c) κ tm H=some x ↔ ∃m,(Nat.rec (motive:=fun _=>Tm->xA->wB) (fun _ _=>none) (fun _ r tm H=>rD C φ fn N c ⟨r,κ.exit,κ.ret⟩ (keep live.kept tm) H) m:Tm->xA->wB) tm H=some x:=
  fun tm H x=>zca fun m y hy=>up m _ _ _ hy
 have sup:zzap (fun m=>⟨(Nat.rec (motive:=fun _=>Tm->xA->wB) (fun _ _=>none) (fun _ r tm H=>rD C φ fn N c ⟨r,κ.exit,κ.ret⟩ (keep live.kept tm) H) m:Tm->xA->wB),κ.exit,κ.ret⟩) ⟨rD C φ fn N (.loop live c) κ,κ.exit,κ.ret⟩:=
  ⟨⟨up,fun tm H x h=>(some_iff tm H x).1 h⟩,fun i=>⟨fun _ _ _ _ h=>h,fun _ _ _ h=>⟨0,h⟩⟩,⟨fun _ _ _ _ h=>h,fun _ _ _ h=>⟨0,h⟩⟩⟩
 have key:∀x,rD C φ fn N (.loop live c) κ tm H=some x ↔ rD C φ fn N c ⟨rD C φ fn N (.loop live c) κ,κ.exit,κ.ret⟩ (keep live.kept tm) H=some x:=by
  intro x;rw[some_iff];constructor
  ·rintro⟨m,hm⟩
   cases m with
   | zero=>cases hm
   | succ m=>exact aT self c ⟨(Nat.rec (motive:=fun _=>Tm->xA->wB) (fun _ _=>none) (fun _ r tm H=>rD C φ fn N c ⟨r,κ.exit,κ.ret⟩ (keep live.kept tm) H) m:Tm->xA->wB),κ.exit,κ.ret⟩ ⟨rD C φ fn N (.loop live c) κ,κ.exit,κ.ret⟩ ⟨fun tm H y hy=>(some_iff tm H y).2 ⟨m,hy⟩,fun _ _ _ _ h=>h,fun _ _ _ h=>h⟩ _ _ _ hm
  ·intro h
   obtain⟨m,hm⟩:=(zo6 (φs:=fun _=>φ) ⟨fun _=>self,fun _ _ _ _ h=>⟨0,h⟩⟩ c _ _ sup).ex _ _ _ h
   exact⟨m+1,hm⟩
 cases h:rD C φ fn N (.loop live c) κ tm H with
 | some x=>exact((key x).1 h).symm
 | none=>
  cases h2:rD C φ fn N c ⟨rD C φ fn N (.loop live c) κ,κ.exit,κ.ret⟩ (keep live.kept tm) H with
  | none=>rfl
  | some x=>rw[(key x).2 h2]at h;cases h
end
end
section
def z4c:List kD->Bool
 | .reg .. :: _=>true
 | _=>false
section
variable {P:Program}{C:oA}{B N:Nat}{I:World->Prop}{μ:Mu}{w:World}{base:List Frame}{m:Machine}
def zb5(hF:zmm P C){f:Nat}{args:List zA}{args':Array Value}{H:xA}(hH:zB B N μ H w)(hl:yB μ args args'.toList){g:dB}(he:jJ C f args false=some g) :
  uD P C B N μ base (lone (Frame.enter P f args' .normal) base w) w (.next ⟨g,[],H⟩):=
 ⟨μ,_,[],w,.refl _ _,fun _ _ h=>h,Below.refl N w,hH,(aW (cur:=some H) hF he hl).1,.nil⟩
end
end
section
inductive fJ (C:oA):wE->wE->Prop
 | refl (o:wE):fJ C o o
 | step {o o':wE}:fJ C (zs7 C o) o'->fJ C o o'
 | forget {todo:List kD} {tm tm':Tm} {R:rI} {cs:List dB} {H:xA} {o':wE}:z4c todo=false->(∀i v,tm'.get i=some v->tm.get i=some v)->fJ C (.next ⟨⟨todo,tm',R⟩,cs,H⟩) o'->fJ C (.next ⟨⟨todo,tm,R⟩,cs,H⟩) o'
def fJ.trans{C:oA}{a b c:wE}(h:fJ C a b)(k:fJ C b c):fJ C a c:=by
 induction h with
 | refl=>exact k
 | step _ ih=>exact .step (ih k)
 | forget h1 h2 _ ih=>exact .forget h1 h2 (ih k)
section
variable {P:Program}{C:oA}{B N:Nat}{I:World->Prop}{μ:Mu}{w:World}{base:List Frame}{m:Machine}
def bD.forget{n:Nat}{tm tm':Tm}{tmps:Array Value}(h:bD μ n tm tmps)(hs:∀i v,tm'.get i=some v->tm.get i=some v):bD μ n tm' tmps:=⟨h.1,fun i v hv=>h.2 i v (hs i v hv)⟩
def zz7{todo:List kD}{tm tm':Tm}{R:rI}{acs:List dB}{H:xA}(hr:z4c todo=false)(hs:∀i v,tm'.get i=some v->tm.get i=some v)(h:uD P C B N μ base m w (.next ⟨⟨todo,tm,R⟩,acs,H⟩)) :
  uD P C B N μ base m w (.next ⟨⟨todo,tm',R⟩,acs,H⟩):=by
 obtain⟨μ',b,cs,w',h1,h2,h3,h4,h5,h6⟩:=h
 obtain⟨bfn,btmps,btodo,bdefers,bmode,bkind,bround⟩:=b
 refine⟨μ',_,cs,w',h1,h2,h3,h4,⟨h5.rest,?_⟩,h6⟩
 have hb:=h5.body
 simp only at hb ⊢
 split at hb
 ·rename_i hm
  rw[yab hm]
  cases hb with
  | plain a t=>exact .plain a (t.forget hs)
  | reg _ _ _ _=>cases hr
  | mid _ _ _ _ _=>cases hr
 ·rename_i hm
  rw[yaa hm];exact hb.forget hs
def uD.reach(hS:Sim P C B N I)(hI:I w){o o':wE}(h:fJ C o o'):uD P C B N μ base m w o->uD P C B N μ base m w o':=by
 induction h with
 | refl=>exact id
 | step _ ih=>exact fun h=>ih (zp9 hS hI h)
 | forget hr hs _ ih=>exact fun h=>ih (zz7 hr hs h)
end
def zi7(C:oA)(f:Nat)(ds:List vI)(fr:dB)(H:xA)(v:zA):Prop:=
 fr.R.mode=.returning/\fr.R.defers=ds/\fr.R.deferred=false/\fr.R.fn=f/\∃fn l,C.fns.get f=some fn/\gQ C H fr.tm fn.results.toList=some l/\v=uT l
def znl(r:gL)(l:Nat)(tm:Tm):dB:=⟨[.code r.assign,.beginRound,.code r.body],tm,⟨r.fn,r.n,[],.run,false,some l⟩⟩
structure pQ (C:oA) (φ:Ora):Prop where
 fn:∀f args H x,φ (.func f) args H=some x->∃g,jJ C f args false=some g/\∀acs,∃fr',fJ C (.next ⟨g,acs,H⟩) (.next ⟨fr',acs,x.2⟩)/\zi7 C f [] fr' x.2 x.1
 rd:∀l args H x,φ (.yld l) args H=some x->∃r tm,oI H l=some r/\jQ r.n r.params args r.tm=some tm/\∀c acs c',lG c x.1=some c'->fJ C (.next ⟨znl r l tm,c::acs,H⟩) (.next ⟨c',acs,x.2⟩)
abbrev z7s:=List vI->wE->zA × xA->Prop
def Fin (C:oA)(E:z7s)(ds:List vI)(o:wE)(x:zA × xA):Prop:=∃o',fJ C o o'/\E ds o' x
def Fin.step{C:oA}{E:z7s}{ds:List vI}{o:wE}{x:zA × xA}(h:Fin C E ds (zs7 C o) x):Fin C E ds o x:=by
 obtain⟨fr,h1,h2⟩:=h;exact⟨fr,.step h1,h2⟩
def Fin.of{C:oA}{E:z7s}{ds:List vI}{o o':wE}{x:zA × xA}(hr:fJ C o o')(h:Fin C E ds o' x):Fin C E ds o x:=by
 obtain⟨fr,h1,h2⟩:=h;exact⟨fr,hr.trans h1,h2⟩
abbrev RR(f N:Nat)(ro:Option Nat)(ds:List vI):rI:=⟨f,N,ds,.run,false,ro⟩
structure zu6 (C:oA) (E:z7s) (G:zA × xA->Prop) (f N:Nat) (ro:Option Nat) (acs:List dB):Prop where
 not:∀ds todo tm H x,¬ E ds (.next ⟨⟨todo,tm,RR f N ro ds⟩,acs,H⟩) x
 all:ro=none->∀x,G x
 pop:ro=none->∀r ds o x,E (⟨none,r,[]⟩::ds) o x->wQ x.2 r=some (some [])->∃o',fJ C o o'/\E ds o' (x.1,setBlk x.2 r (.deferred none))
structure zsm (C:oA) (E:z7s) (G:zA × xA->Prop) (f N:Nat) (ro:Option Nat) (acs:List dB) (κ:Kt) (k:List kD):Prop where
 norm:∀ds x tm H,G x->κ.norm tm H=some x->Fin C E ds (.next ⟨⟨k,tm,RR f N ro ds⟩,acs,H⟩) x
 exit:∀ds x i tm H,G x->κ.exit i tm H=some x->Fin C E ds (.next ⟨⟨.code (.exit i)::k,tm,RR f N ro ds⟩,acs,H⟩) x
 ret:∀ds x tm H,G x->κ.ret tm H=some x->∀k',Fin C E ds (.next ⟨⟨.code .ret::k',tm,RR f N ro ds⟩,acs,H⟩) x
structure zpn where
 i:Nat
 pl:List Nat
 f:Operand
 ps:Array Nat
 id:Nat
 ops:Array Oper
 c:qD
def cM(c:qD):List zpn:=
 qD.rec (motive:=fun _=>List zpn) [] (fun _ _ _=>[]) (fun _ _ a b=>aC a b) (fun _ _ _ a b=>aC a b) (fun _ _ a=>a) (fun _ _ a=>a) (fun _=>[]) [] (fun _ _ a=>a)
  (fun i pl f ps id ops c a=>⟨i,pl,f,ps,id,ops,c⟩::a) c
section
variable {C:oA}{φ:Ora}{E:z7s}{G:zA × xA->Prop}{ds:List vI}{ro:Option Nat}{f N:Nat}{acs:List dB}{R:rI}{κ:Kt}{k:List kD}{x:zA × xA}{all:Array Oper}
def bI(hR:R.mode.running=true){todo:List kD}{tm:Tm}{H:xA}:zs7 C (.next ⟨⟨todo,tm,R⟩,acs,H⟩)=sM C todo tm R acs H:=by
 show(bif R.mode.running then sM C todo tm R acs H else _)=_
 rw[hR];rfl
def zzz{fr c c':dB}{H:xA}{v:zA}(hr:zi7 C f [] fr H v)(hf:lG c v=some c'):zs7 C (.next ⟨fr,c::acs,H⟩)=.next ⟨c',acs,H⟩:=by
 obtain⟨h1,h2,h3,h4,fn,l,h5,h6,rfl⟩:=hr
 obtain⟨todo,tm,ffn,n,defers,mode,deferred,round⟩:=fr
 simp only at h1 h2 h3 h4 h6
 subst h1 h2 h3 h4
 show zcv C ⟨todo,tm,_⟩ (c::acs) H=_
 unfold zcv;rw[h5,uA,h6];simp only[cond_false];rw[hf];rfl
def zf3(hφ:pQ C φ){r:dI}{H:xA}{K:zA->xA->wB}(h:oF φ r H K=some x){fr:dB}
  (hK:∀v H' c',lG fr v=some c'->K v H'=some x->Fin C E ds (.next ⟨c',acs,H'⟩) x) (hfin:∀v,∃c',lG fr v=some c'):Fin C E ds (zbf r C fr acs H) x:=by
 cases r<;>simp only[oF]at h<;>try (cases h;done)
 case val v H'=>
  have h2:K v H'=some x:=h
  obtain⟨c',hc⟩:=hfin v
  show Fin C E ds (z8o v H' C fr acs H) x
  unfold z8o;rw[hc];exact hK _ _ _ hc h2
 case enter g args=>
  rw[sA]at h;obtain⟨p,h1,h4⟩:=h
  obtain⟨c',hc⟩:=hfin p.1
  show Fin C E ds (zkc g args C fr acs H) x
  unfold zkc;obtain⟨ge,he,r0⟩:=hφ.fn _ _ _ _ h1
  obtain⟨fr',r1,r2⟩:=r0 (fr::acs)
  rw[he];refine Fin.of (r1.trans (.step ?_)) (hK _ _ _ hc h4)
  rw[zzz r2 hc];exact .refl _
 case round l args=>
  rw[sA]at h;obtain⟨p,h1,h4⟩:=h
  obtain⟨c',hc⟩:=hfin p.1
  obtain⟨r,tm,e1,e2,r0⟩:=hφ.rd _ _ _ _ h1
  show Fin C E ds (zkb l args C fr acs H) x
  unfold zkb;rw[e1,uA,e2,uA];exact Fin.of (r0 _ _ _ hc) (hK _ _ _ hc h4)
def ztn(hφ:pQ C φ)(hR:R.mode.running=true)(hN:R.n=N){κn:Tm->xA->wB}(hκ:∀tm H,κn tm H=some x->Fin C E ds (.next ⟨⟨k,tm,R⟩,acs,H⟩) x) :
  ∀(l:List Oper) (tm:Tm) (H:xA),aJ C φ all N κn l tm H=some x->Fin C E ds (xO C all k R acs l tm H) x:=by
 intro l;induction l with
 | nil=>exact fun tm H h=>hκ tm H h
 | cons o l ih=>
  intro tm H h;rw[oT,sA]at h;obtain⟨w,h1,h⟩:=h
  rw[sZ,h1]
  cases w with
  | false=>rw[yaa (by simp)]at h;simp only[];rw[hN];exact ih _ _ h
  | true=>
   rw[yab rfl]at h;simp only[];generalize (wF o.op).f C (.now tm) H=r at h
   cases hv:r.asVal with
   | some p=>
    have:r=.val p.1 p.2:=by cases r<;>simp[dI.asVal]at hv;rw[<- hv]
    subst this;simp only[oF,cK]at h;obtain⟨h2,h3⟩:=h
    simp only[];rw[hN];exact ih _ _ h3
   | none=>
    refine zf3 hφ h (fun v H' c' hc hK=>?_) fun v=>⟨⟨.ops all l::k,putA R.n tm o.dst v,R⟩,by unfold lG;simp only[hR,cond_true];rfl⟩
    unfold lG at hc;simp only[hR,cond_true]at hc;have hc:some (⟨.ops all l::k,putA R.n tm o.dst v,R⟩:dB)=some c':=hc
    cases hc;refine .step ?_
    rw[bI hR,hN];rw[cK]at hK;exact ih _ _ hK.2
def yY{H:xA}{old:Tm}{olds:List (Nat × List Nat)}{K:Tm->wB}:∀(l:List Nat) (tm:Tm),jG C H all N old olds K l tm=some x->∃tm',xM C H all N old olds l tm=some tm'/\K tm'=some x:=by
 intro l;induction l with
 | nil=>exact fun tm h=>⟨tm,rfl,h⟩
 | cons i l ih=>
  intro tm h;rw[wY,sA]at h;obtain⟨o,h1,h⟩:=h
  rw[sA]at h;obtain⟨w,h2,h⟩:=h
  unfold xM;rw[h1,uA,h2,uA]
  cases w with
  | false=>rw[yaa (by simp)]at h;simp only[cond_false,uA];exact ih _ h
  | true=>
   rw[yab rfl,sA]at h;obtain⟨v,h3,h⟩:=h
   rw[cK]at h;obtain⟨h4,h⟩:=h
   simp only[cond_true];rw[h3,uA];exact ih _ h
def zr0{C:oA}{o:Op}{e:mC}{H:xA}{r:dI}(hf:gI o=true)(h:(wF o).f C e H=r)(h1:∀q,r≠mJ q):False:=by
 have key:∀q:Option (zA × xA),mJ q=r->False:=fun q e=>h1 q e.symm
 cases o<;>simp only[gI]at hf<;>first
  | (cases hf;done)
  | exact key _ h
def zhp(hφ:pQ C φ)(hR:R.mode.running=true)(hN:R.n=N){κn:Tm->xA->wB}(hκ:∀tm H,κn tm H=some x->Fin C E ds (.next ⟨⟨k,tm,R⟩,acs,H⟩) x){old:Tm}{olds:List (Nat × List Nat)} :
  ∀(l:List uE) (tm:Tm) (H:xA),dG C φ all N old olds κn l tm H=some x->Fin C E ds (.next ⟨⟨.reg all old olds l::k,tm,R⟩,acs,H⟩) x:=by
 intro l;induction l with
 | nil=>
  intro tm H h;refine .step ?_
  rw[bI hR];exact hκ tm H h
 | cons st l ih=>
  intro tm H h
  cases hg:cN all st with
  | true=>
   rw[aV hg,qY]at h;obtain⟨h0,es,H',h1,h2,h3⟩:=h
   obtain⟨tm',hl1,hl2⟩:=yY _ _ h3
   refine .step ?_
   rw[bI hR];show Fin C E ds (zsp all old olds (st::l) C k tm R acs H) x
   unfold zsp;have hg0:=kB.1 hg
   rw[gC]at hg0;have hnone:iC all.toList st.heavy=none:=by
    rw[iF];exact List.getElem?_eq_none (by omega)
   simp only[hnone];rw[iB,yab (kB.2 (by rw[gC];omega)),iB,yab (show Nat.blt (aA all.toList+aA all.toList) st.heavy=true from hg)]
   unfold zpu;rw[h0,show ∀(x:Option iM),cA true x=x from fun _=>rfl,h1,uA,h2,uA,hN,hl1,uA]
   exact ih _ _ hl2
  | false=>
  rw[kU hg,sA]at h;obtain⟨o,h1,h⟩:=h
  rw[sA]at h;obtain⟨w,h2',h⟩:=h
  have hgn:Nat.blt (aA all.toList+aA all.toList) st.heavy=false:=hg
  by_cases hfl:Nat.blt (aA all.toList) st.heavy=true
  ·-- an operation that is done early
   unfold yO at h2';unfold hvI at h1 h;rw[hfl]at h1 h2' h
   simp only[cond_true,sA,xB,ybb]at h1 h2'
   obtain⟨w',h2,⟨⟨hw,hfo⟩,hlo⟩,h2'⟩:=h2'
   cases h2'
   subst hw;simp only[if_true,cond_true]at h;have hval:∃v H',(wF o.op).f C (.mixed tm old (iD (Nat.sub st.heavy (Nat.succ (aA all.toList))) olds) (aF o.op)) H=.val v H':=by
    cases hr:(wF o.op).f C (.mixed tm old (iD (Nat.sub st.heavy (Nat.succ (aA all.toList))) olds) (aF o.op)) H with
    | val v H'=>exact⟨v,H',rfl⟩
    | enter g args=>exact(zr0 hfo hr fun q=>by cases q<;>simp[mJ]).elim
    | round g args=>exact(zr0 hfo hr fun q=>by cases q<;>simp[mJ]).elim
    | _=>rw[hr]at h;cases h
   obtain⟨v,H',hv⟩:=hval
   rw[hv]at h;have h:(xJ C o.type v fun v=>rJ C H' all old olds (putA N tm o.dst v) (jG C H' all N old olds (fun tm=>dG C φ all N old olds κn l tm H') st.lights (putA N tm o.dst v)) st.again)=some x:=h
   rw[cK]at h;obtain⟨ha,hl⟩:=wX _ h.2
   obtain⟨tm',hl1,hl2⟩:=yY _ _ hl
   refine .step ?_
   rw[bI hR];show Fin C E ds (zsp all old olds (st::l) C k tm R acs H) x
   unfold zsp;have hnone:iC all.toList st.heavy=none:=by
    rw[iF];have:=kB.1 hfl
    rw[gC]at this;exact List.getElem?_eq_none (by omega)
   simp only[hnone];rw[hfl,cond_true,hgn,cond_false];unfold zpv;rw[h1,uA,h2,uA,hv,hlo];show Fin C E ds (wJ (ob (xM C H' all R.n old olds st.lights (putA R.n tm o.dst v)) fun tm'=>some ⟨⟨.reg all old olds l::k,tm',R⟩,acs,H'⟩) 23) x
   rw[hN,hl1,uA];exact ih _ _ hl2
  have hfl:Nat.blt (aA all.toList) st.heavy=false:=Bool.eq_false_iff.2 hfl
  unfold yO at h2';unfold hvI at h1 h;rw[hfl]at h1 h2' h
  simp only[cond_false,sA]at h1 h2'
  obtain⟨w',h2,h2'⟩:=h2'
  cases h2'
  simp only[cond_false]at h;have back0:∀v H' c',lG (⟨.reg all old olds (st::l)::k,tm,R⟩:dB) v=some c' →
    rJ C H' all old olds (putA N tm o.dst v) (jG C H' all N old olds (fun tm=>dG C φ all N old olds κn l tm H') st.lights (putA N tm o.dst v)) st.again=some x->Fin C E ds (.next ⟨c',acs,H'⟩) x:=by
   intro v H' c' hc hK;unfold lG at hc;simp only[hR,cond_true]at hc;have hc:(ob (iC all.toList st.heavy) fun o=>some (⟨.reg all old olds (⟨all.size,st.lights,st.again⟩::l)::k,putA R.n tm o.dst v,R⟩:dB))=some c':=hc
   rw[h1,uA]at hc
   cases hc;refine .step ?_
   rw[bI hR,hN];obtain⟨ha,hl⟩:=wX _ hK
   obtain⟨tm',hl1,hl2⟩:=yY _ _ hl
   show Fin C E ds (zsp all old olds (⟨all.size,st.lights,st.again⟩::l) C k (putA N tm o.dst v) R acs H') x
   unfold zsp;have:iC all.toList all.size=none:=by rw[iF];simp
   simp only[this];rw[iB,yaa fun e=>by have:=kB.1 e;rw[gC]at this;simp at this]
   show Fin C E ds (zcn all old olds ⟨all.size,st.lights,st.again⟩ l C k (putA N tm o.dst v) R acs H') x
   unfold zcn;simp only[ha,hN,hl1,uA];exact ih _ _ hl2
  have back:∀v H' c',lG (⟨.reg all old olds (st::l)::k,tm,R⟩:dB) v=some c' →
    (xJ C o.type v fun v=>rJ C H' all old olds (putA N tm o.dst v) (jG C H' all N old olds (fun tm=>dG C φ all N old olds κn l tm H') st.lights (putA N tm o.dst v)) st.again)=some x->Fin C E ds (.next ⟨c',acs,H'⟩) x:=by
   intro v H' c' hc hK;rw[cK]at hK;exact back0 v H' c' hc hK.2
  refine .step ?_
  rw[bI hR];show Fin C E ds (zsp all old olds (st::l) C k tm R acs H) x
  unfold zsp;simp only[h1];unfold zpt;rw[h2];simp only[];have hfin:∀v,∃c',lG (⟨.reg all old olds (st::l)::k,tm,R⟩:dB) v=some c':=fun v=>⟨⟨.reg all old olds (⟨all.size,st.lights,st.again⟩::l)::k,putA R.n tm o.dst v,R⟩,by
   unfold lG;simp only[hR,cond_true];show(ob (iC all.toList st.heavy) fun o=>some (⟨.reg all old olds (⟨all.size,st.lights,st.again⟩::l)::k,putA R.n tm o.dst v,R⟩:dB))=_
   rw[h1];rfl⟩
  cases w with
  | true=>
   simp only[if_true]at h;exact zf3 hφ h back hfin
  | false=>
   simp only[ybq,if_false]at h;obtain⟨c',hc⟩:=hfin pD
   show Fin C E ds (z8o pD H C _ acs H) x
   unfold z8o;rw[hc];exact back0 _ _ _ hc h
def z4b{live:List Nat}{tm:Tm}{i:Nat}{v:zA}(h:(keep live tm).get i=some v):tm.get i=some v:=by
 unfold keep Tm.get at h;simp only[xH]at h;split at h
 case isFalse=>cases h
 rename_i hk;have key:∀live:List Nat,(zk8 tm live).get i=some v->tm.get i=some v:=by
  intro live;induction live with
  | nil=>intro h;rw[show zk8 tm []=.leaf from rfl,Tr.get_leaf]at h;cases h
  | cons j live ih=>
   intro h;have h:(match tm.get j with | some v=>(zk8 tm live).set j v | none=>zk8 tm live:Tr zA).get i=some v:=h
   cases hj:tm.get j with
   | none=>rw[hj]at h;exact ih h
   | some u=>
    rw[hj]at h;simp only[]at h;rw[Tr.get_set]at h;split at h
    ·rename_i e;rw[e,hj];exact h
    ·exact ih h
 exact key live h
def zgr{todo:List kD}(hr:z4c todo=false){live:List Nat}{tm:Tm}{H:xA}(h:Fin C E ds (.next ⟨⟨todo,keep live tm,R⟩,acs,H⟩) x):Fin C E ds (.next ⟨⟨todo,tm,R⟩,acs,H⟩) x:=
 Fin.of (.forget hr (fun _ _=>z4b) (.refl _)) h
def zeh(hE:zu6 C E G f N ro acs){t1 t2:List kD}(h1:z4c t1=false)(hs:∀tm H,sM C t1 tm (RR f N ro ds) acs H=sM C t2 tm (RR f N ro ds) acs H){tm:Tm}{H:xA}(h:Fin C E ds (.next ⟨⟨t2,tm,RR f N ro ds⟩,acs,H⟩) x):Fin C E ds (.next ⟨⟨t1,tm,RR f N ro ds⟩,acs,H⟩) x:=by
 obtain⟨o',hr,hv⟩:=h
 refine⟨o',?_,hv⟩
 generalize ho:(.next ⟨⟨t2,tm,RR f N ro ds⟩,acs,H⟩:wE)=o at hr
 induction hr generalizing tm with
 | refl=>
  subst ho;exact(hE.not _ _ _ _ _ hv).elim
 | step h ih=>
  subst ho;refine .step ?_
  rw[bI rfl,hs,<- bI rfl];exact h
 | forget hr2 hs2 h ih=>
  cases ho;exact .forget h1 hs2 (ih hv rfl)
def ztx{i:Nat}{t1 t2:List kD}{tm:Tm}{H:xA}:xN (some (.exit i)) C ⟨t1,tm,R⟩ acs H=xN (some (.exit i)) C ⟨t2,tm,R⟩ acs H:=by
 obtain⟨a,b,c,d,e,ro⟩:=R
 unfold xN
 cases ro<;>rfl
def zel(hE:zu6 C E G f N ro acs){i:Nat}{y:kD}(hy:∀j,y.blockId=some j->Nat.beq j i=false){tm:Tm}{H:xA}(h:Fin C E ds (.next ⟨⟨.code (.exit i)::k,tm,RR f N ro ds⟩,acs,H⟩) x):Fin C E ds (.next ⟨⟨.code (.exit i)::y::k,tm,RR f N ro ds⟩,acs,H⟩) x:=by
 refine zeh hE rfl (fun tm H=>?_) h
 show zja i C (y::k) tm (RR f N ro ds) acs H=zja i C k tm (RR f N ro ds) acs H
 have e:mK i (y::k)=mK i k:=by
  show(match y.blockId with | some j=>bif Nat.beq j i then some k else mK i k | none=>mK i k)=_
  cases hb:y.blockId with
  | none=>rfl
  | some j=>simp only[hy j hb,cond_false]
 unfold zja;rw[e]
 cases mK i k with
 | some k'=>rfl
 | none=>exact ztx
def zka(hφ:pQ C φ)(hE:zu6 C E G f N none acs){κ:Kt}(hκ:zsm C E G f N none acs κ k){fo:Operand}{ps:Array Nat}{a b:Code}{tm:Tm}{H:xA}(h:dL C φ f N κ fo ps.toList a b tm H=some x):Fin C E ds (.next ⟨⟨.code (.rangeFunc fo ps a b)::k,tm,RR f N none ds⟩,acs,H⟩) x:=by
 unfold dL at h;rw[sA]at h;obtain⟨v,h1,h⟩:=h
 rw[sA]at h;obtain⟨⟨qf,q1,q2⟩,h2,h⟩:=h
 cases qf with
 | yld l=>cases h
 | func g=>
  simp only[xB,sA]at h;obtain⟨h3,y,h4,r,h5,h6,z,h7,d,h8,h9,h10⟩:=h
  have hp:C.prims.get g=none:=by
   cases hx:C.prims.get g with
   | none=>rfl
   | some u=>rw[hx]at h3;cases h3
  obtain⟨ge,he,r0⟩:=hφ.fn _ _ _ _ h4
  obtain⟨fr',r1,r2⟩:=r0 (⟨.inRange (H.next+1)::k,tm,RR f N none (⟨none,H.next,[]⟩::ds)⟩::acs)
  refine .step ?_
  rw[bI rfl];show Fin C E ds (zi9 fo ps a b C k tm (RR f N none ds) acs H) x
  have hin:fQ C (H.next+1) v=some ge:=by
   unfold fQ;rw[h2,uA];simp only[hp];exact he
  unfold zi9;rw[h1,uA];simp only[hin,uA];refine Fin.of (r1.trans (.step ?_)) (?_:Fin C E ds (.next ⟨⟨.endRange (H.next+1)::k,tm,RR f N none (⟨none,H.next,[]⟩::ds)⟩,acs,y.2⟩) x)
  ·rw[zzz r2 (c':=⟨.endRange (H.next+1)::k,tm,RR f N none (⟨none,H.next,[]⟩::ds)⟩) rfl]
   exact .refl _
  refine .step ?_
  rw[bI rfl];show Fin C E ds (jV (H.next+1) C k tm (RR f N none (⟨none,H.next,[]⟩::ds)) acs y.2) x
  unfold jV;rw[h5,uA,h6];have key:Fin C E (⟨none,H.next,[]⟩::ds) (.next ⟨⟨(match r.pending with | some c=>.code c::k | none=>k),tm,RR f N none (⟨none,H.next,[]⟩::ds)⟩,acs,endLoop y.2 (H.next+1) r⟩) z:=by
   unfold pR at h7;split at h7
   ·rename_i e;rw[e];exact hκ.norm _ _ _ _ (hE.all rfl _) h7
   ·rename_i e;rw[e];exact hκ.ret _ _ _ _ (hE.all rfl _) h7 k
   ·cases h7
  obtain⟨o',k1,k2⟩:=key
  have hd:wQ z.2 H.next=some (some []):=by
   rw[h8]
   cases d with
   | none=>cases h9
   | some l=>cases l with | nil=>rfl | cons _ _=>cases h9
  obtain⟨o'',k3,k4⟩:=hE.pop rfl _ _ _ _ k2 hd
  cases h10;exact⟨o'',k1.trans k3,k4⟩
def fX{α:Type}{a b:List α}(h:aC a b=[]):a=[]/\b=[]:=by rw[nG]at h;exact List.append_eq_nil_iff.1 h
def zlr(hφ:pQ C φ)(hE:zu6 C E G f N ro acs):∀(c:qD) (κ:Kt) (k:List kD),(ro=none\/cM c=[])->zsm C E G f N ro acs κ k->∀ds x tm H,G x->rD C φ f N c κ tm H=some x->Fin C E ds (.next ⟨⟨.code (zF c)::k,tm,RR f N ro ds⟩,acs,H⟩) x:=by
 intro c;induction c with
 | skip=>
  intro κ k _ hκ ds x tm H hG h;refine .step ?_
  rw[bI rfl];exact hκ.norm _ _ _ _ hG h
 | region id ops d=>
  intro κ k _ hκ ds x tm H hG h;refine .step ?_
  rw[bI rfl]
  cases d with
  | false=>exact ztn hφ rfl rfl (fun tm H h=>hκ.norm _ _ _ _ hG h) _ _ _ h
  | true=>
   have h:(ob (ob (C.plans.get f) fun t=>t.get id) fun p=>cA (fN ops p) (jG C H ops N tm.cut p.olds (fun tm'=>dG C φ ops N tm.cut p.olds κ.norm p.stages tm' H) p.first tm.cut))=some x:=h
   rw[sA]at h;obtain⟨p,h1,h⟩:=h
   rw[xB]at h;obtain⟨tm',hl1,hl2⟩:=yY _ _ h.2
   show Fin C E ds (zvg id ops C k tm (RR f N ro ds) acs H) x
   unfold zvg;rw[h1,uA,h.1,hl1];exact zhp hφ rfl rfl (fun tm H h=>hκ.norm _ _ _ _ hG h) _ _ _ hl2
 | seq a b iha ihb=>
  intro κ k hn hκ ds x tm H hG h;have hna:ro=none\/cM a=[]:=hn.imp id fun e=>(fX e).1
  have hnb:ro=none\/cM b=[]:=hn.imp id fun e=>(fX e).2
  refine zeh hE (t1:=.code (zF (.seq a b))::k) rfl (t2:=.code (zF a)::.code (zF b)::k) (fun _ _=>rfl) ?_
  exact iha ⟨rD C φ f N b κ,κ.exit,κ.ret⟩ _ hna ⟨fun ds x tm H hG h=>ihb _ _ hnb hκ ds x tm H hG h,fun ds x i tm H hG h=>zel hE (fun _ e=>by cases e) (hκ.exit _ _ _ _ _ hG h),hκ.ret⟩ ds x tm H hG h
 | cond c a b iha ihb=>
  intro κ k hn hκ ds x tm H hG h;have hna:ro=none\/cM a=[]:=hn.imp id fun e=>(fX e).1
  have hnb:ro=none\/cM b=[]:=hn.imp id fun e=>(fX e).2
  have h:(ob (ob (ev c (.now tm)) zA.asBool) fun t=>Bool.rec (motive:=fun _=>wB) (rD C φ f N b κ tm H) (rD C φ f N a κ tm H) t)=some x:=h
  rw[sA]at h;obtain⟨t,h1,h⟩:=h
  refine .step ?_
  rw[bI rfl];show Fin C E ds (zvh c (zF a) (zF b) C k tm (RR f N ro ds) acs H) x
  unfold zvh;rw[h1]
  cases t with
  | true=>exact iha _ _ hna hκ _ _ _ _ hG h
  | false=>exact ihb _ _ hnb hκ _ _ _ _ hG h
 | block id c ih=>
  intro κ k hn hκ ds x tm H hG h;refine .step ?_
  rw[bI rfl];have nx:∀ds x tm H,G x->κ.norm tm H=some x->Fin C E ds (.next ⟨⟨.inBlock id::k,tm,RR f N ro ds⟩,acs,H⟩) x:=by
   intro ds x tm H hG h;refine .step ?_
   rw[bI rfl];exact hκ.norm _ _ _ _ hG h
  refine ih ⟨κ.norm,fun i tm H=>Bool.rec (motive:=fun _=>wB) (κ.exit i tm H) (κ.norm tm H) (Nat.beq id i),κ.ret⟩ _ hn ⟨nx,fun ds x i tm H hG h=>?_,hκ.ret⟩ ds x tm H hG h
  dsimp only at h
  cases hb:Nat.beq id i with
  | true=>
   rw[hb]at h;refine .step ?_
   rw[bI rfl];show Fin C E ds (zja i C (.inBlock id::k) tm (RR f N ro ds) acs H) x
   have e:mK i (.inBlock id::k)=some k:=by
    show(bif Nat.beq id i then some k else mK i k)=_
    rw[hb];rfl
   unfold zja;rw[e];exact hκ.norm _ _ _ _ hG h
  | false=>
   rw[hb]at h;exact zel hE (fun j e=>by cases e;exact hb) (hκ.exit _ _ _ _ _ hG h)
 | loop live c ih=>
  intro κ k hn hκ ds x tm H hG h;obtain⟨m,hm⟩:=zyr h
  have it:∀(m:Nat) ds x tm H,G x->(Nat.rec (motive:=fun _=>Tm->xA->wB) (fun _ _=>none) (fun _ r tm H=>rD C φ f N c ⟨r,κ.exit,κ.ret⟩ (keep live.kept tm) H) m:Tm->xA->wB) tm H=some x->Fin C E ds (.next ⟨⟨.inLoop (zF c)::k,tm,RR f N ro ds⟩,acs,H⟩) x:=by
   intro m;induction m with
   | zero=>intro ds x tm H _ h;cases h
   | succ m ihm=>
    intro ds x tm H hG h;refine zgr (live:=live.kept) rfl (.step ?_)
    rw[bI rfl];exact ih ⟨_,κ.exit,κ.ret⟩ _ hn ⟨ihm,fun ds x i tm H hG h=>zel hE (fun _ e=>by cases e) (hκ.exit _ _ _ _ _ hG h),hκ.ret⟩ _ _ _ _ hG h
  exact zeh hE (t1:=.code (zF (.loop live c))::k) rfl (t2:=.inLoop (zF c)::k) (fun _ _=>rfl) (it m _ _ tm H hG hm)
 | exit id=>exact fun κ k _ hκ ds x tm H hG h=>hκ.exit _ _ _ _ _ hG h
 | ret=>exact fun κ k _ hκ ds x tm H hG h=>hκ.ret _ _ _ _ hG h k
 | cut live c ih=>exact fun κ k hn hκ ds x tm H hG h=>zgr rfl (ih κ k hn hκ _ _ _ _ hG h)
 | range i pl fo ps id ops c ih=>
  intro κ k hn hκ ds x tm H hG h;rcases hn with rfl | e
  ·exact zka hφ hE hκ h
  ·cases e
end
end
section
def endK (C:oA)(fn:Func)(tm:Tm)(H:xA):wB:=ob (gQ C H tm fn.results.toList) fun l=>some (uT l,H)
def z16 (C:oA)(fn:Func):Kt:=⟨endK C fn,fun _ _ _=>none,endK C fn⟩
def rW(ops:List Oper):Bool:=tC (fun o=>match o.op with | .move _=>zH o.guard | .assign _=>zH o.guard | _=>false) ops
def pW(c:qD):Option zpn:=match cM c with | [q]=>some q | _=>none
def rdOk (r:gL)(q:zpn):Prop:=r.assign=.region q.id q.ops false/\r.body=zF q.c/\r.params=q.ps.toList/\LoopState.tag r.state=0/\rW q.ops.toList=true/\cM q.c=[]
def zpg(r:gL):gL:=⟨.busy,r.pending,r.fn,r.n,r.tm,r.params,r.assign,r.body,r.defers⟩
def zie(b:Bool)(r:gL):gL:=⟨if b then .ready else .done,if b then none else some .ret,r.fn,r.n,r.tm,r.params,r.assign,r.body,r.defers⟩
def rdK:Kt:=⟨fun _ H=>some (.bool true,H),fun _ _ _=>none,fun _ H=>some (.bool false,H)⟩
def z5i(C:oA)(φ:Ora)(fn n:Nat)(q:zpn)(tm:Tm)(H:xA):wB:=rD C φ fn n (.seq (.region q.id q.ops false) q.c) rdK tm H
def zdc(C:oA)(A:Tr qD)(φ:Ora)(l:Nat)(args:List zA)(H:xA):wB:=
 ob (oI H l) fun r=>ob (jQ r.n r.params args r.tm) fun tm=>ob (A.get r.fn) fun c=>ob (pW c) fun q=>@ite _ (rdOk r q) (Classical.propDecidable _)
  (ob (z5i C φ r.fn r.n q tm (setBlk H l (.loop (zpg r)))) fun x=>ob (oI x.2 l) fun r2=>ob x.1.asBool fun b=>some (.bool b,setBlk x.2 l (.loop (zie b r2)))) none
def zvd (C:oA)(A:Tr qD)(φ:Ora)(f:Nat)(args:List zA)(H:xA):wB:=
 ob (A.get f) fun c=>ob (C.fns.get f) fun fn=>ob (jJ C f args false) fun g=>rD C φ f fn.ntmps c (z16 C fn) g.tm H
def znf(C:oA)(A:Tr qD)(φ:Ora):Ora
 | .func f=>zvd C A φ f
 | .yld l=>zdc C A φ l
def z6r (C:oA)(A:Tr qD):Nat->Ora
 | 0=>fun _ _ _=>none
 | n+1=>znf C A (z6r C A n)
def wD (C:oA)(A:Tr qD):Ora:=fun f args H=>lim fun n=>z6r C A n f args H
section
variable {C:oA}{A:Tr qD}
def eU{φ:Ora}{l:Nat}{args:List zA}{H:xA}{x:zA × xA}:zdc C A φ l args H=some x ↔ ∃r tm c q y r2 b,oI H l=some r/\jQ r.n r.params args r.tm=some tm/\A.get r.fn=some c/\pW c=some q/\rdOk r q/\z5i C φ r.fn r.n q tm (setBlk H l (.loop (zpg r)))=some y/\oI y.2 l=some r2/\y.1=.bool b/\x=(.bool b,setBlk y.2 l (.loop (zie b r2))):=by
 unfold zdc;simp only[sA];constructor
 ·rintro⟨r,h1,tm,h2,c,h3,q,h4,h⟩
  by_cases hq:rdOk r q
  ·rw[yab hq]at h
   simp only[sA]at h;obtain⟨y,h5,r2,h6,b,h7,h8⟩:=h
   exact⟨r,tm,c,q,y,r2,b,h1,h2,h3,h4,hq,h5,h6,tR.1 h7,by cases h8;rfl⟩
  ·rw[yaa hq]at h;cases h
 ·rintro⟨r,tm,c,q,y,r2,b,h1,h2,h3,h4,hq,h5,h6,h7,h8⟩
  refine⟨r,h1,tm,h2,c,h3,q,h4,?_⟩
  rw[yab hq];simp only[sA];exact⟨y,h5,r2,h6,b,tR.2 h7,by rw[h8]⟩
def zfs{φ φ':Ora}(h:OLe φ φ'):OLe (znf C A φ) (znf C A φ'):=by
 intro f args H x hx
 cases f with
 | yld l=>
  have hx:zdc C A φ l args H=some x:=hx
  obtain⟨r,tm,c,q,y,r2,b,h1,h2,h3,h4,hq,h5,h6,h7,h8⟩:=eU.1 hx
  exact eU.2 ⟨r,tm,c,q,y,r2,b,h1,h2,h3,h4,hq,aT h _ _ _ (KLe.refl _) _ _ _ h5,h6,h7,h8⟩
 | func f=>
 have hx:zvd C A φ f args H=some x:=hx
 show zvd C A φ' f args H=some x
 unfold zvd at hx ⊢
 rw[sA]at hx ⊢
 obtain⟨c,h1,hx⟩:=hx
 refine⟨c,h1,?_⟩
 rw[sA]at hx ⊢
 obtain⟨fn,h2,hx⟩:=hx
 refine⟨fn,h2,?_⟩
 rw[sA]at hx ⊢
 obtain⟨g,h3,hx⟩:=hx
 exact⟨g,h3,aT h c _ _ (KLe.refl _) _ _ _ hx⟩
def zyh:∀n,OLe (z6r C A n) (z6r C A (n+1)):=by
 intro n;induction n with
 | zero=>intro f args H x h;cases h
 | succ n ih=>exact zfs ih
def eT{f:AFn}{args:List zA}{H:xA}{x:zA × xA}:wD C A f args H=some x ↔ ∃n,z6r C A n f args H=some x:=
 zca fun n _ hy=>zyh n _ _ _ _ hy
def zz8:z5x (z6r C A) (wD C A):=⟨zyh,fun _ _ _ _ h=>eT.1 h⟩
def z7k(f:AFn)(args:List zA)(H:xA):wD C A f args H=znf C A (wD C A) f args H:=by
 have key:∀x,wD C A f args H=some x ↔ znf C A (wD C A) f args H=some x:=by
  intro x;constructor
  ·intro h
   obtain⟨n,hn⟩:=eT.1 h
   cases n with
   | zero=>cases hn
   | succ n=>exact zfs (fun f a H y hy=>eT.2 ⟨n,hy⟩) _ _ _ _ hn
  ·intro h
   cases f with
   | yld l=>
    have h:zdc C A (wD C A) l args H=some x:=h
    obtain⟨r,tm,c,q,y,r2,b,h1,h2,h3,h4,hq,h5,h6,h7,h8⟩:=eU.1 h
    have sup:zzap (fun _=>rdK) rdK:=⟨⟨fun _ _ _ _ h=>h,fun _ _ _ h=>⟨0,h⟩⟩,fun i=>⟨fun _ _ _ _ h=>h,fun _ _ _ h=>⟨0,h⟩⟩,⟨fun _ _ _ _ h=>h,fun _ _ _ h=>⟨0,h⟩⟩⟩
    obtain⟨n,hn⟩:=(zo6 zz8 _ _ _ sup).ex _ _ _ h5
    exact eT.2 ⟨n+1,eU.2 ⟨r,tm,c,q,y,r2,b,h1,h2,h3,h4,hq,hn,h6,h7,h8⟩⟩
   | func f=>
   have h:zvd C A (wD C A) f args H=some x:=h
   unfold zvd at h;rw[sA]at h;obtain⟨c,h1,h⟩:=h
   rw[sA]at h;obtain⟨fn,h2,h⟩:=h
   rw[sA]at h;obtain⟨g,h3,h⟩:=h
   have sup:zzap (fun _=>z16 C fn) (z16 C fn):=⟨⟨fun _ _ _ _ h=>h,fun _ _ _ h=>⟨0,h⟩⟩,fun i=>⟨fun _ _ _ _ h=>h,fun _ _ _ h=>⟨0,h⟩⟩,⟨fun _ _ _ _ h=>h,fun _ _ _ h=>⟨0,h⟩⟩⟩
   obtain⟨n,hn⟩:=(zo6 zz8 c _ _ sup).ex _ _ _ h
   refine eT.2 ⟨n+1,?_⟩
   show zvd C A (z6r C A n) f args H=some x
   unfold zvd;rw[h1,uA,h2,uA,h3,uA];exact hn
 cases h:wD C A f args H with
 | some x=>exact((key x).1 h).symm
 | none=>
  cases h2:znf C A (wD C A) f args H with
  | none=>rfl
  | some x=>rw[(key x).2 h2]at h;cases h
def qU(C:oA)(A:Tr qD):Prop:=∀f c,A.get f=some c->∃fn,C.fns.get f=some fn/\fn.body=some (zF c)
def zo0{f:Nat}{args:List zA}{g:dB}(h:jJ C f args false=some g):∃fn c,C.fns.get f=some fn/\fn.body=some c/\g.todo=[.code c]/\g.R=⟨f,fn.ntmps,[],.run,false,none⟩:=by
 unfold jJ at h;simp only[sA,xB]at h;obtain⟨fn,h1,c,h2,k,h3,_,h⟩:=h
 cases h;exact⟨fn,c,h1,h2,rfl,rfl⟩
def zY{α β:Type}{f g:α->Option β}:∀(l:List α) {r:List β},(∀a b,f a=some b->g a=some b)->jF f l=some r->jF g l=some r:=by
 intro l;induction l with
 | nil=>intro r _ h;exact h
 | cons a l ih=>
  intro r hfg h;rw[oK,sA]at h ⊢
  obtain⟨b,h1,h⟩:=h
  refine⟨b,hfg _ _ h1,?_⟩
  rw[sA]at h ⊢
  obtain⟨s,h2,h⟩:=h
  exact⟨s,ih hfg h2,h⟩
def zzas(C:oA)(f:Nat)(acs:List dB):z7s:=fun ds o x=>∃fr',o=.next ⟨fr',acs,x.2⟩/\zi7 C f ds fr' x.2 x.1
def znm{H:xA}{tm:Tm}{r:Nat}{d e:Option (List vI)}(hr:H.t.get r=some (.deferred d)):∀(l:List ResultVar) vs,gQ C H tm l=some vs->gQ C (setBlk H r (.deferred e)) tm l=some vs:=by
 intro l vs h;refine zY l (fun rv v h=>?_) h
 cases rv with
 | tmp t=>exact h
 | cell a t=>
  have h:(ob (ob (tm.get a) zA.asPtr) fun p=>ob (C.tys.get t) fun ty=>ob (xD H p.1) fun c=>yN ty c.1 p.2)=some v:=h
  show(ob (ob (tm.get a) zA.asPtr) fun p=>ob (C.tys.get t) fun ty=>ob (xD (setBlk H r (.deferred e)) p.1) fun c=>yN ty c.1 p.2)=some v
  simp only[sA]at h ⊢
  obtain⟨p,hp,ty,ht,c,hc,hv⟩:=h
  refine⟨p,hp,ty,ht,c,?_,hv⟩
  unfold xD at hc ⊢
  rw[sA]at hc ⊢
  obtain⟨y,h1,h2⟩:=hc
  refine⟨y,?_,h2⟩
  show(H.t.set r (.deferred e)).get p.1=some y
  rw[Tr.get_set,yaa fun e=>by rw[e,hr]at h1;cases h1;cases h2]
  exact h1
def z4r{f N:Nat}{acs:List dB}:zu6 C (zzas C f acs) (fun _=>True) f N none acs:=by
 refine⟨?_,fun _ _=>trivial,?_⟩
 ·rintro ds todo tm H x ⟨fr',h1,h2⟩
  cases h1;have:=h2.1
  cases this
 ·rintro _ r ds o x ⟨fr',rfl,h1,h2,h3,h4,fn,l,h5,h6,h7⟩ hd
  obtain⟨todo,tm,ffn,n,defers,mode,deferred,round⟩:=fr'
  simp only at h1 h2 h3 h4 h6
  subst h1 h2 h3 h4
  have hr:x.2.t.get r=some (.deferred (some [])):=by
   unfold wQ at hd;rw[xB,sA]at hd;obtain⟨_,y,e1,e2⟩:=hd
   cases y<;>cases e2
   exact e1
  refine⟨_,.step ?_,⟨⟨todo,tm,⟨ffn,n,ds,.returning,false,round⟩⟩,rfl,rfl,rfl,rfl,rfl,fn,l,h5,znm hr _ _ h6,h7⟩⟩
  show fJ C (zjp C ⟨none,r,[]⟩ ds ⟨todo,tm,⟨ffn,n,⟨none,r,[]⟩::ds,.returning,false,round⟩⟩ acs x.2) _
  unfold zjp;simp only[hd,uA];exact .refl _
def zr7{f:Nat}{fn:Func}{acs:List dB}{x:zA × xA}{ds:List vI}(hf:C.fns.get f=some fn){tm:Tm}{H:xA}(h:endK C fn tm H=some x){todo:List kD}{N:Nat}
  (hs:sM C todo tm (RR f N none ds) acs H=.next ⟨zc8 ⟨todo,tm,RR f N none ds⟩ .returning,acs,H⟩):Fin C (zzas C f acs) ds (.next ⟨⟨todo,tm,RR f N none ds⟩,acs,H⟩) x:=by
 unfold endK at h;rw[sA]at h;obtain⟨l,h1,h2⟩:=h
 cases h2;refine .step ?_
 rw[bI rfl,hs];exact⟨_,.refl _,_,rfl,rfl,rfl,rfl,rfl,fn,l,hf,h1,rfl⟩
def RdG (l:Nat)(c:dB):zA × xA->Prop:=fun x=>∃b r2 c',x.1=.bool b/\oI x.2 l=some r2/\lG c (.bool b)=some c'
def RdEnd(l:Nat)(c:dB)(acs:List dB):z7s:=fun _ o x=>∃b r2 c',x.1=.bool b/\oI x.2 l=some r2/\lG c (.bool b)=some c'/\o=.next ⟨c',acs,setBlk x.2 l (.loop (zie b r2))⟩
def len_ne{α:Type}{a:α}{l:List α}:l≠a::l:=fun e=>by have:=congrArg List.length e;simp at this
def zuy{C:oA}{φ:Ora}{all:Array Oper}{n:Nat}{κn:Tm->xA->wB}:∀(l:List Oper) (tm:Tm) (H1:xA) (x:zA × xA),rW l=true->aJ C φ all n κn l tm H1=some x->∃tm',κn tm' H1=some x/\∀(k:List kD) (R:rI) (cs:List dB) (H:xA),R.n=n->xO C all k R cs l tm H=xGo k tm' R cs H:=by
 intro l;induction l with
 | nil=>intro tm H1 x _ h;exact⟨tm,h,fun _ _ _ _ _=>rfl⟩
 | cons o l ih=>
  intro tm H1 x hp h;have hp:(bif (match o.op with | .move _=>zH o.guard | .assign _=>zH o.guard | _=>false)then rW l else false)=true:=hp
  have hp1:(match o.op with | .move _=>zH o.guard | .assign _=>zH o.guard | _=>false)=true:=by
   cases hx:(match o.op with | .move _=>zH o.guard | .assign _=>zH o.guard | _=>false)with
   | true=>rfl
   | false=>rw[hx]at hp;cases hp
  rw[hp1]at hp;have hp:rW l=true:=hp
  have hmv:∃u,(∀H,(wF o.op).f C (.now tm) H=lv (pO u) C (.now tm) H)/\zH o.guard=true:=by
   cases ho:o.op<;>rw[ho]at hp1<;>first
    | (cases hp1;done)
    | exact⟨_,fun _=>rfl,hp1⟩
  obtain⟨u,hu,hg⟩:=hmv
  have hw:jE o.guard all tm=some true:=by
   cases hx:o.guard with
   | none=>rfl
   | some g=>rw[hx]at hg;cases hg
  rw[oT,hw,uA,yab rfl,hu]at h
  cases hv:ev u (.now tm)with
  | none=>
   have:lv (pO u) C (.now tm) H1=.fail:=by unfold lv pO;rw[hv]
   rw[this]at h;cases h
  | some v=>
   have hval:∀H,lv (pO u) C (.now tm) H=.val v H:=fun H=>by unfold lv pO;rw[hv]
   rw[hval]at h;simp only[oF,cK]at h;obtain⟨tm',h1,h2⟩:=ih _ _ _ hp h.2
   refine⟨tm',h1,fun k R cs H hR=>?_⟩
   rw[sZ,hw];simp only[];rw[hu,hval];simp only[dI.asVal];rw[hR];exact h2 k R cs H hR
def zj6{φ:Ora}(hφ:pQ C φ){l:Nat}{args:List zA}{H:xA}{x:zA × xA}(h:zdc C A φ l args H=some x) :
  ∃r tm,oI H l=some r/\jQ r.n r.params args r.tm=some tm/\∀c acs c',lG c x.1=some c'->fJ C (.next ⟨znl r l tm,c::acs,H⟩) (.next ⟨c',acs,x.2⟩):=by
 obtain⟨r,tm,cc,q,y,r2,b,h1,h2,h3,h4,⟨q1,q2,q3,q4,q5,q6⟩,h5,h6,h7,rfl⟩:=eU.1 h
 refine⟨r,tm,h1,h2,fun c acs c' hc=>?_⟩
 have h5:aJ C φ q.ops r.n (rD C φ r.fn r.n q.c rdK) q.ops.toList tm.cut (setBlk H l (.loop (zpg r)))=some y:=h5
 obtain⟨tm',h8,h9⟩:=zuy _ _ _ _ q5 h5
 unfold znl;rw[q1,q2];refine .step ?_
 rw[bI rfl];show fJ C (xO C q.ops _ _ _ q.ops.toList tm.cut H) _
 rw[h9 _ _ _ _ rfl];refine .step ?_
 show fJ C (sM C (.beginRound::[.code (zF q.c)]) tm' ⟨r.fn,r.n,[],.run,false,some l⟩ (c::acs) H) _
 have hb:sM C (.beginRound::[.code (zF q.c)]) tm' ⟨r.fn,r.n,[],.run,false,some l⟩ (c::acs) H=.next ⟨⟨[.code (zF q.c)],tm',RR r.fn r.n (some l) []⟩,c::acs,setBlk H l (.loop (zpg r))⟩:=by
  show zjb C [.code (zF q.c)] tm' _ (c::acs) H=_
  unfold zjb;simp only[uA];rw[h1,uA,q4];rfl
 rw[hb];have hc:lG c (.bool b)=some c':=hc
 have hE:zu6 C (RdEnd l c acs) (RdG l c) r.fn r.n (some l) (c::acs):=by
  refine⟨?_,fun e=>(by cases e),fun e=>(by cases e)⟩
  rintro ds todo tm H x ⟨b,r2,c',_,_,_,e⟩
  injection e with e
  injection e with _ e _
  exact len_ne e.symm
 have hK:zsm C (RdEnd l c acs) (RdG l c) r.fn r.n (some l) (c::acs) rdK []:=by
  refine⟨?_,fun _ _ _ _ _ _ h=>(by cases h),?_⟩
  ·rintro ds x tm H ⟨b,r2,c',g1,g2,g3⟩ h
   cases h
   cases g1
   refine .step ?_
   rw[bI rfl];have:sM C [] tm (RR r.fn r.n (some l) ds) (c::acs) H=.next ⟨c',acs,setBlk H l (.loop (zie true r2))⟩:=by
    have e0:sM C [] tm (RR r.fn r.n (some l) ds) (c::acs) H=xN none C ⟨[],tm,RR r.fn r.n (some l) ds⟩ (c::acs) H:=rfl
    rw[e0];unfold xN;simp only[g2,uA];show wJ (ob (lG c (.bool true)) _) 7=_
    rw[g3];rfl
   rw[this];exact⟨_,.refl _,true,r2,c',rfl,g2,g3,rfl⟩
  ·rintro ds x tm H ⟨b,r2,c',g1,g2,g3⟩ h k'
   cases h
   cases g1
   refine .step ?_
   rw[bI rfl];have:sM C (.code .ret::k') tm (RR r.fn r.n (some l) ds) (c::acs) H=.next ⟨c',acs,setBlk H l (.loop (zie false r2))⟩:=by
    have e0:sM C (.code .ret::k') tm (RR r.fn r.n (some l) ds) (c::acs) H=xN (some .ret) C ⟨.code .ret::k',tm,RR r.fn r.n (some l) ds⟩ (c::acs) H:=rfl
    rw[e0];unfold xN;simp only[g2,uA];show wJ (ob (lG c (.bool false)) _) 7=_
    rw[g3];rfl
   rw[this];exact⟨_,.refl _,false,r2,c',rfl,g2,g3,rfl⟩
 obtain⟨o',k1,b',r2',c'',k2,k3,k4,rfl⟩:=zlr hφ hE q.c rdK [] (Or.inr q6) hK [] y tm' _ ⟨b,r2,c',h7,h6,hc⟩ h8
 rw[h7]at k2;cases k2
 rw[h6]at k3;cases k3
 rw[hc]at k4;cases k4
 exact k1
def zne(hA:qU C A){φ:Ora}(hφ:pQ C φ):pQ C (znf C A φ):=by
 refine⟨fun f args H x h=>?_,fun l args H x h=>zj6 hφ h⟩
 have h:zvd C A φ f args H=some x:=h
 unfold zvd at h;rw[sA]at h;obtain⟨c,h1,h⟩:=h
 rw[sA]at h;obtain⟨fn,h2,h⟩:=h
 rw[sA]at h;obtain⟨g,h3,h⟩:=h
 refine⟨g,h3,fun acs=>?_⟩
 obtain⟨fn',c',e1,e2,e3,e4⟩:=zo0 h3
 rw[h2]at e1;cases e1
 obtain⟨fn',e5,e6⟩:=hA f c h1
 rw[h2]at e5;cases e5
 rw[e2]at e6;cases e6
 obtain⟨gt,gtm,gR⟩:=g
 simp only at e3 e4 h
 subst e3 e4
 have hK:zsm C (zzas C f acs) (fun _=>True) f fn.ntmps none acs (z16 C fn) []:=⟨fun ds x tm H _ h=>zr7 h2 h rfl,fun ds x i tm H _ h=>(by cases h),fun ds x tm H _ h k'=>zr7 h2 h rfl⟩
 obtain⟨o',k1,fr',rfl,k2⟩:=zlr hφ z4r c (z16 C fn) [] (Or.inl rfl) hK [] x gtm H trivial h
 exact⟨fr',k1,k2⟩
def zgc(hA:qU C A):∀n,pQ C (z6r C A n):=by
 intro n;induction n with
 | zero=>exact⟨fun f args H x h=>(by cases h),fun l args H x h=>(by cases h)⟩
 | succ n ih=>exact zne hA ih
def zz9(hA:qU C A):pQ C (wD C A):=by
 refine⟨fun f args H x h=>?_,fun f args H x h=>?_⟩
 ·obtain⟨n,hn⟩:=eT.1 h
  exact(zgc hA n).fn _ _ _ _ hn
 ·obtain⟨n,hn⟩:=eT.1 h
  exact(zgc hA n).rd _ _ _ _ hn
def zl0{P:Program}{B N:Nat}{I:World->Prop}{μ:Mu}{w:World}(hS:Sim P C B N I)(hI:I w)(hA:qU C A){f:Nat}{args:List zA}{args':Array Value}{H H':xA}{v:zA}(hH:zB B N μ H w)(hl:yB μ args args'.toList)
  (h:wD C A (.func f) args H=some (v,H')):Calls P f args' w fun e w'=>∃v' μ',e=.returned v'/\μ.lw μ'/\vA μ' v v'/\zB B N μ' H' w'/\Below N w w':=by
 intro base;obtain⟨g,he,hr⟩:=(zz9 hA).fn _ _ _ _ h
 obtain⟨fr',r1,h1,h2,h3,h4,fn,l,h5,h6,rfl⟩:=hr []
 have h0:uD P C B N μ base (lone (Frame.enter P f args' .normal) base w) w (.next ⟨g,[],H⟩):=zb5 hS.fns hH hl he
 obtain⟨μ',b,cs,w',s1,s2,s3,s4,s5,s6⟩:=uD.reach hS hI r1 h0
 cases s6
 have hb:=s5.body
 rw[yaa (by rw[h1];simp[zfj.running])]at hb
 obtain⟨v',q1,q2⟩:=zf1 hS.tys s4 hb h6
 have hm:=s5.rest.mode
 rw[h1]at hm;have hbm:b.mode=.returning:=by
  cases hb:b.mode with
  | returning=>rfl
  | _=>rw[hb]at hm;exact hm.elim
 have hd:=s5.rest.defers
 rw[h2]at hd;have hbd:b.defers=[]:=by
  generalize hx:b.defers=bd at hd
  cases hd;rfl
 have hk:=s5.rest.kind
 rw[h3]at hk;have hfn:b.fn=f:=by rw[s5.rest.fn,h4]
 exact⟨.returned v',w',b,⟨v',μ',rfl,s2,q2,s4,s3⟩,s1,hfn,hbm,hbd,hk,fn,by rw[hfn];exact(hS.fns _ _ h5).1,q1⟩
end
end
section
def mA(C:oA)(t:Nat)(H:xA)(v:zA):Option zA:=ob v.asPtr fun p=>ob (C.tys.get t) fun ty=>ob (xD H p.1) fun c=>yN ty c.1 p.2
def fK(C:oA)(s d:Nat)(H:xA)(a:zA):Option zA:=ob (C.tys.get s) fun s=>ob (C.tys.get d) fun d=>qM C s d a H
def vG(C:oA)(t:Nat)(H:xA)(a:zA)(l h:Option zA):Option zA:=ob (C.tys.get t) fun ty=>rK C H ty a l h
def nU(C:oA)(s f:Nat):Option Nat:=ob (C.tys.get s) fun ty=>ob ty.desc.asStruct fun fs=>ob (iC fs f) fun fd=>cA (!Nat.beq fd.2.2 0) (some fd.1)
def sB(C:oA)(s f:Nat)(v:zA):Option zA:=ob (nU C s f) fun k=>ob v.asPtr fun p=>some (.ptr p.1 (p.2+k))
def lB(C:oA)(t:Nat)(v i:zA):Option zA:=
 ob (C.tys.get t) fun ty=>ob i.asNat fun i=>
  match v.asSlice with
  | some s=>ob ty.desc.asSlice fun el=>ob (C.tys.get el) fun et=>cA (Nat.blt i s.2.2.1) (some (.ptr s.1 (s.2.1+i*et.size)))
  | none=>ob v.asPtr fun p=>ob ty.desc.asArr fun a=>ob (C.tys.get a.2) fun et=>cA (Nat.blt i a.1) (some (.ptr p.1 (p.2+i*et.size)))
def zpw(C:oA)(t i:Nat):Option Nat:=ob (C.tys.get t) fun ty=>ob ty.desc.asArr fun a=>ob (C.tys.get a.2) fun et=>cA (Nat.blt i a.1) (some (i*et.size))
def sK(C:oA)(t:Nat)(v i:zA):Option zA:=
 ob (C.tys.get t) fun ty=>ob i.asNat fun i=>
  match v.asStr with
  | some s=>cA ty.desc.isString (ob (iC s i) fun b=>some (.int .u8 (.ofNat b)))
  | none=>ob v.asAgg fun l=>ob ty.desc.asArr fun a=>ob (C.tys.get a.2) fun et=>cA (Nat.blt i a.1) (rL C a.2 l (i*et.size))
def rB(i:Nat)(v:zA):Option zA:=ob v.asTup fun l=>iC l i
def zva (C:oA)(t:Nat)(H:xA)(v:zA):Option zA:=ob (C.tys.get t) fun ty=>ob (zvc H ty v) fun n=>some (.int .i64 (.ofNat n))
def zC(v:zA):Option zA:=
 match v.asSlice with
 | some s=>some (.int .i64 (.ofNat s.2.2.1))
 | none=>cA (Nat.beq v.tag 5) (some (.int .i64 (.ofNat 0)))
def rC (v:zA):Option zA:=cA (Nat.beq v.tag 4||Nat.beq v.tag 9) (some v)
def zm2(C:oA)(u:Nat)(ok:Bool)(v:zA):Option zA:=
 ob (C.tys.get u) fun ty=>cA (Nat.blt ty.desc.tag 9) (
  match v.asIface with
  | some p=>bif Nat.beq p.1 u then some (bif ok then .tup [p.2,.bool true]else p.2)else cA ok (some (.tup [nN ty,.bool false]))
  | none=>cA (Nat.beq v.tag 12&&ok) (some (.tup [nN ty,.bool false])))
def yI(C:oA)(t:Nat)(H:xA)(m k:zA)(ok:Bool):Option zA:=
 ob (C.tys.get t) fun ty=>ob ty.desc.asMap fun ke=>ob (C.tys.get ke.1) fun kty=>cA (dN C kty) (ob (C.tys.get ke.2) fun ety=>
  ob (aM H m) fun es=>cA (vM C kty k) (ob (fH k es) fun r=>
   match r with
   | some v=>some (bif ok then .tup [v,.bool true]else v)
   | none=>some (bif ok then .tup [nN ety,.bool false]else nN ety)))
def yH(C:oA)(t:Nat)(H:xA):Option (zA × xA):=ob (C.tys.get t) fun ty=>some (.ptr H.next 0,zE H ty.zero none)
def zpx (v:zA)(H:xA):Option (zA × xA):=some (.ptr H.next 0,zE H v.cells none)
def zhf(C:oA)(t:Nat)(H:xA):Option (zA × xA):=ob (C.tys.get t) fun ty=>some (.ptr H.next 0,zE H ty.zero (cI C t))
def zsv(C:oA)(t:Nat)(v:zA)(H:xA):Option (zA × xA):=some (.ptr H.next 0,zE H v.cells (cI C t))
def lI(C:oA)(t len:Nat)(ps:List (Nat × zA))(H:xA):Option (zA × xA):=
 ob (C.tys.get t) fun ty=>ob ty.desc.asSlice fun el=>ob (C.tys.get el) fun et=>
  cA (Nat.blt (len*et.size) 1000000&&Nat.beq (aA et.zero) et.size) (ob (tM (fun i=>some (i*et.size,et.size)) ps (lJ et.zero len)) fun l=>some (.slice H.next 0 len len,zE H l none))
def eC(C:oA)(t:Nat)(a v:zA)(H:xA):Option (zA × xA):=ob (C.tys.get t) fun ty=>ob a.asPtr fun p=>cA (Nat.beq (aA v.cells) ty.size) (ob (pI C H p.1 p.2 v.cells) fun H'=>some (pD,H'))
def fV(H:xA):Option (zA × xA):=some (.map H.next,newBlk H (.map []))
def mI(C:oA)(t:Nat)(m k v:zA)(H:xA):Option (zA × xA):=
 ob (C.tys.get t) fun ty=>ob ty.desc.asMap fun ke=>ob (C.tys.get ke.1) fun kty=>cA (dN C kty)
  (ob m.asMap fun b=>cA (!Nat.blt b C.base) (ob (gG H b) fun l=>cA (vM C kty k) (ob (cG k v l) fun l'=>some (pD,setBlk H b (.map l')))))
def lN(C:oA)(t:Nat)(l c:zA)(H:xA):Option (zA × xA):=
 ob (C.tys.get t) fun ty=>ob ty.desc.asSlice fun el=>ob (C.tys.get el) fun et=>ob l.asNat fun l=>ob c.asNat fun c=>
  cA (Nat.ble l c&&Nat.blt c 1000000&&Nat.blt (c*et.bytes) 1000000000&&Nat.beq (aA et.zero) et.size) (some (.slice H.next 0 l c,zE H (lJ et.zero c) none))
def zhd(C:oA)(s d:Nat)(v:zA)(H:xA):Option (zA × xA):=
 ob (C.tys.get s) fun _=>ob (C.tys.get d) fun ty=>ob ty.desc.asSlice fun el=>ob (C.tys.get el) fun et=>ob et.desc.asInt fun k=>cA (kEq k .u8) (ob v.asStr fun l=>
  some (.slice H.next 0 (aA l) (aA l),zE H (zP l) (some (.ty el))))
def pF(C:oA)(t u:Nat)(a b:zA)(H:xA):Option (zA × xA):=ob (C.tys.get t) fun ty=>ob (C.tys.get u) fun uty=>cA (!Nat.beq uty.desc.tag 1) (vP C H ty a b)
def vNext(v:zA)(H:xA):Option (zA × xA):=ob v.asPtr fun p=>cA (Nat.beq p.2 0) (ob (ob (H.t.get p.1) rA.asIter) fun x=>
 match iC x.1 x.2 with
 | some c=>cA (Nat.blt c 128) (some (.tup [.bool true,.int .i64 (.ofNat x.2),.int .i32 (.ofNat c)],setBlk H p.1 (.siter x.1 (x.2+1))))
 | none=>some (.tup [.bool false],H))
structure rP where
 b:Nat->Bool
 i:Nat->Int
 s:Nat->List Nat
 v:Nat->zA
inductive T where
 | ret (v:zA)
 | fail
 | ite (b:Bool) (x y:T)
 | opt (x:Option zA) (K:zA->T)
 | light (x:Tr rA->Option zA) (K:zA->T)
 | heavy (x:xA->Option (zA × xA)) (K:zA->T)
 | call (f:Nat) (args:List zA) (K:zA->T)
 | callv (f:zA) (args:List zA) (K:zA->T)
 | asI (k:IntKind) (v:zA) (K:Int->T)
 | asB (v:zA) (K:Bool->T)
 | asS (v:zA) (K:List Nat->T)
 | asG (zs:List zA) (v:zA) (K:rP->T)
 | jump (i:Nat) (vals:List zA)
 | range (np:Nat->Bool) (f:zA) (i m:Nat) (vals:List zA) (K R:T)
def yo:Nat:=1099511627776
def zkp(z:zA)(X:rP)(j:Nat):zA:=
 match z with
 | .bool _=>.bool (X.b j)
 | .int k _=>.int k (X.i j)
 | .str _=>.str (X.s j)
 | _=>X.v j
def yM(zs:List zA)(X:rP):Nat->List zA:=
 List.rec (motive:=fun _=>Nat->List zA) (fun _=>[]) (fun z _ g j=>zkp z X j::g (j+1)) zs
def wR(l:List zA)(j:Nat):Bool:=match l[j]? with | some (.bool b)=>b | _=>false
def zzt(l:List zA)(j:Nat):Int:=match l[j]? with | some (.int _ n)=>n | _=>0
def z2u(l:List zA)(j:Nat):List Nat:=match l[j]? with | some (.str s)=>s | _=>[]
def zji(l:List zA)(j:Nat):zA:=match l[j]? with | some v=>v | _=>.nilptr
def cellsOf(l:List zA):rP:=⟨wR l,zzt l,z2u l,zji l⟩
def zve (z a:zA):Bool:=
 match z with
 | .bool _=>Nat.beq a.tag 0
 | .int k _=>match a.asIntK with | some p=>kEq p.1 k | none=>false
 | .str _=>Nat.beq a.tag 2
 | .nilptr=>Nat.beq a.tag 3||Nat.beq a.tag 4
 | .nilslice=>Nat.beq a.tag 5||Nat.beq a.tag 6
 | .nilmap=>Nat.beq a.tag 7||Nat.beq a.tag 8
 | .nilfunc=>Nat.beq a.tag 10||Nat.beq a.tag 9
 | .niliface=>Nat.beq a.tag 12||Nat.beq a.tag 11
 | _=>false
def mL:List zA->List zA->Bool
 | [],[]=>true
 | z::zs,a::l=>zve z a&&mL zs l
 | _,_=>false
structure dF where
 tm:Tm
 ad:List (Nat × Nat × Nat)
 lo:Tr (List zA)
 lit:List Nat
abbrev KT:=dF->T
structure KtT where
 norm:KT
 exit:Nat->KT
 ret:KT
def jB {α:Type}(x:Option α)(K:α->T):T:=Option.rec (motive:=fun _=>T) .fail K x
def gdT (b:Bool)(K:T):T:=Bool.rec (motive:=fun _=>T) .fail K b
def cH(i:Nat)(l:List (Nat × Nat × Nat)):Option (Nat × Nat):=
 List.rec (motive:=fun _=>Option (Nat × Nat)) none (fun a _ g=>Bool.rec (motive:=fun _=>Option (Nat × Nat)) g (some a.2) (Nat.beq i a.1)) l
inductive uK where
 | now (ad:List (Nat × Nat × Nat))
 | mixed (ad old:List (Nat × Nat × Nat)) (olds names:List Nat)
def tAd (e:uK)(t:Nat):Option (Nat × Nat):=
 match e with
 | .now ad=>cH t ad
 | .mixed ad old olds names=>bif cE t names then cH t (bif cE t olds then old else ad)else none
def xAd (e:uK)(x:Operand):Option (Nat × Nat):=
 match x with
 | .tmp t=>tAd e t
 | _=>none
def H0A:xA:=⟨0,.leaf⟩
def oG (C:oA)(t:Nat):Nat:=
 match C.tys.get t with
 | some ty=>ty.desc.tag
 | none=>10
def zik(x:Operand):Bool:=
 match x with
 | .const _=>true
 | _=>false
def z06(x:Operand):Bool:=
 match x with
 | .const (.int _ n) => !lA n 0
 | _=>false
def binDir(C:oA)(op:BinOp)(t:Nat)(y:Operand):Bool:=
 match op with
 | .add=>Nat.beq (oG C t) 1
 | .sub=>true
 | .mul=>true
 | .quo=>z06 y
 | .rem=>z06 y
 | .shl=>zik y
 | .shr=>zik y
 | .eql=>Nat.ble (oG C t) 2
 | .neq=>Nat.ble (oG C t) 2
 | .lss=>Nat.ble (oG C t) 2
 | .leq=>Nat.ble (oG C t) 2
 | .gtr=>Nat.ble (oG C t) 2
 | .geq=>Nat.ble (oG C t) 2
 | _=>false
structure KOp where
 K:zA->T
 Kd:zA->T
 KA:Nat->Nat->T
def zp4 (C:oA)(op:Op)(e:mC)(k:KOp):T:=jB ((lE op).f C e H0A) k.Kd
def z2n(C:oA)(op:Op)(x:Operand)(e:mC)(ae:uK)(k:KOp):T:=
 match xAd ae x with
 | some p=>k.KA p.1 p.2
 | none=>zp4 C op e k
def tLoad(C:oA)(t:Nat)(a:Operand)(e:mC)(ae:uK)(lo:Tr (List zA))(k:KOp):T:=
 match xAd ae a with
 | some p=>jB (lo.get p.1) fun l=>jB (C.tys.get t) fun ty=>gdT (Nat.ble (p.2+ty.size) (aA l)) (jB (rL C t l p.2) k.Kd)
 | none=>jB (ev a e) fun v=>.light (fun m=>mA C t ⟨0,m⟩ v) k.K
def zfr(C:oA)(s:Nat)(x:Operand)(f:Nat)(e:mC)(ae:uK)(k:KOp):T:=
 match xAd ae x with
 | some p=>jB (nU C s f) fun o=>k.KA p.1 (p.2+o)
 | none=>jB (ev x e) fun v=>.opt (sB C s f v) k.K
def zfq(C:oA)(t:Nat)(x i:Operand)(e:mC)(ae:uK)(k:KOp):T:=
 match xAd ae x with
 | some p=>jB (ev i e) fun i=>jB i.asNat fun i=>jB (zpw C t i) fun o=>k.KA p.1 (p.2+o)
 | none=>jB (ev x e) fun v=>jB (ev i e) fun i=>.opt (lB C t v i) k.K
def tNil (x:Operand)(e:mC)(ae:uK)(k:KOp):T:=
 match xAd ae x with
 | some p=>k.KA p.1 p.2
 | none=>jB (ev x e) fun v=>.opt (rC v) k.K
def tLen (C:oA)(c:Call)(e:mC)(k:KOp):T:=
 jB (iC c.argTypes.toList 0) fun t=>jB (iC c.args.toList 0) fun x=>jB (ev x e) fun v=>
  bif Nat.beq (oG C t) 4 then .opt (zC v) k.K else bif Nat.beq (oG C t) 6 then .light (fun m=>zva C t ⟨0,m⟩ v) k.K else jB (zva C t H0A v) k.Kd
def tBin (C:oA)(op:BinOp)(t:Nat)(x y:Operand)(u:Nat)(e:mC)(k:KOp):T:=
 bif binDir C op t y then zp4 C (.binOp op t x y u) e k else jB (ev x e) fun a=>jB (ev y e) fun b=>.opt ((binA op).f C t x y a b) k.K
def z8b(C:oA)(s d:Nat)(x:Operand)(e:mC)(k:KOp):T:=
 bif Nat.beq (oG C d) 2 then(bif Nat.beq (oG C s) 2 then zp4 C (.convert s d x) e k else jB (ev x e) fun v=>.light (fun m=>fK C s d ⟨0,m⟩ v) k.K)else bif Nat.beq (oG C d) 1 then zp4 C (.convert s d x) e k else .fail
def z6a(C:oA)(t:Nat)(x:Operand)(lo hi:Option Operand)(e:mC)(k:KOp):T:=
 jB (ev x e) fun a=>jB (evo lo e) fun l=>jB (evo hi e) fun h=>
  bif Nat.beq (oG C t) 2 then .opt (vG C t H0A a l h) k.K else .light (fun m=>vG C t ⟨0,m⟩ a l h) k.K
def cV(C:oA)(c:Call)(e:mC)(k:KOp):Builtin->T
 | .len=>tLen C c e k
 | .max=>zp4 C (.call c) e k
 | .min=>zp4 C (.call c) e k
 | _=>.fail
def zgv(ty:uC)(v:zA):List zA:=bif ty.desc.isAgg then v.cells else [v]
def z4z(cells:List zA)(off size:Nat)(vc:List zA):Option (List zA):=
 cA (Nat.beq (aA vc) size&&Nat.ble (off+aA vc) (aA cells)) (some (aC (zfe cells off) (aC vc (wM cells (off+aA vc)))))
def zx1(C:oA)(tyAt:Nat->Option Nat):List (Nat × zA)->Option (List (Nat × zA × List zA) × List zA):=
 List.rec (motive:=fun _=>Option (List (Nat × zA × List zA) × List zA)) (some ([],[]))
  (fun p _ g=>ob (tyAt p.1) fun t=>ob (C.tys.get t) fun ty=>ob g fun r=>some (bif ty.desc.isAgg then((p.1,p.2,p.2.cells)::r.1,r.2)else((p.1,p.2,[p.2])::r.1,p.2::r.2)))
def z40(place:Nat->Option (Nat × Nat)):List (Nat × zA × List zA)->List zA->Option (List zA):=
 List.rec (motive:=fun _=>List zA->Option (List zA)) (fun cells=>some cells) (fun p _ g cells=>ob (place p.1) fun q=>ob (z4z cells q.1 q.2 p.2.2) fun cells=>g cells)
def tyAtS(ty:uC)(i:Nat):Option Nat:=
 match ty.desc.asStruct with
 | some fs=>ob (iC fs i) fun x=>some x.2.1
 | none=>ob ty.desc.asArr fun a=>some a.2
def zga(C:oA)(ty:uC)(i:Nat):Option (Nat × Nat):=
 match ty.desc.asStruct with
 | some fs=>ob (iC fs i) fun x=>some (x.1,x.2.2)
 | none=>ob ty.desc.asArr fun a=>ob (C.tys.get a.2) fun et=>some (i*et.size,et.size)
def zl7(C:oA)(ty:uC):Bool:=
 match ty.desc.asStruct with
 | some _=>true
 | none=>match ty.desc.asArr with
  | some a=>(match C.tys.get a.2 with | some _=>true | none=>false)
  | none=>false
def z6c(C:oA)(t:Nat)(ps:Array (Nat × Operand))(e:mC)(k:KOp):T:=
 jB (C.tys.get t) fun ty=>gdT (zl7 C ty) <| jB (evp ps.toList e) fun vs=>jB (zx1 C (tyAtS ty) vs) fun q=>jB (z40 (zga C ty) q.1 ty.zero) fun l=>.ite (tC zA.one q.2) (k.Kd (.agg l)) .fail
def tL (C:oA)(op:Op)(e:mC)(ae:uK)(lo:Tr (List zA))(k:KOp):T:=
 match op with
 | .move x=>z2n C (.move x) x e ae k
 | .assign x=>z2n C (.assign x) x e ae k
 | .load t a=>tLoad C t a e ae lo k
 | .fieldAddr s x f=>zfr C s x f e ae k
 | .indexAddr t x i=>zfq C t x i e ae k
 | .nilCheck x=>tNil x e ae k
 | .binOp op t x y u=>tBin C op t x y u e k
 | .convert s d x=>z8b C s d x e k
 | .slice t x lo hi none=>z6a C t x lo hi e k
 | .index t x i=>bif zik i&&Nat.beq (oG C t) 5 then zp4 C (.index t x i) e k else jB (ev x e) fun v=>jB (ev i e) fun i=>.opt (sK C t v i) k.K
 | .extract t i=>jB (ev t e) fun v=>.opt (rB i v) k.K
 | .typeAssert x _ u ok=>jB (ev x e) fun v=>.opt (zm2 C u ok v) k.K
 | .lookup t x i ok=>jB (ev x e) fun m=>jB (ev i e) fun key=>.light (fun h=>yI C t ⟨0,h⟩ m key ok) k.K
 | .call c=>match c.callee with
  | .builtin b=>cV C c e k b
  | _=>.fail
 | .pick c a b=>zp4 C (.pick c a b) e k
 | .unOp o t x=>(match o with
  | .xor=>jB (ev x e) fun v=>.opt (zm4 v) k.K
  | o=>zp4 C (.unOp o t x) e k)
 | .makeInterface t x=>zp4 C (.makeInterface t x) e k
 | .makeFunc fn a b=>zp4 C (.makeFunc fn a b) e k
 | .field t x f=>zp4 C (.field t x f) e k
 | .build t ps=>z6c C t ps e k
 | _=>.fail
def laOf (la:List Nat)(dst:Option Nat):Option Nat:=
 match dst with
 | some d=>bif cE d la then some d else none
 | none=>none
structure KLo where
 new:Nat->List zA->T
 set:Nat->List zA->T
def z6b(f:Operand)(args:Array Operand)(e:mC)(k:KOp):T:=
 match f with
 | .func g=>gdT (Nat.blt g yo) (jB (evs args.toList e) fun aq=>.call g aq k.K)
 | f=>jB (ev f e) fun fv=>jB (evs args.toList e) fun aq=>.callv fv aq k.K
def two' (c:Call)(e:mC)(K:zA->zA->T):T:=jB (two c e) fun p=>K p.1 p.2
def zjt(C:oA)(c:Call)(e:mC)(k:KOp):Builtin->T
 | .append=>jB (iC c.argTypes.toList 0) fun t=>jB (iC c.argTypes.toList 1) fun u=>two' c e fun a b=>.heavy (pF C t u a b) k.K
 | b=>cV C c e k b
def z59(C:oA)(t:Nat)(a x:Operand)(e:mC)(ae:uK)(lo:Tr (List zA))(k:KOp)(kl:KLo):T:=
 match xAd ae a with
 | some p=>jB (ev x e) fun v=>jB (C.tys.get t) fun ty=>jB (lo.get p.1) fun l=>jB (z4z l p.2 ty.size (zgv ty v)) fun l'=>.ite (tC zA.one (zgv ty v)) (kl.set p.1 l') .fail
 | none=>jB (ev a e) fun a=>jB (ev x e) fun v=>.heavy (eC C t a v) k.Kd
def tH (C:oA)(la:List Nat)(dst:Option Nat)(op:Op)(e:mC)(ae:uK)(lo:Tr (List zA))(k:KOp)(kl:KLo):T:=
 match op with
 | .box t x=>bif zH (cI C t)then jB (ev x e) fun v=>(match laOf la dst with
  | some d=>jB (C.tys.get t) fun ty=>bif ty.desc.isAgg then kl.new d v.cells else .ite (zA.one v) (kl.new d [v]) .fail
  | none=>.heavy (zpx v) k.K)else jB (ev x e) fun v=>.heavy (zsv C t v) k.K
 | .alloc t=>bif zH (cI C t)then(match laOf la dst with
  | some d=>jB (C.tys.get t) fun ty=>kl.new d ty.zero
  | none=>.heavy (yH C t) k.K)else .heavy (zhf C t) k.K
 | .store t a x=>z59 C t a x e ae lo k kl
 | .buildSlice t len ps=>jB (evp ps.toList e) fun ps=>.heavy (lI C t len ps) k.K
 | .makeMap _ none=>.heavy fV k.K
 | .insert t m key x=>jB (ev m e) fun m=>jB (ev key e) fun key=>jB (ev x e) fun v=>.heavy (mI C t m key v) k.Kd
 | .mapUpdate t m key x=>jB (ev m e) fun m=>jB (ev key e) fun key=>jB (ev x e) fun v=>.heavy (mI C t m key v) k.Kd
 | .makeSlice t l c=>jB (ev l e) fun l=>jB (ev c e) fun c=>.heavy (lN C t l c) k.K
 | .convert s d x=>bif Nat.beq (oG C d) 4 then jB (ev x e) fun v=>.heavy (zhd C s d v) k.K else z8b C s d x e k
 | .call c=>match c.callee with
  | .value f=>z6b f c.args e k
  | .builtin b=>zjt C c e k b
  | _=>.fail
 | op=>tL C op e ae lo k
def rmNat(i:Nat)(l:List Nat):List Nat:=List.rec (motive:=fun _=>List Nat) [] (fun j _ g=>bif Nat.beq i j then g else j::g) l
def zp2 (n:Nat)(dst:Option Nat)(v:zA)(lt:Bool)(st:dF)(κ:KT):T:=
 match dst with
 | none=>κ st
 | some d=>bif Nat.blt d n then gdT (zH (cH d st.ad)) (κ ⟨st.tm.set d v,st.ad,st.lo,bif lt then d::rmNat d st.lit else rmNat d st.lit⟩)else κ st
def z78(n:Nat)(dst:Option Nat)(d off:Nat)(st:dF)(κ:KT):T:=
 jB dst fun i=>gdT (Nat.blt i n) (gdT (zH (st.tm.get i)) (κ ⟨st.tm,(i,d,off)::st.ad,st.lo,st.lit⟩))
def z6s(d:Nat)(ad:List (Nat × Nat × Nat)):Bool:=tC (fun a=>bif Nat.beq a.2.1 d then Nat.beq a.1 d else true) ad
def tNew (n:Nat)(d:Nat)(l:List zA)(st:dF)(κ:KT):T:=
 gdT (Nat.blt d n) (gdT (zH (st.tm.get d)) (gdT (z6s d st.ad) (κ ⟨st.tm,(d,d,0)::st.ad,st.lo.set d l,st.lit⟩)))
def fitB (C:oA)(t:Nat)(v:zA):Bool:=
 match C.tys.get t with
 | some ty=>(match ty.desc with
  | .bool=>Nat.beq v.tag 0
  | .int k=>(match v.asIntK with | some p=>kEq p.1 k | none=>false)
  | .string=>Nat.beq v.tag 2
  | _=>true)
 | none=>true
def zwf(C:oA)(t:Nat)(v:zA)(K:zA->T):T:=
 match C.tys.get t with
 | some ty=>(match ty.desc with
  | .bool=>.asB v fun b=>K (.bool b)
  | .int k=>.asI k v fun n=>K (.int k n)
  | .string=>.asS v fun s=>K (.str s)
  | .struct _=>bif Nat.ble (aA ty.zero) 40 then .asG ty.zero v fun X=>K (.agg (yM ty.zero X 0))else K v
  | .arr _ _=>bif Nat.ble (aA ty.zero) 40 then .asG ty.zero v fun X=>K (.agg (yM ty.zero X 0))else K v
  | _=>K v)
 | none=>K v
def z6u (x:Operand)(lit:List Nat):Bool:=
 match x with
 | .tmp t=>lit.contains t
 | .const _=>true
 | _=>false
def z3x(op:Op)(e:mC)(lit:List Nat):Bool:=
 match op with
 | .move x=>z6u x lit
 | .assign x=>z6u x lit
 | .unOp _ _ x=>z6u x lit
 | .pick c a b=>bif z6u c lit then(match ob (ev c e) zA.asBool with
  | some w=>bif w then z6u a lit else z6u b lit
  | none=>false)else false
 | _=>false
def zij(all:List Oper)(dst:Option Nat)(l:List Oper):Bool:=
 match dst with
 | none=>false
 | some d => !tC (fun o=>match o.guard with
  | some g=>(match ob (iC all g.1) fun p=>p.dst with | some i => !Nat.beq i d | none=>true)
  | none=>true) l
def zfp(g lt:Bool)(v:zA)(K:zA->Bool->T):T:=
 bif g then(bif lt then K v true else jB v.asBool fun b=>.ite b (K (.bool true) true) (K (.bool false) true))else K v lt
def kop (C:oA)(all:Array Oper)(n:Nat)(o:Oper)(e:mC)(st:dF)(κ:KT):KOp:=
 ⟨fun v=>zwf C o.type v fun v=>zfp (zij all.toList o.dst all.toList) (z3x o.op e st.lit) v fun v lt=>zp2 n o.dst v lt st κ,
  fun v=>gdT (fitB C o.type v) (zfp (zij all.toList o.dst all.toList) (z3x o.op e st.lit) v fun v lt=>zp2 n o.dst v lt st κ),
  fun d off=>gdT (!Nat.ble (oG C o.type) 2) (z78 n o.dst d off st κ)⟩
def klo (C:oA)(n:Nat)(o:Oper)(st:dF)(κ:KT):KLo:=
 ⟨fun d l=>gdT (!Nat.ble (oG C o.type) 2) (tNew n d l st κ),
  fun d l=>gdT (fitB C o.type pD) (zp2 n o.dst pD false ⟨st.tm,st.ad,st.lo.set d l,st.lit⟩ κ)⟩
def mC.adCut(k:Nat)(l:List (Nat × Nat × Nat)):List (Nat × Nat × Nat):=l.filter fun a=>Nat.blt a.1 k
def dF.cut(st:dF):dF:=⟨st.tm.cut,mC.adCut st.tm.k st.ad,st.lo,st.lit⟩
def tops (C:oA)(la:List Nat)(all:Array Oper)(n:Nat)(κ:KT)(l:List Oper):KT:=
 List.rec (motive:=fun _=>KT) κ
  (fun o _ g st=>jB (jE o.guard all st.tm) fun w=>Bool.rec (motive:=fun _=>T) (zp2 n o.dst pD false st g)
   (tH C la o.dst o.op (.now st.tm) (.now st.ad) st.lo (kop C all n o (.now st.tm) st g) (klo C n o st g)) w) l
def zoa (st old:dF)(olds:List Nat)(op:Op):mC:=.mixed st.tm old.tm olds (aF op)
def z3t (st old:dF)(olds:List Nat)(op:Op):uK:=.mixed st.ad old.ad olds (aF op)
def eM(C:oA)(all:Array Oper)(n:Nat)(old:dF)(olds:List (Nat × List Nat))(κ:KT)(l:List Nat):KT:=
 List.rec (motive:=fun _=>KT) κ
  (fun i _ g st=>jB (iC all.toList i) fun o=>jB (jE o.guard all st.tm) fun w=>Bool.rec (motive:=fun _=>T) (zp2 n o.dst pD false st g)
   (tL C o.op (zoa st old (iD i olds) o.op) (z3t st old (iD i olds) o.op) st.lo (kop C all n o (zoa st old (iD i olds) o.op) st g)) w) l
def mP(C:oA)(all:Array Oper)(old:dF)(olds:List (Nat × List Nat))(st:dF)(k:T)(l:List Nat):T:=
 List.rec (motive:=fun _=>T) k
  (fun i _ g=>jB (iC all.toList i) fun o=>jB o.dst fun d=>jB (jE o.guard all st.tm) fun w=>Bool.rec (motive:=fun _=>T) g
   (jB (st.tm.get d) fun u=>gdT (fitB C o.type u) (tL C o.op (zoa st old (iD i olds) o.op) (z3t st old (iD i olds) o.op) st.lo ⟨fun v=>.ite (same 10 v u) g .fail,fun v=>.ite (same 10 v u) g .fail,fun _ _=>.fail⟩)) w) l
def nP(C:oA)(es:List Eff)(H:xA):Option (zA × xA):=ob (yQ C es H) fun H'=>some (pD,H')
def tEff (op:Op)(e:mC)(ae:uK):Option Eff:=
 match op with
 | .store t a x=>(match xAd ae a with
  | some _=>none
  | none=>bO (.store t a x) e)
 | op=>bO op e
def z2p(all:Array Oper)(old:dF)(olds:List (Nat × List Nat))(st:dF)(l:List Nat):Option (List Eff):=
 jF (fun i=>ob (iC all.toList i) fun o=>ob (jE o.guard all st.tm) fun w=>cA w (tEff o.op (zoa st old (iD i olds) o.op) (z3t st old (iD i olds) o.op))) l
def mR(C:oA)(all:Array Oper)(n:Nat)(old:dF)(olds:List (Nat × List Nat))(κ:KT)(l:List uE):KT:=
 List.rec (motive:=fun _=>KT) κ
  (fun s _ g st=>Bool.rec (motive:=fun _=>T) (jB (iC all.toList (hvI all s.heavy)) fun o=>jB (yO C all s.heavy o st.tm) fun w=>
   (fun cont:KT=>Bool.rec (motive:=fun _=>T) (zp2 n o.dst pD false st cont)
    (tH C [] o.dst o.op (zoa st old (iD (hvI all s.heavy) olds) o.op) (z3t st old (iD (hvI all s.heavy) olds) o.op) st.lo (kop C all n o (zoa st old (iD (hvI all s.heavy) olds) o.op) st cont) (klo C n o st cont)) w)
   (fun st'=>mP C all old olds st' (eM C all n old olds g s.lights st') s.again))
   (gdT (eP C all) (jB (z2p all old olds st s.again) fun es=>.heavy (nP C es) fun _=>eM C all n old olds g s.lights st)) (cN all s)) l
def zv4(C:oA)(la:List Nat)(fn n:Nat)(κ:KT)(id:Nat)(all:Array Oper)(draw:Bool):KT:=
 Bool.rec (motive:=fun _=>KT) (fun st=>tops C la all n κ all.toList st.cut)
  (fun st=>jB (ob (C.plans.get fn) fun t=>t.get id) fun p=>gdT (fN all p) (eM C all n st.cut p.olds (mR C all n st.cut p.olds κ p.stages) p.first st.cut)) draw
def zfn(st:dF)(ll:List (Nat × Nat)):Option (List zA):=
 List.rec (motive:=fun _=>Option (List zA)) (some []) (fun p _ g=>ob (cH p.1 st.ad) fun a=>cA (Nat.beq a.1 p.1&&Nat.beq a.2 0) (ob (st.lo.get p.1) fun l=>cA (Nat.beq (aA l) p.2) (ob g fun r=>some (aC l r)))) ll
def zfm(p:PI)(st:dF):Option (List zA):=ob (jF (fun i=>st.tm.get i) p.pl) fun a=>ob (zfn st p.ll) fun b=>some (aC a b)
def z18 (ll:List (Nat × Nat)):List zA->Tr (List zA):=
 List.rec (motive:=fun _=>List zA->Tr (List zA)) (fun _=>.leaf) (fun p _ g vals=>(g (wM vals p.2)).set p.1 (zfe vals p.2)) ll
def zmo (pl:List Nat):List zA->Tr zA:=
 List.rec (motive:=fun _=>List zA->Tr zA) (fun _=>.leaf) (fun i _ g vals=>List.rec (motive:=fun _=>Tr zA) .leaf (fun v vals _=>(g vals).set i v) vals) pl
def stAd (ll:List (Nat × Nat)):List (Nat × Nat × Nat):=List.rec (motive:=fun _=>List (Nat × Nat × Nat)) [] (fun p _ g=>(p.1,p.1,0)::g) ll
def zvb (k:Nat)(p:PI)(vals:List zA):dF:=⟨⟨k,zmo p.pl vals,[]⟩,stAd p.ll,z18 p.ll (wM vals (aA p.pl)),[]⟩
def npC (C:oA)(g:Nat):Bool:=zH (C.prims.get g)
def z6m(pl:List Nat)(st:dF):Option (List zA):=jF (fun i=>st.tm.get i) pl
def zxp(k n:Nat)(pl ps:List Nat)(ops:List Oper)(c:qD):Bool:=
 tC (fun p=>Nat.blt p k&&Nat.blt p n && !cE p pl) ps&&Nat.ble (aA ps) 1&&rW ops&&(match cM c with | []=>true | _=>false)
def rdT:KtT:=⟨fun _=>.ret (.bool true),fun _ _=>.fail,fun _=>.ret (.bool false)⟩
def zxo(C:oA)(n:Nat)(κ:KtT)(i:Nat)(pl:List Nat)(f:Operand)(ps:List Nat)(ops:List Oper)(c:qD)(st:dF):T:=
 gdT (zxp st.tm.k n pl ps ops c) (jB (z6m pl st) fun vals=>jB (ev f (.now st.tm)) fun fv=>.range (npC C) fv i (aA ps) vals (κ.norm st) (κ.ret st))
def zm7 (C:oA)(la:List Nat)(fn n:Nat)(c:qD):KtT->KT:=
 qD.rec (motive:=fun _=>KtT->KT)
  (fun κ st=>κ.norm st)
  (fun id all draw κ=>zv4 C la fn n κ.norm id all draw)
  (fun _ _ ga gb κ=>ga ⟨gb κ,κ.exit,κ.ret⟩)
  (fun c _ _ gx gy κ st=>jB (ob (ev c (.now st.tm)) zA.asBool) fun b=>bif z6u c st.lit then Bool.rec (motive:=fun _=>T) (gy κ st) (gx κ st) b else .ite b (gx κ st) (gy κ st))
  (fun id _ g κ=>g ⟨κ.norm,fun i st=>Bool.rec (motive:=fun _=>T) (κ.exit i st) (κ.norm st) (Nat.beq id i),κ.ret⟩)
  (fun p _ _ _ st=>jB (zfm p st) fun vals=>.jump p.id vals)
  (fun id κ st=>κ.exit id st)
  (fun κ st=>κ.ret st)
  (fun p _ _ _ st=>jB (zfm p st) fun vals=>.jump p.id vals)
  (fun i pl f ps _ ops c _ κ st=>zxo C n κ i pl f ps.toList ops.toList c st) c
structure PtT where
 p:PI
 tree:List zA->T
def zt2(p:PI):KT:=fun st=>jB (zfm p st) fun vals=>.jump p.id vals
def eR(C:oA)(la:List Nat)(fn n k:Nat)(c:qD):KtT->List PtT:=
 qD.rec (motive:=fun _=>KtT->List PtT)
  (fun _=>[])
  (fun _ _ _ _=>[])
  (fun _ b ga gb κ=>aC (ga ⟨zm7 C la fn n b κ,κ.exit,κ.ret⟩) (gb κ))
  (fun _ _ _ gx gy κ=>aC (gx κ) (gy κ))
  (fun id _ g κ=>g ⟨κ.norm,fun i st=>Bool.rec (motive:=fun _=>T) (κ.exit i st) (κ.norm st) (Nat.beq id i),κ.ret⟩)
  (fun p c g κ=>⟨p,fun vals=>zm7 C la fn n c ⟨zt2 p,κ.exit,κ.ret⟩ (zvb k p vals)⟩::g ⟨zt2 p,κ.exit,κ.ret⟩)
  (fun _ _=>[])
  (fun _=>[])
  (fun p c g κ=>⟨p,fun vals=>zm7 C la fn n c κ (zvb k p vals)⟩::g κ)
  (fun i pl _ ps id ops c g _=>⟨⟨i,aC pl ps.toList,[]⟩,fun vals=>zm7 C la fn n (.seq (.region id ops false) c) rdT (zvb k ⟨i,aC pl ps.toList,[]⟩ vals)⟩::g rdT) c
def resT (C:oA)(st:dF)(l:List ResultVar):(List zA->T)->T:=
 List.rec (motive:=fun _=>(List zA->T)->T) (fun K=>K [])
  (fun r _ g K=>match r with
   | .tmp t=>jB (st.tm.get t) fun v=>g fun l=>K (v::l)
   | .cell a t=>match cH a st.ad with
    | some p=>jB (st.lo.get p.1) fun l=>jB (C.tys.get t) fun ty=>gdT (Nat.ble (p.2+ty.size) (aA l)) (jB (rL C t l p.2) fun v=>g fun l=>K (v::l))
    | none=>jB (st.tm.get a) fun a=>.light (fun m=>mA C t ⟨0,m⟩ a) fun v=>g fun l=>K (v::l)) l
def endT (C:oA)(fn:Func):KT:=fun st=>resT C st fn.results.toList fun l=>.ret (uT l)
def topT (C:oA)(fn:Func):KtT:=⟨endT C fn,fun _ _=>.fail,endT C fn⟩
structure vB where
 code:qD
 la:List Nat
def entT (C:oA)(fn:Func)(k:Nat)(f:Nat)(A:vB)(args:List zA):T:=zm7 C A.la f fn.ntmps A.code (topT C fn) ⟨⟨k,Tr.ofList args,[]⟩,[],.leaf,[]⟩
def ptsT (C:oA)(fn:Func)(k:Nat)(f:Nat)(A:vB):List PtT:=eR C A.la f fn.ntmps k A.code (topT C fn)
def ztj(l:List PtT)(i:Nat)(vals:List zA):List T:=List.rec (motive:=fun _=>List T) [] (fun p _ g=>bif Nat.beq p.p.id i then p.tree vals::g else g) l
end
section
def sE {α:Type}(x:Option α)(P:α->Prop):Prop:=
 match x with
 | some a=>P a
 | none=>False
def uO{α:Type}{x:Option α}{P:α->Prop}:sE x P ↔ ∃a,x=some a/\P a:=by
 cases x with
 | none=>simp[sE]
 | some a=>simp[sE]
@[simp] theorem tA {α:Type} {a:α} {P:α->Prop}:sE (some a) P=P a:=rfl
@[simp] theorem optP_none {α:Type} {P:α->Prop}:sE (none:Option α) P=False:=rfl
abbrev bB:=zA->Tr rA->Prop
abbrev bG:=Nat->List zA->Tr rA->bB->Prop
def z7h{α:Type}:List α->Bool | []=>true | _::_=>false
def wP(f:zA)(args:List zA):Option (Nat × List zA):=ob f.asFunc fun p=>match p.1 with
 | .func g=>cA (Nat.blt g yo) (some (g,aC (aC p.2.1 args) p.2.2))
 | .yld l=>cA (z7h p.2.1&&z7h p.2.2) (some (yo+l,args))
def eX(np:Nat->Bool)(f:zA)(l:Nat):Option (Nat × List zA):=ob f.asFunc fun p=>match p.1 with
 | .func g=>cA (Nat.blt g yo&&np g) (some (g,aC p.2.1 (.func (.yld l) [] []::p.2.2)))
 | .yld _=>none
def z9o (k:IntKind)(v:zA):Option Int:=ob v.asIntK fun p=>cA (kEq p.1 k) (some p.2)
def kK (zs:List zA)(v:zA):Option rP:=ob v.asAgg fun l=>cA (mL zs l) (some (cellsOf l))
def pA (base:Nat)(W:bG)(J:bG):T->Tr rA->bB->Prop
 | .ret v,t,Q=>Q v t
 | .fail,_,_=>False
 | .ite b x y,t,Q=>if b=true then pA base W J x t Q else pA base W J y t Q
 | .opt x K,t,Q=>sE x fun v=>pA base W J (K v) t Q
 | .light x K,t,Q=>sE (x t) fun v=>pA base W J (K v) t Q
 | .heavy x K,t,Q=>∀b,t.get b=none->base<=b->sE (x ⟨b,t⟩) fun p=>pA base W J (K p.1) p.2.t Q
 | .call f args K,t,Q=>W f args t fun v t'=>pA base W J (K v) t' Q
 | .callv f args K,t,Q=>sE (wP f args) fun p=>W p.1 p.2 t fun v t'=>pA base W J (K v) t' Q
 | .asI k v K,t,Q=>sE (z9o k v) fun n=>pA base W J (K n) t Q
 | .asB v K,t,Q=>sE v.asBool fun n=>pA base W J (K n) t Q
 | .asS v K,t,Q=>sE v.asStr fun n=>pA base W J (K n) t Q
 | .asG zs v K,t,Q=>sE (kK zs v) fun X=>pA base W J (K X) t Q
 | .jump i vals,t,Q=>J i vals t Q
 | .range np f i m vals K R,t,Q=>256<=base/\∀l r,t.get l=none->base<=l->r.state=.ready->r.pending=none →
   (∀args t1 Q1,args.length=m->t1.get l=some (.loop r)->J i (vals++args) (t1.del l) (fun v t2=>t2.get l=none->∃b,v=.bool b/\Q1 v (t2.set l (.loop (zie b r))))->W (yo+l) args t1 Q1) →
   sE (eX np f l) fun p=>W p.1 p.2 (t.set l (.loop r)) fun _ t'=>(t'.get l=some (.loop r)/\pA base W J K (t'.del l) Q)\/(t'.get l=some (.loop (zie false r))/\pA base W J R (t'.del l) Q)
abbrev Xt:=Nat->Option rA
def XLe (X Y:Xt):Prop:=∀b y,X b=some y->Y b=some y
def XLe.refl(X:Xt):XLe X X:=fun _ _ h=>h
def XLe.trans{X Y Z:Xt}(h:XLe X Y)(k:XLe Y Z):XLe X Z:=fun b y e=>k b y (h b y e)
structure Ov (base:Nat) (t:Tr rA) (X:Xt) (H:xA):Prop where
 base:base<=H.next
 same:∀b,X b=none->H.t.get b=t.get b
 ext:∀b y,X b=some y->H.t.get b=some y/\t.get b=none/\b<H.next
 lt:∀b y,t.get b=some y->b<H.next
def HLe (H H':xA):Prop:=∀b y,H.t.get b=some y->H'.t.get b=some y
def oN(e e':mC):Prop:=∀i v,z15 i e=some v->z15 i e'=some v
section
variable {base:Nat}{t:Tr rA}{X:Xt}{H HA:xA}{e e':mC}{C:oA}{v:zA}
def Ov.notX(h:Ov base t X HA){b:Nat}{y:rA}(hb:t.get b=some y):X b=none:=by
 cases hx:X b with
 | none=>rfl
 | some z=>have:=(h.ext b z hx).2.1;rw[hb]at this;cases this
def Ov.up(h:Ov base t X HA){b:Nat}{y:rA}(hb:t.get b=some y):HA.t.get b=some y:=by rw[h.same b (h.notX hb)];exact hb
def Ov.le(h:Ov base t X HA){n:Nat}:HLe ⟨n,t⟩ HA:=fun _ _ hb=>h.up hb
def Ov.nextX(h:Ov base t X HA):X HA.next=none:=by
 cases hx:X HA.next with
 | none=>rfl
 | some z=>exact absurd (h.ext _ z hx).2.2 (Nat.lt_irrefl _)
def Ov.nextT(h:Ov base t X HA):t.get HA.next=none:=by
 cases hx:t.get HA.next with
 | none=>rfl
 | some z=>exact absurd (h.lt _ z hx) (Nat.lt_irrefl _)
def mM(h:HLe H HA){b:Nat}{p:Tr zA × Nat × Option Lo}(hb:xD H b=some p):xD HA b=some p:=by
 unfold xD at hb ⊢;rw[sA]at hb ⊢;obtain⟨y,h1,h2⟩:=hb;exact⟨y,h _ _ h1,h2⟩
def vU(h:HLe H HA){b:Nat}{p:List (zA × zA)}(hb:gG H b=some p):gG HA b=some p:=by
 unfold gG at hb ⊢;rw[sA]at hb ⊢;obtain⟨y,h1,h2⟩:=hb;exact⟨y,h _ _ h1,h2⟩
def fC(h:oN e e'){x:Operand}(hx:ev x e=some v):ev x e'=some v:=by
 cases x with
 | tmp i=>exact h i v hx
 | const c=>exact hx
 | global g=>exact hx
 | func f=>exact hx
def ziu(h:oN e e'){l:List Operand}{vs:List zA}(hx:evs l e=some vs):evs l e'=some vs:=zY l (fun _ _ k=>fC h k) hx
def zr3(h:oN e e'){x:Option Operand}{r:Option zA}(hx:evo x e=some r):evo x e'=some r:=by
 cases x with
 | none=>exact hx
 | some x=>
  have hx:ob (ev x e) (fun v=>some (some v))=some r:=hx
  show ob (ev x e') (fun v=>some (some v))=some r
  rw[sA]at hx ⊢
  obtain⟨a,h1,h2⟩:=hx
  exact⟨a,fC h h1,h2⟩
def ziv(h:oN e e'){l:List (Nat × Operand)}{vs:List (Nat × zA)}(hx:evp l e=some vs):evp l e'=some vs:=
 zY l (fun a b k=>by rw[sA]at k ⊢;obtain⟨u,h1,h2⟩:=k;exact⟨u,fC h h1,h2⟩) hx
def zhi(h:oN e e'){c:Call}{p:zA × zA}(hx:two c e=some p):two c e'=some p:=by
 unfold two at hx ⊢
 split at hx
 ·rw[sA]at hx ⊢
  obtain⟨a,h1,hx⟩:=hx
  refine⟨a,fC h h1,?_⟩
  rw[sA]at hx ⊢
  obtain⟨b,h2,hx⟩:=hx
  exact⟨b,fC h h2,hx⟩
 ·cases hx
def sX(h:HLe H HA){ty:Nat}{a:zA}(hx:mA C ty H a=some v):mA C ty HA a=some v:=by
 unfold mA at hx ⊢
 simp only[sA]at hx ⊢
 obtain⟨p,h1,y,h2,c,h3,h4⟩:=hx
 exact⟨p,h1,y,h2,c,mM h h3,h4⟩
def zbd(h:HLe H HA){s d:uC}{a:zA}(hx:qM C s d a H=some v):qM C s d a HA=some v:=by
 unfold qM at hx ⊢
 split at hx
 ·rename_i k hk;exact hx
 ·rename_i hk
  rw[xB]at hx ⊢
  refine⟨hx.1,?_⟩
  have hx:=hx.2
  rw[iB]at hx ⊢
  split at hx
  ·rename_i e;rw[yab e];exact hx
  ·rename_i e
   rw[yaa e];simp only[sA,xB]at hx ⊢
   obtain⟨a1,h1,b1,h2,k1,h3,h4,h5⟩:=hx
   refine⟨a1,h1,b1,h2,k1,h3,h4,?_⟩
   unfold zU at h5 ⊢
   split at h5
   ·simp only[sA]at h5 ⊢
    obtain⟨c,g1,g2⟩:=h5
    exact⟨c,mM h g1,g2⟩
   ·exact h5
def zsu(h:HLe H HA){s d:Nat}{a:zA}(hx:fK C s d H a=some v):fK C s d HA a=some v:=by
 unfold fK at hx ⊢
 simp only[sA]at hx ⊢
 obtain⟨a1,h1,b1,h2,h3⟩:=hx
 exact⟨a1,h1,b1,h2,zbd h h3⟩
def ze9(h:HLe H HA){b size cap l:Nat}{arr:Bool}(hx:jH H b size cap l arr=true):jH HA b size cap l arr=true:=by
 unfold jH at hx ⊢
 cases hc:xD H b with
 | none=>rw[hc]at hx;cases hx
 | some c=>rw[hc]at hx;rw[mM h hc];exact hx
def uZ(h:HLe H HA){ty:uC}{a:zA}{l r:Option zA}(hx:rK C H ty a l r=some v):rK C HA ty a l r=some v:=by
 have row:∀ {arr e b off len cap},vL C H arr e b off len cap l r=some v->vL C HA arr e b off len cap l r=some v:=by
  intro arr e b off len cap hx;unfold vL at hx ⊢
  simp only[sA]at hx ⊢
  obtain⟨a1,h1,b1,h2,hx⟩:=hx
  refine⟨a1,h1,b1,h2,?_⟩
  cases hb:xD H b with
  | none=>
   have e1:aI H b a1.size cap b1.1 arr=false:=by unfold aI;rw[hb]
   have e2:jH H b a1.size cap b1.1 arr=false:=by unfold jH;rw[hb]
   rw[e1,e2,yay,yay]at hx
   cases hx
  | some c=>
   have e1:aI HA b a1.size cap b1.1 arr=aI H b a1.size cap b1.1 arr:=by unfold aI;rw[hb,mM h hb]
   have e2:jH HA b a1.size cap b1.1 arr=jH H b a1.size cap b1.1 arr:=by unfold jH;rw[hb,mM h hb]
   rw[e1,e2];exact hx
 unfold rK at hx ⊢
 split at hx
 ·exact hx
 ·split at hx
  ·rw[sA]at hx ⊢;obtain⟨a1,h1,h2⟩:=hx;exact⟨a1,h1,row h2⟩
  ·split at hx
   ·rw[sA]at hx ⊢;obtain⟨a1,h1,h2⟩:=hx;exact⟨a1,h1,row h2⟩
   ·exact hx
def zm0(h:HLe H HA){ty:Nat}{a:zA}{l r:Option zA}(hx:vG C ty H a l r=some v):vG C ty HA a l r=some v:=by
 unfold vG at hx ⊢
 rw[sA]at hx ⊢
 obtain⟨a1,h1,h2⟩:=hx
 exact⟨a1,h1,uZ h h2⟩
def za2(h:HLe H HA){m:zA}{l:List (zA × zA)}(hx:aM H m=some l):aM HA m=some l:=by
 unfold aM at hx ⊢
 split at hx
 ·exact vU h hx
 ·exact hx
def zjj(h:HLe H HA){ty:Nat}{m k:zA}{ok:Bool}(hx:yI C ty H m k ok=some v):yI C ty HA m k ok=some v:=by
 unfold yI at hx ⊢
 simp only[sA,xB]at hx ⊢
 obtain⟨a1,h1,b1,h2,c1,h3,h4,d1,h5,es,h6,h7⟩:=hx
 exact⟨a1,h1,b1,h2,c1,h3,h4,d1,h5,es,za2 h h6,h7⟩
def zdu(h:HLe H HA){ty:uC}{a:zA}{n:Nat}(hx:zvc H ty a=some n):zvc HA ty a=some n:=by
 unfold zvc at hx ⊢
 split at hx
 ·exact hx
 ·split at hx
  ·exact hx
  ·split at hx
   ·exact hx
   ·split at hx
    ·rw[xB,sA]at hx ⊢
     obtain⟨h1,l,h2,h3⟩:=hx
     exact⟨h1,l,vU h h2,h3⟩
    ·exact hx
def zvo(h:HLe H HA){ty:Nat}{a:zA}(hx:zva C ty H a=some v):zva C ty HA a=some v:=by
 unfold zva at hx ⊢
 simp only[sA]at hx ⊢
 obtain⟨a1,h1,n,h2,h3⟩:=hx
 exact⟨a1,h1,n,zdu h h2,h3⟩
def zy6{ty:Nat}{a:Operand}:nO ty a C e H=ob (ev a e) fun v=>mA C ty H v:=rfl
def zy9{s d:Nat}{x:Operand}{u:zA}(hx:ev x e=some u):bK s d x C e H=fK C s d H u:=by unfold bK fK;rw[hx];rfl
def z36{ty:Nat}{x:Operand}{lo hi:Option Operand}{a:zA}{l r:Option zA}(h1:ev x e=some a)(h2:evo lo e=some l)(h3:evo hi e=some r):cQ ty x lo hi C e H=vG C ty H a l r:=by unfold cQ vG;rw[h1,uA,h2,uA,h3,uA]
def zbp{s f:Nat}{x:Operand}{u:zA}(hx:ev x e=some u):kO s x f C e H=sB C s f u:=by
 unfold kO sB nU;rw[hx]
 cases C.tys.get s with
 | none=>rfl
 | some ty=>
  simp only[uA]
  cases ty.desc.asStruct with
  | none=>rfl
  | some fs=>
   simp only[uA]
   cases iC fs f with
   | none=>rfl
   | some fd=>simp only[uA];cases hb:(!Nat.beq fd.2.2 0)<;>rfl
def zbo{ty:Nat}{x i:Operand}{u w:zA}(hx:ev x e=some u)(hi:ev i e=some w):mO ty x i C e H=lB C ty u w:=by unfold mO lB;rw[hx,hi];rfl
def z4a{ty:Nat}{x i:Operand}{u w:zA}(hx:ev x e=some u)(hi:ev i e=some w):lO ty x i C e H=sK C ty u w:=by unfold lO sK;rw[hx,hi];rfl
def z6w{x:Operand}{u:zA}(hx:ev x e=some u):z38 x C e H=rC u:=by unfold z38 rC;rw[hx];rfl
def zty{x:Operand}{i:Nat}{u:zA}(hx:ev x e=some u):jO x i C e H=rB i u:=by unfold jO rB;rw[hx];rfl
def lBin_v{op:BinOp}{ty:Nat}{x y:Operand}{u w:zA}(hx:ev x e=some u)(hy:ev y e=some w):zzb op ty x y C e H=(binA op).f C ty x y u w:=by unfold zzb;rw[hx,hy];rfl
def zzc{x:Operand}{a:Nat}{ok:Bool}{u:zA}(hx:ev x e=some u):iO x a ok C e H=zm2 C a ok u:=by
 unfold iO zm2;rw[hx];rfl
def zy5{ty:Nat}{x i:Operand}{ok:Bool}{m k:zA}(hx:ev x e=some m)(hi:ev i e=some k):oO ty x i ok C e H=yI C ty H m k ok:=by unfold oO yI;rw[hx,hi];rfl
def lLen_v{c:Call}{ty:Nat}{x:Operand}{u:zA}(h1:iC c.argTypes.toList 0=some ty)(h2:iC c.args.toList 0=some x)(hx:ev x e=some u):zoh c C e H=zva C ty H u:=by unfold zoh zva;rw[h1,uA,h2,uA,hx];rfl
def z45(he:oN e e'){op:Op}(hp:iN op=true\/(∃s d x,op=.convert s d x/\(oG C d=1\/oG C s=2))\/(∃c,op=.call c/\(c.callee=.builtin .max\/c.callee=.builtin .min))){H':xA}(h:(lE op).f C e H=some v):(lE op).f C e' H'=some v:=by
 rcases hp with hp | hp | hp
 ·cases op<;>simp only[iN]at hp<;>try (cases hp;done)
  case move x=>exact fC he h
  case assign x=>exact fC he h
  case pick c a b=>
   have h:ob (ev c e) (fun c=>ob c.asBool fun c=>bif c then ev a e else ev b e)=some v:=h
   show ob (ev c e') (fun c=>ob c.asBool fun c=>bif c then ev a e' else ev b e')=some v
   simp only[sA]at h ⊢
   obtain⟨u,h1,w,h2,h3⟩:=h
   refine⟨u,fC he h1,w,h2,?_⟩
   cases w with
   | true=>exact fC he h3
   | false=>exact fC he h3
  case nilCheck x=>
   have h:ob (ev x e) (fun u=>cA (Nat.beq u.tag 4||Nat.beq u.tag 9) (some u))=some v:=h
   show ob (ev x e') (fun u=>cA (Nat.beq u.tag 4||Nat.beq u.tag 9) (some u))=some v
   rw[sA]at h ⊢
   obtain⟨u,h1,h2⟩:=h
   exact⟨u,fC he h1,h2⟩
  case binOp op t x y u=>
   have h:zzb op t x y C e H=some v:=h
   show zzb op t x y C e' H'=some v
   unfold zzb at h ⊢
   simp only[sA]at h ⊢
   obtain⟨a,h1,b,h2,h3⟩:=h
   exact⟨a,fC he h1,b,fC he h2,h3⟩
  case unOp op t x=>
   have h:lUn op x C e H=some v:=h
   show lUn op x C e' H'=some v
   unfold lUn at h ⊢
   rw[sA]at h ⊢
   obtain⟨a,h1,h2⟩:=h
   exact⟨a,fC he h1,h2⟩
  case makeInterface t x=>
   have h:zS t x C e H=some v:=h
   show zS t x C e' H'=some v
   unfold zS at h ⊢
   simp only[sA,xB]at h ⊢
   obtain⟨a,h1,h2,b,h3,h4⟩:=h
   exact⟨a,h1,h2,b,fC he h3,h4⟩
  case makeFunc fn a b=>
   have h:(xS fn a b).f C e H=some v:=h
   show(xS fn a b).f C e' H'=some v
   unfold xS at h ⊢
   split at h
   ·show zy8 _ a b C e' H'=some v
    unfold zy8 at h ⊢
    simp only[sA]at h ⊢
    obtain⟨x,h1,y,h2,h3⟩:=h
    exact⟨x,ziu he h1,y,ziu he h2,h3⟩
   ·cases h
  case fieldAddr s x f=>
   have h:kO s x f C e H=some v:=h
   show kO s x f C e' H'=some v
   unfold kO at h ⊢
   simp only[sA,xB]at h ⊢
   obtain⟨a,h1,b,h2,c,h3,h4,u,h5,h6⟩:=h
   exact⟨a,h1,b,h2,c,h3,h4,u,fC he h5,h6⟩
  case field t x f=>
   have h:wS t x f C e H=some v:=h
   show wS t x f C e' H'=some v
   unfold wS at h ⊢
   simp only[sA]at h ⊢
   obtain⟨a,h1,b,h2,c,h3,u,h5,h6⟩:=h
   exact⟨a,h1,b,h2,c,h3,u,fC he h5,h6⟩
  case indexAddr t x i=>
   have h:mO t x i C e H=some v:=h
   show mO t x i C e' H'=some v
   unfold mO at h ⊢
   simp only[sA]at h ⊢
   obtain⟨a,h1,b,h2,c,h3,h4⟩:=h
   exact⟨a,h1,b,fC he h2,c,fC he h3,h4⟩
  case index t x i=>
   have h:lO t x i C e H=some v:=h
   show lO t x i C e' H'=some v
   unfold lO at h ⊢
   simp only[sA]at h ⊢
   obtain⟨a,h1,b,h2,c,h3,h4⟩:=h
   exact⟨a,h1,b,fC he h2,c,fC he h3,h4⟩
  case extract t i=>
   have h:jO t i C e H=some v:=h
   show jO t i C e' H'=some v
   unfold jO at h ⊢
   rw[sA]at h ⊢
   obtain⟨a,h1,h2⟩:=h
   exact⟨a,fC he h1,h2⟩
  case build t ps=>
   have h:cP t ps C e H=some v:=h
   show cP t ps C e' H'=some v
   unfold cP at h ⊢
   rw[sA]at h ⊢
   obtain⟨a,h1,h⟩:=h
   refine⟨a,h1,?_⟩
   rw[sA]at h ⊢
   obtain⟨b,h2,h⟩:=h
   exact⟨b,ziv he h2,h⟩
  case typeAssert x t u ok=>
   have h:iO x u ok C e H=some v:=h
   show iO x u ok C e' H'=some v
   unfold iO at h ⊢
   rw[sA]at h ⊢
   obtain⟨a,h1,h⟩:=h
   refine⟨a,h1,?_⟩
   rw[xB]at h ⊢
   refine⟨h.1,?_⟩
   have h:=h.2
   rw[sA]at h ⊢
   obtain⟨b,h2,h⟩:=h
   exact⟨b,fC he h2,h⟩
 ·obtain⟨s,d,x,rfl,hp⟩:=hp
  have h:bK s d x C e H=some v:=h
  show bK s d x C e' H'=some v
  unfold bK at h ⊢
  simp only[sA]at h ⊢
  obtain⟨u,h1,sy,h2,dy,h3,h4⟩:=h
  refine⟨u,fC he h1,sy,h2,dy,h3,?_⟩
  unfold qM at h4 ⊢
  split at h4
  ·exact h4
  ·rename_i hd
   rw[xB]at h4 ⊢
   refine⟨h4.1,?_⟩
   have h4:=h4.2
   rw[iB]at h4 ⊢
   split at h4
   ·rename_i e;rw[yab e];exact h4
   ·rename_i e
    exfalso
    rcases hp with hp | hp
    ·unfold oG at hp
     rw[h3]at hp;have hp:dy.desc.tag=1:=hp
     cases hx:dy.desc<;>rw[hx]at hp hd<;>first
      | (cases hp;done)
      | (cases hd;done)
    ·unfold oG at hp
     rw[h2]at hp;have hp:sy.desc.tag=2:=hp
     simp only[sA]at h4;obtain⟨el,h5,_⟩:=h4
     cases hx:sy.desc<;>rw[hx]at hp h5<;>first
      | (cases hp;done)
      | (cases h5;done)
 ·obtain⟨c,rfl,hc⟩:=hp
  rcases hc with hc | hc
  ·have h:(wN c c.callee).f C e H=some v:=h
   show(wN c c.callee).f C e' H'=some v
   rw[hc]at h ⊢
   have h:zy4 c C e H=some v:=h
   show zy4 c C e' H'=some v
   unfold zy4 at h ⊢
   rw[sA]at h ⊢
   obtain⟨p,h1,h2⟩:=h
   exact⟨p,zhi he h1,h2⟩
  ·have h:(wN c c.callee).f C e H=some v:=h
   show(wN c c.callee).f C e' H'=some v
   rw[hc]at h ⊢
   have h:zy2 c C e H=some v:=h
   show zy2 c C e' H'=some v
   unfold zy2 at h ⊢
   rw[sA]at h ⊢
   obtain⟨p,h1,h2⟩:=h
   exact⟨p,zhi he h1,h2⟩
end
end
end Go.Am
