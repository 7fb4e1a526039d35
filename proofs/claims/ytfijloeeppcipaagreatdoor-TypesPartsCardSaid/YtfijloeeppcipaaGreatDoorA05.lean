/- Code as a function: it grows with its calls and its continuation, and comes to its limit. -/
import Derived.Test.YtfijloeeppcipaaGreatDoorA04
set_option linter.all false
noncomputable section
namespace Go.Am
open Go Go.RowKit
def Le2 {α β γ:Type}(k k':α->β->Option γ):Prop:=∀a b x,k a b=some x->k' a b=some x
def OLe (φ φ':Ora):Prop:=∀f a H x,φ f a H=some x->φ' f a H=some x
structure KLe (κ κ':Kt):Prop where
 norm:Le2 κ.norm κ'.norm
 exit:∀i,Le2 (κ.exit i) (κ'.exit i)
 ret:Le2 κ.ret κ'.ret
section
variable {C:qA}{φ φ':Ora}{all:Array Oper}{n:Nat}{x:zA × xA}
theorem zj0(hφ:OLe φ φ'){r:mI}{H:xA}{k k':zA->xA->tB}(hk:Le2 k k')(h:rF φ r H k=some x):rF φ' r H k'=some x:=by
 cases r<;>simp only[rF]at h ⊢<;>try (cases h;done)
 case val v H'=>exact hk _ _ _ h
 case enter f args=>
  rw[tA]at h ⊢
  obtain⟨p,h1,h2⟩:=h
  exact⟨p,hφ _ _ _ _ h1,hk _ _ _ h2⟩
 case round l args=>
  rw[tA]at h ⊢
  obtain⟨p,h1,h2⟩:=h
  exact⟨p,hφ _ _ _ _ h1,hk _ _ _ h2⟩
theorem zav{t:Nat}{k k':zA->xA->tB}(hk:Le2 k k'):Le2 (fun v H=>iI C t v fun v=>k v H) (fun v H=>iI C t v fun v=>k' v H):=by
 intro v H x h;rw[iK]at h ⊢
 exact⟨h.1,hk _ _ _ h.2⟩
theorem yT{κ:Tm->xA->tB}{o:Oper}{l:List Oper}{tm:Tm}{H:xA}:iJ C φ all n κ (o::l) tm H=ob (lE o.guard all tm) fun w=>if w=true then
   (rF φ ((xF o.op).f C (.now tm) H) H fun v H'=>iI C o.type v fun v=>iJ C φ all n κ l (putA n tm o.dst v) H')else iJ C φ all n κ l (putA n tm o.dst oD) H:=by
 show(ob (lE o.guard all tm) fun w=>Bool.rec (motive:=fun _=>tB) _ _ w)=_
 congr 1;funext w;rw[yH];rfl
theorem zdb(hφ:OLe φ φ'){κ κ':Tm->xA->tB}(hκ:Le2 κ κ'):∀(l:List Oper),Le2 (iJ C φ all n κ l) (iJ C φ' all n κ' l):=by
 intro l;induction l with
 | nil=>exact hκ
 | cons o l ih=>
  intro tm H x h;rw[yT,tA]at h ⊢
  obtain⟨w,h1,h2⟩:=h
  refine⟨w,h1,?_⟩
  split at h2
  ·rename_i e;rw[if_pos e];exact zj0 hφ (zav (k:=fun v H'=>iJ C φ all n κ l (putA n tm o.dst v) H') (k':=fun v H'=>iJ C φ' all n κ' l (putA n tm o.dst v) H') fun v H' y hy=>ih _ _ _ hy) h2
  ·rename_i e;rw[if_neg e];exact ih _ _ _ h2
variable {H:xA}{old:Tm}{olds:List (Nat × List Nat)}
theorem fX{k:Tm->tB}{i:Nat}{l:List Nat}{tm:Tm}:nG C H all n old olds k (i::l) tm=ob (iC all.toList i) fun o=>ob (lE o.guard all tm) fun w=>if w=true then
   (ob ((nE o.op).f C (.mixed tm old (jD i olds) (cF o.op)) H) fun v=>iI C o.type v fun v=>nG C H all n old olds k l (putA n tm o.dst v))else nG C H all n old olds k l (putA n tm o.dst oD):=by
 show(ob (iC all.toList i) fun o=>ob (lE o.guard all tm) fun w=>Bool.rec (motive:=fun _=>tB) _ _ w)=_
 congr 1;funext o;congr 1;funext w;rw[yH];rfl
theorem iX{k k':Tm->tB}(hk:∀tm x,k tm=some x->k' tm=some x):∀(l:List Nat) tm x,nG C H all n old olds k l tm=some x->nG C H all n old olds k' l tm=some x:=by
 intro l;induction l with
 | nil=>exact hk
 | cons i l ih=>
  intro tm x h;rw[fX,tA]at h ⊢
  obtain⟨o,h1,h2⟩:=h
  refine⟨o,h1,?_⟩
  rw[tA]at h2 ⊢
  obtain⟨w,h3,h4⟩:=h2
  refine⟨w,h3,?_⟩
  split at h4
  ·rename_i e
   rw[if_pos e];rw[tA]at h4 ⊢
   obtain⟨v,h5,h6⟩:=h4
   rw[iK]at h6;exact⟨v,h5,by rw[iK];exact⟨h6.1,ih _ _ h6.2⟩⟩
  ·rename_i e;rw[if_neg e];exact ih _ _ h4
theorem nZ{tm:Tm}{k:tB}{i:Nat}{l:List Nat}:aI C H all old olds tm k (i::l)=ob (iC all.toList i) fun o=>ob o.dst fun d=>ob (lE o.guard all tm) fun w=>if w=true then
   (ob ((nE o.op).f C (.mixed tm old (jD i olds) (cF o.op)) H) fun v=>iI C o.type v fun v=>ob (tm.get d) fun u=>cA (same 10 v u) (aI C H all old olds tm k l))else aI C H all old olds tm k l:=by
 show(ob (iC all.toList i) fun o=>ob o.dst fun d=>ob (lE o.guard all tm) fun w=>Bool.rec (motive:=fun _=>tB) _ _ w)=_
 congr 1;funext o;congr 1;funext d;congr 1;funext w;rw[yH];rfl
theorem fW{tm:Tm}{k:tB}:∀(l:List Nat),aI C H all old olds tm k l=some x->oS C H all old olds tm l=true/\k=some x:=by
 intro l;induction l with
 | nil=>intro h;exact⟨rfl,h⟩
 | cons i l ih=>
  intro h;rw[nZ,tA]at h;obtain⟨o,h1,h⟩:=h
  rw[tA]at h;obtain⟨d,h2,h⟩:=h
  rw[tA]at h;obtain⟨w,h3,h⟩:=h
  unfold oS;simp only[h1,uA,h2,h3]
  cases w with
  | false=>exact ih h
  | true=>
   rw[if_pos rfl,tA]at h;obtain⟨v,h4,h⟩:=h
   rw[iK]at h;obtain⟨h5,h⟩:=h
   rw[tA]at h;obtain⟨y,h6,h⟩:=h
   rw[yB]at h;simp only[cond_true,h4,uA,h6,h.1];exact ih h.2
theorem zep{tm:Tm}{k k':tB}(hk:k'=some x):∀(l:List Nat),aI C H all old olds tm k l=some x->aI C H all old olds tm k' l=some x:=by
 intro l;induction l with
 | nil=>intro _;exact hk
 | cons i l ih=>
  intro h;rw[nZ,tA]at h ⊢
  obtain⟨o,h1,h⟩:=h
  refine⟨o,h1,?_⟩
  rw[tA]at h ⊢
  obtain⟨d,h2,h⟩:=h
  refine⟨d,h2,?_⟩
  rw[tA]at h ⊢
  obtain⟨w,h3,h⟩:=h
  refine⟨w,h3,?_⟩
  split at h
  ·rename_i e
   rw[if_pos e];rw[tA]at h ⊢
   obtain⟨v,h4,h⟩:=h
   refine⟨v,h4,?_⟩
   rw[iK]at h ⊢
   obtain⟨h5,h⟩:=h
   refine⟨h5,?_⟩
   rw[tA]at h ⊢
   obtain⟨y,h6,h⟩:=h
   refine⟨y,h6,?_⟩
   rw[yB]at h ⊢
   exact⟨h.1,ih h.2⟩
  ·rename_i e;rw[if_neg e];exact ih h
theorem yU{κ:Tm->xA->tB}{st:sE}{l:List sE}{tm:Tm}(hg:fN all st=false):jG C φ all n old olds κ (st::l) tm H=ob (iC all.toList (hvI all st.heavy)) fun o=>ob (xO C all st.heavy o tm) fun w=>
   (fun cont:zA->xA->tB=>if w=true then(rF φ ((xF o.op).f C (.mixed tm old (jD (hvI all st.heavy) olds) (cF o.op)) H) H fun v H'=>iI C o.type v fun v=>cont v H')else cont oD H)
   (fun v H'=>aI C H' all old olds (putA n tm o.dst v) (nG C H' all n old olds (fun tm=>jG C φ all n old olds κ l tm H') st.lights (putA n tm o.dst v)) st.again):=by
 show Bool.rec (motive:=fun _=>tB) _ _ (fN all st)=_
 rw[hg];show(ob (iC all.toList (hvI all st.heavy)) fun o=>ob (xO C all st.heavy o tm) fun w=>(fun cont:zA->xA->tB=>Bool.rec (motive:=fun _=>tB) _ _ w) _)=_
 congr 1;funext o;congr 1;funext w;cases w<;>rfl
theorem iV{κ:Tm->xA->tB}{st:sE}{l:List sE}{tm:Tm}(hg:fN all st=true):jG C φ all n old olds κ (st::l) tm H=zla C all n old olds st (jG C φ all n old olds κ l) tm H:=by
 show Bool.rec (motive:=fun _=>tB) _ _ (fN all st)=_
 rw[hg];rfl
theorem yY{st:sE}{g:Tm->xA->tB}{tm:Tm}{x:zA × xA}:zla C all n old olds st g tm H=some x ↔ jP C all=true/\∃es H',ztu all old olds tm st.again=some es/\cP C es H=some H'/\nG C H' all n old olds (fun tm=>g tm H') st.lights tm=some x:=by
 unfold zla;simp only[tA,yB];constructor
 ·rintro⟨h0,es,h1,H',h2,h3⟩;exact⟨h0,es,H',h1,h2,h3⟩
 ·rintro⟨h0,es,H',h1,h2,h3⟩;exact⟨h0,es,h1,H',h2,h3⟩
theorem bY(hφ:OLe φ φ'){κ κ':Tm->xA->tB}(hκ:Le2 κ κ'):∀(l:List sE),Le2 (jG C φ all n old olds κ l) (jG C φ' all n old olds κ' l):=by
 intro l;induction l with
 | nil=>exact hκ
 | cons st l ih=>
  intro tm H x h
  cases hg:fN all st with
  | true=>
   rw[iV hg,yY]at h ⊢
   obtain⟨h0,es,H',h1,h2,h3⟩:=h
   exact⟨h0,es,H',h1,h2,iX (fun tm x hx=>ih _ _ _ hx) _ _ _ h3⟩
  | false=>
  rw[yU hg,tA]at h ⊢
  obtain⟨o,h1,h⟩:=h
  refine⟨o,h1,?_⟩
  rw[tA]at h ⊢
  obtain⟨w,h2,h⟩:=h
  refine⟨w,h2,?_⟩
  have cont:∀v H' y,aI C H' all old olds (putA n tm o.dst v) (nG C H' all n old olds (fun tm=>jG C φ all n old olds κ l tm H') st.lights (putA n tm o.dst v)) st.again=some y →
    aI C H' all old olds (putA n tm o.dst v) (nG C H' all n old olds (fun tm=>jG C φ' all n old olds κ' l tm H') st.lights (putA n tm o.dst v)) st.again=some y:=by
   intro v H' y hy;exact zep (iX (fun tm x hx=>ih _ _ _ hx) _ _ _ (fW _ hy).2) _ hy
  simp only[]at h ⊢
  split at h
  ·rename_i e;rw[if_pos e];exact zj0 hφ (zav cont) h
  ·rename_i e;rw[if_neg e];exact cont _ _ _ h
theorem za9(hφ:OLe φ φ'){κ κ':Tm->xA->tB}(hκ:Le2 κ κ'){fn id:Nat}{draw:Bool}:Le2 (tU C φ fn n κ id all draw) (tU C φ' fn n κ' id all draw):=by
 intro tm H x h
 cases draw with
 | false=>exact zdb hφ hκ _ _ _ _ h
 | true=>
  have h:(ob (ob (C.plans.get fn) fun t=>t.get id) fun p=>cA (iN all p) (nG C H all n tm.cut p.olds (fun tm'=>jG C φ all n tm.cut p.olds κ p.stages tm' H) p.first tm.cut))=some x:=h
  show(ob (ob (C.plans.get fn) fun t=>t.get id) fun p=>cA (iN all p) (nG C H all n tm.cut p.olds (fun tm'=>jG C φ' all n tm.cut p.olds κ' p.stages tm' H) p.first tm.cut))=some x
  rw[tA]at h ⊢
  obtain⟨p,h1,h⟩:=h
  refine⟨p,h1,?_⟩
  rw[yB]at h ⊢
  exact⟨h.1,iX (fun tm x hx=>bY hφ hκ _ _ _ _ hx) _ _ _ h.2⟩
theorem zeq{κ κ':Kt}(hκ:KLe κ κ'){p:Option Code}:Le2 (tR κ p) (tR κ' p):=by
 intro tm H x h;unfold tR at h ⊢
 split at h
 ·exact hκ.norm _ _ _ h
 ·exact hκ.ret _ _ _ h
 ·cases h
theorem zc6(hφ:OLe φ φ'){κ κ':Kt}(hκ:KLe κ κ'){fn:Nat}{f:Operand}{ps:List Nat}{a b:Code}:Le2 (eL C φ fn n κ f ps a b) (eL C φ' fn n κ' f ps a b):=by
 intro tm H x h;unfold eL at h ⊢
 rw[tA]at h ⊢
 obtain⟨v,h1,h⟩:=h
 refine⟨v,h1,?_⟩
 rw[tA]at h ⊢
 obtain⟨q,h2,h⟩:=h
 refine⟨q,h2,?_⟩
 split at h
 ·cases h
 ·rw[yB,tA]at h ⊢
  obtain⟨h3,y,h4,h⟩:=h
  refine⟨h3,y,hφ _ _ _ _ h4,?_⟩
  rw[tA]at h ⊢
  obtain⟨r,h5,h⟩:=h
  refine⟨r,h5,?_⟩
  rw[yB,tA]at h ⊢
  obtain⟨h6,z,h7,h⟩:=h
  exact⟨h6,z,zeq hκ _ _ _ h7,h⟩
end
end Go.Am
namespace Go.Am
open Go Go.RowKit
theorem zxt{α:Type}{f:Nat->Option α}{r:α}(h:lim f=some r):∃n,f n=some r:=by
 unfold lim at h;by_cases hx:∃n r,f n=some r
 ·rw[dif_pos hx]at h;exact⟨_,h⟩
 ·rw[dif_neg hx]at h;cases h
structure zmd {α β γ:Type} (ks:Nat->α->β->Option γ) (k:α->β->Option γ):Prop where
 up:∀n,Le2 (ks n) (ks (n+1))
 ex:∀a b x,k a b=some x->∃n,ks n a b=some x
theorem zuy{α β γ:Type}{ks:Nat->α->β->Option γ}(h:∀n,Le2 (ks n) (ks (n+1))){n m:Nat}(hnm:n<=m):Le2 (ks n) (ks m):=by
 induction hnm with
 | refl=>exact fun _ _ _ h=>h
 | step _ ih=>exact fun a b x hx=>h _ _ _ _ (ih a b x hx)
structure z4s (φs:Nat->Ora) (φ:Ora):Prop where
 up:∀n,OLe (φs n) (φs (n+1))
 ex:∀f a H x,φ f a H=some x->∃n,φs n f a H=some x
theorem z4s.le{φs:Nat->Ora}{φ:Ora}(h:z4s φs φ){n m:Nat}(hnm:n<=m):OLe (φs n) (φs m):=by
 induction hnm with
 | refl=>exact fun _ _ _ _ h=>h
 | step _ ih=>exact fun f a H x hx=>h.up _ _ _ _ _ (ih f a H x hx)
structure z9m (κs:Nat->Kt) (κ:Kt):Prop where
 norm:zmd (fun n=>(κs n).norm) κ.norm
 exit:∀i,zmd (fun n=>(κs n).exit i) (κ.exit i)
 ret:zmd (fun n=>(κs n).ret) κ.ret
section
variable {C:qA}{φ φ':Ora}{φs:Nat->Ora}{all:Array Oper}{N fn:Nat}
theorem zyr{g g':Kt->Tm->xA->tB}{κ κ':Kt}(hκ:KLe κ κ')(hg:∀ κ κ',KLe κ κ'->Le2 (g κ) (g' κ'))(live:List Nat):∀m,Le2 (Nat.rec (motive:=fun _=>Tm->xA->tB) (fun _ _=>none) (fun _ r tm H=>g ⟨r,κ.exit,κ.ret⟩ (keep live tm) H) m)
  (Nat.rec (motive:=fun _=>Tm->xA->tB) (fun _ _=>none) (fun _ r tm H=>g' ⟨r,κ'.exit,κ'.ret⟩ (keep live tm) H) m):=by
 intro m;induction m with
 | zero=>intro a b x h;cases h
 | succ m ih=>exact fun a b x h=>hg ⟨_,_,_⟩ ⟨_,_,_⟩ ⟨ih,hκ.exit,hκ.ret⟩ _ _ _ h
theorem KLe.refl(κ:Kt):KLe κ κ:=⟨fun _ _ _ h=>h,fun _ _ _ _ h=>h,fun _ _ _ h=>h⟩
theorem zn3{g:Kt->Tm->xA->tB}{κ:Kt}(hg:∀ κ κ',KLe κ κ'->Le2 (g κ) (g κ'))(live:List Nat):∀m,Le2 (Nat.rec (motive:=fun _=>Tm->xA->tB) (fun _ _=>none) (fun _ r tm H=>g ⟨r,κ.exit,κ.ret⟩ (keep live tm) H) m)
  (Nat.rec (motive:=fun _=>Tm->xA->tB) (fun _ _=>none) (fun _ r tm H=>g ⟨r,κ.exit,κ.ret⟩ (keep live tm) H) (m+1)):=by
 intro m;induction m with
 | zero=>intro a b x h;cases h
 | succ m ih=>exact fun a b x h=>hg ⟨_,_,_⟩ ⟨_,_,_⟩ ⟨ih,(KLe.refl κ).exit,(KLe.refl κ).ret⟩ _ _ _ h
theorem lT(hφ:OLe φ φ'):∀(c:sD) (κ κ':Kt),KLe κ κ'->Le2 (uD C φ fn N c κ) (uD C φ' fn N c κ'):=by
 have self:∀(ψ:Ora),OLe ψ ψ:=fun _ _ _ _ _ h=>h
 intro c;suffices h:∀ φ φ',OLe φ φ'->∀(κ κ':Kt),KLe κ κ'->Le2 (uD C φ fn N c κ) (uD C φ' fn N c κ') from h φ φ' hφ
 induction c with
 | skip=>exact fun _ _ _ κ κ' hκ=>hκ.norm
 | region id ops d=>exact fun _ _ hφ κ κ' hκ=>za9 hφ hκ.norm
 | seq a b iha ihb=>exact fun _ _ hφ κ κ' hκ=>iha _ _ hφ _ _ ⟨ihb _ _ hφ _ _ hκ,hκ.exit,hκ.ret⟩
 | cond c a b iha ihb=>
  intro φ φ' hφ κ κ' hκ tm H x h;have h:(ob (ob (ev c (.now tm)) zA.asBool) fun t=>Bool.rec (motive:=fun _=>tB) (uD C φ fn N b κ tm H) (uD C φ fn N a κ tm H) t)=some x:=h
  show(ob (ob (ev c (.now tm)) zA.asBool) fun t=>Bool.rec (motive:=fun _=>tB) (uD C φ' fn N b κ' tm H) (uD C φ' fn N a κ' tm H) t)=some x
  rw[tA]at h ⊢
  obtain⟨t,h1,h2⟩:=h
  refine⟨t,h1,?_⟩
  cases t with
  | true=>exact iha _ _ hφ _ _ hκ _ _ _ h2
  | false=>exact ihb _ _ hφ _ _ hκ _ _ _ h2
 | block id c ih=>
  intro φ φ' hφ κ κ' hκ;refine ih _ _ hφ _ _ ⟨hκ.norm,fun i tm H x h=>?_,hκ.ret⟩
  simp only[yH]at h ⊢
  split at h
  ·rename_i e;rw[if_pos e];exact hκ.norm _ _ _ h
  ·rename_i e;rw[if_neg e];exact hκ.exit _ _ _ _ h
 | loop live c ih=>
  intro φ φ' hφ κ κ' hκ tm H x h;obtain⟨m,hm⟩:=zxt h
  refine(zbz fun m y hy=>zn3 (ih _ _ (self φ')) live.kept m _ _ _ hy).2 ⟨m,?_⟩
  exact zyr hκ (ih _ _ hφ) live.kept m _ _ _ hm
 | exit id=>exact fun _ _ _ κ κ' hκ=>hκ.exit id
 | ret=>exact fun _ _ _ κ κ' hκ=>hκ.ret
 | cut live c ih=>exact fun _ _ hφ κ κ' hκ tm H x h=>ih _ _ hφ _ _ hκ _ _ _ h
 | range i pl f ps id ops c ih=>exact fun _ _ hφ κ κ' hκ tm H x h=>zc6 hφ hκ _ _ _ h
theorem zpz(hφ:z4s φs φ){r:mI}{H:xA}{ks:Nat->zA->xA->tB}{k:zA->xA->tB}(hk:zmd ks k){x:zA × xA}(h:rF φ r H k=some x):∃n,rF (φs n) r H (ks n)=some x:=by
 cases r<;>simp only[rF]at h ⊢<;>try (cases h;done)
 case val v H'=>exact hk.ex _ _ _ h
 case enter f args=>
  rw[tA]at h;obtain⟨p,h1,h2⟩:=h
  obtain⟨n,hn⟩:=hφ.ex _ _ _ _ h1
  obtain⟨m,hm⟩:=hk.ex _ _ _ h2
  exact⟨max n m,by rw[tA];exact⟨p,hφ.le (Nat.le_max_left n m) _ _ _ _ hn,zuy hk.up (Nat.le_max_right n m) _ _ _ hm⟩⟩
 case round l args=>
  rw[tA]at h;obtain⟨p,h1,h2⟩:=h
  obtain⟨n,hn⟩:=hφ.ex _ _ _ _ h1
  obtain⟨m,hm⟩:=hk.ex _ _ _ h2
  exact⟨max n m,by rw[tA];exact⟨p,hφ.le (Nat.le_max_left n m) _ _ _ _ hn,zuy hk.up (Nat.le_max_right n m) _ _ _ hm⟩⟩
theorem zkg{t:Nat}{ks:Nat->zA->xA->tB}{k:zA->xA->tB}(hk:zmd ks k):zmd (fun n v H=>iI C t v fun v=>ks n v H) (fun v H=>iI C t v fun v=>k v H):=by
 refine⟨fun n=>zav (hk.up n),fun v H x h=>?_⟩
 rw[iK]at h;obtain⟨n,hn⟩:=hk.ex _ _ _ h.2
 exact⟨n,by rw[iK];exact⟨h.1,hn⟩⟩
theorem z2e(hφ:z4s φs φ){κs:Nat->Tm->xA->tB}{κ:Tm->xA->tB}(hκ:zmd κs κ):∀(l:List Oper),zmd (fun n=>iJ C (φs n) all N (κs n) l) (iJ C φ all N κ l):=by
 intro l;refine⟨fun n=>zdb (hφ.up n) (hκ.up n) l,?_⟩
 induction l with
 | nil=>exact hκ.ex
 | cons o l ih=>
  intro tm H x h;rw[yT,tA]at h;obtain⟨w,h1,h2⟩:=h
  split at h2
  ·rename_i e
   obtain⟨n,hn⟩:=zpz hφ (zkg (ks:=fun n v H'=>iJ C (φs n) all N (κs n) l (putA N tm o.dst v) H') (k:=fun v H'=>iJ C φ all N κ l (putA N tm o.dst v) H') ⟨fun n v H' y hy=>zdb (hφ.up n) (hκ.up n) l _ _ _ hy,fun v H' y hy=>ih _ _ _ hy⟩) h2
   exact⟨n,by show iJ C (φs n) all N (κs n) (o::l) tm H=some x;rw[yT,tA];exact⟨w,h1,by rw[if_pos e];exact hn⟩⟩
  ·rename_i e
   obtain⟨n,hn⟩:=ih _ _ _ h2
   exact⟨n,by show iJ C (φs n) all N (κs n) (o::l) tm H=some x;rw[yT,tA];exact⟨w,h1,by rw[if_neg e];exact hn⟩⟩
variable {old:Tm}{olds:List (Nat × List Nat)}
theorem tZ{H:xA}{ks:Nat->Tm->tB}{k:Tm->tB}(hk:∀tm x,k tm=some x->∃n,ks n tm=some x):∀(l:List Nat) tm x,nG C H all N old olds k l tm=some x->∃n,nG C H all N old olds (ks n) l tm=some x:=by
 intro l;induction l with
 | nil=>exact hk
 | cons i l ih=>
  intro tm x h;simp only[fX]at h ⊢
  rw[tA]at h;obtain⟨o,h1,h⟩:=h
  rw[tA]at h;obtain⟨w,h3,h4⟩:=h
  split at h4
  ·rename_i e
   rw[tA]at h4;obtain⟨v,h5,h6⟩:=h4
   rw[iK]at h6;obtain⟨n,hn⟩:=ih _ _ h6.2
   exact⟨n,by rw[h1,uA,h3,uA,if_pos e,h5,uA,iK];exact⟨h6.1,hn⟩⟩
  ·rename_i e
   obtain⟨n,hn⟩:=ih _ _ h4
   exact⟨n,by rw[h1,uA,h3,uA,if_neg e];exact hn⟩
theorem zm2(hφ:z4s φs φ){κs:Nat->Tm->xA->tB}{κ:Tm->xA->tB}(hκ:zmd κs κ):∀(l:List sE),zmd (fun n=>jG C (φs n) all N old olds (κs n) l) (jG C φ all N old olds κ l):=by
 intro l;refine⟨fun n=>bY (hφ.up n) (hκ.up n) l,?_⟩
 induction l with
 | nil=>exact hκ.ex
 | cons st l ih=>
  intro tm H x h
  cases hg:fN all st with
  | true=>
   rw[iV hg,yY]at h;obtain⟨h0,es,H',h1,h2,h3⟩:=h
   obtain⟨n,hn⟩:=tZ (fun tm x hx=>ih tm H' x hx) _ _ _ h3
   exact⟨n,by show jG C (φs n) all N old olds (κs n) (st::l) tm H=some x;rw[iV hg,yY];exact⟨h0,es,H',h1,h2,hn⟩⟩
  | false=>
  rw[yU hg,tA]at h;obtain⟨o,h1,h⟩:=h
  rw[tA]at h;obtain⟨w,h2,h⟩:=h
  have cont:zmd (fun n v H'=>aI C H' all old olds (putA N tm o.dst v) (nG C H' all N old olds (fun tm=>jG C (φs n) all N old olds (κs n) l tm H') st.lights (putA N tm o.dst v)) st.again)
    (fun v H'=>aI C H' all old olds (putA N tm o.dst v) (nG C H' all N old olds (fun tm=>jG C φ all N old olds κ l tm H') st.lights (putA N tm o.dst v)) st.again):=by
   refine⟨fun n v H' y hy=>zep (iX (fun tm x hx=>bY (hφ.up n) (hκ.up n) l _ _ _ hx) _ _ _ (fW _ hy).2) _ hy,fun v H' y hy=>?_⟩
   obtain⟨n,hn⟩:=tZ (fun tm x hx=>ih tm H' x hx) _ _ _ (fW _ hy).2
   exact⟨n,zep hn _ hy⟩
  simp only[]at h;split at h
  ·rename_i e
   obtain⟨n,hn⟩:=zpz hφ (zkg cont) h
   exact⟨n,by show jG C (φs n) all N old olds (κs n) (st::l) tm H=some x;rw[yU hg,h1,uA,h2,uA];simp only[];rw[if_pos e];exact hn⟩
  ·rename_i e
   obtain⟨n,hn⟩:=cont.ex _ _ _ h
   exact⟨n,by show jG C (φs n) all N old olds (κs n) (st::l) tm H=some x;rw[yU hg,h1,uA,h2,uA];simp only[];rw[if_neg e];exact hn⟩
theorem zna(hφ:z4s φs φ){κs:Nat->Tm->xA->tB}{κ:Tm->xA->tB}(hκ:zmd κs κ){id:Nat}{draw:Bool}:zmd (fun n=>tU C (φs n) fn N (κs n) id all draw) (tU C φ fn N κ id all draw):=by
 refine⟨fun n=>za9 (hφ.up n) (hκ.up n),fun tm H x h=>?_⟩
 cases draw with
 | false=>exact(z2e hφ hκ _).ex _ _ _ h
 | true=>
  have h:(ob (ob (C.plans.get fn) fun t=>t.get id) fun p=>cA (iN all p) (nG C H all N tm.cut p.olds (fun tm'=>jG C φ all N tm.cut p.olds κ p.stages tm' H) p.first tm.cut))=some x:=h
  rw[tA]at h;obtain⟨p,h1,h⟩:=h
  rw[yB]at h;obtain⟨n,hn⟩:=tZ (fun tm' x hx=>(zm2 hφ hκ p.stages).ex tm' H x hx) _ _ _ h.2
  refine⟨n,?_⟩
  show(ob (ob (C.plans.get fn) fun t=>t.get id) fun p=>cA (iN all p) (nG C H all N tm.cut p.olds (fun tm'=>jG C (φs n) all N tm.cut p.olds (κs n) p.stages tm' H) p.first tm.cut))=some x
  rw[h1,uA,yB];exact⟨h.1,hn⟩
theorem zf2(hφ:z4s φs φ){κs:Nat->Kt}{κ:Kt}(hκ:z9m κs κ){f:Operand}{ps:List Nat}{a b:Code}:zmd (fun n=>eL C (φs n) fn N (κs n) f ps a b) (eL C φ fn N κ f ps a b):=by
 have kle:∀n,KLe (κs n) (κs (n+1)):=fun n=>⟨hκ.norm.up n,fun i=>(hκ.exit i).up n,hκ.ret.up n⟩
 have klm:∀n m,n<=m->KLe (κs n) (κs m):=fun n m h=>⟨zuy hκ.norm.up h,fun i=>zuy (hκ.exit i).up h,zuy hκ.ret.up h⟩
 refine⟨fun n=>zc6 (hφ.up n) (kle n),fun tm H x h=>?_⟩
 unfold eL at h;rw[tA]at h;obtain⟨v,h1,h⟩:=h
 rw[tA]at h;obtain⟨q,h2,h⟩:=h
 split at h
 ·cases h
 ·rename_i g hg
  rw[yB,tA]at h;obtain⟨h3,y,h4,h⟩:=h
  rw[tA]at h;obtain⟨r,h5,h⟩:=h
  rw[yB,tA]at h;obtain⟨h6,z,h7,h⟩:=h
  obtain⟨n,hn⟩:=hφ.ex _ _ _ _ h4
  have:∃m,tR (κs m) r.pending (tm) (endLoop y.2 (H.next+1) r)=some z:=by
   unfold tR at h7 ⊢
   split at h7
   ·exact hκ.norm.ex _ _ _ h7
   ·exact hκ.ret.ex _ _ _ h7
   ·cases h7
  obtain⟨m,hm⟩:=this
  refine⟨max n m,?_⟩
  show eL C (φs (max n m)) fn N (κs (max n m)) f ps a b tm H=some x
  unfold eL;rw[h1,uA,h2,uA,hg];simp only[];rw[yB,tA];refine⟨h3,y,hφ.le (Nat.le_max_left n m) _ _ _ _ hn,?_⟩
  rw[h5,uA,yB,tA];exact⟨h6,z,zeq (klm _ _ (Nat.le_max_right n m)) _ _ _ hm,h⟩
theorem zon(hφ:z4s φs φ):∀(c:sD) (κs:Nat->Kt) (κ:Kt),z9m κs κ->zmd (fun n=>uD C (φs n) fn N c (κs n)) (uD C φ fn N c κ):=by
 have kle:∀ {κs:Nat->Kt} {κ:Kt},z9m κs κ->∀n,KLe (κs n) (κs (n+1)):=fun h n=>⟨h.norm.up n,fun i=>(h.exit i).up n,h.ret.up n⟩
 intro c;induction c with
 | skip=>exact fun κs κ hκ=>hκ.norm
 | region id ops d=>exact fun κs κ hκ=>zna hφ hκ.norm
 | seq a b iha ihb=>exact fun κs κ hκ=>iha (fun n=>⟨uD C (φs n) fn N b (κs n),(κs n).exit,(κs n).ret⟩) _ ⟨ihb _ _ hκ,hκ.exit,hκ.ret⟩
 | cond c a b iha ihb=>
  intro κs κ hκ;refine⟨fun n=>lT (hφ.up n) (.cond c a b) _ _ (kle hκ n),fun tm H x h=>?_⟩
  have h:(ob (ob (ev c (.now tm)) zA.asBool) fun t=>Bool.rec (motive:=fun _=>tB) (uD C φ fn N b κ tm H) (uD C φ fn N a κ tm H) t)=some x:=h
  rw[tA]at h;obtain⟨t,h1,h2⟩:=h
  have key:∀n,(Bool.rec (motive:=fun _=>tB) (uD C (φs n) fn N b (κs n) tm H) (uD C (φs n) fn N a (κs n) tm H) t:tB)=some x->uD C (φs n) fn N (.cond c a b) (κs n) tm H=some x:=by
   intro n hn;show(ob (ob (ev c (.now tm)) zA.asBool) fun t=>Bool.rec (motive:=fun _=>tB) (uD C (φs n) fn N b (κs n) tm H) (uD C (φs n) fn N a (κs n) tm H) t)=some x
   rw[h1,uA];exact hn
  cases t with
  | true=>obtain⟨n,hn⟩:=(iha _ _ hκ).ex _ _ _ h2;exact⟨n,key n hn⟩
  | false=>obtain⟨n,hn⟩:=(ihb _ _ hκ).ex _ _ _ h2;exact⟨n,key n hn⟩
 | block id c ih=>
  intro κs κ hκ;refine ih (fun n=>⟨(κs n).norm,fun i tm H=>Bool.rec (motive:=fun _=>tB) ((κs n).exit i tm H) ((κs n).norm tm H) (Nat.beq id i),(κs n).ret⟩) _ ⟨hκ.norm,fun i=>⟨fun n tm H x h=>?_,fun tm H x h=>?_⟩,hκ.ret⟩
  ·simp only[yH]at h ⊢
   split at h
   ·rename_i e;rw[if_pos e];exact hκ.norm.up n _ _ _ h
   ·rename_i e;rw[if_neg e];exact(hκ.exit i).up n _ _ _ h
  ·simp only[yH]at h ⊢
   split at h
   ·rename_i e;obtain⟨n,hn⟩:=hκ.norm.ex _ _ _ h;exact⟨n,by rw[if_pos e];exact hn⟩
   ·rename_i e;obtain⟨n,hn⟩:=(hκ.exit i).ex _ _ _ h;exact⟨n,by rw[if_neg e];exact hn⟩
 | loop live c ih=>
  intro κs κ hκ;refine⟨fun n=>lT (hφ.up n) (.loop live c) _ _ (kle hκ n),fun tm H x h=>?_⟩
  obtain⟨m,hm⟩:=zxt h
  have it:∀m,zmd (fun n=>(Nat.rec (motive:=fun _=>Tm->xA->tB) (fun _ _=>none) (fun _ r tm H=>uD C (φs n) fn N c ⟨r,(κs n).exit,(κs n).ret⟩ (keep live.kept tm) H) m:Tm->xA->tB))
    (Nat.rec (motive:=fun _=>Tm->xA->tB) (fun _ _=>none) (fun _ r tm H=>uD C φ fn N c ⟨r,κ.exit,κ.ret⟩ (keep live.kept tm) H) m):=by
   intro m;induction m with
   | zero=>exact⟨fun _ _ _ _ h=>h,fun _ _ _ h=>by cases h⟩
   | succ m ihm=>
    have:=ih _ _ (⟨ihm,hκ.exit,hκ.ret⟩:z9m (fun n=>⟨(Nat.rec (motive:=fun _=>Tm->xA->tB) (fun _ _=>none) (fun _ r tm H=>uD C (φs n) fn N c ⟨r,(κs n).exit,(κs n).ret⟩ (keep live.kept tm) H) m:Tm->xA->tB),(κs n).exit,(κs n).ret⟩) ⟨(Nat.rec (motive:=fun _=>Tm->xA->tB) (fun _ _=>none) (fun _ r tm H=>uD C φ fn N c ⟨r,κ.exit,κ.ret⟩ (keep live.kept tm) H) m:Tm->xA->tB),κ.exit,κ.ret⟩)
    exact⟨fun n tm H x h=>this.up n _ _ _ h,fun tm H x h=>this.ex _ _ _ h⟩
  obtain⟨n,hn⟩:=(it m).ex _ _ _ hm
  exact⟨n,(zbz fun m y hy=>zn3 (fun κ κ' h=>lT (fun _ _ _ _ h=>h) c κ κ' h) live.kept m _ _ _ hy).2 ⟨m,hn⟩⟩
 | exit id=>exact fun κs κ hκ=>hκ.exit id
 | ret=>exact fun κs κ hκ=>hκ.ret
 | cut live c ih=>exact fun κs κ hκ=>⟨fun n tm H x h=>(ih _ _ hκ).up n _ _ _ h,fun tm H x h=>(ih _ _ hκ).ex _ _ _ h⟩
 | range i pl f ps id ops c ih=>exact fun κs κ hκ=>⟨fun n tm H x h=>(zf2 hφ hκ).up n _ _ _ h,fun tm H x h=>(zf2 hφ hκ).ex _ _ _ h⟩
theorem z34{live:PI}{c:sD}{κ:Kt}{tm:Tm}{H:xA}:uD C φ fn N (.loop live c) κ tm H=uD C φ fn N c ⟨uD C φ fn N (.loop live c) κ,κ.exit,κ.ret⟩ (keep live.kept tm) H:=by
 have self:OLe φ φ:=fun _ _ _ _ h=>h
 have up:∀m,Le2 (Nat.rec (motive:=fun _=>Tm->xA->tB) (fun _ _=>none) (fun _ r tm H=>uD C φ fn N c ⟨r,κ.exit,κ.ret⟩ (keep live.kept tm) H) m)
   (Nat.rec (motive:=fun _=>Tm->xA->tB) (fun _ _=>none) (fun _ r tm H=>uD C φ fn N c ⟨r,κ.exit,κ.ret⟩ (keep live.kept tm) H) (m+1)):=zn3 (lT self c) live.kept
 have some_iff:∀tm H x,uD C φ fn N (.loop live c) κ tm H=some x ↔ ∃m,(Nat.rec (motive:=fun _=>Tm->xA->tB) (fun _ _=>none) (fun _ r tm H=>uD C φ fn N c ⟨r,κ.exit,κ.ret⟩ (keep live.kept tm) H) m:Tm->xA->tB) tm H=some x:=
  fun tm H x=>zbz fun m y hy=>up m _ _ _ hy
 have sup:z9m (fun m=>⟨(Nat.rec (motive:=fun _=>Tm->xA->tB) (fun _ _=>none) (fun _ r tm H=>uD C φ fn N c ⟨r,κ.exit,κ.ret⟩ (keep live.kept tm) H) m:Tm->xA->tB),κ.exit,κ.ret⟩) ⟨uD C φ fn N (.loop live c) κ,κ.exit,κ.ret⟩:=
  ⟨⟨up,fun tm H x h=>(some_iff tm H x).1 h⟩,fun i=>⟨fun _ _ _ _ h=>h,fun _ _ _ h=>⟨0,h⟩⟩,⟨fun _ _ _ _ h=>h,fun _ _ _ h=>⟨0,h⟩⟩⟩
 have key:∀x,uD C φ fn N (.loop live c) κ tm H=some x ↔ uD C φ fn N c ⟨uD C φ fn N (.loop live c) κ,κ.exit,κ.ret⟩ (keep live.kept tm) H=some x:=by
  intro x;rw[some_iff];constructor
  ·rintro⟨m,hm⟩
   cases m with
   | zero=>cases hm
   | succ m=>exact lT self c ⟨(Nat.rec (motive:=fun _=>Tm->xA->tB) (fun _ _=>none) (fun _ r tm H=>uD C φ fn N c ⟨r,κ.exit,κ.ret⟩ (keep live.kept tm) H) m:Tm->xA->tB),κ.exit,κ.ret⟩ ⟨uD C φ fn N (.loop live c) κ,κ.exit,κ.ret⟩ ⟨fun tm H y hy=>(some_iff tm H y).2 ⟨m,hy⟩,fun _ _ _ _ h=>h,fun _ _ _ h=>h⟩ _ _ _ hm
  ·intro h
   obtain⟨m,hm⟩:=(zon (φs:=fun _=>φ) ⟨fun _=>self,fun _ _ _ _ h=>⟨0,h⟩⟩ c _ _ sup).ex _ _ _ h
   exact⟨m+1,hm⟩
 cases h:uD C φ fn N (.loop live c) κ tm H with
 | some x=>exact((key x).1 h).symm
 | none=>
  cases h2:uD C φ fn N c ⟨uD C φ fn N (.loop live c) κ,κ.exit,κ.ret⟩ (keep live.kept tm) H with
  | none=>rfl
  | some x=>rw[(key x).2 h2]at h;cases h
end
end Go.Am
namespace Go.Am
open Go Go.RowKit
def z28:List lD->Bool
 | .reg .. :: _=>true
 | _=>false
section
variable {P:Program}{C:qA}{B N:Nat}{I:World->Prop}{μ:Mu}{w:World}{base:List Frame}{m:Machine}
theorem zbt(hF:zmc P C){f:Nat}{args:List zA}{args':Array Value}{H:xA}(hH:aA B N μ H w)(hl:zB μ args args'.toList){g:zC}(he:rJ C f args false=some g) :
  wD P C B N μ base (lone (Frame.enter P f args' .normal) base w) w (.next ⟨g,[],H⟩):=
 ⟨μ,_,[],w,.refl _ _,fun _ _ h=>h,Below.refl N w,hH,(nW (cur:=some H) hF he hl).1,.nil⟩
end
end Go.Am
namespace Go.Am
open Go Go.RowKit
inductive oJ (C:qA):wE->wE->Prop
 | refl (o:wE):oJ C o o
 | step {o o':wE}:oJ C (zsi C o) o'->oJ C o o'
 | forget {todo:List lD} {tm tm':Tm} {R:aH} {cs:List zC} {H:xA} {o':wE}:z28 todo=false->(∀i v,tm'.get i=some v->tm.get i=some v)->oJ C (.next ⟨⟨todo,tm',R⟩,cs,H⟩) o'->oJ C (.next ⟨⟨todo,tm,R⟩,cs,H⟩) o'
theorem oJ.trans{C:qA}{a b c:wE}(h:oJ C a b)(k:oJ C b c):oJ C a c:=by
 induction h with
 | refl=>exact k
 | step _ ih=>exact .step (ih k)
 | forget h1 h2 _ ih=>exact .forget h1 h2 (ih k)
section
variable {P:Program}{C:qA}{B N:Nat}{I:World->Prop}{μ:Mu}{w:World}{base:List Frame}{m:Machine}
theorem dD.forget{n:Nat}{tm tm':Tm}{tmps:Array Value}(h:dD μ n tm tmps)(hs:∀i v,tm'.get i=some v->tm.get i=some v):dD μ n tm' tmps:=⟨h.1,fun i v hv=>h.2 i v (hs i v hv)⟩
theorem zy9{todo:List lD}{tm tm':Tm}{R:aH}{acs:List zC}{H:xA}(hr:z28 todo=false)(hs:∀i v,tm'.get i=some v->tm.get i=some v)(h:wD P C B N μ base m w (.next ⟨⟨todo,tm,R⟩,acs,H⟩)) :
  wD P C B N μ base m w (.next ⟨⟨todo,tm',R⟩,acs,H⟩):=by
 obtain⟨μ',b,cs,w',h1,h2,h3,h4,h5,h6⟩:=h
 obtain⟨bfn,btmps,btodo,bdefers,bmode,bkind,bround⟩:=b
 refine⟨μ',_,cs,w',h1,h2,h3,h4,⟨h5.rest,?_⟩,h6⟩
 have hb:=h5.body
 simp only at hb ⊢
 split at hb
 ·rename_i hm
  rw[if_pos hm]
  cases hb with
  | plain a t=>exact .plain a (t.forget hs)
  | reg _ _ _ _=>cases hr
  | mid _ _ _ _ _=>cases hr
 ·rename_i hm
  rw[if_neg hm];exact hb.forget hs
theorem wD.reach(hS:Sim P C B N I)(hI:I w){o o':wE}(h:oJ C o o'):wD P C B N μ base m w o->wD P C B N μ base m w o':=by
 induction h with
 | refl=>exact id
 | step _ ih=>exact fun h=>ih (zpo hS hI h)
 | forget hr hs _ ih=>exact fun h=>ih (zy9 hr hs h)
end
def zi3(C:qA)(f:Nat)(ds:List fH)(fr:zC)(H:xA)(v:zA):Prop:=
 fr.R.mode=.returning/\fr.R.defers=ds/\fr.R.deferred=false/\fr.R.fn=f/\∃fn l,C.fns.get f=some fn/\oQ C H fr.tm fn.results.toList=some l/\v=cS l
def zm6(r:jL)(l:Nat)(tm:Tm):zC:=⟨[.code r.assign,.beginRound,.code r.body],tm,⟨r.fn,r.n,[],.run,false,some l⟩⟩
structure uQ (C:qA) (φ:Ora):Prop where
 fn:∀f args H x,φ (.func f) args H=some x->∃g,rJ C f args false=some g/\∀acs,∃fr',oJ C (.next ⟨g,acs,H⟩) (.next ⟨fr',acs,x.2⟩)/\zi3 C f [] fr' x.2 x.1
 rd:∀l args H x,φ (.yld l) args H=some x->∃r tm,yI H l=some r/\qQ r.n r.params args r.tm=some tm/\∀c acs c',qG c x.1=some c'->oJ C (.next ⟨zm6 r l tm,c::acs,H⟩) (.next ⟨c',acs,x.2⟩)
abbrev z6k:=List fH->wE->zA × xA->Prop
def Fin (C:qA)(E:z6k)(ds:List fH)(o:wE)(x:zA × xA):Prop:=∃o',oJ C o o'/\E ds o' x
theorem Fin.step{C:qA}{E:z6k}{ds:List fH}{o:wE}{x:zA × xA}(h:Fin C E ds (zsi C o) x):Fin C E ds o x:=by
 obtain⟨fr,h1,h2⟩:=h;exact⟨fr,.step h1,h2⟩
theorem Fin.of{C:qA}{E:z6k}{ds:List fH}{o o':wE}{x:zA × xA}(hr:oJ C o o')(h:Fin C E ds o' x):Fin C E ds o x:=by
 obtain⟨fr,h1,h2⟩:=h;exact⟨fr,hr.trans h1,h2⟩
abbrev RR(f N:Nat)(ro:Option Nat)(ds:List fH):aH:=⟨f,N,ds,.run,false,ro⟩
structure zue (C:qA) (E:z6k) (G:zA × xA->Prop) (f N:Nat) (ro:Option Nat) (acs:List zC):Prop where
 not:∀ds todo tm H x,¬ E ds (.next ⟨⟨todo,tm,RR f N ro ds⟩,acs,H⟩) x
 all:ro=none->∀x,G x
 pop:ro=none->∀r ds o x,E (⟨none,r,[]⟩::ds) o x->aP x.2 r=some (some [])->∃o',oJ C o o'/\E ds o' (x.1,setBlk x.2 r (.deferred none))
structure zrx (C:qA) (E:z6k) (G:zA × xA->Prop) (f N:Nat) (ro:Option Nat) (acs:List zC) (κ:Kt) (k:List lD):Prop where
 norm:∀ds x tm H,G x->κ.norm tm H=some x->Fin C E ds (.next ⟨⟨k,tm,RR f N ro ds⟩,acs,H⟩) x
 exit:∀ds x i tm H,G x->κ.exit i tm H=some x->Fin C E ds (.next ⟨⟨.code (.exit i)::k,tm,RR f N ro ds⟩,acs,H⟩) x
 ret:∀ds x tm H,G x->κ.ret tm H=some x->∀k',Fin C E ds (.next ⟨⟨.code .ret::k',tm,RR f N ro ds⟩,acs,H⟩) x
structure zo4 where
 i:Nat
 pl:List Nat
 f:Operand
 ps:Array Nat
 id:Nat
 ops:Array Oper
 c:sD
def eM(c:sD):List zo4:=
 sD.rec (motive:=fun _=>List zo4) [] (fun _ _ _=>[]) (fun _ _ a b=>aC a b) (fun _ _ _ a b=>aC a b) (fun _ _ a=>a) (fun _ _ a=>a) (fun _=>[]) [] (fun _ _ a=>a)
  (fun i pl f ps id ops c a=>⟨i,pl,f,ps,id,ops,c⟩::a) c
section
variable {C:qA}{φ:Ora}{E:z6k}{G:zA × xA->Prop}{ds:List fH}{ro:Option Nat}{f N:Nat}{acs:List zC}{R:aH}{κ:Kt}{k:List lD}{x:zA × xA}{all:Array Oper}
theorem kI(hR:R.mode.running=true){todo:List lD}{tm:Tm}{H:xA}:zsi C (.next ⟨⟨todo,tm,R⟩,acs,H⟩)=vM C todo tm R acs H:=by
 show(bif R.mode.running then vM C todo tm R acs H else _)=_
 rw[hR];rfl
theorem zy0{fr c c':zC}{H:xA}{v:zA}(hr:zi3 C f [] fr H v)(hf:qG c v=some c'):zsi C (.next ⟨fr,c::acs,H⟩)=.next ⟨c',acs,H⟩:=by
 obtain⟨h1,h2,h3,h4,fn,l,h5,h6,rfl⟩:=hr
 obtain⟨todo,tm,ffn,n,defers,mode,deferred,round⟩:=fr
 simp only at h1 h2 h3 h4 h6
 subst h1 h2 h3 h4
 show zcj C ⟨todo,tm,_⟩ (c::acs) H=_
 unfold zcj;rw[h5,uA,h6];simp only[cond_false];rw[hf];rfl
theorem zfy(hφ:uQ C φ){r:mI}{H:xA}{K:zA->xA->tB}(h:rF φ r H K=some x){fr:zC}
  (hK:∀v H' c',qG fr v=some c'->K v H'=some x->Fin C E ds (.next ⟨c',acs,H'⟩) x) (hfin:∀v,∃c',qG fr v=some c'):Fin C E ds (uV r C fr acs H) x:=by
 cases r<;>simp only[rF]at h<;>try (cases h;done)
 case val v H'=>
  have h2:K v H'=some x:=h
  obtain⟨c',hc⟩:=hfin v
  show Fin C E ds (z7g v H' C fr acs H) x
  unfold z7g;rw[hc];exact hK _ _ _ hc h2
 case enter g args=>
  rw[tA]at h;obtain⟨p,h1,h4⟩:=h
  obtain⟨c',hc⟩:=hfin p.1
  show Fin C E ds (zj4 g args C fr acs H) x
  unfold zj4;obtain⟨ge,he,r0⟩:=hφ.fn _ _ _ _ h1
  obtain⟨fr',r1,r2⟩:=r0 (fr::acs)
  rw[he];refine Fin.of (r1.trans (.step ?_)) (hK _ _ _ hc h4)
  rw[zy0 r2 hc];exact .refl _
 case round l args=>
  rw[tA]at h;obtain⟨p,h1,h4⟩:=h
  obtain⟨c',hc⟩:=hfin p.1
  obtain⟨r,tm,e1,e2,r0⟩:=hφ.rd _ _ _ _ h1
  show Fin C E ds (zj3 l args C fr acs H) x
  unfold zj3;rw[e1,uA,e2,uA];exact Fin.of (r0 _ _ _ hc) (hK _ _ _ hc h4)
theorem zsz(hφ:uQ C φ)(hR:R.mode.running=true)(hN:R.n=N){κn:Tm->xA->tB}(hκ:∀tm H,κn tm H=some x->Fin C E ds (.next ⟨⟨k,tm,R⟩,acs,H⟩) x) :
  ∀(l:List Oper) (tm:Tm) (H:xA),iJ C φ all N κn l tm H=some x->Fin C E ds (vO C all k R acs l tm H) x:=by
 intro l;induction l with
 | nil=>exact fun tm H h=>hκ tm H h
 | cons o l ih=>
  intro tm H h;rw[yT,tA]at h;obtain⟨w,h1,h⟩:=h
  rw[vZ,h1]
  cases w with
  | false=>rw[if_neg (by simp)]at h;simp only[];rw[hN];exact ih _ _ h
  | true=>
   rw[if_pos rfl]at h;simp only[];generalize (xF o.op).f C (.now tm) H=r at h
   cases hv:r.asVal with
   | some p=>
    have:r=.val p.1 p.2:=by cases r<;>simp[mI.asVal]at hv;rw[<- hv]
    subst this;simp only[rF,iK]at h;obtain⟨h2,h3⟩:=h
    simp only[];rw[hN];exact ih _ _ h3
   | none=>
    refine zfy hφ h (fun v H' c' hc hK=>?_) fun v=>⟨⟨.ops all l::k,putA R.n tm o.dst v,R⟩,by unfold qG;simp only[hR,cond_true];rfl⟩
    unfold qG at hc;simp only[hR,cond_true]at hc;have hc:some (⟨.ops all l::k,putA R.n tm o.dst v,R⟩:zC)=some c':=hc
    cases hc;refine .step ?_
    rw[kI hR,hN];rw[iK]at hK;exact ih _ _ hK.2
theorem jX{H:xA}{old:Tm}{olds:List (Nat × List Nat)}{K:Tm->tB}:∀(l:List Nat) (tm:Tm),nG C H all N old olds K l tm=some x->∃tm',bL C H all N old olds l tm=some tm'/\K tm'=some x:=by
 intro l;induction l with
 | nil=>exact fun tm h=>⟨tm,rfl,h⟩
 | cons i l ih=>
  intro tm h;rw[fX,tA]at h;obtain⟨o,h1,h⟩:=h
  rw[tA]at h;obtain⟨w,h2,h⟩:=h
  unfold bL;rw[h1,uA,h2,uA]
  cases w with
  | false=>rw[if_neg (by simp)]at h;simp only[cond_false,uA];exact ih _ h
  | true=>
   rw[if_pos rfl,tA]at h;obtain⟨v,h3,h⟩:=h
   rw[iK]at h;obtain⟨h4,h⟩:=h
   simp only[cond_true];rw[h3,uA];exact ih _ h
theorem zq9{C:qA}{o:Op}{e:mC}{H:xA}{r:mI}(hf:rI o=true)(h:(xF o).f C e H=r)(h1:∀q,r≠wJ q):False:=by
 have key:∀q:Option (zA × xA),wJ q=r->False:=fun q e=>h1 q e.symm
 cases o<;>simp only[rI]at hf<;>first
  | (cases hf;done)
  | exact key _ h
theorem zhj(hφ:uQ C φ)(hR:R.mode.running=true)(hN:R.n=N){κn:Tm->xA->tB}(hκ:∀tm H,κn tm H=some x->Fin C E ds (.next ⟨⟨k,tm,R⟩,acs,H⟩) x){old:Tm}{olds:List (Nat × List Nat)} :
  ∀(l:List sE) (tm:Tm) (H:xA),jG C φ all N old olds κn l tm H=some x->Fin C E ds (.next ⟨⟨.reg all old olds l::k,tm,R⟩,acs,H⟩) x:=by
 intro l;induction l with
 | nil=>
  intro tm H h;refine .step ?_
  rw[kI hR];exact hκ tm H h
 | cons st l ih=>
  intro tm H h
  cases hg:fN all st with
  | true=>
   rw[iV hg,yY]at h;obtain⟨h0,es,H',h1,h2,h3⟩:=h
   obtain⟨tm',hl1,hl2⟩:=jX _ _ h3
   refine .step ?_
   rw[kI hR];show Fin C E ds (zrz all old olds (st::l) C k tm R acs H) x
   unfold zrz;have hg0:=xC.1 hg
   rw[bC]at hg0;have hnone:iC all.toList st.heavy=none:=by
    rw[lF];exact List.getElem?_eq_none (by omega)
   simp only[hnone];rw[aB,if_pos (xC.2 (by rw[bC];omega)),aB,if_pos (show Nat.blt (wB all.toList+wB all.toList) st.heavy=true from hg)]
   unfold zpa;rw[h0,show ∀(x:Option lM),cA true x=x from fun _=>rfl,h1,uA,h2,uA,hN,hl1,uA]
   exact ih _ _ hl2
  | false=>
  rw[yU hg,tA]at h;obtain⟨o,h1,h⟩:=h
  rw[tA]at h;obtain⟨w,h2',h⟩:=h
  have hgn:Nat.blt (wB all.toList+wB all.toList) st.heavy=false:=hg
  by_cases hfl:Nat.blt (wB all.toList) st.heavy=true
  ·-- an operation that is done early
   unfold xO at h2';unfold hvI at h1 h;rw[hfl]at h1 h2' h
   simp only[cond_true,tA,yB,yac]at h1 h2'
   obtain⟨w',h2,⟨⟨hw,hfo⟩,hlo⟩,h2'⟩:=h2'
   cases h2'
   subst hw;simp only[if_true,cond_true]at h;have hval:∃v H',(xF o.op).f C (.mixed tm old (jD (Nat.sub st.heavy (Nat.succ (wB all.toList))) olds) (cF o.op)) H=.val v H':=by
    cases hr:(xF o.op).f C (.mixed tm old (jD (Nat.sub st.heavy (Nat.succ (wB all.toList))) olds) (cF o.op)) H with
    | val v H'=>exact⟨v,H',rfl⟩
    | enter g args=>exact(zq9 hfo hr fun q=>by cases q<;>simp[wJ]).elim
    | round g args=>exact(zq9 hfo hr fun q=>by cases q<;>simp[wJ]).elim
    | _=>rw[hr]at h;cases h
   obtain⟨v,H',hv⟩:=hval
   rw[hv]at h;have h:(iI C o.type v fun v=>aI C H' all old olds (putA N tm o.dst v) (nG C H' all N old olds (fun tm=>jG C φ all N old olds κn l tm H') st.lights (putA N tm o.dst v)) st.again)=some x:=h
   rw[iK]at h;obtain⟨ha,hl⟩:=fW _ h.2
   obtain⟨tm',hl1,hl2⟩:=jX _ _ hl
   refine .step ?_
   rw[kI hR];show Fin C E ds (zrz all old olds (st::l) C k tm R acs H) x
   unfold zrz;have hnone:iC all.toList st.heavy=none:=by
    rw[lF];have:=xC.1 hfl
    rw[bC]at this;exact List.getElem?_eq_none (by omega)
   simp only[hnone];rw[hfl,cond_true,hgn,cond_false];unfold zpb;rw[h1,uA,h2,uA,hv,hlo];show Fin C E ds (gI (ob (bL C H' all R.n old olds st.lights (putA R.n tm o.dst v)) fun tm'=>some ⟨⟨.reg all old olds l::k,tm',R⟩,acs,H'⟩) 23) x
   rw[hN,hl1,uA];exact ih _ _ hl2
  have hfl:Nat.blt (wB all.toList) st.heavy=false:=Bool.eq_false_iff.2 hfl
  unfold xO at h2';unfold hvI at h1 h;rw[hfl]at h1 h2' h
  simp only[cond_false,tA]at h1 h2'
  obtain⟨w',h2,h2'⟩:=h2'
  cases h2'
  simp only[cond_false]at h;have back0:∀v H' c',qG (⟨.reg all old olds (st::l)::k,tm,R⟩:zC) v=some c' →
    aI C H' all old olds (putA N tm o.dst v) (nG C H' all N old olds (fun tm=>jG C φ all N old olds κn l tm H') st.lights (putA N tm o.dst v)) st.again=some x->Fin C E ds (.next ⟨c',acs,H'⟩) x:=by
   intro v H' c' hc hK;unfold qG at hc;simp only[hR,cond_true]at hc;have hc:(ob (iC all.toList st.heavy) fun o=>some (⟨.reg all old olds (⟨all.size,st.lights,st.again⟩::l)::k,putA R.n tm o.dst v,R⟩:zC))=some c':=hc
   rw[h1,uA]at hc
   cases hc;refine .step ?_
   rw[kI hR,hN];obtain⟨ha,hl⟩:=fW _ hK
   obtain⟨tm',hl1,hl2⟩:=jX _ _ hl
   show Fin C E ds (zrz all old olds (⟨all.size,st.lights,st.again⟩::l) C k (putA N tm o.dst v) R acs H') x
   unfold zrz;have:iC all.toList all.size=none:=by rw[lF];simp
   simp only[this];rw[aB,if_neg fun e=>by have:=xC.1 e;rw[bC]at this;simp at this]
   show Fin C E ds (zcb all old olds ⟨all.size,st.lights,st.again⟩ l C k (putA N tm o.dst v) R acs H') x
   unfold zcb;simp only[ha,hN,hl1,uA];exact ih _ _ hl2
  have back:∀v H' c',qG (⟨.reg all old olds (st::l)::k,tm,R⟩:zC) v=some c' →
    (iI C o.type v fun v=>aI C H' all old olds (putA N tm o.dst v) (nG C H' all N old olds (fun tm=>jG C φ all N old olds κn l tm H') st.lights (putA N tm o.dst v)) st.again)=some x->Fin C E ds (.next ⟨c',acs,H'⟩) x:=by
   intro v H' c' hc hK;rw[iK]at hK;exact back0 v H' c' hc hK.2
  refine .step ?_
  rw[kI hR];show Fin C E ds (zrz all old olds (st::l) C k tm R acs H) x
  unfold zrz;simp only[h1];unfold zo9;rw[h2];simp only[];have hfin:∀v,∃c',qG (⟨.reg all old olds (st::l)::k,tm,R⟩:zC) v=some c':=fun v=>⟨⟨.reg all old olds (⟨all.size,st.lights,st.again⟩::l)::k,putA R.n tm o.dst v,R⟩,by
   unfold qG;simp only[hR,cond_true];show(ob (iC all.toList st.heavy) fun o=>some (⟨.reg all old olds (⟨all.size,st.lights,st.again⟩::l)::k,putA R.n tm o.dst v,R⟩:zC))=_
   rw[h1];rfl⟩
  cases w with
  | true=>
   simp only[if_true]at h;exact zfy hφ h back hfin
  | false=>
   simp only[yar,if_false]at h;obtain⟨c',hc⟩:=hfin oD
   show Fin C E ds (z7g oD H C _ acs H) x
   unfold z7g;rw[hc];exact back0 _ _ _ hc h
theorem z27{live:List Nat}{tm:Tm}{i:Nat}{v:zA}(h:(keep live tm).get i=some v):tm.get i=some v:=by
 unfold keep Tm.get at h;simp only[yH]at h;split at h
 case isFalse=>cases h
 rename_i hk;have key:∀live:List Nat,(zk1 tm live).get i=some v->tm.get i=some v:=by
  intro live;induction live with
  | nil=>intro h;rw[show zk1 tm []=.leaf from rfl,Tr.get_leaf]at h;cases h
  | cons j live ih=>
   intro h;have h:(match tm.get j with | some v=>(zk1 tm live).set j v | none=>zk1 tm live:Tr zA).get i=some v:=h
   cases hj:tm.get j with
   | none=>rw[hj]at h;exact ih h
   | some u=>
    rw[hj]at h;simp only[]at h;rw[Tr.get_set]at h;split at h
    ·rename_i e;rw[e,hj];exact h
    ·exact ih h
 exact key live h
theorem zgn{todo:List lD}(hr:z28 todo=false){live:List Nat}{tm:Tm}{H:xA}(h:Fin C E ds (.next ⟨⟨todo,keep live tm,R⟩,acs,H⟩) x):Fin C E ds (.next ⟨⟨todo,tm,R⟩,acs,H⟩) x:=
 Fin.of (.forget hr (fun _ _=>z27) (.refl _)) h
theorem zd9(hE:zue C E G f N ro acs){t1 t2:List lD}(h1:z28 t1=false)(hs:∀tm H,vM C t1 tm (RR f N ro ds) acs H=vM C t2 tm (RR f N ro ds) acs H){tm:Tm}{H:xA}(h:Fin C E ds (.next ⟨⟨t2,tm,RR f N ro ds⟩,acs,H⟩) x):Fin C E ds (.next ⟨⟨t1,tm,RR f N ro ds⟩,acs,H⟩) x:=by
 obtain⟨o',hr,hv⟩:=h
 refine⟨o',?_,hv⟩
 generalize ho:(.next ⟨⟨t2,tm,RR f N ro ds⟩,acs,H⟩:wE)=o at hr
 induction hr generalizing tm with
 | refl=>
  subst ho;exact(hE.not _ _ _ _ _ hv).elim
 | step h ih=>
  subst ho;refine .step ?_
  rw[kI rfl,hs,<- kI rfl];exact h
 | forget hr2 hs2 h ih=>
  cases ho;exact .forget h1 hs2 (ih hv rfl)
theorem zs7{i:Nat}{t1 t2:List lD}{tm:Tm}{H:xA}:yN (some (.exit i)) C ⟨t1,tm,R⟩ acs H=yN (some (.exit i)) C ⟨t2,tm,R⟩ acs H:=by
 obtain⟨a,b,c,d,e,ro⟩:=R
 unfold yN
 cases ro<;>rfl
theorem zeb(hE:zue C E G f N ro acs){i:Nat}{y:lD}(hy:∀j,y.blockId=some j->Nat.beq j i=false){tm:Tm}{H:xA}(h:Fin C E ds (.next ⟨⟨.code (.exit i)::k,tm,RR f N ro ds⟩,acs,H⟩) x):Fin C E ds (.next ⟨⟨.code (.exit i)::y::k,tm,RR f N ro ds⟩,acs,H⟩) x:=by
 refine zd9 hE rfl (fun tm H=>?_) h
 show zi5 i C (y::k) tm (RR f N ro ds) acs H=zi5 i C k tm (RR f N ro ds) acs H
 have e:wK i (y::k)=wK i k:=by
  show(match y.blockId with | some j=>bif Nat.beq j i then some k else wK i k | none=>wK i k)=_
  cases hb:y.blockId with
  | none=>rfl
  | some j=>simp only[hy j hb,cond_false]
 unfold zi5;rw[e]
 cases wK i k with
 | some k'=>rfl
 | none=>exact zs7
theorem zj2(hφ:uQ C φ)(hE:zue C E G f N none acs){κ:Kt}(hκ:zrx C E G f N none acs κ k){fo:Operand}{ps:Array Nat}{a b:Code}{tm:Tm}{H:xA}(h:eL C φ f N κ fo ps.toList a b tm H=some x):Fin C E ds (.next ⟨⟨.code (.rangeFunc fo ps a b)::k,tm,RR f N none ds⟩,acs,H⟩) x:=by
 unfold eL at h;rw[tA]at h;obtain⟨v,h1,h⟩:=h
 rw[tA]at h;obtain⟨⟨qf,q1,q2⟩,h2,h⟩:=h
 cases qf with
 | yld l=>cases h
 | func g=>
  simp only[yB,tA]at h;obtain⟨h3,y,h4,r,h5,h6,z,h7,d,h8,h9,h10⟩:=h
  have hp:C.prims.get g=none:=by
   cases hx:C.prims.get g with
   | none=>rfl
   | some u=>rw[hx]at h3;cases h3
  obtain⟨ge,he,r0⟩:=hφ.fn _ _ _ _ h4
  obtain⟨fr',r1,r2⟩:=r0 (⟨.inRange (H.next+1)::k,tm,RR f N none (⟨none,H.next,[]⟩::ds)⟩::acs)
  refine .step ?_
  rw[kI rfl];show Fin C E ds (zi4 fo ps a b C k tm (RR f N none ds) acs H) x
  have hin:mQ C (H.next+1) v=some ge:=by
   unfold mQ;rw[h2,uA];simp only[hp];exact he
  unfold zi4;rw[h1,uA];simp only[hin,uA];refine Fin.of (r1.trans (.step ?_)) (?_:Fin C E ds (.next ⟨⟨.endRange (H.next+1)::k,tm,RR f N none (⟨none,H.next,[]⟩::ds)⟩,acs,y.2⟩) x)
  ·rw[zy0 r2 (c':=⟨.endRange (H.next+1)::k,tm,RR f N none (⟨none,H.next,[]⟩::ds)⟩) rfl]
   exact .refl _
  refine .step ?_
  rw[kI rfl];show Fin C E ds (rV (H.next+1) C k tm (RR f N none (⟨none,H.next,[]⟩::ds)) acs y.2) x
  unfold rV;rw[h5,uA,h6];have key:Fin C E (⟨none,H.next,[]⟩::ds) (.next ⟨⟨(match r.pending with | some c=>.code c::k | none=>k),tm,RR f N none (⟨none,H.next,[]⟩::ds)⟩,acs,endLoop y.2 (H.next+1) r⟩) z:=by
   unfold tR at h7;split at h7
   ·rename_i e;rw[e];exact hκ.norm _ _ _ _ (hE.all rfl _) h7
   ·rename_i e;rw[e];exact hκ.ret _ _ _ _ (hE.all rfl _) h7 k
   ·cases h7
  obtain⟨o',k1,k2⟩:=key
  have hd:aP z.2 H.next=some (some []):=by
   rw[h8]
   cases d with
   | none=>cases h9
   | some l=>cases l with | nil=>rfl | cons _ _=>cases h9
  obtain⟨o'',k3,k4⟩:=hE.pop rfl _ _ _ _ k2 hd
  cases h10;exact⟨o'',k1.trans k3,k4⟩
theorem rX{α:Type}{a b:List α}(h:aC a b=[]):a=[]/\b=[]:=by rw[rG]at h;exact List.append_eq_nil_iff.1 h
theorem zlm(hφ:uQ C φ)(hE:zue C E G f N ro acs):∀(c:sD) (κ:Kt) (k:List lD),(ro=none\/eM c=[])->zrx C E G f N ro acs κ k->∀ds x tm H,G x->uD C φ f N c κ tm H=some x->Fin C E ds (.next ⟨⟨.code (aE c)::k,tm,RR f N ro ds⟩,acs,H⟩) x:=by
 intro c;induction c with
 | skip=>
  intro κ k _ hκ ds x tm H hG h;refine .step ?_
  rw[kI rfl];exact hκ.norm _ _ _ _ hG h
 | region id ops d=>
  intro κ k _ hκ ds x tm H hG h;refine .step ?_
  rw[kI rfl]
  cases d with
  | false=>exact zsz hφ rfl rfl (fun tm H h=>hκ.norm _ _ _ _ hG h) _ _ _ h
  | true=>
   have h:(ob (ob (C.plans.get f) fun t=>t.get id) fun p=>cA (iN ops p) (nG C H ops N tm.cut p.olds (fun tm'=>jG C φ ops N tm.cut p.olds κ.norm p.stages tm' H) p.first tm.cut))=some x:=h
   rw[tA]at h;obtain⟨p,h1,h⟩:=h
   rw[yB]at h;obtain⟨tm',hl1,hl2⟩:=jX _ _ h.2
   show Fin C E ds (zum id ops C k tm (RR f N ro ds) acs H) x
   unfold zum;rw[h1,uA,h.1,hl1];exact zhj hφ rfl rfl (fun tm H h=>hκ.norm _ _ _ _ hG h) _ _ _ hl2
 | seq a b iha ihb=>
  intro κ k hn hκ ds x tm H hG h;have hna:ro=none\/eM a=[]:=hn.imp id fun e=>(rX e).1
  have hnb:ro=none\/eM b=[]:=hn.imp id fun e=>(rX e).2
  refine zd9 hE (t1:=.code (aE (.seq a b))::k) rfl (t2:=.code (aE a)::.code (aE b)::k) (fun _ _=>rfl) ?_
  exact iha ⟨uD C φ f N b κ,κ.exit,κ.ret⟩ _ hna ⟨fun ds x tm H hG h=>ihb _ _ hnb hκ ds x tm H hG h,fun ds x i tm H hG h=>zeb hE (fun _ e=>by cases e) (hκ.exit _ _ _ _ _ hG h),hκ.ret⟩ ds x tm H hG h
 | cond c a b iha ihb=>
  intro κ k hn hκ ds x tm H hG h;have hna:ro=none\/eM a=[]:=hn.imp id fun e=>(rX e).1
  have hnb:ro=none\/eM b=[]:=hn.imp id fun e=>(rX e).2
  have h:(ob (ob (ev c (.now tm)) zA.asBool) fun t=>Bool.rec (motive:=fun _=>tB) (uD C φ f N b κ tm H) (uD C φ f N a κ tm H) t)=some x:=h
  rw[tA]at h;obtain⟨t,h1,h⟩:=h
  refine .step ?_
  rw[kI rfl];show Fin C E ds (zun c (aE a) (aE b) C k tm (RR f N ro ds) acs H) x
  unfold zun;rw[h1]
  cases t with
  | true=>exact iha _ _ hna hκ _ _ _ _ hG h
  | false=>exact ihb _ _ hnb hκ _ _ _ _ hG h
 | block id c ih=>
  intro κ k hn hκ ds x tm H hG h;refine .step ?_
  rw[kI rfl];have nx:∀ds x tm H,G x->κ.norm tm H=some x->Fin C E ds (.next ⟨⟨.inBlock id::k,tm,RR f N ro ds⟩,acs,H⟩) x:=by
   intro ds x tm H hG h;refine .step ?_
   rw[kI rfl];exact hκ.norm _ _ _ _ hG h
  refine ih ⟨κ.norm,fun i tm H=>Bool.rec (motive:=fun _=>tB) (κ.exit i tm H) (κ.norm tm H) (Nat.beq id i),κ.ret⟩ _ hn ⟨nx,fun ds x i tm H hG h=>?_,hκ.ret⟩ ds x tm H hG h
  dsimp only at h
  cases hb:Nat.beq id i with
  | true=>
   rw[hb]at h;refine .step ?_
   rw[kI rfl];show Fin C E ds (zi5 i C (.inBlock id::k) tm (RR f N ro ds) acs H) x
   have e:wK i (.inBlock id::k)=some k:=by
    show(bif Nat.beq id i then some k else wK i k)=_
    rw[hb];rfl
   unfold zi5;rw[e];exact hκ.norm _ _ _ _ hG h
  | false=>
   rw[hb]at h;exact zeb hE (fun j e=>by cases e;exact hb) (hκ.exit _ _ _ _ _ hG h)
 | loop live c ih=>
  intro κ k hn hκ ds x tm H hG h;obtain⟨m,hm⟩:=zxt h
  have it:∀(m:Nat) ds x tm H,G x->(Nat.rec (motive:=fun _=>Tm->xA->tB) (fun _ _=>none) (fun _ r tm H=>uD C φ f N c ⟨r,κ.exit,κ.ret⟩ (keep live.kept tm) H) m:Tm->xA->tB) tm H=some x->Fin C E ds (.next ⟨⟨.inLoop (aE c)::k,tm,RR f N ro ds⟩,acs,H⟩) x:=by
   intro m;induction m with
   | zero=>intro ds x tm H _ h;cases h
   | succ m ihm=>
    intro ds x tm H hG h;refine zgn (live:=live.kept) rfl (.step ?_)
    rw[kI rfl];exact ih ⟨_,κ.exit,κ.ret⟩ _ hn ⟨ihm,fun ds x i tm H hG h=>zeb hE (fun _ e=>by cases e) (hκ.exit _ _ _ _ _ hG h),hκ.ret⟩ _ _ _ _ hG h
  exact zd9 hE (t1:=.code (aE (.loop live c))::k) rfl (t2:=.inLoop (aE c)::k) (fun _ _=>rfl) (it m _ _ tm H hG hm)
 | exit id=>exact fun κ k _ hκ ds x tm H hG h=>hκ.exit _ _ _ _ _ hG h
 | ret=>exact fun κ k _ hκ ds x tm H hG h=>hκ.ret _ _ _ _ hG h k
 | cut live c ih=>exact fun κ k hn hκ ds x tm H hG h=>zgn rfl (ih κ k hn hκ _ _ _ _ hG h)
 | range i pl fo ps id ops c ih=>
  intro κ k hn hκ ds x tm H hG h;rcases hn with rfl | e
  ·exact zj2 hφ hE hκ h
  ·cases e
end
end Go.Am
namespace Go.Am
open Go Go.RowKit
def endK (C:qA)(fn:Func)(tm:Tm)(H:xA):tB:=ob (oQ C H tm fn.results.toList) fun l=>some (cS l,H)
def z02 (C:qA)(fn:Func):Kt:=⟨endK C fn,fun _ _ _=>none,endK C fn⟩
def bV(ops:List Oper):Bool:=tC (fun o=>match o.op with | .move _=>dG o.guard | .assign _=>dG o.guard | _=>false) ops
def zW(c:sD):Option zo4:=match eM c with | [q]=>some q | _=>none
def rdOk (r:jL)(q:zo4):Prop:=r.assign=.region q.id q.ops false/\r.body=aE q.c/\r.params=q.ps.toList/\LoopState.tag r.state=0/\bV q.ops.toList=true/\eM q.c=[]
def zow(r:jL):jL:=⟨.busy,r.pending,r.fn,r.n,r.tm,r.params,r.assign,r.body,r.defers⟩
def zh9(b:Bool)(r:jL):jL:=⟨if b then .ready else .done,if b then none else some .ret,r.fn,r.n,r.tm,r.params,r.assign,r.body,r.defers⟩
def rdK:Kt:=⟨fun _ H=>some (.bool true,H),fun _ _ _=>none,fun _ H=>some (.bool false,H)⟩
def z4e(C:qA)(φ:Ora)(fn n:Nat)(q:zo4)(tm:Tm)(H:xA):tB:=uD C φ fn n (.seq (.region q.id q.ops false) q.c) rdK tm H
def zc2(C:qA)(A:Tr sD)(φ:Ora)(l:Nat)(args:List zA)(H:xA):tB:=
 ob (yI H l) fun r=>ob (qQ r.n r.params args r.tm) fun tm=>ob (A.get r.fn) fun c=>ob (zW c) fun q=>@ite _ (rdOk r q) (Classical.propDecidable _)
  (ob (z4e C φ r.fn r.n q tm (setBlk H l (.loop (zow r)))) fun x=>ob (yI x.2 l) fun r2=>ob x.1.asBool fun b=>some (.bool b,setBlk x.2 l (.loop (zh9 b r2)))) none
def zuk (C:qA)(A:Tr sD)(φ:Ora)(f:Nat)(args:List zA)(H:xA):tB:=
 ob (A.get f) fun c=>ob (C.fns.get f) fun fn=>ob (rJ C f args false) fun g=>uD C φ f fn.ntmps c (z02 C fn) g.tm H
def zm1(C:qA)(A:Tr sD)(φ:Ora):Ora
 | .func f=>zuk C A φ f
 | .yld l=>zc2 C A φ l
def z5i (C:qA)(A:Tr sD):Nat->Ora
 | 0=>fun _ _ _=>none
 | n+1=>zm1 C A (z5i C A n)
def xD (C:qA)(A:Tr sD):Ora:=fun f args H=>lim fun n=>z5i C A n f args H
section
variable {C:qA}{A:Tr sD}
theorem uU{φ:Ora}{l:Nat}{args:List zA}{H:xA}{x:zA × xA}:zc2 C A φ l args H=some x ↔ ∃r tm c q y r2 b,yI H l=some r/\qQ r.n r.params args r.tm=some tm/\A.get r.fn=some c/\zW c=some q/\rdOk r q/\z4e C φ r.fn r.n q tm (setBlk H l (.loop (zow r)))=some y/\yI y.2 l=some r2/\y.1=.bool b/\x=(.bool b,setBlk y.2 l (.loop (zh9 b r2))):=by
 unfold zc2;simp only[tA];constructor
 ·rintro⟨r,h1,tm,h2,c,h3,q,h4,h⟩
  by_cases hq:rdOk r q
  ·rw[if_pos hq]at h
   simp only[tA]at h;obtain⟨y,h5,r2,h6,b,h7,h8⟩:=h
   exact⟨r,tm,c,q,y,r2,b,h1,h2,h3,h4,hq,h5,h6,yR.1 h7,by cases h8;rfl⟩
  ·rw[if_neg hq]at h;cases h
 ·rintro⟨r,tm,c,q,y,r2,b,h1,h2,h3,h4,hq,h5,h6,h7,h8⟩
  refine⟨r,h1,tm,h2,c,h3,q,h4,?_⟩
  rw[if_pos hq];simp only[tA];exact⟨y,h5,r2,h6,b,yR.2 h7,by rw[h8]⟩
theorem zfm{φ φ':Ora}(h:OLe φ φ'):OLe (zm1 C A φ) (zm1 C A φ'):=by
 intro f args H x hx
 cases f with
 | yld l=>
  have hx:zc2 C A φ l args H=some x:=hx
  obtain⟨r,tm,c,q,y,r2,b,h1,h2,h3,h4,hq,h5,h6,h7,h8⟩:=uU.1 hx
  exact uU.2 ⟨r,tm,c,q,y,r2,b,h1,h2,h3,h4,hq,lT h _ _ _ (KLe.refl _) _ _ _ h5,h6,h7,h8⟩
 | func f=>
 have hx:zuk C A φ f args H=some x:=hx
 show zuk C A φ' f args H=some x
 unfold zuk at hx ⊢
 rw[tA]at hx ⊢
 obtain⟨c,h1,hx⟩:=hx
 refine⟨c,h1,?_⟩
 rw[tA]at hx ⊢
 obtain⟨fn,h2,hx⟩:=hx
 refine⟨fn,h2,?_⟩
 rw[tA]at hx ⊢
 obtain⟨g,h3,hx⟩:=hx
 exact⟨g,h3,lT h c _ _ (KLe.refl _) _ _ _ hx⟩
theorem zxi:∀n,OLe (z5i C A n) (z5i C A (n+1)):=by
 intro n;induction n with
 | zero=>intro f args H x h;cases h
 | succ n ih=>exact zfm ih
theorem qT{f:AFn}{args:List zA}{H:xA}{x:zA × xA}:xD C A f args H=some x ↔ ∃n,z5i C A n f args H=some x:=
 zbz fun n _ hy=>zxi n _ _ _ _ hy
theorem zza:z4s (z5i C A) (xD C A):=⟨zxi,fun _ _ _ _ h=>qT.1 h⟩
theorem z6b(f:AFn)(args:List zA)(H:xA):xD C A f args H=zm1 C A (xD C A) f args H:=by
 have key:∀x,xD C A f args H=some x ↔ zm1 C A (xD C A) f args H=some x:=by
  intro x;constructor
  ·intro h
   obtain⟨n,hn⟩:=qT.1 h
   cases n with
   | zero=>cases hn
   | succ n=>exact zfm (fun f a H y hy=>qT.2 ⟨n,hy⟩) _ _ _ _ hn
  ·intro h
   cases f with
   | yld l=>
    have h:zc2 C A (xD C A) l args H=some x:=h
    obtain⟨r,tm,c,q,y,r2,b,h1,h2,h3,h4,hq,h5,h6,h7,h8⟩:=uU.1 h
    have sup:z9m (fun _=>rdK) rdK:=⟨⟨fun _ _ _ _ h=>h,fun _ _ _ h=>⟨0,h⟩⟩,fun i=>⟨fun _ _ _ _ h=>h,fun _ _ _ h=>⟨0,h⟩⟩,⟨fun _ _ _ _ h=>h,fun _ _ _ h=>⟨0,h⟩⟩⟩
    obtain⟨n,hn⟩:=(zon zza _ _ _ sup).ex _ _ _ h5
    exact qT.2 ⟨n+1,uU.2 ⟨r,tm,c,q,y,r2,b,h1,h2,h3,h4,hq,hn,h6,h7,h8⟩⟩
   | func f=>
   have h:zuk C A (xD C A) f args H=some x:=h
   unfold zuk at h;rw[tA]at h;obtain⟨c,h1,h⟩:=h
   rw[tA]at h;obtain⟨fn,h2,h⟩:=h
   rw[tA]at h;obtain⟨g,h3,h⟩:=h
   have sup:z9m (fun _=>z02 C fn) (z02 C fn):=⟨⟨fun _ _ _ _ h=>h,fun _ _ _ h=>⟨0,h⟩⟩,fun i=>⟨fun _ _ _ _ h=>h,fun _ _ _ h=>⟨0,h⟩⟩,⟨fun _ _ _ _ h=>h,fun _ _ _ h=>⟨0,h⟩⟩⟩
   obtain⟨n,hn⟩:=(zon zza c _ _ sup).ex _ _ _ h
   refine qT.2 ⟨n+1,?_⟩
   show zuk C A (z5i C A n) f args H=some x
   unfold zuk;rw[h1,uA,h2,uA,h3,uA];exact hn
 cases h:xD C A f args H with
 | some x=>exact((key x).1 h).symm
 | none=>
  cases h2:zm1 C A (xD C A) f args H with
  | none=>rfl
  | some x=>rw[(key x).2 h2]at h;cases h
def bT(C:qA)(A:Tr sD):Prop:=∀f c,A.get f=some c->∃fn,C.fns.get f=some fn/\fn.body=some (aE c)
theorem zoh{f:Nat}{args:List zA}{g:zC}(h:rJ C f args false=some g):∃fn c,C.fns.get f=some fn/\fn.body=some c/\g.todo=[.code c]/\g.R=⟨f,fn.ntmps,[],.run,false,none⟩:=by
 unfold rJ at h;simp only[tA,yB]at h;obtain⟨fn,h1,c,h2,k,h3,_,h⟩:=h
 cases h;exact⟨fn,c,h1,h2,rfl,rfl⟩
theorem lX{α β:Type}{f g:α->Option β}:∀(l:List α) {r:List β},(∀a b,f a=some b->g a=some b)->mF f l=some r->mF g l=some r:=by
 intro l;induction l with
 | nil=>intro r _ h;exact h
 | cons a l ih=>
  intro r hfg h;rw[yK,tA]at h ⊢
  obtain⟨b,h1,h⟩:=h
  refine⟨b,hfg _ _ h1,?_⟩
  rw[tA]at h ⊢
  obtain⟨s,h2,h⟩:=h
  exact⟨s,ih hfg h2,h⟩
def z9n(C:qA)(f:Nat)(acs:List zC):z6k:=fun ds o x=>∃fr',o=.next ⟨fr',acs,x.2⟩/\zi3 C f ds fr' x.2 x.1
theorem zm7{H:xA}{tm:Tm}{r:Nat}{d e:Option (List fH)}(hr:H.t.get r=some (.deferred d)):∀(l:List ResultVar) vs,oQ C H tm l=some vs->oQ C (setBlk H r (.deferred e)) tm l=some vs:=by
 intro l vs h;refine lX l (fun rv v h=>?_) h
 cases rv with
 | tmp t=>exact h
 | cell a t=>
  have h:(ob (ob (tm.get a) zA.asPtr) fun p=>ob (C.tys.get t) fun ty=>ob (tD H p.1) fun c=>zN ty c.1 p.2)=some v:=h
  show(ob (ob (tm.get a) zA.asPtr) fun p=>ob (C.tys.get t) fun ty=>ob (tD (setBlk H r (.deferred e)) p.1) fun c=>zN ty c.1 p.2)=some v
  simp only[tA]at h ⊢
  obtain⟨p,hp,ty,ht,c,hc,hv⟩:=h
  refine⟨p,hp,ty,ht,c,?_,hv⟩
  unfold tD at hc ⊢
  rw[tA]at hc ⊢
  obtain⟨y,h1,h2⟩:=hc
  refine⟨y,?_,h2⟩
  show(H.t.set r (.deferred e)).get p.1=some y
  rw[Tr.get_set,if_neg fun e=>by rw[e,hr]at h1;cases h1;cases h2]
  exact h1
theorem z3o{f N:Nat}{acs:List zC}:zue C (z9n C f acs) (fun _=>True) f N none acs:=by
 refine⟨?_,fun _ _=>trivial,?_⟩
 ·rintro ds todo tm H x ⟨fr',h1,h2⟩
  cases h1;have:=h2.1
  cases this
 ·rintro _ r ds o x ⟨fr',rfl,h1,h2,h3,h4,fn,l,h5,h6,h7⟩ hd
  obtain⟨todo,tm,ffn,n,defers,mode,deferred,round⟩:=fr'
  simp only at h1 h2 h3 h4 h6
  subst h1 h2 h3 h4
  have hr:x.2.t.get r=some (.deferred (some [])):=by
   unfold aP at hd;rw[yB,tA]at hd;obtain⟨_,y,e1,e2⟩:=hd
   cases y<;>cases e2
   exact e1
  refine⟨_,.step ?_,⟨⟨todo,tm,⟨ffn,n,ds,.returning,false,round⟩⟩,rfl,rfl,rfl,rfl,rfl,fn,l,h5,zm7 hr _ _ h6,h7⟩⟩
  show oJ C (zjj C ⟨none,r,[]⟩ ds ⟨todo,tm,⟨ffn,n,⟨none,r,[]⟩::ds,.returning,false,round⟩⟩ acs x.2) _
  unfold zjj;simp only[hd,uA];exact .refl _
theorem zrg{f:Nat}{fn:Func}{acs:List zC}{x:zA × xA}{ds:List fH}(hf:C.fns.get f=some fn){tm:Tm}{H:xA}(h:endK C fn tm H=some x){todo:List lD}{N:Nat}
  (hs:vM C todo tm (RR f N none ds) acs H=.next ⟨zcy ⟨todo,tm,RR f N none ds⟩ .returning,acs,H⟩):Fin C (z9n C f acs) ds (.next ⟨⟨todo,tm,RR f N none ds⟩,acs,H⟩) x:=by
 unfold endK at h;rw[tA]at h;obtain⟨l,h1,h2⟩:=h
 cases h2;refine .step ?_
 rw[kI rfl,hs];exact⟨_,.refl _,_,rfl,rfl,rfl,rfl,rfl,fn,l,hf,h1,rfl⟩
def RdG (l:Nat)(c:zC):zA × xA->Prop:=fun x=>∃b r2 c',x.1=.bool b/\yI x.2 l=some r2/\qG c (.bool b)=some c'
def RdEnd(l:Nat)(c:zC)(acs:List zC):z6k:=fun _ o x=>∃b r2 c',x.1=.bool b/\yI x.2 l=some r2/\qG c (.bool b)=some c'/\o=.next ⟨c',acs,setBlk x.2 l (.loop (zh9 b r2))⟩
theorem len_ne{α:Type}{a:α}{l:List α}:l≠a::l:=fun e=>by have:=congrArg List.length e;simp at this
theorem zt5{C:qA}{φ:Ora}{all:Array Oper}{n:Nat}{κn:Tm->xA->tB}:∀(l:List Oper) (tm:Tm) (H1:xA) (x:zA × xA),bV l=true->iJ C φ all n κn l tm H1=some x->∃tm',κn tm' H1=some x/\∀(k:List lD) (R:aH) (cs:List zC) (H:xA),R.n=n->vO C all k R cs l tm H=xGo k tm' R cs H:=by
 intro l;induction l with
 | nil=>intro tm H1 x _ h;exact⟨tm,h,fun _ _ _ _ _=>rfl⟩
 | cons o l ih=>
  intro tm H1 x hp h;have hp:(bif (match o.op with | .move _=>dG o.guard | .assign _=>dG o.guard | _=>false)then bV l else false)=true:=hp
  have hp1:(match o.op with | .move _=>dG o.guard | .assign _=>dG o.guard | _=>false)=true:=by
   cases hx:(match o.op with | .move _=>dG o.guard | .assign _=>dG o.guard | _=>false)with
   | true=>rfl
   | false=>rw[hx]at hp;cases hp
  rw[hp1]at hp;have hp:bV l=true:=hp
  have hmv:∃u,(∀H,(xF o.op).f C (.now tm) H=lv (nO u) C (.now tm) H)/\dG o.guard=true:=by
   cases ho:o.op<;>rw[ho]at hp1<;>first
    | (cases hp1;done)
    | exact⟨_,fun _=>rfl,hp1⟩
  obtain⟨u,hu,hg⟩:=hmv
  have hw:lE o.guard all tm=some true:=by
   cases hx:o.guard with
   | none=>rfl
   | some g=>rw[hx]at hg;cases hg
  rw[yT,hw,uA,if_pos rfl,hu]at h
  cases hv:ev u (.now tm)with
  | none=>
   have:lv (nO u) C (.now tm) H1=.fail:=by unfold lv nO;rw[hv]
   rw[this]at h;cases h
  | some v=>
   have hval:∀H,lv (nO u) C (.now tm) H=.val v H:=fun H=>by unfold lv nO;rw[hv]
   rw[hval]at h;simp only[rF,iK]at h;obtain⟨tm',h1,h2⟩:=ih _ _ _ hp h.2
   refine⟨tm',h1,fun k R cs H hR=>?_⟩
   rw[vZ,hw];simp only[];rw[hu,hval];simp only[mI.asVal];rw[hR];exact h2 k R cs H hR
theorem zjx{φ:Ora}(hφ:uQ C φ){l:Nat}{args:List zA}{H:xA}{x:zA × xA}(h:zc2 C A φ l args H=some x) :
  ∃r tm,yI H l=some r/\qQ r.n r.params args r.tm=some tm/\∀c acs c',qG c x.1=some c'->oJ C (.next ⟨zm6 r l tm,c::acs,H⟩) (.next ⟨c',acs,x.2⟩):=by
 obtain⟨r,tm,cc,q,y,r2,b,h1,h2,h3,h4,⟨q1,q2,q3,q4,q5,q6⟩,h5,h6,h7,rfl⟩:=uU.1 h
 refine⟨r,tm,h1,h2,fun c acs c' hc=>?_⟩
 have h5:iJ C φ q.ops r.n (uD C φ r.fn r.n q.c rdK) q.ops.toList tm.cut (setBlk H l (.loop (zow r)))=some y:=h5
 obtain⟨tm',h8,h9⟩:=zt5 _ _ _ _ q5 h5
 unfold zm6;rw[q1,q2];refine .step ?_
 rw[kI rfl];show oJ C (vO C q.ops _ _ _ q.ops.toList tm.cut H) _
 rw[h9 _ _ _ _ rfl];refine .step ?_
 show oJ C (vM C (.beginRound::[.code (aE q.c)]) tm' ⟨r.fn,r.n,[],.run,false,some l⟩ (c::acs) H) _
 have hb:vM C (.beginRound::[.code (aE q.c)]) tm' ⟨r.fn,r.n,[],.run,false,some l⟩ (c::acs) H=.next ⟨⟨[.code (aE q.c)],tm',RR r.fn r.n (some l) []⟩,c::acs,setBlk H l (.loop (zow r))⟩:=by
  show zi6 C [.code (aE q.c)] tm' _ (c::acs) H=_
  unfold zi6;simp only[uA];rw[h1,uA,q4];rfl
 rw[hb];have hc:qG c (.bool b)=some c':=hc
 have hE:zue C (RdEnd l c acs) (RdG l c) r.fn r.n (some l) (c::acs):=by
  refine⟨?_,fun e=>(by cases e),fun e=>(by cases e)⟩
  rintro ds todo tm H x ⟨b,r2,c',_,_,_,e⟩
  injection e with e
  injection e with _ e _
  exact len_ne e.symm
 have hK:zrx C (RdEnd l c acs) (RdG l c) r.fn r.n (some l) (c::acs) rdK []:=by
  refine⟨?_,fun _ _ _ _ _ _ h=>(by cases h),?_⟩
  ·rintro ds x tm H ⟨b,r2,c',g1,g2,g3⟩ h
   cases h
   cases g1
   refine .step ?_
   rw[kI rfl];have:vM C [] tm (RR r.fn r.n (some l) ds) (c::acs) H=.next ⟨c',acs,setBlk H l (.loop (zh9 true r2))⟩:=by
    have e0:vM C [] tm (RR r.fn r.n (some l) ds) (c::acs) H=yN none C ⟨[],tm,RR r.fn r.n (some l) ds⟩ (c::acs) H:=rfl
    rw[e0];unfold yN;simp only[g2,uA];show gI (ob (qG c (.bool true)) _) 7=_
    rw[g3];rfl
   rw[this];exact⟨_,.refl _,true,r2,c',rfl,g2,g3,rfl⟩
  ·rintro ds x tm H ⟨b,r2,c',g1,g2,g3⟩ h k'
   cases h
   cases g1
   refine .step ?_
   rw[kI rfl];have:vM C (.code .ret::k') tm (RR r.fn r.n (some l) ds) (c::acs) H=.next ⟨c',acs,setBlk H l (.loop (zh9 false r2))⟩:=by
    have e0:vM C (.code .ret::k') tm (RR r.fn r.n (some l) ds) (c::acs) H=yN (some .ret) C ⟨.code .ret::k',tm,RR r.fn r.n (some l) ds⟩ (c::acs) H:=rfl
    rw[e0];unfold yN;simp only[g2,uA];show gI (ob (qG c (.bool false)) _) 7=_
    rw[g3];rfl
   rw[this];exact⟨_,.refl _,false,r2,c',rfl,g2,g3,rfl⟩
 obtain⟨o',k1,b',r2',c'',k2,k3,k4,rfl⟩:=zlm hφ hE q.c rdK [] (Or.inr q6) hK [] y tm' _ ⟨b,r2,c',h7,h6,hc⟩ h8
 rw[h7]at k2;cases k2
 rw[h6]at k3;cases k3
 rw[hc]at k4;cases k4
 exact k1
theorem zm0(hA:bT C A){φ:Ora}(hφ:uQ C φ):uQ C (zm1 C A φ):=by
 refine⟨fun f args H x h=>?_,fun l args H x h=>zjx hφ h⟩
 have h:zuk C A φ f args H=some x:=h
 unfold zuk at h;rw[tA]at h;obtain⟨c,h1,h⟩:=h
 rw[tA]at h;obtain⟨fn,h2,h⟩:=h
 rw[tA]at h;obtain⟨g,h3,h⟩:=h
 refine⟨g,h3,fun acs=>?_⟩
 obtain⟨fn',c',e1,e2,e3,e4⟩:=zoh h3
 rw[h2]at e1;cases e1
 obtain⟨fn',e5,e6⟩:=hA f c h1
 rw[h2]at e5;cases e5
 rw[e2]at e6;cases e6
 obtain⟨gt,gtm,gR⟩:=g
 simp only at e3 e4 h
 subst e3 e4
 have hK:zrx C (z9n C f acs) (fun _=>True) f fn.ntmps none acs (z02 C fn) []:=⟨fun ds x tm H _ h=>zrg h2 h rfl,fun ds x i tm H _ h=>(by cases h),fun ds x tm H _ h k'=>zrg h2 h rfl⟩
 obtain⟨o',k1,fr',rfl,k2⟩:=zlm hφ z3o c (z02 C fn) [] (Or.inl rfl) hK [] x gtm H trivial h
 exact⟨fr',k1,k2⟩
theorem zga(hA:bT C A):∀n,uQ C (z5i C A n):=by
 intro n;induction n with
 | zero=>exact⟨fun f args H x h=>(by cases h),fun l args H x h=>(by cases h)⟩
 | succ n ih=>exact zm0 hA ih
theorem zzb(hA:bT C A):uQ C (xD C A):=by
 refine⟨fun f args H x h=>?_,fun f args H x h=>?_⟩
 ·obtain⟨n,hn⟩:=qT.1 h
  exact(zga hA n).fn _ _ _ _ hn
 ·obtain⟨n,hn⟩:=qT.1 h
  exact(zga hA n).rd _ _ _ _ hn
theorem zlu{P:Program}{B N:Nat}{I:World->Prop}{μ:Mu}{w:World}(hS:Sim P C B N I)(hI:I w)(hA:bT C A){f:Nat}{args:List zA}{args':Array Value}{H H':xA}{v:zA}(hH:aA B N μ H w)(hl:zB μ args args'.toList)
  (h:xD C A (.func f) args H=some (v,H')):Calls P f args' w fun e w'=>∃v' μ',e=.returned v'/\μ.lw μ'/\wA μ' v v'/\aA B N μ' H' w'/\Below N w w':=by
 intro base;obtain⟨g,he,hr⟩:=(zzb hA).fn _ _ _ _ h
 obtain⟨fr',r1,h1,h2,h3,h4,fn,l,h5,h6,rfl⟩:=hr []
 have h0:wD P C B N μ base (lone (Frame.enter P f args' .normal) base w) w (.next ⟨g,[],H⟩):=zbt hS.fns hH hl he
 obtain⟨μ',b,cs,w',s1,s2,s3,s4,s5,s6⟩:=wD.reach hS hI r1 h0
 cases s6
 have hb:=s5.body
 rw[if_neg (by rw[h1];simp[zfc.running])]at hb
 obtain⟨v',q1,q2⟩:=zfw hS.tys s4 hb h6
 have hm:=s5.rest.mode
 rw[h1]at hm;have hbm:b.mode=.returning:=by
  cases hb:b.mode with
  | returning=>rfl
  | _=>rw[hb]at hm;exact hm.elim
 have hd:=s5.rest.defers
 rw[h2]at hd;have hbd:b.defers=[]:=by
  generalize hx:b.defers=bd at hd
  cases hd;rfl
 have hk:=s5.rest.kind
 rw[h3]at hk;have hfn:b.fn=f:=by rw[s5.rest.fn,h4]
 exact⟨.returned v',w',b,⟨v',μ',rfl,s2,q2,s4,s3⟩,s1,hfn,hbm,hbd,hk,fn,by rw[hfn];exact(hS.fns _ _ h5).1,q1⟩
end
end Go.Am
namespace Go.Am
open Go Go.RowKit
def oA(C:qA)(t:Nat)(H:xA)(v:zA):Option zA:=ob v.asPtr fun p=>ob (C.tys.get t) fun ty=>ob (tD H p.1) fun c=>zN ty c.1 p.2
def oK(C:qA)(s d:Nat)(H:xA)(a:zA):Option zA:=ob (C.tys.get s) fun s=>ob (C.tys.get d) fun d=>uM C s d a H
def zG(C:qA)(t:Nat)(H:xA)(a:zA)(l h:Option zA):Option zA:=ob (C.tys.get t) fun ty=>bJ C H ty a l h
def nV(C:qA)(s f:Nat):Option Nat:=ob (C.tys.get s) fun ty=>ob ty.desc.asStruct fun fs=>ob (iC fs f) fun fd=>cA (!Nat.beq fd.2.2 0) (some fd.1)
def qB(C:qA)(s f:Nat)(v:zA):Option zA:=ob (nV C s f) fun k=>ob v.asPtr fun p=>some (.ptr p.1 (p.2+k))
def jB(C:qA)(t:Nat)(v i:zA):Option zA:=
 ob (C.tys.get t) fun ty=>ob i.asNat fun i=>
  match v.asSlice with
  | some s=>ob ty.desc.asSlice fun el=>ob (C.tys.get el) fun et=>cA (Nat.blt i s.2.2.1) (some (.ptr s.1 (s.2.1+i*et.size)))
  | none=>ob v.asPtr fun p=>ob ty.desc.asArr fun a=>ob (C.tys.get a.2) fun et=>cA (Nat.blt i a.1) (some (.ptr p.1 (p.2+i*et.size)))
def zpc(C:qA)(t i:Nat):Option Nat:=ob (C.tys.get t) fun ty=>ob ty.desc.asArr fun a=>ob (C.tys.get a.2) fun et=>cA (Nat.blt i a.1) (some (i*et.size))
def cI(C:qA)(t:Nat)(v i:zA):Option zA:=
 ob (C.tys.get t) fun ty=>ob i.asNat fun i=>
  match v.asStr with
  | some s=>cA ty.desc.isString (ob (iC s i) fun b=>some (.int .u8 (.ofNat b)))
  | none=>ob v.asAgg fun l=>ob ty.desc.asArr fun a=>ob (C.tys.get a.2) fun et=>cA (Nat.blt i a.1) (rL C a.2 l (i*et.size))
def rB(i:Nat)(v:zA):Option zA:=ob v.asTup fun l=>iC l i
def zuh (C:qA)(t:Nat)(H:xA)(v:zA):Option zA:=ob (C.tys.get t) fun ty=>ob (zuj H ty v) fun n=>some (.int .i64 (.ofNat n))
def yC(v:zA):Option zA:=
 match v.asSlice with
 | some s=>some (.int .i64 (.ofNat s.2.2.1))
 | none=>cA (Nat.beq v.tag 5) (some (.int .i64 (.ofNat 0)))
def nC (v:zA):Option zA:=cA (Nat.beq v.tag 4||Nat.beq v.tag 9) (some v)
def zmp(C:qA)(u:Nat)(ok:Bool)(v:zA):Option zA:=
 ob (C.tys.get u) fun ty=>cA (Nat.blt ty.desc.tag 9) (
  match v.asIface with
  | some p=>bif Nat.beq p.1 u then some (bif ok then .tup [p.2,.bool true]else p.2)else cA ok (some (.tup [oN ty,.bool false]))
  | none=>cA (Nat.beq v.tag 12&&ok) (some (.tup [oN ty,.bool false])))
def bG(C:qA)(t:Nat)(H:xA)(m k:zA)(ok:Bool):Option zA:=
 ob (C.tys.get t) fun ty=>ob ty.desc.asMap fun ke=>ob (C.tys.get ke.1) fun kty=>cA (gN C kty) (ob (C.tys.get ke.2) fun ety=>
  ob (bM H m) fun es=>cA (yM C kty k) (ob (cG k es) fun r=>
   match r with
   | some v=>some (bif ok then .tup [v,.bool true]else v)
   | none=>some (bif ok then .tup [oN ety,.bool false]else oN ety)))
def fG(C:qA)(t:Nat)(H:xA):Option (zA × xA):=ob (C.tys.get t) fun ty=>some (.ptr H.next 0,zE H ty.zero none)
def zmo (v:zA)(H:xA):Option (zA × xA):=some (.ptr H.next 0,zE H v.cells none)
def zg8(C:qA)(t:Nat)(H:xA):Option (zA × xA):=ob (C.tys.get t) fun ty=>some (.ptr H.next 0,zE H ty.zero (lI C t))
def zr5(C:qA)(t:Nat)(v:zA)(H:xA):Option (zA × xA):=some (.ptr H.next 0,zE H v.cells (lI C t))
def dH(C:qA)(t len:Nat)(ps:List (Nat × zA))(H:xA):Option (zA × xA):=
 ob (C.tys.get t) fun ty=>ob ty.desc.asSlice fun el=>ob (C.tys.get el) fun et=>
  cA (Nat.blt (len*et.size) 1000000&&Nat.beq (wB et.zero) et.size) (ob (wM (fun i=>some (i*et.size,et.size)) ps (vJ et.zero len)) fun l=>some (.slice H.next 0 len len,zE H l none))
def cC(C:qA)(t:Nat)(a v:zA)(H:xA):Option (zA × xA):=ob (C.tys.get t) fun ty=>ob a.asPtr fun p=>cA (Nat.beq (wB v.cells) ty.size) (ob (uI C H p.1 p.2 v.cells) fun H'=>some (oD,H'))
def dS(H:xA):Option (zA × xA):=some (.map H.next,newBlk H (.map []))
def eH(C:qA)(t:Nat)(m k v:zA)(H:xA):Option (zA × xA):=
 ob (C.tys.get t) fun ty=>ob ty.desc.asMap fun ke=>ob (C.tys.get ke.1) fun kty=>cA (gN C kty)
  (ob m.asMap fun b=>cA (!Nat.blt b C.base) (ob (lG H b) fun l=>cA (yM C kty k) (ob (tG k v l) fun l'=>some (oD,setBlk H b (.map l')))))
def mN(C:qA)(t:Nat)(l c:zA)(H:xA):Option (zA × xA):=
 ob (C.tys.get t) fun ty=>ob ty.desc.asSlice fun el=>ob (C.tys.get el) fun et=>ob l.asNat fun l=>ob c.asNat fun c=>
  cA (Nat.ble l c&&Nat.blt c 1000000&&Nat.blt (c*et.bytes) 1000000000&&Nat.beq (wB et.zero) et.size) (some (.slice H.next 0 l c,zE H (vJ et.zero c) none))
def zg6(C:qA)(s d:Nat)(v:zA)(H:xA):Option (zA × xA):=
 ob (C.tys.get s) fun _=>ob (C.tys.get d) fun ty=>ob ty.desc.asSlice fun el=>ob (C.tys.get el) fun et=>ob et.desc.asInt fun k=>cA (kEq k .u8) (ob v.asStr fun l=>
  some (.slice H.next 0 (wB l) (wB l),zE H (yP l) (some (.ty el))))
def gH(C:qA)(t u:Nat)(a b:zA)(H:xA):Option (zA × xA):=ob (C.tys.get t) fun ty=>ob (C.tys.get u) fun uty=>cA (!Nat.beq uty.desc.tag 1) (wR C H ty a b)
def vNext(v:zA)(H:xA):Option (zA × xA):=ob v.asPtr fun p=>cA (Nat.beq p.2 0) (ob (ob (H.t.get p.1) rA.asIter) fun x=>
 match iC x.1 x.2 with
 | some c=>cA (Nat.blt c 128) (some (.tup [.bool true,.int .i64 (.ofNat x.2),.int .i32 (.ofNat c)],setBlk H p.1 (.siter x.1 (x.2+1))))
 | none=>some (.tup [.bool false],H))
structure zO where
 b:Nat->Bool
 i:Nat->Int
 s:Nat->List Nat
 v:Nat->zA
inductive T where
 | ret (v:zA)
 | fail
 | ite (b:Bool) (x y:T)
 | opt (x:Option zA) (K:zA->T)
 | light (x:Tr rA->Option zA) (K:zA->T)
 | heavy (x:xA->Option (zA × xA)) (K:zA->T)
 | call (f:Nat) (args:List zA) (K:zA->T)
 | callv (f:zA) (args:List zA) (K:zA->T)
 | asI (k:IntKind) (v:zA) (K:Int->T)
 | asB (v:zA) (K:Bool->T)
 | asS (v:zA) (K:List Nat->T)
 | asG (zs:List zA) (v:zA) (K:zO->T)
 | jump (i:Nat) (vals:List zA)
 | range (np:Nat->Bool) (f:zA) (i m:Nat) (vals:List zA) (K R:T)
def yo:Nat:=1099511627776
def zxj(z:zA)(X:zO)(j:Nat):zA:=
 match z with
 | .bool _=>.bool (X.b j)
 | .int k _=>.int k (X.i j)
 | .str _=>.str (X.s j)
 | _=>X.v j
def cM(zs:List zA)(X:zO):Nat->List zA:=
 List.rec (motive:=fun _=>Nat->List zA) (fun _=>[]) (fun z _ g j=>zxj z X j::g (j+1)) zs
def zej(l:List zA)(j:Nat):Bool:=match l[j]? with | some (.bool b)=>b | _=>false
def z3b(l:List zA)(j:Nat):Int:=match l[j]? with | some (.int _ n)=>n | _=>0
def z67(l:List zA)(j:Nat):List Nat:=match l[j]? with | some (.str s)=>s | _=>[]
def zr3(l:List zA)(j:Nat):zA:=match l[j]? with | some v=>v | _=>.nilptr
def cellsOf(l:List zA):zO:=⟨zej l,z3b l,z67 l,zr3 l⟩
def z06 (z a:zA):Bool:=
 match z with
 | .bool _=>Nat.beq a.tag 0
 | .int k _=>match a.asIntK with | some p=>kEq p.1 k | none=>false
 | .str _=>Nat.beq a.tag 2
 | .nilptr=>Nat.beq a.tag 3||Nat.beq a.tag 4
 | .nilslice=>Nat.beq a.tag 5||Nat.beq a.tag 6
 | .nilmap=>Nat.beq a.tag 7||Nat.beq a.tag 8
 | .nilfunc=>Nat.beq a.tag 10||Nat.beq a.tag 9
 | .niliface=>Nat.beq a.tag 12||Nat.beq a.tag 11
 | _=>false
def xK:List zA->List zA->Bool
 | [],[]=>true
 | z::zs,a::l=>z06 z a&&xK zs l
 | _,_=>false
structure jF where
 tm:Tm
 ad:List (Nat × Nat × Nat)
 lo:Tr (List zA)
 lit:List Nat
abbrev KT:=jF->T
structure KtT where
 norm:KT
 exit:Nat->KT
 ret:KT
def bB {α:Type}(x:Option α)(K:α->T):T:=Option.rec (motive:=fun _=>T) .fail K x
def gdT (b:Bool)(K:T):T:=Bool.rec (motive:=fun _=>T) .fail K b
def kH(i:Nat)(l:List (Nat × Nat × Nat)):Option (Nat × Nat):=
 List.rec (motive:=fun _=>Option (Nat × Nat)) none (fun a _ g=>Bool.rec (motive:=fun _=>Option (Nat × Nat)) g (some a.2) (Nat.beq i a.1)) l
inductive dJ where
 | now (ad:List (Nat × Nat × Nat))
 | mixed (ad old:List (Nat × Nat × Nat)) (olds names:List Nat)
def tAd (e:dJ)(t:Nat):Option (Nat × Nat):=
 match e with
 | .now ad=>kH t ad
 | .mixed ad old olds names=>bif cE t names then kH t (bif cE t olds then old else ad)else none
def xAd (e:dJ)(x:Operand):Option (Nat × Nat):=
 match x with
 | .tmp t=>tAd e t
 | _=>none
def H0A:xA:=⟨0,.leaf⟩
def sG (C:qA)(t:Nat):Nat:=
 match C.tys.get t with
 | some ty=>ty.desc.tag
 | none=>10
def zif(x:Operand):Bool:=
 match x with
 | .const _=>true
 | _=>false
def zz1(x:Operand):Bool:=
 match x with
 | .const (.int _ n) => !mA n 0
 | _=>false
def binDir(C:qA)(op:BinOp)(t:Nat)(y:Operand):Bool:=
 match op with
 | .add=>Nat.beq (sG C t) 1
 | .sub=>true
 | .mul=>true
 | .quo=>zz1 y
 | .rem=>zz1 y
 | .shl=>zif y
 | .shr=>zif y
 | .eql=>Nat.ble (sG C t) 2
 | .neq=>Nat.ble (sG C t) 2
 | .lss=>Nat.ble (sG C t) 2
 | .leq=>Nat.ble (sG C t) 2
 | .gtr=>Nat.ble (sG C t) 2
 | .geq=>Nat.ble (sG C t) 2
 | _=>false
structure KOp where
 K:zA->T
 Kd:zA->T
 KA:Nat->Nat->T
def zpk (C:qA)(op:Op)(e:mC)(k:KOp):T:=bB ((nE op).f C e H0A) k.Kd
def z1j(C:qA)(op:Op)(x:Operand)(e:mC)(ae:dJ)(k:KOp):T:=
 match xAd ae x with
 | some p=>k.KA p.1 p.2
 | none=>zpk C op e k
def tLoad(C:qA)(t:Nat)(a:Operand)(e:mC)(ae:dJ)(lo:Tr (List zA))(k:KOp):T:=
 match xAd ae a with
 | some p=>bB (lo.get p.1) fun l=>bB (C.tys.get t) fun ty=>gdT (Nat.ble (p.2+ty.size) (wB l)) (bB (rL C t l p.2) k.Kd)
 | none=>bB (ev a e) fun v=>.light (fun m=>oA C t ⟨0,m⟩ v) k.K
def zfl(C:qA)(s:Nat)(x:Operand)(f:Nat)(e:mC)(ae:dJ)(k:KOp):T:=
 match xAd ae x with
 | some p=>bB (nV C s f) fun o=>k.KA p.1 (p.2+o)
 | none=>bB (ev x e) fun v=>.opt (qB C s f v) k.K
def zfk(C:qA)(t:Nat)(x i:Operand)(e:mC)(ae:dJ)(k:KOp):T:=
 match xAd ae x with
 | some p=>bB (ev i e) fun i=>bB i.asNat fun i=>bB (zpc C t i) fun o=>k.KA p.1 (p.2+o)
 | none=>bB (ev x e) fun v=>bB (ev i e) fun i=>.opt (jB C t v i) k.K
def tNil (x:Operand)(e:mC)(ae:dJ)(k:KOp):T:=
 match xAd ae x with
 | some p=>k.KA p.1 p.2
 | none=>bB (ev x e) fun v=>.opt (nC v) k.K
def tLen (C:qA)(c:Call)(e:mC)(k:KOp):T:=
 bB (iC c.argTypes.toList 0) fun t=>bB (iC c.args.toList 0) fun x=>bB (ev x e) fun v=>
  bif Nat.beq (sG C t) 4 then .opt (yC v) k.K else bif Nat.beq (sG C t) 6 then .light (fun m=>zuh C t ⟨0,m⟩ v) k.K else bB (zuh C t H0A v) k.Kd
def tBin (C:qA)(op:BinOp)(t:Nat)(x y:Operand)(u:Nat)(e:mC)(k:KOp):T:=
 bif binDir C op t y then zpk C (.binOp op t x y u) e k else bB (ev x e) fun a=>bB (ev y e) fun b=>.opt ((binA op).f C t x y a b) k.K
def z62(C:qA)(s d:Nat)(x:Operand)(e:mC)(k:KOp):T:=
 bif Nat.beq (sG C d) 2 then(bif Nat.beq (sG C s) 2 then zpk C (.convert s d x) e k else bB (ev x e) fun v=>.light (fun m=>oK C s d ⟨0,m⟩ v) k.K)else bif Nat.beq (sG C d) 1 then zpk C (.convert s d x) e k else .fail
def z41(C:qA)(t:Nat)(x:Operand)(lo hi:Option Operand)(e:mC)(k:KOp):T:=
 bB (ev x e) fun a=>bB (evo lo e) fun l=>bB (evo hi e) fun h=>
  bif Nat.beq (sG C t) 2 then .opt (zG C t H0A a l h) k.K else .light (fun m=>zG C t ⟨0,m⟩ a l h) k.K
def kV(C:qA)(c:Call)(e:mC)(k:KOp):Builtin->T
 | .len=>tLen C c e k
 | .max=>zpk C (.call c) e k
 | .min=>zpk C (.call c) e k
 | _=>.fail
def zgr(ty:qC)(v:zA):List zA:=bif ty.desc.isAgg then v.cells else [v]
def z3v(cells:List zA)(off size:Nat)(vc:List zA):Option (List zA):=
 cA (Nat.beq (wB vc) size&&Nat.ble (off+wB vc) (wB cells)) (some (aC (ze8 cells off) (aC vc (aL cells (off+wB vc)))))
def zw3(C:qA)(tyAt:Nat->Option Nat):List (Nat × zA)->Option (List (Nat × zA × List zA) × List zA):=
 List.rec (motive:=fun _=>Option (List (Nat × zA × List zA) × List zA)) (some ([],[]))
  (fun p _ g=>ob (tyAt p.1) fun t=>ob (C.tys.get t) fun ty=>ob g fun r=>some (bif ty.desc.isAgg then((p.1,p.2,p.2.cells)::r.1,r.2)else((p.1,p.2,[p.2])::r.1,p.2::r.2)))
def z3w(place:Nat->Option (Nat × Nat)):List (Nat × zA × List zA)->List zA->Option (List zA):=
 List.rec (motive:=fun _=>List zA->Option (List zA)) (fun cells=>some cells) (fun p _ g cells=>ob (place p.1) fun q=>ob (z3v cells q.1 q.2 p.2.2) fun cells=>g cells)
def tyAtS(ty:qC)(i:Nat):Option Nat:=
 match ty.desc.asStruct with
 | some fs=>ob (iC fs i) fun x=>some x.2.1
 | none=>ob ty.desc.asArr fun a=>some a.2
def zf6(C:qA)(ty:qC)(i:Nat):Option (Nat × Nat):=
 match ty.desc.asStruct with
 | some fs=>ob (iC fs i) fun x=>some (x.1,x.2.2)
 | none=>ob ty.desc.asArr fun a=>ob (C.tys.get a.2) fun et=>some (i*et.size,et.size)
def zl1(C:qA)(ty:qC):Bool:=
 match ty.desc.asStruct with
 | some _=>true
 | none=>match ty.desc.asArr with
  | some a=>(match C.tys.get a.2 with | some _=>true | none=>false)
  | none=>false
def z43(C:qA)(t:Nat)(ps:Array (Nat × Operand))(e:mC)(k:KOp):T:=
 bB (C.tys.get t) fun ty=>gdT (zl1 C ty) <| bB (evp ps.toList e) fun vs=>bB (zw3 C (tyAtS ty) vs) fun q=>bB (z3w (zf6 C ty) q.1 ty.zero) fun l=>.ite (tC zA.one q.2) (k.Kd (.agg l)) .fail
def tL (C:qA)(op:Op)(e:mC)(ae:dJ)(lo:Tr (List zA))(k:KOp):T:=
 match op with
 | .move x=>z1j C (.move x) x e ae k
 | .assign x=>z1j C (.assign x) x e ae k
 | .load t a=>tLoad C t a e ae lo k
 | .fieldAddr s x f=>zfl C s x f e ae k
 | .indexAddr t x i=>zfk C t x i e ae k
 | .nilCheck x=>tNil x e ae k
 | .binOp op t x y u=>tBin C op t x y u e k
 | .convert s d x=>z62 C s d x e k
 | .slice t x lo hi none=>z41 C t x lo hi e k
 | .index t x i=>bif zif i&&Nat.beq (sG C t) 5 then zpk C (.index t x i) e k else bB (ev x e) fun v=>bB (ev i e) fun i=>.opt (cI C t v i) k.K
 | .extract t i=>bB (ev t e) fun v=>.opt (rB i v) k.K
 | .typeAssert x _ u ok=>bB (ev x e) fun v=>.opt (zmp C u ok v) k.K
 | .lookup t x i ok=>bB (ev x e) fun m=>bB (ev i e) fun key=>.light (fun h=>bG C t ⟨0,h⟩ m key ok) k.K
 | .call c=>match c.callee with
  | .builtin b=>kV C c e k b
  | _=>.fail
 | .pick c a b=>zpk C (.pick c a b) e k
 | .unOp o t x=>(match o with
  | .xor=>bB (ev x e) fun v=>.opt (zmr v) k.K
  | o=>zpk C (.unOp o t x) e k)
 | .makeInterface t x=>zpk C (.makeInterface t x) e k
 | .makeFunc fn a b=>zpk C (.makeFunc fn a b) e k
 | .field t x f=>zpk C (.field t x f) e k
 | .build t ps=>z43 C t ps e k
 | _=>.fail
def laOf (la:List Nat)(dst:Option Nat):Option Nat:=
 match dst with
 | some d=>bif cE d la then some d else none
 | none=>none
structure KLo where
 new:Nat->List zA->T
 set:Nat->List zA->T
def z42(f:Operand)(args:Array Operand)(e:mC)(k:KOp):T:=
 match f with
 | .func g=>gdT (Nat.blt g yo) (bB (evs args.toList e) fun aq=>.call g aq k.K)
 | f=>bB (ev f e) fun fv=>bB (evs args.toList e) fun aq=>.callv fv aq k.K
def two' (c:Call)(e:mC)(K:zA->zA->T):T:=bB (two c e) fun p=>K p.1 p.2
def zjn(C:qA)(c:Call)(e:mC)(k:KOp):Builtin->T
 | .append=>bB (iC c.argTypes.toList 0) fun t=>bB (iC c.argTypes.toList 1) fun u=>two' c e fun a b=>.heavy (gH C t u a b) k.K
 | b=>kV C c e k b
def z40(C:qA)(t:Nat)(a x:Operand)(e:mC)(ae:dJ)(lo:Tr (List zA))(k:KOp)(kl:KLo):T:=
 match xAd ae a with
 | some p=>bB (ev x e) fun v=>bB (C.tys.get t) fun ty=>bB (lo.get p.1) fun l=>bB (z3v l p.2 ty.size (zgr ty v)) fun l'=>.ite (tC zA.one (zgr ty v)) (kl.set p.1 l') .fail
 | none=>bB (ev a e) fun a=>bB (ev x e) fun v=>.heavy (cC C t a v) k.Kd
def tH (C:qA)(la:List Nat)(dst:Option Nat)(op:Op)(e:mC)(ae:dJ)(lo:Tr (List zA))(k:KOp)(kl:KLo):T:=
 match op with
 | .box t x=>bif dG (lI C t)then bB (ev x e) fun v=>(match laOf la dst with
  | some d=>bB (C.tys.get t) fun ty=>bif ty.desc.isAgg then kl.new d v.cells else .ite (zA.one v) (kl.new d [v]) .fail
  | none=>.heavy (zmo v) k.K)else bB (ev x e) fun v=>.heavy (zr5 C t v) k.K
 | .alloc t=>bif dG (lI C t)then(match laOf la dst with
  | some d=>bB (C.tys.get t) fun ty=>kl.new d ty.zero
  | none=>.heavy (fG C t) k.K)else .heavy (zg8 C t) k.K
 | .store t a x=>z40 C t a x e ae lo k kl
 | .buildSlice t len ps=>bB (evp ps.toList e) fun ps=>.heavy (dH C t len ps) k.K
 | .makeMap _ none=>.heavy dS k.K
 | .insert t m key x=>bB (ev m e) fun m=>bB (ev key e) fun key=>bB (ev x e) fun v=>.heavy (eH C t m key v) k.Kd
 | .mapUpdate t m key x=>bB (ev m e) fun m=>bB (ev key e) fun key=>bB (ev x e) fun v=>.heavy (eH C t m key v) k.Kd
 | .makeSlice t l c=>bB (ev l e) fun l=>bB (ev c e) fun c=>.heavy (mN C t l c) k.K
 | .convert s d x=>bif Nat.beq (sG C d) 4 then bB (ev x e) fun v=>.heavy (zg6 C s d v) k.K else z62 C s d x e k
 | .call c=>match c.callee with
  | .value f=>z42 f c.args e k
  | .builtin b=>zjn C c e k b
  | _=>.fail
 | op=>tL C op e ae lo k
def rmNat(i:Nat)(l:List Nat):List Nat:=List.rec (motive:=fun _=>List Nat) [] (fun j _ g=>bif Nat.beq i j then g else j::g) l
def zpi (n:Nat)(dst:Option Nat)(v:zA)(lt:Bool)(st:jF)(κ:KT):T:=
 match dst with
 | none=>κ st
 | some d=>bif Nat.blt d n then gdT (dG (kH d st.ad)) (κ ⟨st.tm.set d v,st.ad,st.lo,bif lt then d::rmNat d st.lit else rmNat d st.lit⟩)else κ st
def z6z(n:Nat)(dst:Option Nat)(d off:Nat)(st:jF)(κ:KT):T:=
 bB dst fun i=>gdT (Nat.blt i n) (gdT (dG (st.tm.get i)) (κ ⟨st.tm,(i,d,off)::st.ad,st.lo,st.lit⟩))
def z5j(d:Nat)(ad:List (Nat × Nat × Nat)):Bool:=tC (fun a=>bif Nat.beq a.2.1 d then Nat.beq a.1 d else true) ad
def tNew (n:Nat)(d:Nat)(l:List zA)(st:jF)(κ:KT):T:=
 gdT (Nat.blt d n) (gdT (dG (st.tm.get d)) (gdT (z5j d st.ad) (κ ⟨st.tm,(d,d,0)::st.ad,st.lo.set d l,st.lit⟩)))
def fitB (C:qA)(t:Nat)(v:zA):Bool:=
 match C.tys.get t with
 | some ty=>(match ty.desc with
  | .bool=>Nat.beq v.tag 0
  | .int k=>(match v.asIntK with | some p=>kEq p.1 k | none=>false)
  | .string=>Nat.beq v.tag 2
  | _=>true)
 | none=>true
def zvo(C:qA)(t:Nat)(v:zA)(K:zA->T):T:=
 match C.tys.get t with
 | some ty=>(match ty.desc with
  | .bool=>.asB v fun b=>K (.bool b)
  | .int k=>.asI k v fun n=>K (.int k n)
  | .string=>.asS v fun s=>K (.str s)
  | .struct _=>bif Nat.ble (wB ty.zero) 40 then .asG ty.zero v fun X=>K (.agg (cM ty.zero X 0))else K v
  | .arr _ _=>bif Nat.ble (wB ty.zero) 40 then .asG ty.zero v fun X=>K (.agg (cM ty.zero X 0))else K v
  | _=>K v)
 | none=>K v
def z5l (x:Operand)(lit:List Nat):Bool:=
 match x with
 | .tmp t=>lit.contains t
 | .const _=>true
 | _=>false
def z2t(op:Op)(e:mC)(lit:List Nat):Bool:=
 match op with
 | .move x=>z5l x lit
 | .assign x=>z5l x lit
 | .unOp _ _ x=>z5l x lit
 | .pick c a b=>bif z5l c lit then(match ob (ev c e) zA.asBool with
  | some w=>bif w then z5l a lit else z5l b lit
  | none=>false)else false
 | _=>false
def zie(all:List Oper)(dst:Option Nat)(l:List Oper):Bool:=
 match dst with
 | none=>false
 | some d => !tC (fun o=>match o.guard with
  | some g=>(match ob (iC all g.1) fun p=>p.dst with | some i => !Nat.beq i d | none=>true)
  | none=>true) l
def zfj(g lt:Bool)(v:zA)(K:zA->Bool->T):T:=
 bif g then(bif lt then K v true else bB v.asBool fun b=>.ite b (K (.bool true) true) (K (.bool false) true))else K v lt
def kop (C:qA)(all:Array Oper)(n:Nat)(o:Oper)(e:mC)(st:jF)(κ:KT):KOp:=
 ⟨fun v=>zvo C o.type v fun v=>zfj (zie all.toList o.dst all.toList) (z2t o.op e st.lit) v fun v lt=>zpi n o.dst v lt st κ,
  fun v=>gdT (fitB C o.type v) (zfj (zie all.toList o.dst all.toList) (z2t o.op e st.lit) v fun v lt=>zpi n o.dst v lt st κ),
  fun d off=>gdT (!Nat.ble (sG C o.type) 2) (z6z n o.dst d off st κ)⟩
def klo (C:qA)(n:Nat)(o:Oper)(st:jF)(κ:KT):KLo:=
 ⟨fun d l=>gdT (!Nat.ble (sG C o.type) 2) (tNew n d l st κ),
  fun d l=>gdT (fitB C o.type oD) (zpi n o.dst oD false ⟨st.tm,st.ad,st.lo.set d l,st.lit⟩ κ)⟩
def mC.adCut(k:Nat)(l:List (Nat × Nat × Nat)):List (Nat × Nat × Nat):=l.filter fun a=>Nat.blt a.1 k
def jF.cut(st:jF):jF:=⟨st.tm.cut,mC.adCut st.tm.k st.ad,st.lo,st.lit⟩
def tops (C:qA)(la:List Nat)(all:Array Oper)(n:Nat)(κ:KT)(l:List Oper):KT:=
 List.rec (motive:=fun _=>KT) κ
  (fun o _ g st=>bB (lE o.guard all st.tm) fun w=>Bool.rec (motive:=fun _=>T) (zpi n o.dst oD false st g)
   (tH C la o.dst o.op (.now st.tm) (.now st.ad) st.lo (kop C all n o (.now st.tm) st g) (klo C n o st g)) w) l
def znt (st old:jF)(olds:List Nat)(op:Op):mC:=.mixed st.tm old.tm olds (cF op)
def z2o (st old:jF)(olds:List Nat)(op:Op):dJ:=.mixed st.ad old.ad olds (cF op)
def iM(C:qA)(all:Array Oper)(n:Nat)(old:jF)(olds:List (Nat × List Nat))(κ:KT)(l:List Nat):KT:=
 List.rec (motive:=fun _=>KT) κ
  (fun i _ g st=>bB (iC all.toList i) fun o=>bB (lE o.guard all st.tm) fun w=>Bool.rec (motive:=fun _=>T) (zpi n o.dst oD false st g)
   (tL C o.op (znt st old (jD i olds) o.op) (z2o st old (jD i olds) o.op) st.lo (kop C all n o (znt st old (jD i olds) o.op) st g)) w) l
def qP(C:qA)(all:Array Oper)(old:jF)(olds:List (Nat × List Nat))(st:jF)(k:T)(l:List Nat):T:=
 List.rec (motive:=fun _=>T) k
  (fun i _ g=>bB (iC all.toList i) fun o=>bB o.dst fun d=>bB (lE o.guard all st.tm) fun w=>Bool.rec (motive:=fun _=>T) g
   (bB (st.tm.get d) fun u=>gdT (fitB C o.type u) (tL C o.op (znt st old (jD i olds) o.op) (z2o st old (jD i olds) o.op) st.lo ⟨fun v=>.ite (same 10 v u) g .fail,fun v=>.ite (same 10 v u) g .fail,fun _ _=>.fail⟩)) w) l
def rP(C:qA)(es:List Eff)(H:xA):Option (zA × xA):=ob (cP C es H) fun H'=>some (oD,H')
def tEff (op:Op)(e:mC)(ae:dJ):Option Eff:=
 match op with
 | .store t a x=>(match xAd ae a with
  | some _=>none
  | none=>cO (.store t a x) e)
 | op=>cO op e
def z1l(all:Array Oper)(old:jF)(olds:List (Nat × List Nat))(st:jF)(l:List Nat):Option (List Eff):=
 mF (fun i=>ob (iC all.toList i) fun o=>ob (lE o.guard all st.tm) fun w=>cA w (tEff o.op (znt st old (jD i olds) o.op) (z2o st old (jD i olds) o.op))) l
def qR(C:qA)(all:Array Oper)(n:Nat)(old:jF)(olds:List (Nat × List Nat))(κ:KT)(l:List sE):KT:=
 List.rec (motive:=fun _=>KT) κ
  (fun s _ g st=>Bool.rec (motive:=fun _=>T) (bB (iC all.toList (hvI all s.heavy)) fun o=>bB (xO C all s.heavy o st.tm) fun w=>
   (fun cont:KT=>Bool.rec (motive:=fun _=>T) (zpi n o.dst oD false st cont)
    (tH C [] o.dst o.op (znt st old (jD (hvI all s.heavy) olds) o.op) (z2o st old (jD (hvI all s.heavy) olds) o.op) st.lo (kop C all n o (znt st old (jD (hvI all s.heavy) olds) o.op) st cont) (klo C n o st cont)) w)
   (fun st'=>qP C all old olds st' (iM C all n old olds g s.lights st') s.again))
   (gdT (jP C all) (bB (z1l all old olds st s.again) fun es=>.heavy (rP C es) fun _=>iM C all n old olds g s.lights st)) (fN all s)) l
def zvd(C:qA)(la:List Nat)(fn n:Nat)(κ:KT)(id:Nat)(all:Array Oper)(draw:Bool):KT:=
 Bool.rec (motive:=fun _=>KT) (fun st=>tops C la all n κ all.toList st.cut)
  (fun st=>bB (ob (C.plans.get fn) fun t=>t.get id) fun p=>gdT (iN all p) (iM C all n st.cut p.olds (qR C all n st.cut p.olds κ p.stages) p.first st.cut)) draw
def zfg(st:jF)(ll:List (Nat × Nat)):Option (List zA):=
 List.rec (motive:=fun _=>Option (List zA)) (some []) (fun p _ g=>ob (kH p.1 st.ad) fun a=>cA (Nat.beq a.1 p.1&&Nat.beq a.2 0) (ob (st.lo.get p.1) fun l=>cA (Nat.beq (wB l) p.2) (ob g fun r=>some (aC l r)))) ll
def zff(p:PI)(st:jF):Option (List zA):=ob (mF (fun i=>st.tm.get i) p.pl) fun a=>ob (zfg st p.ll) fun b=>some (aC a b)
def z04 (ll:List (Nat × Nat)):List zA->Tr (List zA):=
 List.rec (motive:=fun _=>List zA->Tr (List zA)) (fun _=>.leaf) (fun p _ g vals=>(g (aL vals p.2)).set p.1 (ze8 vals p.2)) ll
def nK (pl:List Nat):List zA->Tr zA:=
 List.rec (motive:=fun _=>List zA->Tr zA) (fun _=>.leaf) (fun i _ g vals=>List.rec (motive:=fun _=>Tr zA) .leaf (fun v vals _=>(g vals).set i v) vals) pl
def stAd (ll:List (Nat × Nat)):List (Nat × Nat × Nat):=List.rec (motive:=fun _=>List (Nat × Nat × Nat)) [] (fun p _ g=>(p.1,p.1,0)::g) ll
def zui (k:Nat)(p:PI)(vals:List zA):jF:=⟨⟨k,nK p.pl vals,[]⟩,stAd p.ll,z04 p.ll (aL vals (wB p.pl)),[]⟩
def npC (C:qA)(g:Nat):Bool:=dG (C.prims.get g)
def z5e(pl:List Nat)(st:jF):Option (List zA):=mF (fun i=>st.tm.get i) pl
def zwr(k n:Nat)(pl ps:List Nat)(ops:List Oper)(c:sD):Bool:=
 tC (fun p=>Nat.blt p k&&Nat.blt p n && !cE p pl) ps&&Nat.ble (wB ps) 1&&bV ops&&(match eM c with | []=>true | _=>false)
def rdT:KtT:=⟨fun _=>.ret (.bool true),fun _ _=>.fail,fun _=>.ret (.bool false)⟩
def zwq(C:qA)(n:Nat)(κ:KtT)(i:Nat)(pl:List Nat)(f:Operand)(ps:List Nat)(ops:List Oper)(c:sD)(st:jF):T:=
 gdT (zwr st.tm.k n pl ps ops c) (bB (z5e pl st) fun vals=>bB (ev f (.now st.tm)) fun fv=>.range (npC C) fv i (wB ps) vals (κ.norm st) (κ.ret st))
def zmt (C:qA)(la:List Nat)(fn n:Nat)(c:sD):KtT->KT:=
 sD.rec (motive:=fun _=>KtT->KT)
  (fun κ st=>κ.norm st)
  (fun id all draw κ=>zvd C la fn n κ.norm id all draw)
  (fun _ _ ga gb κ=>ga ⟨gb κ,κ.exit,κ.ret⟩)
  (fun c _ _ gx gy κ st=>bB (ob (ev c (.now st.tm)) zA.asBool) fun b=>bif z5l c st.lit then Bool.rec (motive:=fun _=>T) (gy κ st) (gx κ st) b else .ite b (gx κ st) (gy κ st))
  (fun id _ g κ=>g ⟨κ.norm,fun i st=>Bool.rec (motive:=fun _=>T) (κ.exit i st) (κ.norm st) (Nat.beq id i),κ.ret⟩)
  (fun p _ _ _ st=>bB (zff p st) fun vals=>.jump p.id vals)
  (fun id κ st=>κ.exit id st)
  (fun κ st=>κ.ret st)
  (fun p _ _ _ st=>bB (zff p st) fun vals=>.jump p.id vals)
  (fun i pl f ps _ ops c _ κ st=>zwq C n κ i pl f ps.toList ops.toList c st) c
structure PtT where
 p:PI
 tree:List zA->T
def ztb(p:PI):KT:=fun st=>bB (zff p st) fun vals=>.jump p.id vals
def lR(C:qA)(la:List Nat)(fn n k:Nat)(c:sD):KtT->List PtT:=
 sD.rec (motive:=fun _=>KtT->List PtT)
  (fun _=>[])
  (fun _ _ _ _=>[])
  (fun _ b ga gb κ=>aC (ga ⟨zmt C la fn n b κ,κ.exit,κ.ret⟩) (gb κ))
  (fun _ _ _ gx gy κ=>aC (gx κ) (gy κ))
  (fun id _ g κ=>g ⟨κ.norm,fun i st=>Bool.rec (motive:=fun _=>T) (κ.exit i st) (κ.norm st) (Nat.beq id i),κ.ret⟩)
  (fun p c g κ=>⟨p,fun vals=>zmt C la fn n c ⟨ztb p,κ.exit,κ.ret⟩ (zui k p vals)⟩::g ⟨ztb p,κ.exit,κ.ret⟩)
  (fun _ _=>[])
  (fun _=>[])
  (fun p c g κ=>⟨p,fun vals=>zmt C la fn n c κ (zui k p vals)⟩::g κ)
  (fun i pl _ ps id ops c g _=>⟨⟨i,aC pl ps.toList,[]⟩,fun vals=>zmt C la fn n (.seq (.region id ops false) c) rdT (zui k ⟨i,aC pl ps.toList,[]⟩ vals)⟩::g rdT) c
def resT (C:qA)(st:jF)(l:List ResultVar):(List zA->T)->T:=
 List.rec (motive:=fun _=>(List zA->T)->T) (fun K=>K [])
  (fun r _ g K=>match r with
   | .tmp t=>bB (st.tm.get t) fun v=>g fun l=>K (v::l)
   | .cell a t=>match kH a st.ad with
    | some p=>bB (st.lo.get p.1) fun l=>bB (C.tys.get t) fun ty=>gdT (Nat.ble (p.2+ty.size) (wB l)) (bB (rL C t l p.2) fun v=>g fun l=>K (v::l))
    | none=>bB (st.tm.get a) fun a=>.light (fun m=>oA C t ⟨0,m⟩ a) fun v=>g fun l=>K (v::l)) l
def endT (C:qA)(fn:Func):KT:=fun st=>resT C st fn.results.toList fun l=>.ret (cS l)
def topT (C:qA)(fn:Func):KtT:=⟨endT C fn,fun _ _=>.fail,endT C fn⟩
structure xB where
 code:sD
 la:List Nat
def entT (C:qA)(fn:Func)(k:Nat)(f:Nat)(A:xB)(args:List zA):T:=zmt C A.la f fn.ntmps A.code (topT C fn) ⟨⟨k,Tr.ofList args,[]⟩,[],.leaf,[]⟩
def ptsT (C:qA)(fn:Func)(k:Nat)(f:Nat)(A:xB):List PtT:=lR C A.la f fn.ntmps k A.code (topT C fn)
def zsv(l:List PtT)(i:Nat)(vals:List zA):List T:=List.rec (motive:=fun _=>List T) [] (fun p _ g=>bif Nat.beq p.p.id i then p.tree vals::g else g) l
end Go.Am
namespace Go.Am
open Go Go.RowKit
def nD {α:Type}(x:Option α)(P:α->Prop):Prop:=
 match x with
 | some a=>P a
 | none=>False
theorem sO{α:Type}{x:Option α}{P:α->Prop}:nD x P ↔ ∃a,x=some a/\P a:=by
 cases x with
 | none=>simp[nD]
 | some a=>simp[nD]
@[simp] theorem sA {α:Type} {a:α} {P:α->Prop}:nD (some a) P=P a:=rfl
@[simp] theorem optP_none {α:Type} {P:α->Prop}:nD (none:Option α) P=False:=rfl
abbrev vC:=zA->Tr rA->Prop
abbrev vI:=Nat->List zA->Tr rA->vC->Prop
def z58{α:Type}:List α->Bool | []=>true | _::_=>false
def oM(f:zA)(args:List zA):Option (Nat × List zA):=ob f.asFunc fun p=>match p.1 with
 | .func g=>cA (Nat.blt g yo) (some (g,aC (aC p.2.1 args) p.2.2))
 | .yld l=>cA (z58 p.2.1&&z58 p.2.2) (some (yo+l,args))
def qX(np:Nat->Bool)(f:zA)(l:Nat):Option (Nat × List zA):=ob f.asFunc fun p=>match p.1 with
 | .func g=>cA (Nat.blt g yo&&np g) (some (g,aC p.2.1 (.func (.yld l) [] []::p.2.2)))
 | .yld _=>none
def z8k (k:IntKind)(v:zA):Option Int:=ob v.asIntK fun p=>cA (kEq p.1 k) (some p.2)
def zrs (zs:List zA)(v:zA):Option zO:=ob v.asAgg fun l=>cA (xK zs l) (some (cellsOf l))
def pA (base:Nat)(W:vI)(J:vI):T->Tr rA->vC->Prop
 | .ret v,t,Q=>Q v t
 | .fail,_,_=>False
 | .ite b x y,t,Q=>if b=true then pA base W J x t Q else pA base W J y t Q
 | .opt x K,t,Q=>nD x fun v=>pA base W J (K v) t Q
 | .light x K,t,Q=>nD (x t) fun v=>pA base W J (K v) t Q
 | .heavy x K,t,Q=>∀b,t.get b=none->base<=b->nD (x ⟨b,t⟩) fun p=>pA base W J (K p.1) p.2.t Q
 | .call f args K,t,Q=>W f args t fun v t'=>pA base W J (K v) t' Q
 | .callv f args K,t,Q=>nD (oM f args) fun p=>W p.1 p.2 t fun v t'=>pA base W J (K v) t' Q
 | .asI k v K,t,Q=>nD (z8k k v) fun n=>pA base W J (K n) t Q
 | .asB v K,t,Q=>nD v.asBool fun n=>pA base W J (K n) t Q
 | .asS v K,t,Q=>nD v.asStr fun n=>pA base W J (K n) t Q
 | .asG zs v K,t,Q=>nD (zrs zs v) fun X=>pA base W J (K X) t Q
 | .jump i vals,t,Q=>J i vals t Q
 | .range np f i m vals K R,t,Q=>256<=base/\∀l r,t.get l=none->base<=l->r.state=.ready->r.pending=none →
   (∀args t1 Q1,args.length=m->t1.get l=some (.loop r)->J i (vals++args) (t1.del l) (fun v t2=>t2.get l=none->∃b,v=.bool b/\Q1 v (t2.set l (.loop (zh9 b r))))->W (yo+l) args t1 Q1) →
   nD (qX np f l) fun p=>W p.1 p.2 (t.set l (.loop r)) fun _ t'=>(t'.get l=some (.loop r)/\pA base W J K (t'.del l) Q)\/(t'.get l=some (.loop (zh9 false r))/\pA base W J R (t'.del l) Q)
abbrev Xt:=Nat->Option rA
def XLe (X Y:Xt):Prop:=∀b y,X b=some y->Y b=some y
theorem XLe.refl(X:Xt):XLe X X:=fun _ _ h=>h
theorem XLe.trans{X Y Z:Xt}(h:XLe X Y)(k:XLe Y Z):XLe X Z:=fun b y e=>k b y (h b y e)
structure Ov (base:Nat) (t:Tr rA) (X:Xt) (H:xA):Prop where
 base:base<=H.next
 same:∀b,X b=none->H.t.get b=t.get b
 ext:∀b y,X b=some y->H.t.get b=some y/\t.get b=none/\b<H.next
 lt:∀b y,t.get b=some y->b<H.next
def HLe (H H':xA):Prop:=∀b y,H.t.get b=some y->H'.t.get b=some y
def pN(e e':mC):Prop:=∀i v,z01 i e=some v->z01 i e'=some v
section
variable {base:Nat}{t:Tr rA}{X:Xt}{H HA:xA}{e e':mC}{C:qA}{v:zA}
theorem Ov.notX(h:Ov base t X HA){b:Nat}{y:rA}(hb:t.get b=some y):X b=none:=by
 cases hx:X b with
 | none=>rfl
 | some z=>have:=(h.ext b z hx).2.1;rw[hb]at this;cases this
theorem Ov.up(h:Ov base t X HA){b:Nat}{y:rA}(hb:t.get b=some y):HA.t.get b=some y:=by rw[h.same b (h.notX hb)];exact hb
theorem Ov.le(h:Ov base t X HA){n:Nat}:HLe ⟨n,t⟩ HA:=fun _ _ hb=>h.up hb
theorem Ov.nextX(h:Ov base t X HA):X HA.next=none:=by
 cases hx:X HA.next with
 | none=>rfl
 | some z=>exact absurd (h.ext _ z hx).2.2 (Nat.lt_irrefl _)
theorem Ov.nextT(h:Ov base t X HA):t.get HA.next=none:=by
 cases hx:t.get HA.next with
 | none=>rfl
 | some z=>exact absurd (h.lt _ z hx) (Nat.lt_irrefl _)
theorem qM(h:HLe H HA){b:Nat}{p:Tr zA × Nat × Option Lo}(hb:tD H b=some p):tD HA b=some p:=by
 unfold tD at hb ⊢;rw[tA]at hb ⊢;obtain⟨y,h1,h2⟩:=hb;exact⟨y,h _ _ h1,h2⟩
theorem gT(h:HLe H HA){b:Nat}{p:List (zA × zA)}(hb:lG H b=some p):lG HA b=some p:=by
 unfold lG at hb ⊢;rw[tA]at hb ⊢;obtain⟨y,h1,h2⟩:=hb;exact⟨y,h _ _ h1,h2⟩
theorem gC(h:pN e e'){x:Operand}(hx:ev x e=some v):ev x e'=some v:=by
 cases x with
 | tmp i=>exact h i v hx
 | const c=>exact hx
 | global g=>exact hx
 | func f=>exact hx
theorem ziq(h:pN e e'){l:List Operand}{vs:List zA}(hx:evs l e=some vs):evs l e'=some vs:=lX l (fun _ _ k=>gC h k) hx
theorem zrc(h:pN e e'){x:Option Operand}{r:Option zA}(hx:evo x e=some r):evo x e'=some r:=by
 cases x with
 | none=>exact hx
 | some x=>
  have hx:ob (ev x e) (fun v=>some (some v))=some r:=hx
  show ob (ev x e') (fun v=>some (some v))=some r
  rw[tA]at hx ⊢
  obtain⟨a,h1,h2⟩:=hx
  exact⟨a,gC h h1,h2⟩
theorem zir(h:pN e e'){l:List (Nat × Operand)}{vs:List (Nat × zA)}(hx:evp l e=some vs):evp l e'=some vs:=
 lX l (fun a b k=>by rw[tA]at k ⊢;obtain⟨u,h1,h2⟩:=k;exact⟨u,gC h h1,h2⟩) hx
theorem zhc(h:pN e e'){c:Call}{p:zA × zA}(hx:two c e=some p):two c e'=some p:=by
 unfold two at hx ⊢
 split at hx
 ·rw[tA]at hx ⊢
  obtain⟨a,h1,hx⟩:=hx
  refine⟨a,gC h h1,?_⟩
  rw[tA]at hx ⊢
  obtain⟨b,h2,hx⟩:=hx
  exact⟨b,gC h h2,hx⟩
 ·cases hx
theorem bW(h:HLe H HA){ty:Nat}{a:zA}(hx:oA C ty H a=some v):oA C ty HA a=some v:=by
 unfold oA at hx ⊢
 simp only[tA]at hx ⊢
 obtain⟨p,h1,y,h2,c,h3,h4⟩:=hx
 exact⟨p,h1,y,h2,c,qM h h3,h4⟩
theorem za3(h:HLe H HA){s d:qC}{a:zA}(hx:uM C s d a H=some v):uM C s d a HA=some v:=by
 unfold uM at hx ⊢
 split at hx
 ·rename_i k hk;exact hx
 ·rename_i hk
  rw[yB]at hx ⊢
  refine⟨hx.1,?_⟩
  have hx:=hx.2
  rw[aB]at hx ⊢
  split at hx
  ·rename_i e;rw[if_pos e];exact hx
  ·rename_i e
   rw[if_neg e];simp only[tA,yB]at hx ⊢
   obtain⟨a1,h1,b1,h2,k1,h3,h4,h5⟩:=hx
   refine⟨a1,h1,b1,h2,k1,h3,h4,?_⟩
   unfold kT at h5 ⊢
   split at h5
   ·simp only[tA]at h5 ⊢
    obtain⟨c,g1,g2⟩:=h5
    exact⟨c,qM h g1,g2⟩
   ·exact h5
theorem zr4(h:HLe H HA){s d:Nat}{a:zA}(hx:oK C s d H a=some v):oK C s d HA a=some v:=by
 unfold oK at hx ⊢
 simp only[tA]at hx ⊢
 obtain⟨a1,h1,b1,h2,h3⟩:=hx
 exact⟨a1,h1,b1,h2,za3 h h3⟩
theorem ze2(h:HLe H HA){b size cap l:Nat}{arr:Bool}(hx:mH H b size cap l arr=true):mH HA b size cap l arr=true:=by
 unfold mH at hx ⊢
 cases hc:tD H b with
 | none=>rw[hc]at hx;cases hx
 | some c=>rw[hc]at hx;rw[qM h hc];exact hx
theorem aY(h:HLe H HA){ty:qC}{a:zA}{l r:Option zA}(hx:bJ C H ty a l r=some v):bJ C HA ty a l r=some v:=by
 have row:∀ {arr e b off len cap},vL C H arr e b off len cap l r=some v->vL C HA arr e b off len cap l r=some v:=by
  intro arr e b off len cap hx;unfold vL at hx ⊢
  simp only[tA]at hx ⊢
  obtain⟨a1,h1,b1,h2,hx⟩:=hx
  refine⟨a1,h1,b1,h2,?_⟩
  cases hb:tD H b with
  | none=>
   have e1:jI H b a1.size cap b1.1 arr=false:=by unfold jI;rw[hb]
   have e2:mH H b a1.size cap b1.1 arr=false:=by unfold mH;rw[hb]
   rw[e1,e2,Bool.and_false,Bool.and_false]at hx
   cases hx
  | some c=>
   have e1:jI HA b a1.size cap b1.1 arr=jI H b a1.size cap b1.1 arr:=by unfold jI;rw[hb,qM h hb]
   have e2:mH HA b a1.size cap b1.1 arr=mH H b a1.size cap b1.1 arr:=by unfold mH;rw[hb,qM h hb]
   rw[e1,e2];exact hx
 unfold bJ at hx ⊢
 split at hx
 ·exact hx
 ·split at hx
  ·rw[tA]at hx ⊢;obtain⟨a1,h1,h2⟩:=hx;exact⟨a1,h1,row h2⟩
  ·split at hx
   ·rw[tA]at hx ⊢;obtain⟨a1,h1,h2⟩:=hx;exact⟨a1,h1,row h2⟩
   ·exact hx
theorem zmm(h:HLe H HA){ty:Nat}{a:zA}{l r:Option zA}(hx:zG C ty H a l r=some v):zG C ty HA a l r=some v:=by
 unfold zG at hx ⊢
 rw[tA]at hx ⊢
 obtain⟨a1,h1,h2⟩:=hx
 exact⟨a1,h1,aY h h2⟩
theorem zax(h:HLe H HA){m:zA}{l:List (zA × zA)}(hx:bM H m=some l):bM HA m=some l:=by
 unfold bM at hx ⊢
 split at hx
 ·exact gT h hx
 ·exact hx
theorem zjd(h:HLe H HA){ty:Nat}{m k:zA}{ok:Bool}(hx:bG C ty H m k ok=some v):bG C ty HA m k ok=some v:=by
 unfold bG at hx ⊢
 simp only[tA,yB]at hx ⊢
 obtain⟨a1,h1,b1,h2,c1,h3,h4,d1,h5,es,h6,h7⟩:=hx
 exact⟨a1,h1,b1,h2,c1,h3,h4,d1,h5,es,zax h h6,h7⟩
theorem zdk(h:HLe H HA){ty:qC}{a:zA}{n:Nat}(hx:zuj H ty a=some n):zuj HA ty a=some n:=by
 unfold zuj at hx ⊢
 split at hx
 ·exact hx
 ·split at hx
  ·exact hx
  ·split at hx
   ·exact hx
   ·split at hx
    ·rw[yB,tA]at hx ⊢
     obtain⟨h1,l,h2,h3⟩:=hx
     exact⟨h1,l,gT h h2,h3⟩
    ·exact hx
theorem zuu(h:HLe H HA){ty:Nat}{a:zA}(hx:zuh C ty H a=some v):zuh C ty HA a=some v:=by
 unfold zuh at hx ⊢
 simp only[tA]at hx ⊢
 obtain⟨a1,h1,n,h2,h3⟩:=hx
 exact⟨a1,h1,n,zdk h h2,h3⟩
theorem zx8{ty:Nat}{a:Operand}:lO ty a C e H=ob (ev a e) fun v=>oA C ty H v:=rfl
theorem zyb{s d:Nat}{x:Operand}{u:zA}(hx:ev x e=some u):gK s d x C e H=oK C s d H u:=by unfold gK oK;rw[hx];rfl
theorem z23{ty:Nat}{x:Operand}{lo hi:Option Operand}{a:zA}{l r:Option zA}(h1:ev x e=some a)(h2:evo lo e=some l)(h3:evo hi e=some r):jQ ty x lo hi C e H=zG C ty H a l r:=by unfold jQ zG;rw[h1,uA,h2,uA,h3,uA]
theorem zbe{s f:Nat}{x:Operand}{u:zA}(hx:ev x e=some u):iO s x f C e H=qB C s f u:=by
 unfold iO qB nV;rw[hx]
 cases C.tys.get s with
 | none=>rfl
 | some ty=>
  simp only[uA]
  cases ty.desc.asStruct with
  | none=>rfl
  | some fs=>
   simp only[uA]
   cases iC fs f with
   | none=>rfl
   | some fd=>simp only[uA];cases hb:(!Nat.beq fd.2.2 0)<;>rfl
theorem zbd{ty:Nat}{x i:Operand}{u w:zA}(hx:ev x e=some u)(hi:ev i e=some w):kO ty x i C e H=jB C ty u w:=by unfold kO jB;rw[hx,hi];rfl
theorem z26{ty:Nat}{x i:Operand}{u w:zA}(hx:ev x e=some u)(hi:ev i e=some w):jO ty x i C e H=cI C ty u w:=by unfold jO cI;rw[hx,hi];rfl
theorem z5n{x:Operand}{u:zA}(hx:ev x e=some u):z24 x C e H=nC u:=by unfold z24 nC;rw[hx];rfl
theorem zs8{x:Operand}{i:Nat}{u:zA}(hx:ev x e=some u):hO x i C e H=rB i u:=by unfold hO rB;rw[hx];rfl
theorem lBin_v{op:BinOp}{ty:Nat}{x y:Operand}{u w:zA}(hx:ev x e=some u)(hy:ev y e=some w):zyd op ty x y C e H=(binA op).f C ty x y u w:=by unfold zyd;rw[hx,hy];rfl
theorem zye{x:Operand}{a:Nat}{ok:Bool}{u:zA}(hx:ev x e=some u):gO x a ok C e H=zmp C a ok u:=by
 unfold gO zmp;rw[hx];rfl
theorem zx7{ty:Nat}{x i:Operand}{ok:Bool}{m k:zA}(hx:ev x e=some m)(hi:ev i e=some k):mO ty x i ok C e H=bG C ty H m k ok:=by unfold mO bG;rw[hx,hi];rfl
theorem lLen_v{c:Call}{ty:Nat}{x:Operand}{u:zA}(h1:iC c.argTypes.toList 0=some ty)(h2:iC c.args.toList 0=some x)(hx:ev x e=some u):zn0 c C e H=zuh C ty H u:=by unfold zn0 zuh;rw[h1,uA,h2,uA,hx];rfl
theorem z30(he:pN e e'){op:Op}(hp:lN op=true\/(∃s d x,op=.convert s d x/\(sG C d=1\/sG C s=2))\/(∃c,op=.call c/\(c.callee=.builtin .max\/c.callee=.builtin .min))){H':xA}(h:(nE op).f C e H=some v):(nE op).f C e' H'=some v:=by
 rcases hp with hp | hp | hp
 ·cases op<;>simp only[lN]at hp<;>try (cases hp;done)
  case move x=>exact gC he h
  case assign x=>exact gC he h
  case pick c a b=>
   have h:ob (ev c e) (fun c=>ob c.asBool fun c=>bif c then ev a e else ev b e)=some v:=h
   show ob (ev c e') (fun c=>ob c.asBool fun c=>bif c then ev a e' else ev b e')=some v
   simp only[tA]at h ⊢
   obtain⟨u,h1,w,h2,h3⟩:=h
   refine⟨u,gC he h1,w,h2,?_⟩
   cases w with
   | true=>exact gC he h3
   | false=>exact gC he h3
  case nilCheck x=>
   have h:ob (ev x e) (fun u=>cA (Nat.beq u.tag 4||Nat.beq u.tag 9) (some u))=some v:=h
   show ob (ev x e') (fun u=>cA (Nat.beq u.tag 4||Nat.beq u.tag 9) (some u))=some v
   rw[tA]at h ⊢
   obtain⟨u,h1,h2⟩:=h
   exact⟨u,gC he h1,h2⟩
  case binOp op t x y u=>
   have h:zyd op t x y C e H=some v:=h
   show zyd op t x y C e' H'=some v
   unfold zyd at h ⊢
   simp only[tA]at h ⊢
   obtain⟨a,h1,b,h2,h3⟩:=h
   exact⟨a,gC he h1,b,gC he h2,h3⟩
  case unOp op t x=>
   have h:lUn op x C e H=some v:=h
   show lUn op x C e' H'=some v
   unfold lUn at h ⊢
   rw[tA]at h ⊢
   obtain⟨a,h1,h2⟩:=h
   exact⟨a,gC he h1,h2⟩
  case makeInterface t x=>
   have h:iR t x C e H=some v:=h
   show iR t x C e' H'=some v
   unfold iR at h ⊢
   simp only[tA,yB]at h ⊢
   obtain⟨a,h1,h2,b,h3,h4⟩:=h
   exact⟨a,h1,h2,b,gC he h3,h4⟩
  case makeFunc fn a b=>
   have h:(fR fn a b).f C e H=some v:=h
   show(fR fn a b).f C e' H'=some v
   unfold fR at h ⊢
   split at h
   ·show zya _ a b C e' H'=some v
    unfold zya at h ⊢
    simp only[tA]at h ⊢
    obtain⟨x,h1,y,h2,h3⟩:=h
    exact⟨x,ziq he h1,y,ziq he h2,h3⟩
   ·cases h
  case fieldAddr s x f=>
   have h:iO s x f C e H=some v:=h
   show iO s x f C e' H'=some v
   unfold iO at h ⊢
   simp only[tA,yB]at h ⊢
   obtain⟨a,h1,b,h2,c,h3,h4,u,h5,h6⟩:=h
   exact⟨a,h1,b,h2,c,h3,h4,u,gC he h5,h6⟩
  case field t x f=>
   have h:eR t x f C e H=some v:=h
   show eR t x f C e' H'=some v
   unfold eR at h ⊢
   simp only[tA]at h ⊢
   obtain⟨a,h1,b,h2,c,h3,u,h5,h6⟩:=h
   exact⟨a,h1,b,h2,c,h3,u,gC he h5,h6⟩
  case indexAddr t x i=>
   have h:kO t x i C e H=some v:=h
   show kO t x i C e' H'=some v
   unfold kO at h ⊢
   simp only[tA]at h ⊢
   obtain⟨a,h1,b,h2,c,h3,h4⟩:=h
   exact⟨a,h1,b,gC he h2,c,gC he h3,h4⟩
  case index t x i=>
   have h:jO t x i C e H=some v:=h
   show jO t x i C e' H'=some v
   unfold jO at h ⊢
   simp only[tA]at h ⊢
   obtain⟨a,h1,b,h2,c,h3,h4⟩:=h
   exact⟨a,h1,b,gC he h2,c,gC he h3,h4⟩
  case extract t i=>
   have h:hO t i C e H=some v:=h
   show hO t i C e' H'=some v
   unfold hO at h ⊢
   rw[tA]at h ⊢
   obtain⟨a,h1,h2⟩:=h
   exact⟨a,gC he h1,h2⟩
  case build t ps=>
   have h:gP t ps C e H=some v:=h
   show gP t ps C e' H'=some v
   unfold gP at h ⊢
   rw[tA]at h ⊢
   obtain⟨a,h1,h⟩:=h
   refine⟨a,h1,?_⟩
   rw[tA]at h ⊢
   obtain⟨b,h2,h⟩:=h
   exact⟨b,zir he h2,h⟩
  case typeAssert x t u ok=>
   have h:gO x u ok C e H=some v:=h
   show gO x u ok C e' H'=some v
   unfold gO at h ⊢
   rw[tA]at h ⊢
   obtain⟨a,h1,h⟩:=h
   refine⟨a,h1,?_⟩
   rw[yB]at h ⊢
   refine⟨h.1,?_⟩
   have h:=h.2
   rw[tA]at h ⊢
   obtain⟨b,h2,h⟩:=h
   exact⟨b,gC he h2,h⟩
 ·obtain⟨s,d,x,rfl,hp⟩:=hp
  have h:gK s d x C e H=some v:=h
  show gK s d x C e' H'=some v
  unfold gK at h ⊢
  simp only[tA]at h ⊢
  obtain⟨u,h1,sy,h2,dy,h3,h4⟩:=h
  refine⟨u,gC he h1,sy,h2,dy,h3,?_⟩
  unfold uM at h4 ⊢
  split at h4
  ·exact h4
  ·rename_i hd
   rw[yB]at h4 ⊢
   refine⟨h4.1,?_⟩
   have h4:=h4.2
   rw[aB]at h4 ⊢
   split at h4
   ·rename_i e;rw[if_pos e];exact h4
   ·rename_i e
    exfalso
    rcases hp with hp | hp
    ·unfold sG at hp
     rw[h3]at hp;have hp:dy.desc.tag=1:=hp
     cases hx:dy.desc<;>rw[hx]at hp hd<;>first
      | (cases hp;done)
      | (cases hd;done)
    ·unfold sG at hp
     rw[h2]at hp;have hp:sy.desc.tag=2:=hp
     simp only[tA]at h4;obtain⟨el,h5,_⟩:=h4
     cases hx:sy.desc<;>rw[hx]at hp h5<;>first
      | (cases hp;done)
      | (cases h5;done)
 ·obtain⟨c,rfl,hc⟩:=hp
  rcases hc with hc | hc
  ·have h:(xN c c.callee).f C e H=some v:=h
   show(xN c c.callee).f C e' H'=some v
   rw[hc]at h ⊢
   have h:zx6 c C e H=some v:=h
   show zx6 c C e' H'=some v
   unfold zx6 at h ⊢
   rw[tA]at h ⊢
   obtain⟨p,h1,h2⟩:=h
   exact⟨p,zhc he h1,h2⟩
  ·have h:(xN c c.callee).f C e H=some v:=h
   show(xN c c.callee).f C e' H'=some v
   rw[hc]at h ⊢
   have h:zx4 c C e H=some v:=h
   show zx4 c C e' H'=some v
   unfold zx4 at h ⊢
   rw[tA]at h ⊢
   obtain⟨p,h1,h2⟩:=h
   exact⟨p,zhc he h1,h2⟩
end
end Go.Am
