/- Code as a function: it grows with its calls and its continuation, and comes to its limit. -/
import Derived.Test.YtfijloeeppcipaaGreatDoorB04
set_option linter.all false
noncomputable section
namespace Go.Am
open Go Go.RowKit
def Le2 {α β γ:Type}(k k':α->β->Option γ):Prop:=∀a b x,k a b=some x->k' a b=some x
def OLe (φ φ':Ora):Prop:=∀f a H x,φ f a H=some x->φ' f a H=some x
structure KLe (κ κ':Kt):Prop where
 norm:Le2 κ.norm κ'.norm
 exit:∀i,Le2 (κ.exit i) (κ'.exit i)
 ret:Le2 κ.ret κ'.ret
section
variable {C:pA}{φ φ':Ora}{all:Array Oper}{n:Nat}{x:zA × xA}
theorem zjz(hφ:OLe φ φ'){r:nI}{H:xA}{k k':zA->xA->vB}(hk:Le2 k k')(h:tF φ r H k=some x):tF φ' r H k'=some x:=by
 cases r<;>simp only[tF]at h ⊢<;>try (cases h;done)
 case val v H'=>exact hk _ _ _ h
 case enter f args=>
  rw[sA]at h ⊢
  obtain⟨p,h1,h2⟩:=h
  exact⟨p,hφ _ _ _ _ h1,hk _ _ _ h2⟩
 case round l args=>
  rw[sA]at h ⊢
  obtain⟨p,h1,h2⟩:=h
  exact⟨p,hφ _ _ _ _ h1,hk _ _ _ h2⟩
theorem zaz{t:Nat}{k k':zA->xA->vB}(hk:Le2 k k'):Le2 (fun v H=>fI C t v fun v=>k v H) (fun v H=>fI C t v fun v=>k' v H):=by
 intro v H x h;rw[kK]at h ⊢
 exact⟨h.1,hk _ _ _ h.2⟩
theorem xT{κ:Tm->xA->vB}{o:Oper}{l:List Oper}{tm:Tm}{H:xA}:iJ C φ all n κ (o::l) tm H=ob (nE o.guard all tm) fun w=>if w=true then
   (tF φ ((cE o.op).f C (.now tm) H) H fun v H'=>fI C o.type v fun v=>iJ C φ all n κ l (putA n tm o.dst v) H')else iJ C φ all n κ l (putA n tm o.dst pD) H:=by
 show(ob (nE o.guard all tm) fun w=>Bool.rec (motive:=fun _=>vB) _ _ w)=_
 congr 1;funext w;rw[bG];rfl
theorem zdd(hφ:OLe φ φ'){κ κ':Tm->xA->vB}(hκ:Le2 κ κ'):∀(l:List Oper),Le2 (iJ C φ all n κ l) (iJ C φ' all n κ' l):=by
 intro l;induction l with
 | nil=>exact hκ
 | cons o l ih=>
  intro tm H x h;rw[xT,sA]at h ⊢
  obtain⟨w,h1,h2⟩:=h
  refine⟨w,h1,?_⟩
  split at h2
  ·rename_i e;rw[if_pos e];exact zjz hφ (zaz (k:=fun v H'=>iJ C φ all n κ l (putA n tm o.dst v) H') (k':=fun v H'=>iJ C φ' all n κ' l (putA n tm o.dst v) H') fun v H' y hy=>ih _ _ _ hy) h2
  ·rename_i e;rw[if_neg e];exact ih _ _ _ h2
variable {H:xA}{old:Tm}{olds:List (Nat × List Nat)}
theorem zY{k:Tm->vB}{i:Nat}{l:List Nat}{tm:Tm}:pG C H all n old olds k (i::l) tm=ob (mC all.toList i) fun o=>ob (nE o.guard all tm) fun w=>if w=true then
   (ob ((qE o.op).f C (.mixed tm old (lD i olds) (eF o.op)) H) fun v=>fI C o.type v fun v=>pG C H all n old olds k l (putA n tm o.dst v))else pG C H all n old olds k l (putA n tm o.dst pD):=by
 show(ob (mC all.toList i) fun o=>ob (nE o.guard all tm) fun w=>Bool.rec (motive:=fun _=>vB) _ _ w)=_
 congr 1;funext o;congr 1;funext w;rw[bG];rfl
theorem aX{k k':Tm->vB}(hk:∀tm x,k tm=some x->k' tm=some x):∀(l:List Nat) tm x,pG C H all n old olds k l tm=some x->pG C H all n old olds k' l tm=some x:=by
 intro l;induction l with
 | nil=>exact hk
 | cons i l ih=>
  intro tm x h;rw[zY,sA]at h ⊢
  obtain⟨o,h1,h2⟩:=h
  refine⟨o,h1,?_⟩
  rw[sA]at h2 ⊢
  obtain⟨w,h3,h4⟩:=h2
  refine⟨w,h3,?_⟩
  split at h4
  ·rename_i e
   rw[if_pos e];rw[sA]at h4 ⊢
   obtain⟨v,h5,h6⟩:=h4
   rw[kK]at h6;exact⟨v,h5,by rw[kK];exact⟨h6.1,ih _ _ h6.2⟩⟩
  ·rename_i e;rw[if_neg e];exact ih _ _ h4
theorem kZ{tm:Tm}{k:vB}{i:Nat}{l:List Nat}:xJ C H all old olds tm k (i::l)=ob (mC all.toList i) fun o=>ob o.dst fun d=>ob (nE o.guard all tm) fun w=>if w=true then
   (ob ((qE o.op).f C (.mixed tm old (lD i olds) (eF o.op)) H) fun v=>fI C o.type v fun v=>ob (tm.get d) fun u=>iA (same 10 v u) (xJ C H all old olds tm k l))else xJ C H all old olds tm k l:=by
 show(ob (mC all.toList i) fun o=>ob o.dst fun d=>ob (nE o.guard all tm) fun w=>Bool.rec (motive:=fun _=>vB) _ _ w)=_
 congr 1;funext o;congr 1;funext d;congr 1;funext w;rw[bG];rfl
theorem aW{tm:Tm}{k:vB}:∀(l:List Nat),xJ C H all old olds tm k l=some x->oS C H all old olds tm l=true/\k=some x:=by
 intro l;induction l with
 | nil=>intro h;exact⟨rfl,h⟩
 | cons i l ih=>
  intro h;rw[kZ,sA]at h;obtain⟨o,h1,h⟩:=h
  rw[sA]at h;obtain⟨d,h2,h⟩:=h
  rw[sA]at h;obtain⟨w,h3,h⟩:=h
  unfold oS;simp only[h1,uA,h2,h3]
  cases w with
  | false=>exact ih h
  | true=>
   rw[if_pos rfl,sA]at h;obtain⟨v,h4,h⟩:=h
   rw[kK]at h;obtain⟨h5,h⟩:=h
   rw[sA]at h;obtain⟨y,h6,h⟩:=h
   rw[xB]at h;simp only[cond_true,h4,uA,h6,h.1];exact ih h.2
theorem zeq{tm:Tm}{k k':vB}(hk:k'=some x):∀(l:List Nat),xJ C H all old olds tm k l=some x->xJ C H all old olds tm k' l=some x:=by
 intro l;induction l with
 | nil=>intro _;exact hk
 | cons i l ih=>
  intro h;rw[kZ,sA]at h ⊢
  obtain⟨o,h1,h⟩:=h
  refine⟨o,h1,?_⟩
  rw[sA]at h ⊢
  obtain⟨d,h2,h⟩:=h
  refine⟨d,h2,?_⟩
  rw[sA]at h ⊢
  obtain⟨w,h3,h⟩:=h
  refine⟨w,h3,?_⟩
  split at h
  ·rename_i e
   rw[if_pos e];rw[sA]at h ⊢
   obtain⟨v,h4,h⟩:=h
   refine⟨v,h4,?_⟩
   rw[kK]at h ⊢
   obtain⟨h5,h⟩:=h
   refine⟨h5,?_⟩
   rw[sA]at h ⊢
   obtain⟨y,h6,h⟩:=h
   refine⟨y,h6,?_⟩
   rw[xB]at h ⊢
   exact⟨h.1,ih h.2⟩
  ·rename_i e;rw[if_neg e];exact ih h
theorem uU{κ:Tm->xA->vB}{st:wE}{l:List wE}{tm:Tm}(hg:gN all st=false):lG C φ all n old olds κ (st::l) tm H=ob (mC all.toList (hvI all st.heavy)) fun o=>ob (zO C all st.heavy o tm) fun w=>
   (fun cont:zA->xA->vB=>if w=true then(tF φ ((cE o.op).f C (.mixed tm old (lD (hvI all st.heavy) olds) (eF o.op)) H) H fun v H'=>fI C o.type v fun v=>cont v H')else cont pD H)
   (fun v H'=>xJ C H' all old olds (putA n tm o.dst v) (pG C H' all n old olds (fun tm=>lG C φ all n old olds κ l tm H') st.lights (putA n tm o.dst v)) st.again):=by
 show Bool.rec (motive:=fun _=>vB) _ _ (gN all st)=_
 rw[hg];show(ob (mC all.toList (hvI all st.heavy)) fun o=>ob (zO C all st.heavy o tm) fun w=>(fun cont:zA->xA->vB=>Bool.rec (motive:=fun _=>vB) _ _ w) _)=_
 congr 1;funext o;congr 1;funext w;cases w<;>rfl
theorem eV{κ:Tm->xA->vB}{st:wE}{l:List wE}{tm:Tm}(hg:gN all st=true):lG C φ all n old olds κ (st::l) tm H=zk2 C all n old olds st (lG C φ all n old olds κ l) tm H:=by
 show Bool.rec (motive:=fun _=>vB) _ _ (gN all st)=_
 rw[hg];rfl
theorem rY{st:wE}{g:Tm->xA->vB}{tm:Tm}{x:zA × xA}:zk2 C all n old olds st g tm H=some x ↔ mP C all=true/\∃es H',ztq all old olds tm st.again=some es/\fP C es H=some H'/\pG C H' all n old olds (fun tm=>g tm H') st.lights tm=some x:=by
 unfold zk2;simp only[sA,xB];constructor
 ·rintro⟨h0,es,h1,H',h2,h3⟩;exact⟨h0,es,H',h1,h2,h3⟩
 ·rintro⟨h0,es,H',h1,h2,h3⟩;exact⟨h0,es,h1,H',h2,h3⟩
theorem vZ(hφ:OLe φ φ'){κ κ':Tm->xA->vB}(hκ:Le2 κ κ'):∀(l:List wE),Le2 (lG C φ all n old olds κ l) (lG C φ' all n old olds κ' l):=by
 intro l;induction l with
 | nil=>exact hκ
 | cons st l ih=>
  intro tm H x h
  cases hg:gN all st with
  | true=>
   rw[eV hg,rY]at h ⊢
   obtain⟨h0,es,H',h1,h2,h3⟩:=h
   exact⟨h0,es,H',h1,h2,aX (fun tm x hx=>ih _ _ _ hx) _ _ _ h3⟩
  | false=>
  rw[uU hg,sA]at h ⊢
  obtain⟨o,h1,h⟩:=h
  refine⟨o,h1,?_⟩
  rw[sA]at h ⊢
  obtain⟨w,h2,h⟩:=h
  refine⟨w,h2,?_⟩
  have cont:∀v H' y,xJ C H' all old olds (putA n tm o.dst v) (pG C H' all n old olds (fun tm=>lG C φ all n old olds κ l tm H') st.lights (putA n tm o.dst v)) st.again=some y →
    xJ C H' all old olds (putA n tm o.dst v) (pG C H' all n old olds (fun tm=>lG C φ' all n old olds κ' l tm H') st.lights (putA n tm o.dst v)) st.again=some y:=by
   intro v H' y hy;exact zeq (aX (fun tm x hx=>ih _ _ _ hx) _ _ _ (aW _ hy).2) _ hy
  simp only[]at h ⊢
  split at h
  ·rename_i e;rw[if_pos e];exact zjz hφ (zaz cont) h
  ·rename_i e;rw[if_neg e];exact cont _ _ _ h
theorem zbg(hφ:OLe φ φ'){κ κ':Tm->xA->vB}(hκ:Le2 κ κ'){fn id:Nat}{draw:Bool}:Le2 (oU C φ fn n κ id all draw) (oU C φ' fn n κ' id all draw):=by
 intro tm H x h
 cases draw with
 | false=>exact zdd hφ hκ _ _ _ _ h
 | true=>
  have h:(ob (ob (C.plans.get fn) fun t=>t.get id) fun p=>iA (kN all p) (pG C H all n tm.cut p.olds (fun tm'=>lG C φ all n tm.cut p.olds κ p.stages tm' H) p.first tm.cut))=some x:=h
  show(ob (ob (C.plans.get fn) fun t=>t.get id) fun p=>iA (kN all p) (pG C H all n tm.cut p.olds (fun tm'=>lG C φ' all n tm.cut p.olds κ' p.stages tm' H) p.first tm.cut))=some x
  rw[sA]at h ⊢
  obtain⟨p,h1,h⟩:=h
  refine⟨p,h1,?_⟩
  rw[xB]at h ⊢
  exact⟨h.1,aX (fun tm x hx=>vZ hφ hκ _ _ _ _ hx) _ _ _ h.2⟩
theorem zer{κ κ':Kt}(hκ:KLe κ κ'){p:Option Code}:Le2 (vR κ p) (vR κ' p):=by
 intro tm H x h;unfold vR at h ⊢
 split at h
 ·exact hκ.norm _ _ _ h
 ·exact hκ.ret _ _ _ h
 ·cases h
theorem zc9(hφ:OLe φ φ'){κ κ':Kt}(hκ:KLe κ κ'){fn:Nat}{f:Operand}{ps:List Nat}{a b:Code}:Le2 (nL C φ fn n κ f ps a b) (nL C φ' fn n κ' f ps a b):=by
 intro tm H x h;unfold nL at h ⊢
 rw[sA]at h ⊢
 obtain⟨v,h1,h⟩:=h
 refine⟨v,h1,?_⟩
 rw[sA]at h ⊢
 obtain⟨q,h2,h⟩:=h
 refine⟨q,h2,?_⟩
 split at h
 ·cases h
 ·rw[xB,sA]at h ⊢
  obtain⟨h3,y,h4,h⟩:=h
  refine⟨h3,y,hφ _ _ _ _ h4,?_⟩
  rw[sA]at h ⊢
  obtain⟨r,h5,h⟩:=h
  refine⟨r,h5,?_⟩
  rw[xB,sA]at h ⊢
  obtain⟨h6,z,h7,h⟩:=h
  exact⟨h6,z,zer hκ _ _ _ h7,h⟩
end
end Go.Am
namespace Go.Am
open Go Go.RowKit
theorem zxu{α:Type}{f:Nat->Option α}{r:α}(h:lim f=some r):∃n,f n=some r:=by
 unfold lim at h;by_cases hx:∃n r,f n=some r
 ·rw[dif_pos hx]at h;exact⟨_,h⟩
 ·rw[dif_neg hx]at h;cases h
structure zma {α β γ:Type} (ks:Nat->α->β->Option γ) (k:α->β->Option γ):Prop where
 up:∀n,Le2 (ks n) (ks (n+1))
 ex:∀a b x,k a b=some x->∃n,ks n a b=some x
theorem zux{α β γ:Type}{ks:Nat->α->β->Option γ}(h:∀n,Le2 (ks n) (ks (n+1))){n m:Nat}(hnm:n<=m):Le2 (ks n) (ks m):=by
 induction hnm with
 | refl=>exact fun _ _ _ h=>h
 | step _ ih=>exact fun a b x hx=>h _ _ _ _ (ih a b x hx)
structure z40 (φs:Nat->Ora) (φ:Ora):Prop where
 up:∀n,OLe (φs n) (φs (n+1))
 ex:∀f a H x,φ f a H=some x->∃n,φs n f a H=some x
theorem z40.le{φs:Nat->Ora}{φ:Ora}(h:z40 φs φ){n m:Nat}(hnm:n<=m):OLe (φs n) (φs m):=by
 induction hnm with
 | refl=>exact fun _ _ _ _ h=>h
 | step _ ih=>exact fun f a H x hx=>h.up _ _ _ _ _ (ih f a H x hx)
structure z9v (κs:Nat->Kt) (κ:Kt):Prop where
 norm:zma (fun n=>(κs n).norm) κ.norm
 exit:∀i,zma (fun n=>(κs n).exit i) (κ.exit i)
 ret:zma (fun n=>(κs n).ret) κ.ret
section
variable {C:pA}{φ φ':Ora}{φs:Nat->Ora}{all:Array Oper}{N fn:Nat}
theorem zyt{g g':Kt->Tm->xA->vB}{κ κ':Kt}(hκ:KLe κ κ')(hg:∀ κ κ',KLe κ κ'->Le2 (g κ) (g' κ'))(live:List Nat):∀m,Le2 (Nat.rec (motive:=fun _=>Tm->xA->vB) (fun _ _=>none) (fun _ r tm H=>g ⟨r,κ.exit,κ.ret⟩ (keep live tm) H) m)
  (Nat.rec (motive:=fun _=>Tm->xA->vB) (fun _ _=>none) (fun _ r tm H=>g' ⟨r,κ'.exit,κ'.ret⟩ (keep live tm) H) m):=by
 intro m;induction m with
 | zero=>intro a b x h;cases h
 | succ m ih=>exact fun a b x h=>hg ⟨_,_,_⟩ ⟨_,_,_⟩ ⟨ih,hκ.exit,hκ.ret⟩ _ _ _ h
theorem KLe.refl(κ:Kt):KLe κ κ:=⟨fun _ _ _ h=>h,fun _ _ _ _ h=>h,fun _ _ _ h=>h⟩
theorem zn2{g:Kt->Tm->xA->vB}{κ:Kt}(hg:∀ κ κ',KLe κ κ'->Le2 (g κ) (g κ'))(live:List Nat):∀m,Le2 (Nat.rec (motive:=fun _=>Tm->xA->vB) (fun _ _=>none) (fun _ r tm H=>g ⟨r,κ.exit,κ.ret⟩ (keep live tm) H) m)
  (Nat.rec (motive:=fun _=>Tm->xA->vB) (fun _ _=>none) (fun _ r tm H=>g ⟨r,κ.exit,κ.ret⟩ (keep live tm) H) (m+1)):=by
 intro m;induction m with
 | zero=>intro a b x h;cases h
 | succ m ih=>exact fun a b x h=>hg ⟨_,_,_⟩ ⟨_,_,_⟩ ⟨ih,(KLe.refl κ).exit,(KLe.refl κ).ret⟩ _ _ _ h
theorem lT(hφ:OLe φ φ'):∀(c:tD) (κ κ':Kt),KLe κ κ'->Le2 (vD C φ fn N c κ) (vD C φ' fn N c κ'):=by
 have self:∀(ψ:Ora),OLe ψ ψ:=fun _ _ _ _ _ h=>h
 intro c;suffices h:∀ φ φ',OLe φ φ'->∀(κ κ':Kt),KLe κ κ'->Le2 (vD C φ fn N c κ) (vD C φ' fn N c κ') from h φ φ' hφ
 induction c with
 | skip=>exact fun _ _ _ κ κ' hκ=>hκ.norm
 | region id ops d=>exact fun _ _ hφ κ κ' hκ=>zbg hφ hκ.norm
 | seq a b iha ihb=>exact fun _ _ hφ κ κ' hκ=>iha _ _ hφ _ _ ⟨ihb _ _ hφ _ _ hκ,hκ.exit,hκ.ret⟩
 | cond c a b iha ihb=>
  intro φ φ' hφ κ κ' hκ tm H x h;have h:(ob (ob (ev c (.now tm)) zA.asBool) fun t=>Bool.rec (motive:=fun _=>vB) (vD C φ fn N b κ tm H) (vD C φ fn N a κ tm H) t)=some x:=h
  show(ob (ob (ev c (.now tm)) zA.asBool) fun t=>Bool.rec (motive:=fun _=>vB) (vD C φ' fn N b κ' tm H) (vD C φ' fn N a κ' tm H) t)=some x
  rw[sA]at h ⊢
  obtain⟨t,h1,h2⟩:=h
  refine⟨t,h1,?_⟩
  cases t with
  | true=>exact iha _ _ hφ _ _ hκ _ _ _ h2
  | false=>exact ihb _ _ hφ _ _ hκ _ _ _ h2
 | block id c ih=>
  intro φ φ' hφ κ κ' hκ;refine ih _ _ hφ _ _ ⟨hκ.norm,fun i tm H x h=>?_,hκ.ret⟩
  simp only[bG]at h ⊢
  split at h
  ·rename_i e;rw[if_pos e];exact hκ.norm _ _ _ h
  ·rename_i e;rw[if_neg e];exact hκ.exit _ _ _ _ h
 | loop live c ih=>
  intro φ φ' hφ κ κ' hκ tm H x h;obtain⟨m,hm⟩:=zxu h
  refine(zb4 fun m y hy=>zn2 (ih _ _ (self φ')) live.kept m _ _ _ hy).2 ⟨m,?_⟩
  exact zyt hκ (ih _ _ hφ) live.kept m _ _ _ hm
 | exit id=>exact fun _ _ _ κ κ' hκ=>hκ.exit id
 | ret=>exact fun _ _ _ κ κ' hκ=>hκ.ret
 | cut live c ih=>exact fun _ _ hφ κ κ' hκ tm H x h=>ih _ _ hφ _ _ hκ _ _ _ h
 | range i pl f ps id ops c ih=>exact fun _ _ hφ κ κ' hκ tm H x h=>zc9 hφ hκ _ _ _ h
theorem zpy(hφ:z40 φs φ){r:nI}{H:xA}{ks:Nat->zA->xA->vB}{k:zA->xA->vB}(hk:zma ks k){x:zA × xA}(h:tF φ r H k=some x):∃n,tF (φs n) r H (ks n)=some x:=by
 cases r<;>simp only[tF]at h ⊢<;>try (cases h;done)
 case val v H'=>exact hk.ex _ _ _ h
 case enter f args=>
  rw[sA]at h;obtain⟨p,h1,h2⟩:=h
  obtain⟨n,hn⟩:=hφ.ex _ _ _ _ h1
  obtain⟨m,hm⟩:=hk.ex _ _ _ h2
  exact⟨max n m,by rw[sA];exact⟨p,hφ.le (Nat.le_max_left n m) _ _ _ _ hn,zux hk.up (Nat.le_max_right n m) _ _ _ hm⟩⟩
 case round l args=>
  rw[sA]at h;obtain⟨p,h1,h2⟩:=h
  obtain⟨n,hn⟩:=hφ.ex _ _ _ _ h1
  obtain⟨m,hm⟩:=hk.ex _ _ _ h2
  exact⟨max n m,by rw[sA];exact⟨p,hφ.le (Nat.le_max_left n m) _ _ _ _ hn,zux hk.up (Nat.le_max_right n m) _ _ _ hm⟩⟩
theorem zkc{t:Nat}{ks:Nat->zA->xA->vB}{k:zA->xA->vB}(hk:zma ks k):zma (fun n v H=>fI C t v fun v=>ks n v H) (fun v H=>fI C t v fun v=>k v H):=by
 refine⟨fun n=>zaz (hk.up n),fun v H x h=>?_⟩
 rw[kK]at h;obtain⟨n,hn⟩:=hk.ex _ _ _ h.2
 exact⟨n,by rw[kK];exact⟨h.1,hn⟩⟩
theorem z2i(hφ:z40 φs φ){κs:Nat->Tm->xA->vB}{κ:Tm->xA->vB}(hκ:zma κs κ):∀(l:List Oper),zma (fun n=>iJ C (φs n) all N (κs n) l) (iJ C φ all N κ l):=by
 intro l;refine⟨fun n=>zdd (hφ.up n) (hκ.up n) l,?_⟩
 induction l with
 | nil=>exact hκ.ex
 | cons o l ih=>
  intro tm H x h;rw[xT,sA]at h;obtain⟨w,h1,h2⟩:=h
  split at h2
  ·rename_i e
   obtain⟨n,hn⟩:=zpy hφ (zkc (ks:=fun n v H'=>iJ C (φs n) all N (κs n) l (putA N tm o.dst v) H') (k:=fun v H'=>iJ C φ all N κ l (putA N tm o.dst v) H') ⟨fun n v H' y hy=>zdd (hφ.up n) (hκ.up n) l _ _ _ hy,fun v H' y hy=>ih _ _ _ hy⟩) h2
   exact⟨n,by show iJ C (φs n) all N (κs n) (o::l) tm H=some x;rw[xT,sA];exact⟨w,h1,by rw[if_pos e];exact hn⟩⟩
  ·rename_i e
   obtain⟨n,hn⟩:=ih _ _ _ h2
   exact⟨n,by show iJ C (φs n) all N (κs n) (o::l) tm H=some x;rw[xT,sA];exact⟨w,h1,by rw[if_neg e];exact hn⟩⟩
variable {old:Tm}{olds:List (Nat × List Nat)}
theorem qZ{H:xA}{ks:Nat->Tm->vB}{k:Tm->vB}(hk:∀tm x,k tm=some x->∃n,ks n tm=some x):∀(l:List Nat) tm x,pG C H all N old olds k l tm=some x->∃n,pG C H all N old olds (ks n) l tm=some x:=by
 intro l;induction l with
 | nil=>exact hk
 | cons i l ih=>
  intro tm x h;simp only[zY]at h ⊢
  rw[sA]at h;obtain⟨o,h1,h⟩:=h
  rw[sA]at h;obtain⟨w,h3,h4⟩:=h
  split at h4
  ·rename_i e
   rw[sA]at h4;obtain⟨v,h5,h6⟩:=h4
   rw[kK]at h6;obtain⟨n,hn⟩:=ih _ _ h6.2
   exact⟨n,by rw[h1,uA,h3,uA,if_pos e,h5,uA,kK];exact⟨h6.1,hn⟩⟩
  ·rename_i e
   obtain⟨n,hn⟩:=ih _ _ h4
   exact⟨n,by rw[h1,uA,h3,uA,if_neg e];exact hn⟩
theorem zm0(hφ:z40 φs φ){κs:Nat->Tm->xA->vB}{κ:Tm->xA->vB}(hκ:zma κs κ):∀(l:List wE),zma (fun n=>lG C (φs n) all N old olds (κs n) l) (lG C φ all N old olds κ l):=by
 intro l;refine⟨fun n=>vZ (hφ.up n) (hκ.up n) l,?_⟩
 induction l with
 | nil=>exact hκ.ex
 | cons st l ih=>
  intro tm H x h
  cases hg:gN all st with
  | true=>
   rw[eV hg,rY]at h;obtain⟨h0,es,H',h1,h2,h3⟩:=h
   obtain⟨n,hn⟩:=qZ (fun tm x hx=>ih tm H' x hx) _ _ _ h3
   exact⟨n,by show lG C (φs n) all N old olds (κs n) (st::l) tm H=some x;rw[eV hg,rY];exact⟨h0,es,H',h1,h2,hn⟩⟩
  | false=>
  rw[uU hg,sA]at h;obtain⟨o,h1,h⟩:=h
  rw[sA]at h;obtain⟨w,h2,h⟩:=h
  have cont:zma (fun n v H'=>xJ C H' all old olds (putA N tm o.dst v) (pG C H' all N old olds (fun tm=>lG C (φs n) all N old olds (κs n) l tm H') st.lights (putA N tm o.dst v)) st.again)
    (fun v H'=>xJ C H' all old olds (putA N tm o.dst v) (pG C H' all N old olds (fun tm=>lG C φ all N old olds κ l tm H') st.lights (putA N tm o.dst v)) st.again):=by
   refine⟨fun n v H' y hy=>zeq (aX (fun tm x hx=>vZ (hφ.up n) (hκ.up n) l _ _ _ hx) _ _ _ (aW _ hy).2) _ hy,fun v H' y hy=>?_⟩
   obtain⟨n,hn⟩:=qZ (fun tm x hx=>ih tm H' x hx) _ _ _ (aW _ hy).2
   exact⟨n,zeq hn _ hy⟩
  simp only[]at h;split at h
  ·rename_i e
   obtain⟨n,hn⟩:=zpy hφ (zkc cont) h
   exact⟨n,by show lG C (φs n) all N old olds (κs n) (st::l) tm H=some x;rw[uU hg,h1,uA,h2,uA];simp only[];rw[if_pos e];exact hn⟩
  ·rename_i e
   obtain⟨n,hn⟩:=cont.ex _ _ _ h
   exact⟨n,by show lG C (φs n) all N old olds (κs n) (st::l) tm H=some x;rw[uU hg,h1,uA,h2,uA];simp only[];rw[if_neg e];exact hn⟩
theorem zm9(hφ:z40 φs φ){κs:Nat->Tm->xA->vB}{κ:Tm->xA->vB}(hκ:zma κs κ){id:Nat}{draw:Bool}:zma (fun n=>oU C (φs n) fn N (κs n) id all draw) (oU C φ fn N κ id all draw):=by
 refine⟨fun n=>zbg (hφ.up n) (hκ.up n),fun tm H x h=>?_⟩
 cases draw with
 | false=>exact(z2i hφ hκ _).ex _ _ _ h
 | true=>
  have h:(ob (ob (C.plans.get fn) fun t=>t.get id) fun p=>iA (kN all p) (pG C H all N tm.cut p.olds (fun tm'=>lG C φ all N tm.cut p.olds κ p.stages tm' H) p.first tm.cut))=some x:=h
  rw[sA]at h;obtain⟨p,h1,h⟩:=h
  rw[xB]at h;obtain⟨n,hn⟩:=qZ (fun tm' x hx=>(zm0 hφ hκ p.stages).ex tm' H x hx) _ _ _ h.2
  refine⟨n,?_⟩
  show(ob (ob (C.plans.get fn) fun t=>t.get id) fun p=>iA (kN all p) (pG C H all N tm.cut p.olds (fun tm'=>lG C (φs n) all N tm.cut p.olds (κs n) p.stages tm' H) p.first tm.cut))=some x
  rw[h1,uA,xB];exact⟨h.1,hn⟩
theorem zf0(hφ:z40 φs φ){κs:Nat->Kt}{κ:Kt}(hκ:z9v κs κ){f:Operand}{ps:List Nat}{a b:Code}:zma (fun n=>nL C (φs n) fn N (κs n) f ps a b) (nL C φ fn N κ f ps a b):=by
 have kle:∀n,KLe (κs n) (κs (n+1)):=fun n=>⟨hκ.norm.up n,fun i=>(hκ.exit i).up n,hκ.ret.up n⟩
 have klm:∀n m,n<=m->KLe (κs n) (κs m):=fun n m h=>⟨zux hκ.norm.up h,fun i=>zux (hκ.exit i).up h,zux hκ.ret.up h⟩
 refine⟨fun n=>zc9 (hφ.up n) (kle n),fun tm H x h=>?_⟩
 unfold nL at h;rw[sA]at h;obtain⟨v,h1,h⟩:=h
 rw[sA]at h;obtain⟨q,h2,h⟩:=h
 split at h
 ·cases h
 ·rename_i g hg
  rw[xB,sA]at h;obtain⟨h3,y,h4,h⟩:=h
  rw[sA]at h;obtain⟨r,h5,h⟩:=h
  rw[xB,sA]at h;obtain⟨h6,z,h7,h⟩:=h
  obtain⟨n,hn⟩:=hφ.ex _ _ _ _ h4
  have:∃m,vR (κs m) r.pending (tm) (endLoop y.2 (H.next+1) r)=some z:=by
   unfold vR at h7 ⊢
   split at h7
   ·exact hκ.norm.ex _ _ _ h7
   ·exact hκ.ret.ex _ _ _ h7
   ·cases h7
  obtain⟨m,hm⟩:=this
  refine⟨max n m,?_⟩
  show nL C (φs (max n m)) fn N (κs (max n m)) f ps a b tm H=some x
  unfold nL;rw[h1,uA,h2,uA,hg];simp only[];rw[xB,sA];refine⟨h3,y,hφ.le (Nat.le_max_left n m) _ _ _ _ hn,?_⟩
  rw[h5,uA,xB,sA];exact⟨h6,z,zer (klm _ _ (Nat.le_max_right n m)) _ _ _ hm,h⟩
theorem zom(hφ:z40 φs φ):∀(c:tD) (κs:Nat->Kt) (κ:Kt),z9v κs κ->zma (fun n=>vD C (φs n) fn N c (κs n)) (vD C φ fn N c κ):=by
 have kle:∀ {κs:Nat->Kt} {κ:Kt},z9v κs κ->∀n,KLe (κs n) (κs (n+1)):=fun h n=>⟨h.norm.up n,fun i=>(h.exit i).up n,h.ret.up n⟩
 intro c;induction c with
 | skip=>exact fun κs κ hκ=>hκ.norm
 | region id ops d=>exact fun κs κ hκ=>zm9 hφ hκ.norm
 | seq a b iha ihb=>exact fun κs κ hκ=>iha (fun n=>⟨vD C (φs n) fn N b (κs n),(κs n).exit,(κs n).ret⟩) _ ⟨ihb _ _ hκ,hκ.exit,hκ.ret⟩
 | cond c a b iha ihb=>
  intro κs κ hκ;refine⟨fun n=>lT (hφ.up n) (.cond c a b) _ _ (kle hκ n),fun tm H x h=>?_⟩
  have h:(ob (ob (ev c (.now tm)) zA.asBool) fun t=>Bool.rec (motive:=fun _=>vB) (vD C φ fn N b κ tm H) (vD C φ fn N a κ tm H) t)=some x:=h
  rw[sA]at h;obtain⟨t,h1,h2⟩:=h
  have key:∀n,(Bool.rec (motive:=fun _=>vB) (vD C (φs n) fn N b (κs n) tm H) (vD C (φs n) fn N a (κs n) tm H) t:vB)=some x->vD C (φs n) fn N (.cond c a b) (κs n) tm H=some x:=by
   intro n hn;show(ob (ob (ev c (.now tm)) zA.asBool) fun t=>Bool.rec (motive:=fun _=>vB) (vD C (φs n) fn N b (κs n) tm H) (vD C (φs n) fn N a (κs n) tm H) t)=some x
   rw[h1,uA];exact hn
  cases t with
  | true=>obtain⟨n,hn⟩:=(iha _ _ hκ).ex _ _ _ h2;exact⟨n,key n hn⟩
  | false=>obtain⟨n,hn⟩:=(ihb _ _ hκ).ex _ _ _ h2;exact⟨n,key n hn⟩
 | block id c ih=>
  intro κs κ hκ;refine ih (fun n=>⟨(κs n).norm,fun i tm H=>Bool.rec (motive:=fun _=>vB) ((κs n).exit i tm H) ((κs n).norm tm H) (Nat.beq id i),(κs n).ret⟩) _ ⟨hκ.norm,fun i=>⟨fun n tm H x h=>?_,fun tm H x h=>?_⟩,hκ.ret⟩
  ·simp only[bG]at h ⊢
   split at h
   ·rename_i e;rw[if_pos e];exact hκ.norm.up n _ _ _ h
   ·rename_i e;rw[if_neg e];exact(hκ.exit i).up n _ _ _ h
  ·simp only[bG]at h ⊢
   split at h
   ·rename_i e;obtain⟨n,hn⟩:=hκ.norm.ex _ _ _ h;exact⟨n,by rw[if_pos e];exact hn⟩
   ·rename_i e;obtain⟨n,hn⟩:=(hκ.exit i).ex _ _ _ h;exact⟨n,by rw[if_neg e];exact hn⟩
 | loop live c ih=>
  intro κs κ hκ;refine⟨fun n=>lT (hφ.up n) (.loop live c) _ _ (kle hκ n),fun tm H x h=>?_⟩
  obtain⟨m,hm⟩:=zxu h
  have it:∀m,zma (fun n=>(Nat.rec (motive:=fun _=>Tm->xA->vB) (fun _ _=>none) (fun _ r tm H=>vD C (φs n) fn N c ⟨r,(κs n).exit,(κs n).ret⟩ (keep live.kept tm) H) m:Tm->xA->vB))
    (Nat.rec (motive:=fun _=>Tm->xA->vB) (fun _ _=>none) (fun _ r tm H=>vD C φ fn N c ⟨r,κ.exit,κ.ret⟩ (keep live.kept tm) H) m):=by
   intro m;induction m with
   | zero=>exact⟨fun _ _ _ _ h=>h,fun _ _ _ h=>by cases h⟩
   | succ m ihm=>
    have:=ih _ _ (⟨ihm,hκ.exit,hκ.ret⟩:z9v (fun n=>⟨(Nat.rec (motive:=fun _=>Tm->xA->vB) (fun _ _=>none) (fun _ r tm H=>vD C (φs n) fn N c ⟨r,(κs n).exit,(κs n).ret⟩ (keep live.kept tm) H) m:Tm->xA->vB),(κs n).exit,(κs n).ret⟩) ⟨(Nat.rec (motive:=fun _=>Tm->xA->vB) (fun _ _=>none) (fun _ r tm H=>vD C φ fn N c ⟨r,κ.exit,κ.ret⟩ (keep live.kept tm) H) m:Tm->xA->vB),κ.exit,κ.ret⟩)
    exact⟨fun n tm H x h=>this.up n _ _ _ h,fun tm H x h=>this.ex _ _ _ h⟩
  obtain⟨n,hn⟩:=(it m).ex _ _ _ hm
  exact⟨n,(zb4 fun m y hy=>zn2 (fun κ κ' h=>lT (fun _ _ _ _ h=>h) c κ κ' h) live.kept m _ _ _ hy).2 ⟨m,hn⟩⟩
 | exit id=>exact fun κs κ hκ=>hκ.exit id
 | ret=>exact fun κs κ hκ=>hκ.ret
 | cut live c ih=>exact fun κs κ hκ=>⟨fun n tm H x h=>(ih _ _ hκ).up n _ _ _ h,fun tm H x h=>(ih _ _ hκ).ex _ _ _ h⟩
 | range i pl f ps id ops c ih=>exact fun κs κ hκ=>⟨fun n tm H x h=>(zf0 hφ hκ).up n _ _ _ h,fun tm H x h=>(zf0 hφ hκ).ex _ _ _ h⟩
theorem z4c{live:PI}{c:tD}{κ:Kt}{tm:Tm}{H:xA}:vD C φ fn N (.loop live c) κ tm H=vD C φ fn N c ⟨vD C φ fn N (.loop live c) κ,κ.exit,κ.ret⟩ (keep live.kept tm) H:=by
 have self:OLe φ φ:=fun _ _ _ _ h=>h
 have up:∀m,Le2 (Nat.rec (motive:=fun _=>Tm->xA->vB) (fun _ _=>none) (fun _ r tm H=>vD C φ fn N c ⟨r,κ.exit,κ.ret⟩ (keep live.kept tm) H) m)
   (Nat.rec (motive:=fun _=>Tm->xA->vB) (fun _ _=>none) (fun _ r tm H=>vD C φ fn N c ⟨r,κ.exit,κ.ret⟩ (keep live.kept tm) H) (m+1)):=zn2 (lT self c) live.kept
 have some_iff:∀tm H x,vD C φ fn N (.loop live c) κ tm H=some x ↔ ∃m,(Nat.rec (motive:=fun _=>Tm->xA->vB) (fun _ _=>none) (fun _ r tm H=>vD C φ fn N c ⟨r,κ.exit,κ.ret⟩ (keep live.kept tm) H) m:Tm->xA->vB) tm H=some x:=
  fun tm H x=>zb4 fun m y hy=>up m _ _ _ hy
 have sup:z9v (fun m=>⟨(Nat.rec (motive:=fun _=>Tm->xA->vB) (fun _ _=>none) (fun _ r tm H=>vD C φ fn N c ⟨r,κ.exit,κ.ret⟩ (keep live.kept tm) H) m:Tm->xA->vB),κ.exit,κ.ret⟩) ⟨vD C φ fn N (.loop live c) κ,κ.exit,κ.ret⟩:=
  ⟨⟨up,fun tm H x h=>(some_iff tm H x).1 h⟩,fun i=>⟨fun _ _ _ _ h=>h,fun _ _ _ h=>⟨0,h⟩⟩,⟨fun _ _ _ _ h=>h,fun _ _ _ h=>⟨0,h⟩⟩⟩
 have key:∀x,vD C φ fn N (.loop live c) κ tm H=some x ↔ vD C φ fn N c ⟨vD C φ fn N (.loop live c) κ,κ.exit,κ.ret⟩ (keep live.kept tm) H=some x:=by
  intro x;rw[some_iff];constructor
  ·rintro⟨m,hm⟩
   cases m with
   | zero=>cases hm
   | succ m=>exact lT self c ⟨(Nat.rec (motive:=fun _=>Tm->xA->vB) (fun _ _=>none) (fun _ r tm H=>vD C φ fn N c ⟨r,κ.exit,κ.ret⟩ (keep live.kept tm) H) m:Tm->xA->vB),κ.exit,κ.ret⟩ ⟨vD C φ fn N (.loop live c) κ,κ.exit,κ.ret⟩ ⟨fun tm H y hy=>(some_iff tm H y).2 ⟨m,hy⟩,fun _ _ _ _ h=>h,fun _ _ _ h=>h⟩ _ _ _ hm
  ·intro h
   obtain⟨m,hm⟩:=(zom (φs:=fun _=>φ) ⟨fun _=>self,fun _ _ _ _ h=>⟨0,h⟩⟩ c _ _ sup).ex _ _ _ h
   exact⟨m+1,hm⟩
 cases h:vD C φ fn N (.loop live c) κ tm H with
 | some x=>exact((key x).1 h).symm
 | none=>
  cases h2:vD C φ fn N c ⟨vD C φ fn N (.loop live c) κ,κ.exit,κ.ret⟩ (keep live.kept tm) H with
  | none=>rfl
  | some x=>rw[(key x).2 h2]at h;cases h
end
end Go.Am
namespace Go.Am
open Go Go.RowKit
def z3c:List oD->Bool
 | .reg .. :: _=>true
 | _=>false
section
variable {P:Program}{C:pA}{B N:Nat}{I:World->Prop}{μ:Mu}{w:World}{base:List Frame}{m:Machine}
theorem zby(hF:zl6 P C){f:Nat}{args:List zA}{args':Array Value}{H:xA}(hH:aA B N μ H w)(hl:yB μ args args'.toList){g:iB}(he:qJ C f args false=some g) :
  aC P C B N μ base (lone (Frame.enter P f args' .normal) base w) w (.next ⟨g,[],H⟩):=
 ⟨μ,_,[],w,.refl _ _,fun _ _ h=>h,Below.refl N w,hH,(fW (cur:=some H) hF he hl).1,.nil⟩
end
end Go.Am
namespace Go.Am
open Go Go.RowKit
inductive nJ (C:pA):aD->aD->Prop
 | refl (o:aD):nJ C o o
 | step {o o':aD}:nJ C (zse C o) o'->nJ C o o'
 | forget {todo:List oD} {tm tm':Tm} {R:aH} {cs:List iB} {H:xA} {o':aD}:z3c todo=false->(∀i v,tm'.get i=some v->tm.get i=some v)->nJ C (.next ⟨⟨todo,tm',R⟩,cs,H⟩) o'->nJ C (.next ⟨⟨todo,tm,R⟩,cs,H⟩) o'
theorem nJ.trans{C:pA}{a b c:aD}(h:nJ C a b)(k:nJ C b c):nJ C a c:=by
 induction h with
 | refl=>exact k
 | step _ ih=>exact .step (ih k)
 | forget h1 h2 _ ih=>exact .forget h1 h2 (ih k)
section
variable {P:Program}{C:pA}{B N:Nat}{I:World->Prop}{μ:Mu}{w:World}{base:List Frame}{m:Machine}
theorem gD.forget{n:Nat}{tm tm':Tm}{tmps:Array Value}(h:gD μ n tm tmps)(hs:∀i v,tm'.get i=some v->tm.get i=some v):gD μ n tm' tmps:=⟨h.1,fun i v hv=>h.2 i v (hs i v hv)⟩
theorem zza{todo:List oD}{tm tm':Tm}{R:aH}{acs:List iB}{H:xA}(hr:z3c todo=false)(hs:∀i v,tm'.get i=some v->tm.get i=some v)(h:aC P C B N μ base m w (.next ⟨⟨todo,tm,R⟩,acs,H⟩)) :
  aC P C B N μ base m w (.next ⟨⟨todo,tm',R⟩,acs,H⟩):=by
 obtain⟨μ',b,cs,w',h1,h2,h3,h4,h5,h6⟩:=h
 obtain⟨bfn,btmps,btodo,bdefers,bmode,bkind,bround⟩:=b
 refine⟨μ',_,cs,w',h1,h2,h3,h4,⟨h5.rest,?_⟩,h6⟩
 have hb:=h5.body
 simp only at hb ⊢
 split at hb
 ·rename_i hm
  rw[if_pos hm]
  cases hb with
  | plain a t=>exact .plain a (t.forget hs)
  | reg _ _ _ _=>cases hr
  | mid _ _ _ _ _=>cases hr
 ·rename_i hm
  rw[if_neg hm];exact hb.forget hs
theorem aC.reach(hS:Sim P C B N I)(hI:I w){o o':aD}(h:nJ C o o'):aC P C B N μ base m w o->aC P C B N μ base m w o':=by
 induction h with
 | refl=>exact id
 | step _ ih=>exact fun h=>ih (zpn hS hI h)
 | forget hr hs _ ih=>exact fun h=>ih (zza hr hs h)
end
def ziy(C:pA)(f:Nat)(ds:List gH)(fr:iB)(H:xA)(v:zA):Prop:=
 fr.R.mode=.returning/\fr.R.defers=ds/\fr.R.deferred=false/\fr.R.fn=f/\∃fn l,C.fns.get f=some fn/\nQ C H fr.tm fn.results.toList=some l/\v=cS l
def zm5(r:qL)(l:Nat)(tm:Tm):iB:=⟨[.code r.assign,.beginRound,.code r.body],tm,⟨r.fn,r.n,[],.run,false,some l⟩⟩
structure vQ (C:pA) (φ:Ora):Prop where
 fn:∀f args H x,φ (.func f) args H=some x->∃g,qJ C f args false=some g/\∀acs,∃fr',nJ C (.next ⟨g,acs,H⟩) (.next ⟨fr',acs,x.2⟩)/\ziy C f [] fr' x.2 x.1
 rd:∀l args H x,φ (.yld l) args H=some x->∃r tm,yI H l=some r/\pQ r.n r.params args r.tm=some tm/\∀c acs c',qG c x.1=some c'->nJ C (.next ⟨zm5 r l tm,c::acs,H⟩) (.next ⟨c',acs,x.2⟩)
abbrev z6w:=List gH->aD->zA × xA->Prop
def Fin (C:pA)(E:z6w)(ds:List gH)(o:aD)(x:zA × xA):Prop:=∃o',nJ C o o'/\E ds o' x
theorem Fin.step{C:pA}{E:z6w}{ds:List gH}{o:aD}{x:zA × xA}(h:Fin C E ds (zse C o) x):Fin C E ds o x:=by
 obtain⟨fr,h1,h2⟩:=h;exact⟨fr,.step h1,h2⟩
theorem Fin.of{C:pA}{E:z6w}{ds:List gH}{o o':aD}{x:zA × xA}(hr:nJ C o o')(h:Fin C E ds o' x):Fin C E ds o x:=by
 obtain⟨fr,h1,h2⟩:=h;exact⟨fr,hr.trans h1,h2⟩
abbrev RR(f N:Nat)(ro:Option Nat)(ds:List gH):aH:=⟨f,N,ds,.run,false,ro⟩
structure zt8 (C:pA) (E:z6w) (G:zA × xA->Prop) (f N:Nat) (ro:Option Nat) (acs:List iB):Prop where
 not:∀ds todo tm H x,¬ E ds (.next ⟨⟨todo,tm,RR f N ro ds⟩,acs,H⟩) x
 all:ro=none->∀x,G x
 pop:ro=none->∀r ds o x,E (⟨none,r,[]⟩::ds) o x->dP x.2 r=some (some [])->∃o',nJ C o o'/\E ds o' (x.1,setBlk x.2 r (.deferred none))
structure zru (C:pA) (E:z6w) (G:zA × xA->Prop) (f N:Nat) (ro:Option Nat) (acs:List iB) (κ:Kt) (k:List oD):Prop where
 norm:∀ds x tm H,G x->κ.norm tm H=some x->Fin C E ds (.next ⟨⟨k,tm,RR f N ro ds⟩,acs,H⟩) x
 exit:∀ds x i tm H,G x->κ.exit i tm H=some x->Fin C E ds (.next ⟨⟨.code (.exit i)::k,tm,RR f N ro ds⟩,acs,H⟩) x
 ret:∀ds x tm H,G x->κ.ret tm H=some x->∀k',Fin C E ds (.next ⟨⟨.code .ret::k',tm,RR f N ro ds⟩,acs,H⟩) x
structure zo3 where
 i:Nat
 pl:List Nat
 f:Operand
 ps:Array Nat
 id:Nat
 ops:Array Oper
 c:tD
def mM(c:tD):List zo3:=
 tD.rec (motive:=fun _=>List zo3) [] (fun _ _ _=>[]) (fun _ _ a b=>eC a b) (fun _ _ _ a b=>eC a b) (fun _ _ a=>a) (fun _ _ a=>a) (fun _=>[]) [] (fun _ _ a=>a)
  (fun i pl f ps id ops c a=>⟨i,pl,f,ps,id,ops,c⟩::a) c
section
variable {C:pA}{φ:Ora}{E:z6w}{G:zA × xA->Prop}{ds:List gH}{ro:Option Nat}{f N:Nat}{acs:List iB}{R:aH}{κ:Kt}{k:List oD}{x:zA × xA}{all:Array Oper}
theorem lI(hR:R.mode.running=true){todo:List oD}{tm:Tm}{H:xA}:zse C (.next ⟨⟨todo,tm,R⟩,acs,H⟩)=dL C todo tm R acs H:=by
 show(bif R.mode.running then dL C todo tm R acs H else _)=_
 rw[hR];rfl
theorem zy2{fr c c':iB}{H:xA}{v:zA}(hr:ziy C f [] fr H v)(hf:qG c v=some c'):zse C (.next ⟨fr,c::acs,H⟩)=.next ⟨c',acs,H⟩:=by
 obtain⟨h1,h2,h3,h4,fn,l,h5,h6,rfl⟩:=hr
 obtain⟨todo,tm,ffn,n,defers,mode,deferred,round⟩:=fr
 simp only at h1 h2 h3 h4 h6
 subst h1 h2 h3 h4
 show zco C ⟨todo,tm,_⟩ (c::acs) H=_
 unfold zco;rw[h5,uA,h6];simp only[cond_false];rw[hf];rfl
theorem zfw(hφ:vQ C φ){r:nI}{H:xA}{K:zA->xA->vB}(h:tF φ r H K=some x){fr:iB}
  (hK:∀v H' c',qG fr v=some c'->K v H'=some x->Fin C E ds (.next ⟨c',acs,H'⟩) x) (hfin:∀v,∃c',qG fr v=some c'):Fin C E ds (za9 r C fr acs H) x:=by
 cases r<;>simp only[tF]at h<;>try (cases h;done)
 case val v H'=>
  have h2:K v H'=some x:=h
  obtain⟨c',hc⟩:=hfin v
  show Fin C E ds (z7s v H' C fr acs H) x
  unfold z7s;rw[hc];exact hK _ _ _ hc h2
 case enter g args=>
  rw[sA]at h;obtain⟨p,h1,h4⟩:=h
  obtain⟨c',hc⟩:=hfin p.1
  show Fin C E ds (zj2 g args C fr acs H) x
  unfold zj2;obtain⟨ge,he,r0⟩:=hφ.fn _ _ _ _ h1
  obtain⟨fr',r1,r2⟩:=r0 (fr::acs)
  rw[he];refine Fin.of (r1.trans (.step ?_)) (hK _ _ _ hc h4)
  rw[zy2 r2 hc];exact .refl _
 case round l args=>
  rw[sA]at h;obtain⟨p,h1,h4⟩:=h
  obtain⟨c',hc⟩:=hfin p.1
  obtain⟨r,tm,e1,e2,r0⟩:=hφ.rd _ _ _ _ h1
  show Fin C E ds (zj1 l args C fr acs H) x
  unfold zj1;rw[e1,uA,e2,uA];exact Fin.of (r0 _ _ _ hc) (hK _ _ _ hc h4)
theorem zsv(hφ:vQ C φ)(hR:R.mode.running=true)(hN:R.n=N){κn:Tm->xA->vB}(hκ:∀tm H,κn tm H=some x->Fin C E ds (.next ⟨⟨k,tm,R⟩,acs,H⟩) x) :
  ∀(l:List Oper) (tm:Tm) (H:xA),iJ C φ all N κn l tm H=some x->Fin C E ds (yO C all k R acs l tm H) x:=by
 intro l;induction l with
 | nil=>exact fun tm H h=>hκ tm H h
 | cons o l ih=>
  intro tm H h;rw[xT,sA]at h;obtain⟨w,h1,h⟩:=h
  rw[sZ,h1]
  cases w with
  | false=>rw[if_neg (by simp)]at h;simp only[];rw[hN];exact ih _ _ h
  | true=>
   rw[if_pos rfl]at h;simp only[];generalize (cE o.op).f C (.now tm) H=r at h
   cases hv:r.asVal with
   | some p=>
    have:r=.val p.1 p.2:=by cases r<;>simp[nI.asVal]at hv;rw[<- hv]
    subst this;simp only[tF,kK]at h;obtain⟨h2,h3⟩:=h
    simp only[];rw[hN];exact ih _ _ h3
   | none=>
    refine zfw hφ h (fun v H' c' hc hK=>?_) fun v=>⟨⟨.ops all l::k,putA R.n tm o.dst v,R⟩,by unfold qG;simp only[hR,cond_true];rfl⟩
    unfold qG at hc;simp only[hR,cond_true]at hc;have hc:some (⟨.ops all l::k,putA R.n tm o.dst v,R⟩:iB)=some c':=hc
    cases hc;refine .step ?_
    rw[lI hR,hN];rw[kK]at hK;exact ih _ _ hK.2
theorem bX{H:xA}{old:Tm}{olds:List (Nat × List Nat)}{K:Tm->vB}:∀(l:List Nat) (tm:Tm),pG C H all N old olds K l tm=some x->∃tm',iL C H all N old olds l tm=some tm'/\K tm'=some x:=by
 intro l;induction l with
 | nil=>exact fun tm h=>⟨tm,rfl,h⟩
 | cons i l ih=>
  intro tm h;rw[zY,sA]at h;obtain⟨o,h1,h⟩:=h
  rw[sA]at h;obtain⟨w,h2,h⟩:=h
  unfold iL;rw[h1,uA,h2,uA]
  cases w with
  | false=>rw[if_neg (by simp)]at h;simp only[cond_false,uA];exact ih _ h
  | true=>
   rw[if_pos rfl,sA]at h;obtain⟨v,h3,h⟩:=h
   rw[kK]at h;obtain⟨h4,h⟩:=h
   simp only[cond_true];rw[h3,uA];exact ih _ h
theorem zra{C:pA}{o:Op}{e:pC}{H:xA}{r:nI}(hf:sI o=true)(h:(cE o).f C e H=r)(h1:∀q,r≠tJ q):False:=by
 have key:∀q:Option (zA × xA),tJ q=r->False:=fun q e=>h1 q e.symm
 cases o<;>simp only[sI]at hf<;>first
  | (cases hf;done)
  | exact key _ h
theorem zhh(hφ:vQ C φ)(hR:R.mode.running=true)(hN:R.n=N){κn:Tm->xA->vB}(hκ:∀tm H,κn tm H=some x->Fin C E ds (.next ⟨⟨k,tm,R⟩,acs,H⟩) x){old:Tm}{olds:List (Nat × List Nat)} :
  ∀(l:List wE) (tm:Tm) (H:xA),lG C φ all N old olds κn l tm H=some x->Fin C E ds (.next ⟨⟨.reg all old olds l::k,tm,R⟩,acs,H⟩) x:=by
 intro l;induction l with
 | nil=>
  intro tm H h;refine .step ?_
  rw[lI hR];exact hκ tm H h
 | cons st l ih=>
  intro tm H h
  cases hg:gN all st with
  | true=>
   rw[eV hg,rY]at h;obtain⟨h0,es,H',h1,h2,h3⟩:=h
   obtain⟨tm',hl1,hl2⟩:=bX _ _ h3
   refine .step ?_
   rw[lI hR];show Fin C E ds (zrx all old olds (st::l) C k tm R acs H) x
   unfold zrx;have hg0:=dB.1 hg
   rw[jC]at hg0;have hnone:mC all.toList st.heavy=none:=by
    rw[pF];exact List.getElem?_eq_none (by omega)
   simp only[hnone];rw[jB,if_pos (dB.2 (by rw[jC];omega)),jB,if_pos (show Nat.blt (dA all.toList+dA all.toList) st.heavy=true from hg)]
   unfold zo9;rw[h0,show ∀(x:Option rM),iA true x=x from fun _=>rfl,h1,uA,h2,uA,hN,hl1,uA]
   exact ih _ _ hl2
  | false=>
  rw[uU hg,sA]at h;obtain⟨o,h1,h⟩:=h
  rw[sA]at h;obtain⟨w,h2',h⟩:=h
  have hgn:Nat.blt (dA all.toList+dA all.toList) st.heavy=false:=hg
  by_cases hfl:Nat.blt (dA all.toList) st.heavy=true
  ·-- an operation that is done early
   unfold zO at h2';unfold hvI at h1 h;rw[hfl]at h1 h2' h
   simp only[cond_true,sA,xB,yac]at h1 h2'
   obtain⟨w',h2,⟨⟨hw,hfo⟩,hlo⟩,h2'⟩:=h2'
   cases h2'
   subst hw;simp only[if_true,cond_true]at h;have hval:∃v H',(cE o.op).f C (.mixed tm old (lD (Nat.sub st.heavy (Nat.succ (dA all.toList))) olds) (eF o.op)) H=.val v H':=by
    cases hr:(cE o.op).f C (.mixed tm old (lD (Nat.sub st.heavy (Nat.succ (dA all.toList))) olds) (eF o.op)) H with
    | val v H'=>exact⟨v,H',rfl⟩
    | enter g args=>exact(zra hfo hr fun q=>by cases q<;>simp[tJ]).elim
    | round g args=>exact(zra hfo hr fun q=>by cases q<;>simp[tJ]).elim
    | _=>rw[hr]at h;cases h
   obtain⟨v,H',hv⟩:=hval
   rw[hv]at h;have h:(fI C o.type v fun v=>xJ C H' all old olds (putA N tm o.dst v) (pG C H' all N old olds (fun tm=>lG C φ all N old olds κn l tm H') st.lights (putA N tm o.dst v)) st.again)=some x:=h
   rw[kK]at h;obtain⟨ha,hl⟩:=aW _ h.2
   obtain⟨tm',hl1,hl2⟩:=bX _ _ hl
   refine .step ?_
   rw[lI hR];show Fin C E ds (zrx all old olds (st::l) C k tm R acs H) x
   unfold zrx;have hnone:mC all.toList st.heavy=none:=by
    rw[pF];have:=dB.1 hfl
    rw[jC]at this;exact List.getElem?_eq_none (by omega)
   simp only[hnone];rw[hfl,cond_true,hgn,cond_false];unfold zpa;rw[h1,uA,h2,uA,hv,hlo];show Fin C E ds (eI (ob (iL C H' all R.n old olds st.lights (putA R.n tm o.dst v)) fun tm'=>some ⟨⟨.reg all old olds l::k,tm',R⟩,acs,H'⟩) 23) x
   rw[hN,hl1,uA];exact ih _ _ hl2
  have hfl:Nat.blt (dA all.toList) st.heavy=false:=Bool.eq_false_iff.2 hfl
  unfold zO at h2';unfold hvI at h1 h;rw[hfl]at h1 h2' h
  simp only[cond_false,sA]at h1 h2'
  obtain⟨w',h2,h2'⟩:=h2'
  cases h2'
  simp only[cond_false]at h;have back0:∀v H' c',qG (⟨.reg all old olds (st::l)::k,tm,R⟩:iB) v=some c' →
    xJ C H' all old olds (putA N tm o.dst v) (pG C H' all N old olds (fun tm=>lG C φ all N old olds κn l tm H') st.lights (putA N tm o.dst v)) st.again=some x->Fin C E ds (.next ⟨c',acs,H'⟩) x:=by
   intro v H' c' hc hK;unfold qG at hc;simp only[hR,cond_true]at hc;have hc:(ob (mC all.toList st.heavy) fun o=>some (⟨.reg all old olds (⟨all.size,st.lights,st.again⟩::l)::k,putA R.n tm o.dst v,R⟩:iB))=some c':=hc
   rw[h1,uA]at hc
   cases hc;refine .step ?_
   rw[lI hR,hN];obtain⟨ha,hl⟩:=aW _ hK
   obtain⟨tm',hl1,hl2⟩:=bX _ _ hl
   show Fin C E ds (zrx all old olds (⟨all.size,st.lights,st.again⟩::l) C k (putA N tm o.dst v) R acs H') x
   unfold zrx;have:mC all.toList all.size=none:=by rw[pF];simp
   simp only[this];rw[jB,if_neg fun e=>by have:=dB.1 e;rw[jC]at this;simp at this]
   show Fin C E ds (zcf all old olds ⟨all.size,st.lights,st.again⟩ l C k (putA N tm o.dst v) R acs H') x
   unfold zcf;simp only[ha,hN,hl1,uA];exact ih _ _ hl2
  have back:∀v H' c',qG (⟨.reg all old olds (st::l)::k,tm,R⟩:iB) v=some c' →
    (fI C o.type v fun v=>xJ C H' all old olds (putA N tm o.dst v) (pG C H' all N old olds (fun tm=>lG C φ all N old olds κn l tm H') st.lights (putA N tm o.dst v)) st.again)=some x->Fin C E ds (.next ⟨c',acs,H'⟩) x:=by
   intro v H' c' hc hK;rw[kK]at hK;exact back0 v H' c' hc hK.2
  refine .step ?_
  rw[lI hR];show Fin C E ds (zrx all old olds (st::l) C k tm R acs H) x
  unfold zrx;simp only[h1];unfold zo8;rw[h2];simp only[];have hfin:∀v,∃c',qG (⟨.reg all old olds (st::l)::k,tm,R⟩:iB) v=some c':=fun v=>⟨⟨.reg all old olds (⟨all.size,st.lights,st.again⟩::l)::k,putA R.n tm o.dst v,R⟩,by
   unfold qG;simp only[hR,cond_true];show(ob (mC all.toList st.heavy) fun o=>some (⟨.reg all old olds (⟨all.size,st.lights,st.again⟩::l)::k,putA R.n tm o.dst v,R⟩:iB))=_
   rw[h1];rfl⟩
  cases w with
  | true=>
   simp only[if_true]at h;exact zfw hφ h back hfin
  | false=>
   simp only[yar,if_false]at h;obtain⟨c',hc⟩:=hfin pD
   show Fin C E ds (z7s pD H C _ acs H) x
   unfold z7s;rw[hc];exact back0 _ _ _ hc h
theorem z3b{live:List Nat}{tm:Tm}{i:Nat}{v:zA}(h:(keep live tm).get i=some v):tm.get i=some v:=by
 unfold keep Tm.get at h;simp only[bG]at h;split at h
 case isFalse=>cases h
 rename_i hk;have key:∀live:List Nat,(zkv tm live).get i=some v->tm.get i=some v:=by
  intro live;induction live with
  | nil=>intro h;rw[show zkv tm []=.leaf from rfl,Tr.get_leaf]at h;cases h
  | cons j live ih=>
   intro h;have h:(match tm.get j with | some v=>(zkv tm live).set j v | none=>zkv tm live:Tr zA).get i=some v:=h
   cases hj:tm.get j with
   | none=>rw[hj]at h;exact ih h
   | some u=>
    rw[hj]at h;simp only[]at h;rw[Tr.get_set]at h;split at h
    ·rename_i e;rw[e,hj];exact h
    ·exact ih h
 exact key live h
theorem zgj{todo:List oD}(hr:z3c todo=false){live:List Nat}{tm:Tm}{H:xA}(h:Fin C E ds (.next ⟨⟨todo,keep live tm,R⟩,acs,H⟩) x):Fin C E ds (.next ⟨⟨todo,tm,R⟩,acs,H⟩) x:=
 Fin.of (.forget hr (fun _ _=>z3b) (.refl _)) h
theorem zea(hE:zt8 C E G f N ro acs){t1 t2:List oD}(h1:z3c t1=false)(hs:∀tm H,dL C t1 tm (RR f N ro ds) acs H=dL C t2 tm (RR f N ro ds) acs H){tm:Tm}{H:xA}(h:Fin C E ds (.next ⟨⟨t2,tm,RR f N ro ds⟩,acs,H⟩) x):Fin C E ds (.next ⟨⟨t1,tm,RR f N ro ds⟩,acs,H⟩) x:=by
 obtain⟨o',hr,hv⟩:=h
 refine⟨o',?_,hv⟩
 generalize ho:(.next ⟨⟨t2,tm,RR f N ro ds⟩,acs,H⟩:aD)=o at hr
 induction hr generalizing tm with
 | refl=>
  subst ho;exact(hE.not _ _ _ _ _ hv).elim
 | step h ih=>
  subst ho;refine .step ?_
  rw[lI rfl,hs,<- lI rfl];exact h
 | forget hr2 hs2 h ih=>
  cases ho;exact .forget h1 hs2 (ih hv rfl)
theorem zs4{i:Nat}{t1 t2:List oD}{tm:Tm}{H:xA}:eM (some (.exit i)) C ⟨t1,tm,R⟩ acs H=eM (some (.exit i)) C ⟨t2,tm,R⟩ acs H:=by
 obtain⟨a,b,c,d,e,ro⟩:=R
 unfold eM
 cases ro<;>rfl
theorem zed(hE:zt8 C E G f N ro acs){i:Nat}{y:oD}(hy:∀j,y.blockId=some j->Nat.beq j i=false){tm:Tm}{H:xA}(h:Fin C E ds (.next ⟨⟨.code (.exit i)::k,tm,RR f N ro ds⟩,acs,H⟩) x):Fin C E ds (.next ⟨⟨.code (.exit i)::y::k,tm,RR f N ro ds⟩,acs,H⟩) x:=by
 refine zea hE rfl (fun tm H=>?_) h
 show zi1 i C (y::k) tm (RR f N ro ds) acs H=zi1 i C k tm (RR f N ro ds) acs H
 have e:vK i (y::k)=vK i k:=by
  show(match y.blockId with | some j=>bif Nat.beq j i then some k else vK i k | none=>vK i k)=_
  cases hb:y.blockId with
  | none=>rfl
  | some j=>simp only[hy j hb,cond_false]
 unfold zi1;rw[e]
 cases vK i k with
 | some k'=>rfl
 | none=>exact zs4
theorem zj0(hφ:vQ C φ)(hE:zt8 C E G f N none acs){κ:Kt}(hκ:zru C E G f N none acs κ k){fo:Operand}{ps:Array Nat}{a b:Code}{tm:Tm}{H:xA}(h:nL C φ f N κ fo ps.toList a b tm H=some x):Fin C E ds (.next ⟨⟨.code (.rangeFunc fo ps a b)::k,tm,RR f N none ds⟩,acs,H⟩) x:=by
 unfold nL at h;rw[sA]at h;obtain⟨v,h1,h⟩:=h
 rw[sA]at h;obtain⟨⟨qf,q1,q2⟩,h2,h⟩:=h
 cases qf with
 | yld l=>cases h
 | func g=>
  simp only[xB,sA]at h;obtain⟨h3,y,h4,r,h5,h6,z,h7,d,h8,h9,h10⟩:=h
  have hp:C.prims.get g=none:=by
   cases hx:C.prims.get g with
   | none=>rfl
   | some u=>rw[hx]at h3;cases h3
  obtain⟨ge,he,r0⟩:=hφ.fn _ _ _ _ h4
  obtain⟨fr',r1,r2⟩:=r0 (⟨.inRange (H.next+1)::k,tm,RR f N none (⟨none,H.next,[]⟩::ds)⟩::acs)
  refine .step ?_
  rw[lI rfl];show Fin C E ds (zi0 fo ps a b C k tm (RR f N none ds) acs H) x
  have hin:mQ C (H.next+1) v=some ge:=by
   unfold mQ;rw[h2,uA];simp only[hp];exact he
  unfold zi0;rw[h1,uA];simp only[hin,uA];refine Fin.of (r1.trans (.step ?_)) (?_:Fin C E ds (.next ⟨⟨.endRange (H.next+1)::k,tm,RR f N none (⟨none,H.next,[]⟩::ds)⟩,acs,y.2⟩) x)
  ·rw[zy2 r2 (c':=⟨.endRange (H.next+1)::k,tm,RR f N none (⟨none,H.next,[]⟩::ds)⟩) rfl]
   exact .refl _
  refine .step ?_
  rw[lI rfl];show Fin C E ds (pV (H.next+1) C k tm (RR f N none (⟨none,H.next,[]⟩::ds)) acs y.2) x
  unfold pV;rw[h5,uA,h6];have key:Fin C E (⟨none,H.next,[]⟩::ds) (.next ⟨⟨(match r.pending with | some c=>.code c::k | none=>k),tm,RR f N none (⟨none,H.next,[]⟩::ds)⟩,acs,endLoop y.2 (H.next+1) r⟩) z:=by
   unfold vR at h7;split at h7
   ·rename_i e;rw[e];exact hκ.norm _ _ _ _ (hE.all rfl _) h7
   ·rename_i e;rw[e];exact hκ.ret _ _ _ _ (hE.all rfl _) h7 k
   ·cases h7
  obtain⟨o',k1,k2⟩:=key
  have hd:dP z.2 H.next=some (some []):=by
   rw[h8]
   cases d with
   | none=>cases h9
   | some l=>cases l with | nil=>rfl | cons _ _=>cases h9
  obtain⟨o'',k3,k4⟩:=hE.pop rfl _ _ _ _ k2 hd
  cases h10;exact⟨o'',k1.trans k3,k4⟩
theorem lX{α:Type}{a b:List α}(h:eC a b=[]):a=[]/\b=[]:=by rw[jF]at h;exact List.append_eq_nil_iff.1 h
theorem zlf(hφ:vQ C φ)(hE:zt8 C E G f N ro acs):∀(c:tD) (κ:Kt) (k:List oD),(ro=none\/mM c=[])->zru C E G f N ro acs κ k->∀ds x tm H,G x->vD C φ f N c κ tm H=some x->Fin C E ds (.next ⟨⟨.code (eE c)::k,tm,RR f N ro ds⟩,acs,H⟩) x:=by
 intro c;induction c with
 | skip=>
  intro κ k _ hκ ds x tm H hG h;refine .step ?_
  rw[lI rfl];exact hκ.norm _ _ _ _ hG h
 | region id ops d=>
  intro κ k _ hκ ds x tm H hG h;refine .step ?_
  rw[lI rfl]
  cases d with
  | false=>exact zsv hφ rfl rfl (fun tm H h=>hκ.norm _ _ _ _ hG h) _ _ _ h
  | true=>
   have h:(ob (ob (C.plans.get f) fun t=>t.get id) fun p=>iA (kN ops p) (pG C H ops N tm.cut p.olds (fun tm'=>lG C φ ops N tm.cut p.olds κ.norm p.stages tm' H) p.first tm.cut))=some x:=h
   rw[sA]at h;obtain⟨p,h1,h⟩:=h
   rw[xB]at h;obtain⟨tm',hl1,hl2⟩:=bX _ _ h.2
   show Fin C E ds (zuk id ops C k tm (RR f N ro ds) acs H) x
   unfold zuk;rw[h1,uA,h.1,hl1];exact zhh hφ rfl rfl (fun tm H h=>hκ.norm _ _ _ _ hG h) _ _ _ hl2
 | seq a b iha ihb=>
  intro κ k hn hκ ds x tm H hG h;have hna:ro=none\/mM a=[]:=hn.imp id fun e=>(lX e).1
  have hnb:ro=none\/mM b=[]:=hn.imp id fun e=>(lX e).2
  refine zea hE (t1:=.code (eE (.seq a b))::k) rfl (t2:=.code (eE a)::.code (eE b)::k) (fun _ _=>rfl) ?_
  exact iha ⟨vD C φ f N b κ,κ.exit,κ.ret⟩ _ hna ⟨fun ds x tm H hG h=>ihb _ _ hnb hκ ds x tm H hG h,fun ds x i tm H hG h=>zed hE (fun _ e=>by cases e) (hκ.exit _ _ _ _ _ hG h),hκ.ret⟩ ds x tm H hG h
 | cond c a b iha ihb=>
  intro κ k hn hκ ds x tm H hG h;have hna:ro=none\/mM a=[]:=hn.imp id fun e=>(lX e).1
  have hnb:ro=none\/mM b=[]:=hn.imp id fun e=>(lX e).2
  have h:(ob (ob (ev c (.now tm)) zA.asBool) fun t=>Bool.rec (motive:=fun _=>vB) (vD C φ f N b κ tm H) (vD C φ f N a κ tm H) t)=some x:=h
  rw[sA]at h;obtain⟨t,h1,h⟩:=h
  refine .step ?_
  rw[lI rfl];show Fin C E ds (zul c (eE a) (eE b) C k tm (RR f N ro ds) acs H) x
  unfold zul;rw[h1]
  cases t with
  | true=>exact iha _ _ hna hκ _ _ _ _ hG h
  | false=>exact ihb _ _ hnb hκ _ _ _ _ hG h
 | block id c ih=>
  intro κ k hn hκ ds x tm H hG h;refine .step ?_
  rw[lI rfl];have nx:∀ds x tm H,G x->κ.norm tm H=some x->Fin C E ds (.next ⟨⟨.inBlock id::k,tm,RR f N ro ds⟩,acs,H⟩) x:=by
   intro ds x tm H hG h;refine .step ?_
   rw[lI rfl];exact hκ.norm _ _ _ _ hG h
  refine ih ⟨κ.norm,fun i tm H=>Bool.rec (motive:=fun _=>vB) (κ.exit i tm H) (κ.norm tm H) (Nat.beq id i),κ.ret⟩ _ hn ⟨nx,fun ds x i tm H hG h=>?_,hκ.ret⟩ ds x tm H hG h
  dsimp only at h
  cases hb:Nat.beq id i with
  | true=>
   rw[hb]at h;refine .step ?_
   rw[lI rfl];show Fin C E ds (zi1 i C (.inBlock id::k) tm (RR f N ro ds) acs H) x
   have e:vK i (.inBlock id::k)=some k:=by
    show(bif Nat.beq id i then some k else vK i k)=_
    rw[hb];rfl
   unfold zi1;rw[e];exact hκ.norm _ _ _ _ hG h
  | false=>
   rw[hb]at h;exact zed hE (fun j e=>by cases e;exact hb) (hκ.exit _ _ _ _ _ hG h)
 | loop live c ih=>
  intro κ k hn hκ ds x tm H hG h;obtain⟨m,hm⟩:=zxu h
  have it:∀(m:Nat) ds x tm H,G x->(Nat.rec (motive:=fun _=>Tm->xA->vB) (fun _ _=>none) (fun _ r tm H=>vD C φ f N c ⟨r,κ.exit,κ.ret⟩ (keep live.kept tm) H) m:Tm->xA->vB) tm H=some x->Fin C E ds (.next ⟨⟨.inLoop (eE c)::k,tm,RR f N ro ds⟩,acs,H⟩) x:=by
   intro m;induction m with
   | zero=>intro ds x tm H _ h;cases h
   | succ m ihm=>
    intro ds x tm H hG h;refine zgj (live:=live.kept) rfl (.step ?_)
    rw[lI rfl];exact ih ⟨_,κ.exit,κ.ret⟩ _ hn ⟨ihm,fun ds x i tm H hG h=>zed hE (fun _ e=>by cases e) (hκ.exit _ _ _ _ _ hG h),hκ.ret⟩ _ _ _ _ hG h
  exact zea hE (t1:=.code (eE (.loop live c))::k) rfl (t2:=.inLoop (eE c)::k) (fun _ _=>rfl) (it m _ _ tm H hG hm)
 | exit id=>exact fun κ k _ hκ ds x tm H hG h=>hκ.exit _ _ _ _ _ hG h
 | ret=>exact fun κ k _ hκ ds x tm H hG h=>hκ.ret _ _ _ _ hG h k
 | cut live c ih=>exact fun κ k hn hκ ds x tm H hG h=>zgj rfl (ih κ k hn hκ _ _ _ _ hG h)
 | range i pl fo ps id ops c ih=>
  intro κ k hn hκ ds x tm H hG h;rcases hn with rfl | e
  ·exact zj0 hφ hE hκ h
  ·cases e
end
end Go.Am
namespace Go.Am
open Go Go.RowKit
def endK (C:pA)(fn:Func)(tm:Tm)(H:xA):vB:=ob (nQ C H tm fn.results.toList) fun l=>some (cS l,H)
def z06 (C:pA)(fn:Func):Kt:=⟨endK C fn,fun _ _ _=>none,endK C fn⟩
def vW(ops:List Oper):Bool:=tC (fun o=>match o.op with | .move _=>fG o.guard | .assign _=>fG o.guard | _=>false) ops
def tW(c:tD):Option zo3:=match mM c with | [q]=>some q | _=>none
def rdOk (r:qL)(q:zo3):Prop:=r.assign=.region q.id q.ops false/\r.body=eE q.c/\r.params=q.ps.toList/\LoopState.tag r.state=0/\vW q.ops.toList=true/\mM q.c=[]
def zow(r:qL):qL:=⟨.busy,r.pending,r.fn,r.n,r.tm,r.params,r.assign,r.body,r.defers⟩
def zh5(b:Bool)(r:qL):qL:=⟨if b then .ready else .done,if b then none else some .ret,r.fn,r.n,r.tm,r.params,r.assign,r.body,r.defers⟩
def rdK:Kt:=⟨fun _ H=>some (.bool true,H),fun _ _ _=>none,fun _ H=>some (.bool false,H)⟩
def z4l(C:pA)(φ:Ora)(fn n:Nat)(q:zo3)(tm:Tm)(H:xA):vB:=vD C φ fn n (.seq (.region q.id q.ops false) q.c) rdK tm H
def zc5(C:pA)(A:Tr tD)(φ:Ora)(l:Nat)(args:List zA)(H:xA):vB:=
 ob (yI H l) fun r=>ob (pQ r.n r.params args r.tm) fun tm=>ob (A.get r.fn) fun c=>ob (tW c) fun q=>@ite _ (rdOk r q) (Classical.propDecidable _)
  (ob (z4l C φ r.fn r.n q tm (setBlk H l (.loop (zow r)))) fun x=>ob (yI x.2 l) fun r2=>ob x.1.asBool fun b=>some (.bool b,setBlk x.2 l (.loop (zh5 b r2)))) none
def zuf (C:pA)(A:Tr tD)(φ:Ora)(f:Nat)(args:List zA)(H:xA):vB:=
 ob (A.get f) fun c=>ob (C.fns.get f) fun fn=>ob (qJ C f args false) fun g=>vD C φ f fn.ntmps c (z06 C fn) g.tm H
def zmz(C:pA)(A:Tr tD)(φ:Ora):Ora
 | .func f=>zuf C A φ f
 | .yld l=>zc5 C A φ l
def z5s (C:pA)(A:Tr tD):Nat->Ora
 | 0=>fun _ _ _=>none
 | n+1=>zmz C A (z5s C A n)
def bC (C:pA)(A:Tr tD):Ora:=fun f args H=>lim fun n=>z5s C A n f args H
section
variable {C:pA}{A:Tr tD}
theorem pU{φ:Ora}{l:Nat}{args:List zA}{H:xA}{x:zA × xA}:zc5 C A φ l args H=some x ↔ ∃r tm c q y r2 b,yI H l=some r/\pQ r.n r.params args r.tm=some tm/\A.get r.fn=some c/\tW c=some q/\rdOk r q/\z4l C φ r.fn r.n q tm (setBlk H l (.loop (zow r)))=some y/\yI y.2 l=some r2/\y.1=.bool b/\x=(.bool b,setBlk y.2 l (.loop (zh5 b r2))):=by
 unfold zc5;simp only[sA];constructor
 ·rintro⟨r,h1,tm,h2,c,h3,q,h4,h⟩
  by_cases hq:rdOk r q
  ·rw[if_pos hq]at h
   simp only[sA]at h;obtain⟨y,h5,r2,h6,b,h7,h8⟩:=h
   exact⟨r,tm,c,q,y,r2,b,h1,h2,h3,h4,hq,h5,h6,zR.1 h7,by cases h8;rfl⟩
  ·rw[if_neg hq]at h;cases h
 ·rintro⟨r,tm,c,q,y,r2,b,h1,h2,h3,h4,hq,h5,h6,h7,h8⟩
  refine⟨r,h1,tm,h2,c,h3,q,h4,?_⟩
  rw[if_pos hq];simp only[sA];exact⟨y,h5,r2,h6,b,zR.2 h7,by rw[h8]⟩
theorem zfl{φ φ':Ora}(h:OLe φ φ'):OLe (zmz C A φ) (zmz C A φ'):=by
 intro f args H x hx
 cases f with
 | yld l=>
  have hx:zc5 C A φ l args H=some x:=hx
  obtain⟨r,tm,c,q,y,r2,b,h1,h2,h3,h4,hq,h5,h6,h7,h8⟩:=pU.1 hx
  exact pU.2 ⟨r,tm,c,q,y,r2,b,h1,h2,h3,h4,hq,lT h _ _ _ (KLe.refl _) _ _ _ h5,h6,h7,h8⟩
 | func f=>
 have hx:zuf C A φ f args H=some x:=hx
 show zuf C A φ' f args H=some x
 unfold zuf at hx ⊢
 rw[sA]at hx ⊢
 obtain⟨c,h1,hx⟩:=hx
 refine⟨c,h1,?_⟩
 rw[sA]at hx ⊢
 obtain⟨fn,h2,hx⟩:=hx
 refine⟨fn,h2,?_⟩
 rw[sA]at hx ⊢
 obtain⟨g,h3,hx⟩:=hx
 exact⟨g,h3,lT h c _ _ (KLe.refl _) _ _ _ hx⟩
theorem zxi:∀n,OLe (z5s C A n) (z5s C A (n+1)):=by
 intro n;induction n with
 | zero=>intro f args H x h;cases h
 | succ n ih=>exact zfl ih
theorem oT{f:AFn}{args:List zA}{H:xA}{x:zA × xA}:bC C A f args H=some x ↔ ∃n,z5s C A n f args H=some x:=
 zb4 fun n _ hy=>zxi n _ _ _ _ hy
theorem zzb:z40 (z5s C A) (bC C A):=⟨zxi,fun _ _ _ _ h=>oT.1 h⟩
theorem z6n(f:AFn)(args:List zA)(H:xA):bC C A f args H=zmz C A (bC C A) f args H:=by
 have key:∀x,bC C A f args H=some x ↔ zmz C A (bC C A) f args H=some x:=by
  intro x;constructor
  ·intro h
   obtain⟨n,hn⟩:=oT.1 h
   cases n with
   | zero=>cases hn
   | succ n=>exact zfl (fun f a H y hy=>oT.2 ⟨n,hy⟩) _ _ _ _ hn
  ·intro h
   cases f with
   | yld l=>
    have h:zc5 C A (bC C A) l args H=some x:=h
    obtain⟨r,tm,c,q,y,r2,b,h1,h2,h3,h4,hq,h5,h6,h7,h8⟩:=pU.1 h
    have sup:z9v (fun _=>rdK) rdK:=⟨⟨fun _ _ _ _ h=>h,fun _ _ _ h=>⟨0,h⟩⟩,fun i=>⟨fun _ _ _ _ h=>h,fun _ _ _ h=>⟨0,h⟩⟩,⟨fun _ _ _ _ h=>h,fun _ _ _ h=>⟨0,h⟩⟩⟩
    obtain⟨n,hn⟩:=(zom zzb _ _ _ sup).ex _ _ _ h5
    exact oT.2 ⟨n+1,pU.2 ⟨r,tm,c,q,y,r2,b,h1,h2,h3,h4,hq,hn,h6,h7,h8⟩⟩
   | func f=>
   have h:zuf C A (bC C A) f args H=some x:=h
   unfold zuf at h;rw[sA]at h;obtain⟨c,h1,h⟩:=h
   rw[sA]at h;obtain⟨fn,h2,h⟩:=h
   rw[sA]at h;obtain⟨g,h3,h⟩:=h
   have sup:z9v (fun _=>z06 C fn) (z06 C fn):=⟨⟨fun _ _ _ _ h=>h,fun _ _ _ h=>⟨0,h⟩⟩,fun i=>⟨fun _ _ _ _ h=>h,fun _ _ _ h=>⟨0,h⟩⟩,⟨fun _ _ _ _ h=>h,fun _ _ _ h=>⟨0,h⟩⟩⟩
   obtain⟨n,hn⟩:=(zom zzb c _ _ sup).ex _ _ _ h
   refine oT.2 ⟨n+1,?_⟩
   show zuf C A (z5s C A n) f args H=some x
   unfold zuf;rw[h1,uA,h2,uA,h3,uA];exact hn
 cases h:bC C A f args H with
 | some x=>exact((key x).1 h).symm
 | none=>
  cases h2:zmz C A (bC C A) f args H with
  | none=>rfl
  | some x=>rw[(key x).2 h2]at h;cases h
def zU(C:pA)(A:Tr tD):Prop:=∀f c,A.get f=some c->∃fn,C.fns.get f=some fn/\fn.body=some (eE c)
theorem zog{f:Nat}{args:List zA}{g:iB}(h:qJ C f args false=some g):∃fn c,C.fns.get f=some fn/\fn.body=some c/\g.todo=[.code c]/\g.R=⟨f,fn.ntmps,[],.run,false,none⟩:=by
 unfold qJ at h;simp only[sA,xB]at h;obtain⟨fn,h1,c,h2,k,h3,_,h⟩:=h
 cases h;exact⟨fn,c,h1,h2,rfl,rfl⟩
theorem dX{α β:Type}{f g:α->Option β}:∀(l:List α) {r:List β},(∀a b,f a=some b->g a=some b)->qF f l=some r->qF g l=some r:=by
 intro l;induction l with
 | nil=>intro r _ h;exact h
 | cons a l ih=>
  intro r hfg h;rw[wK,sA]at h ⊢
  obtain⟨b,h1,h⟩:=h
  refine⟨b,hfg _ _ h1,?_⟩
  rw[sA]at h ⊢
  obtain⟨s,h2,h⟩:=h
  exact⟨s,ih hfg h2,h⟩
def z9w(C:pA)(f:Nat)(acs:List iB):z6w:=fun ds o x=>∃fr',o=.next ⟨fr',acs,x.2⟩/\ziy C f ds fr' x.2 x.1
theorem zm6{H:xA}{tm:Tm}{r:Nat}{d e:Option (List gH)}(hr:H.t.get r=some (.deferred d)):∀(l:List ResultVar) vs,nQ C H tm l=some vs->nQ C (setBlk H r (.deferred e)) tm l=some vs:=by
 intro l vs h;refine dX l (fun rv v h=>?_) h
 cases rv with
 | tmp t=>exact h
 | cell a t=>
  have h:(ob (ob (tm.get a) zA.asPtr) fun p=>ob (C.tys.get t) fun ty=>ob (uD H p.1) fun c=>fM ty c.1 p.2)=some v:=h
  show(ob (ob (tm.get a) zA.asPtr) fun p=>ob (C.tys.get t) fun ty=>ob (uD (setBlk H r (.deferred e)) p.1) fun c=>fM ty c.1 p.2)=some v
  simp only[sA]at h ⊢
  obtain⟨p,hp,ty,ht,c,hc,hv⟩:=h
  refine⟨p,hp,ty,ht,c,?_,hv⟩
  unfold uD at hc ⊢
  rw[sA]at hc ⊢
  obtain⟨y,h1,h2⟩:=hc
  refine⟨y,?_,h2⟩
  show(H.t.set r (.deferred e)).get p.1=some y
  rw[Tr.get_set,if_neg fun e=>by rw[e,hr]at h1;cases h1;cases h2]
  exact h1
theorem z3s{f N:Nat}{acs:List iB}:zt8 C (z9w C f acs) (fun _=>True) f N none acs:=by
 refine⟨?_,fun _ _=>trivial,?_⟩
 ·rintro ds todo tm H x ⟨fr',h1,h2⟩
  cases h1;have:=h2.1
  cases this
 ·rintro _ r ds o x ⟨fr',rfl,h1,h2,h3,h4,fn,l,h5,h6,h7⟩ hd
  obtain⟨todo,tm,ffn,n,defers,mode,deferred,round⟩:=fr'
  simp only at h1 h2 h3 h4 h6
  subst h1 h2 h3 h4
  have hr:x.2.t.get r=some (.deferred (some [])):=by
   unfold dP at hd;rw[xB,sA]at hd;obtain⟨_,y,e1,e2⟩:=hd
   cases y<;>cases e2
   exact e1
  refine⟨_,.step ?_,⟨⟨todo,tm,⟨ffn,n,ds,.returning,false,round⟩⟩,rfl,rfl,rfl,rfl,rfl,fn,l,h5,zm6 hr _ _ h6,h7⟩⟩
  show nJ C (zjg C ⟨none,r,[]⟩ ds ⟨todo,tm,⟨ffn,n,⟨none,r,[]⟩::ds,.returning,false,round⟩⟩ acs x.2) _
  unfold zjg;simp only[hd,uA];exact .refl _
theorem zrg{f:Nat}{fn:Func}{acs:List iB}{x:zA × xA}{ds:List gH}(hf:C.fns.get f=some fn){tm:Tm}{H:xA}(h:endK C fn tm H=some x){todo:List oD}{N:Nat}
  (hs:dL C todo tm (RR f N none ds) acs H=.next ⟨zc1 ⟨todo,tm,RR f N none ds⟩ .returning,acs,H⟩):Fin C (z9w C f acs) ds (.next ⟨⟨todo,tm,RR f N none ds⟩,acs,H⟩) x:=by
 unfold endK at h;rw[sA]at h;obtain⟨l,h1,h2⟩:=h
 cases h2;refine .step ?_
 rw[lI rfl,hs];exact⟨_,.refl _,_,rfl,rfl,rfl,rfl,rfl,fn,l,hf,h1,rfl⟩
def RdG (l:Nat)(c:iB):zA × xA->Prop:=fun x=>∃b r2 c',x.1=.bool b/\yI x.2 l=some r2/\qG c (.bool b)=some c'
def RdEnd(l:Nat)(c:iB)(acs:List iB):z6w:=fun _ o x=>∃b r2 c',x.1=.bool b/\yI x.2 l=some r2/\qG c (.bool b)=some c'/\o=.next ⟨c',acs,setBlk x.2 l (.loop (zh5 b r2))⟩
theorem len_ne{α:Type}{a:α}{l:List α}:l≠a::l:=fun e=>by have:=congrArg List.length e;simp at this
theorem zt0{C:pA}{φ:Ora}{all:Array Oper}{n:Nat}{κn:Tm->xA->vB}:∀(l:List Oper) (tm:Tm) (H1:xA) (x:zA × xA),vW l=true->iJ C φ all n κn l tm H1=some x->∃tm',κn tm' H1=some x/\∀(k:List oD) (R:aH) (cs:List iB) (H:xA),R.n=n->yO C all k R cs l tm H=xGo k tm' R cs H:=by
 intro l;induction l with
 | nil=>intro tm H1 x _ h;exact⟨tm,h,fun _ _ _ _ _=>rfl⟩
 | cons o l ih=>
  intro tm H1 x hp h;have hp:(bif (match o.op with | .move _=>fG o.guard | .assign _=>fG o.guard | _=>false)then vW l else false)=true:=hp
  have hp1:(match o.op with | .move _=>fG o.guard | .assign _=>fG o.guard | _=>false)=true:=by
   cases hx:(match o.op with | .move _=>fG o.guard | .assign _=>fG o.guard | _=>false)with
   | true=>rfl
   | false=>rw[hx]at hp;cases hp
  rw[hp1]at hp;have hp:vW l=true:=hp
  have hmv:∃u,(∀H,(cE o.op).f C (.now tm) H=lv (sO u) C (.now tm) H)/\fG o.guard=true:=by
   cases ho:o.op<;>rw[ho]at hp1<;>first
    | (cases hp1;done)
    | exact⟨_,fun _=>rfl,hp1⟩
  obtain⟨u,hu,hg⟩:=hmv
  have hw:nE o.guard all tm=some true:=by
   cases hx:o.guard with
   | none=>rfl
   | some g=>rw[hx]at hg;cases hg
  rw[xT,hw,uA,if_pos rfl,hu]at h
  cases hv:ev u (.now tm)with
  | none=>
   have:lv (sO u) C (.now tm) H1=.fail:=by unfold lv sO;rw[hv]
   rw[this]at h;cases h
  | some v=>
   have hval:∀H,lv (sO u) C (.now tm) H=.val v H:=fun H=>by unfold lv sO;rw[hv]
   rw[hval]at h;simp only[tF,kK]at h;obtain⟨tm',h1,h2⟩:=ih _ _ _ hp h.2
   refine⟨tm',h1,fun k R cs H hR=>?_⟩
   rw[sZ,hw];simp only[];rw[hu,hval];simp only[nI.asVal];rw[hR];exact h2 k R cs H hR
theorem zjw{φ:Ora}(hφ:vQ C φ){l:Nat}{args:List zA}{H:xA}{x:zA × xA}(h:zc5 C A φ l args H=some x) :
  ∃r tm,yI H l=some r/\pQ r.n r.params args r.tm=some tm/\∀c acs c',qG c x.1=some c'->nJ C (.next ⟨zm5 r l tm,c::acs,H⟩) (.next ⟨c',acs,x.2⟩):=by
 obtain⟨r,tm,cc,q,y,r2,b,h1,h2,h3,h4,⟨q1,q2,q3,q4,q5,q6⟩,h5,h6,h7,rfl⟩:=pU.1 h
 refine⟨r,tm,h1,h2,fun c acs c' hc=>?_⟩
 have h5:iJ C φ q.ops r.n (vD C φ r.fn r.n q.c rdK) q.ops.toList tm.cut (setBlk H l (.loop (zow r)))=some y:=h5
 obtain⟨tm',h8,h9⟩:=zt0 _ _ _ _ q5 h5
 unfold zm5;rw[q1,q2];refine .step ?_
 rw[lI rfl];show nJ C (yO C q.ops _ _ _ q.ops.toList tm.cut H) _
 rw[h9 _ _ _ _ rfl];refine .step ?_
 show nJ C (dL C (.beginRound::[.code (eE q.c)]) tm' ⟨r.fn,r.n,[],.run,false,some l⟩ (c::acs) H) _
 have hb:dL C (.beginRound::[.code (eE q.c)]) tm' ⟨r.fn,r.n,[],.run,false,some l⟩ (c::acs) H=.next ⟨⟨[.code (eE q.c)],tm',RR r.fn r.n (some l) []⟩,c::acs,setBlk H l (.loop (zow r))⟩:=by
  show zi2 C [.code (eE q.c)] tm' _ (c::acs) H=_
  unfold zi2;simp only[uA];rw[h1,uA,q4];rfl
 rw[hb];have hc:qG c (.bool b)=some c':=hc
 have hE:zt8 C (RdEnd l c acs) (RdG l c) r.fn r.n (some l) (c::acs):=by
  refine⟨?_,fun e=>(by cases e),fun e=>(by cases e)⟩
  rintro ds todo tm H x ⟨b,r2,c',_,_,_,e⟩
  injection e with e
  injection e with _ e _
  exact len_ne e.symm
 have hK:zru C (RdEnd l c acs) (RdG l c) r.fn r.n (some l) (c::acs) rdK []:=by
  refine⟨?_,fun _ _ _ _ _ _ h=>(by cases h),?_⟩
  ·rintro ds x tm H ⟨b,r2,c',g1,g2,g3⟩ h
   cases h
   cases g1
   refine .step ?_
   rw[lI rfl];have:dL C [] tm (RR r.fn r.n (some l) ds) (c::acs) H=.next ⟨c',acs,setBlk H l (.loop (zh5 true r2))⟩:=by
    have e0:dL C [] tm (RR r.fn r.n (some l) ds) (c::acs) H=eM none C ⟨[],tm,RR r.fn r.n (some l) ds⟩ (c::acs) H:=rfl
    rw[e0];unfold eM;simp only[g2,uA];show eI (ob (qG c (.bool true)) _) 7=_
    rw[g3];rfl
   rw[this];exact⟨_,.refl _,true,r2,c',rfl,g2,g3,rfl⟩
  ·rintro ds x tm H ⟨b,r2,c',g1,g2,g3⟩ h k'
   cases h
   cases g1
   refine .step ?_
   rw[lI rfl];have:dL C (.code .ret::k') tm (RR r.fn r.n (some l) ds) (c::acs) H=.next ⟨c',acs,setBlk H l (.loop (zh5 false r2))⟩:=by
    have e0:dL C (.code .ret::k') tm (RR r.fn r.n (some l) ds) (c::acs) H=eM (some .ret) C ⟨.code .ret::k',tm,RR r.fn r.n (some l) ds⟩ (c::acs) H:=rfl
    rw[e0];unfold eM;simp only[g2,uA];show eI (ob (qG c (.bool false)) _) 7=_
    rw[g3];rfl
   rw[this];exact⟨_,.refl _,false,r2,c',rfl,g2,g3,rfl⟩
 obtain⟨o',k1,b',r2',c'',k2,k3,k4,rfl⟩:=zlf hφ hE q.c rdK [] (Or.inr q6) hK [] y tm' _ ⟨b,r2,c',h7,h6,hc⟩ h8
 rw[h7]at k2;cases k2
 rw[h6]at k3;cases k3
 rw[hc]at k4;cases k4
 exact k1
theorem zmy(hA:zU C A){φ:Ora}(hφ:vQ C φ):vQ C (zmz C A φ):=by
 refine⟨fun f args H x h=>?_,fun l args H x h=>zjw hφ h⟩
 have h:zuf C A φ f args H=some x:=h
 unfold zuf at h;rw[sA]at h;obtain⟨c,h1,h⟩:=h
 rw[sA]at h;obtain⟨fn,h2,h⟩:=h
 rw[sA]at h;obtain⟨g,h3,h⟩:=h
 refine⟨g,h3,fun acs=>?_⟩
 obtain⟨fn',c',e1,e2,e3,e4⟩:=zog h3
 rw[h2]at e1;cases e1
 obtain⟨fn',e5,e6⟩:=hA f c h1
 rw[h2]at e5;cases e5
 rw[e2]at e6;cases e6
 obtain⟨gt,gtm,gR⟩:=g
 simp only at e3 e4 h
 subst e3 e4
 have hK:zru C (z9w C f acs) (fun _=>True) f fn.ntmps none acs (z06 C fn) []:=⟨fun ds x tm H _ h=>zrg h2 h rfl,fun ds x i tm H _ h=>(by cases h),fun ds x tm H _ h k'=>zrg h2 h rfl⟩
 obtain⟨o',k1,fr',rfl,k2⟩:=zlf hφ z3s c (z06 C fn) [] (Or.inl rfl) hK [] x gtm H trivial h
 exact⟨fr',k1,k2⟩
theorem zf5(hA:zU C A):∀n,vQ C (z5s C A n):=by
 intro n;induction n with
 | zero=>exact⟨fun f args H x h=>(by cases h),fun l args H x h=>(by cases h)⟩
 | succ n ih=>exact zmy hA ih
theorem zzc(hA:zU C A):vQ C (bC C A):=by
 refine⟨fun f args H x h=>?_,fun f args H x h=>?_⟩
 ·obtain⟨n,hn⟩:=oT.1 h
  exact(zf5 hA n).fn _ _ _ _ hn
 ·obtain⟨n,hn⟩:=oT.1 h
  exact(zf5 hA n).rd _ _ _ _ hn
theorem zll{P:Program}{B N:Nat}{I:World->Prop}{μ:Mu}{w:World}(hS:Sim P C B N I)(hI:I w)(hA:zU C A){f:Nat}{args:List zA}{args':Array Value}{H H':xA}{v:zA}(hH:aA B N μ H w)(hl:yB μ args args'.toList)
  (h:bC C A (.func f) args H=some (v,H')):Calls P f args' w fun e w'=>∃v' μ',e=.returned v'/\μ.lw μ'/\vA μ' v v'/\aA B N μ' H' w'/\Below N w w':=by
 intro base;obtain⟨g,he,hr⟩:=(zzc hA).fn _ _ _ _ h
 obtain⟨fr',r1,h1,h2,h3,h4,fn,l,h5,h6,rfl⟩:=hr []
 have h0:aC P C B N μ base (lone (Frame.enter P f args' .normal) base w) w (.next ⟨g,[],H⟩):=zby hS.fns hH hl he
 obtain⟨μ',b,cs,w',s1,s2,s3,s4,s5,s6⟩:=aC.reach hS hI r1 h0
 cases s6
 have hb:=s5.body
 rw[if_neg (by rw[h1];simp[zfc.running])]at hb
 obtain⟨v',q1,q2⟩:=zfu hS.tys s4 hb h6
 have hm:=s5.rest.mode
 rw[h1]at hm;have hbm:b.mode=.returning:=by
  cases hb:b.mode with
  | returning=>rfl
  | _=>rw[hb]at hm;exact hm.elim
 have hd:=s5.rest.defers
 rw[h2]at hd;have hbd:b.defers=[]:=by
  generalize hx:b.defers=bd at hd
  cases hd;rfl
 have hk:=s5.rest.kind
 rw[h3]at hk;have hfn:b.fn=f:=by rw[s5.rest.fn,h4]
 exact⟨.returned v',w',b,⟨v',μ',rfl,s2,q2,s4,s3⟩,s1,hfn,hbm,hbd,hk,fn,by rw[hfn];exact(hS.fns _ _ h5).1,q1⟩
end
end Go.Am
namespace Go.Am
open Go Go.RowKit
def oA(C:pA)(t:Nat)(H:xA)(v:zA):Option zA:=ob v.asPtr fun p=>ob (C.tys.get t) fun ty=>ob (uD H p.1) fun c=>fM ty c.1 p.2
def nK(C:pA)(s d:Nat)(H:xA)(a:zA):Option zA:=ob (C.tys.get s) fun s=>ob (C.tys.get d) fun d=>bL C s d a H
def aF(C:pA)(t:Nat)(H:xA)(a:zA)(l h:Option zA):Option zA:=ob (C.tys.get t) fun ty=>zK C H ty a l h
def kV(C:pA)(s f:Nat):Option Nat:=ob (C.tys.get s) fun ty=>ob ty.desc.asStruct fun fs=>ob (mC fs f) fun fd=>iA (!Nat.beq fd.2.2 0) (some fd.1)
def rB(C:pA)(s f:Nat)(v:zA):Option zA:=ob (kV C s f) fun k=>ob v.asPtr fun p=>some (.ptr p.1 (p.2+k))
def lB(C:pA)(t:Nat)(v i:zA):Option zA:=
 ob (C.tys.get t) fun ty=>ob i.asNat fun i=>
  match v.asSlice with
  | some s=>ob ty.desc.asSlice fun el=>ob (C.tys.get el) fun et=>iA (Nat.blt i s.2.2.1) (some (.ptr s.1 (s.2.1+i*et.size)))
  | none=>ob v.asPtr fun p=>ob ty.desc.asArr fun a=>ob (C.tys.get a.2) fun et=>iA (Nat.blt i a.1) (some (.ptr p.1 (p.2+i*et.size)))
def zpb(C:pA)(t i:Nat):Option Nat:=ob (C.tys.get t) fun ty=>ob ty.desc.asArr fun a=>ob (C.tys.get a.2) fun et=>iA (Nat.blt i a.1) (some (i*et.size))
def aJ(C:pA)(t:Nat)(v i:zA):Option zA:=
 ob (C.tys.get t) fun ty=>ob i.asNat fun i=>
  match v.asStr with
  | some s=>iA ty.desc.isString (ob (mC s i) fun b=>some (.int .u8 (.ofNat b)))
  | none=>ob v.asAgg fun l=>ob ty.desc.asArr fun a=>ob (C.tys.get a.2) fun et=>iA (Nat.blt i a.1) (aK C a.2 l (i*et.size))
def sB(i:Nat)(v:zA):Option zA:=ob v.asTup fun l=>mC l i
def zuc (C:pA)(t:Nat)(H:xA)(v:zA):Option zA:=ob (C.tys.get t) fun ty=>ob (zue H ty v) fun n=>some (.int .i64 (.ofNat n))
def xC(v:zA):Option zA:=
 match v.asSlice with
 | some s=>some (.int .i64 (.ofNat s.2.2.1))
 | none=>iA (Nat.beq v.tag 5) (some (.int .i64 (.ofNat 0)))
def qC (v:zA):Option zA:=iA (Nat.beq v.tag 4||Nat.beq v.tag 9) (some v)
def zmm(C:pA)(u:Nat)(ok:Bool)(v:zA):Option zA:=
 ob (C.tys.get u) fun ty=>iA (Nat.blt ty.desc.tag 9) (
  match v.asIface with
  | some p=>bif Nat.beq p.1 u then some (bif ok then .tup [p.2,.bool true]else p.2)else iA ok (some (.tup [sN ty,.bool false]))
  | none=>iA (Nat.beq v.tag 12&&ok) (some (.tup [sN ty,.bool false])))
def kH(C:pA)(t:Nat)(H:xA)(m k:zA)(ok:Bool):Option zA:=
 ob (C.tys.get t) fun ty=>ob ty.desc.asMap fun ke=>ob (C.tys.get ke.1) fun kty=>iA (iN C kty) (ob (C.tys.get ke.2) fun ety=>
  ob (jM H m) fun es=>iA (fL C kty k) (ob (nH k es) fun r=>
   match r with
   | some v=>some (bif ok then .tup [v,.bool true]else v)
   | none=>some (bif ok then .tup [sN ety,.bool false]else sN ety)))
def dG(C:pA)(t:Nat)(H:xA):Option (zA × xA):=ob (C.tys.get t) fun ty=>some (.ptr H.next 0,dD H ty.zero none)
def zpc (v:zA)(H:xA):Option (zA × xA):=some (.ptr H.next 0,dD H v.cells none)
def zg6(C:pA)(t:Nat)(H:xA):Option (zA × xA):=ob (C.tys.get t) fun ty=>some (.ptr H.next 0,dD H ty.zero (mI C t))
def zr2(C:pA)(t:Nat)(v:zA)(H:xA):Option (zA × xA):=some (.ptr H.next 0,dD H v.cells (mI C t))
def jH(C:pA)(t len:Nat)(ps:List (Nat × zA))(H:xA):Option (zA × xA):=
 ob (C.tys.get t) fun ty=>ob ty.desc.asSlice fun el=>ob (C.tys.get el) fun et=>
  iA (Nat.blt (len*et.size) 1000000&&Nat.beq (dA et.zero) et.size) (ob (fJ (fun i=>some (i*et.size,et.size)) ps (gI et.zero len)) fun l=>some (.slice H.next 0 len len,dD H l none))
def dC(C:pA)(t:Nat)(a v:zA)(H:xA):Option (zA × xA):=ob (C.tys.get t) fun ty=>ob a.asPtr fun p=>iA (Nat.beq (dA v.cells) ty.size) (ob (uI C H p.1 p.2 v.cells) fun H'=>some (pD,H'))
def mV(H:xA):Option (zA × xA):=some (.map H.next,newBlk H (.map []))
def vI(C:pA)(t:Nat)(m k v:zA)(H:xA):Option (zA × xA):=
 ob (C.tys.get t) fun ty=>ob ty.desc.asMap fun ke=>ob (C.tys.get ke.1) fun kty=>iA (iN C kty)
  (ob m.asMap fun b=>iA (!Nat.blt b C.base) (ob (oG H b) fun l=>iA (fL C kty k) (ob (kG k v l) fun l'=>some (pD,setBlk H b (.map l')))))
def qN(C:pA)(t:Nat)(l c:zA)(H:xA):Option (zA × xA):=
 ob (C.tys.get t) fun ty=>ob ty.desc.asSlice fun el=>ob (C.tys.get el) fun et=>ob l.asNat fun l=>ob c.asNat fun c=>
  iA (Nat.ble l c&&Nat.blt c 1000000&&Nat.blt (c*et.bytes) 1000000000&&Nat.beq (dA et.zero) et.size) (some (.slice H.next 0 l c,dD H (gI et.zero c) none))
def zg4(C:pA)(s d:Nat)(v:zA)(H:xA):Option (zA × xA):=
 ob (C.tys.get s) fun _=>ob (C.tys.get d) fun ty=>ob ty.desc.asSlice fun el=>ob (C.tys.get el) fun et=>ob et.desc.asInt fun k=>iA (kEq k .u8) (ob v.asStr fun l=>
  some (.slice H.next 0 (dA l) (dA l),dD H (eO l) (some (.ty el))))
def zG(C:pA)(t u:Nat)(a b:zA)(H:xA):Option (zA × xA):=ob (C.tys.get t) fun ty=>ob (C.tys.get u) fun uty=>iA (!Nat.beq uty.desc.tag 1) (aP C H ty a b)
def vNext(v:zA)(H:xA):Option (zA × xA):=ob v.asPtr fun p=>iA (Nat.beq p.2 0) (ob (ob (H.t.get p.1) rA.asIter) fun x=>
 match mC x.1 x.2 with
 | some c=>iA (Nat.blt c 128) (some (.tup [.bool true,.int .i64 (.ofNat x.2),.int .i32 (.ofNat c)],setBlk H p.1 (.siter x.1 (x.2+1))))
 | none=>some (.tup [.bool false],H))
structure yP where
 b:Nat->Bool
 i:Nat->Int
 s:Nat->List Nat
 v:Nat->zA
inductive T where
 | ret (v:zA)
 | fail
 | ite (b:Bool) (x y:T)
 | opt (x:Option zA) (K:zA->T)
 | light (x:Tr rA->Option zA) (K:zA->T)
 | heavy (x:xA->Option (zA × xA)) (K:zA->T)
 | call (f:Nat) (args:List zA) (K:zA->T)
 | callv (f:zA) (args:List zA) (K:zA->T)
 | asI (k:IntKind) (v:zA) (K:Int->T)
 | asB (v:zA) (K:Bool->T)
 | asS (v:zA) (K:List Nat->T)
 | asG (zs:List zA) (v:zA) (K:yP->T)
 | jump (i:Nat) (vals:List zA)
 | range (np:Nat->Bool) (f:zA) (i m:Nat) (vals:List zA) (K R:T)
def yo:Nat:=1099511627776
def zkd(z:zA)(X:yP)(j:Nat):zA:=
 match z with
 | .bool _=>.bool (X.b j)
 | .int k _=>.int k (X.i j)
 | .str _=>.str (X.s j)
 | _=>X.v j
def jL(zs:List zA)(X:yP):Nat->List zA:=
 List.rec (motive:=fun _=>Nat->List zA) (fun _=>[]) (fun z _ g j=>zkd z X j::g (j+1)) zs
def cQ(l:List zA)(j:Nat):Bool:=match l[j]? with | some (.bool b)=>b | _=>false
def zyv(l:List zA)(j:Nat):Int:=match l[j]? with | some (.int _ n)=>n | _=>0
def z1t(l:List zA)(j:Nat):List Nat:=match l[j]? with | some (.str s)=>s | _=>[]
def zi9(l:List zA)(j:Nat):zA:=match l[j]? with | some v=>v | _=>.nilptr
def cellsOf(l:List zA):yP:=⟨cQ l,zyv l,z1t l,zi9 l⟩
def zug (z a:zA):Bool:=
 match z with
 | .bool _=>Nat.beq a.tag 0
 | .int k _=>match a.asIntK with | some p=>kEq p.1 k | none=>false
 | .str _=>Nat.beq a.tag 2
 | .nilptr=>Nat.beq a.tag 3||Nat.beq a.tag 4
 | .nilslice=>Nat.beq a.tag 5||Nat.beq a.tag 6
 | .nilmap=>Nat.beq a.tag 7||Nat.beq a.tag 8
 | .nilfunc=>Nat.beq a.tag 10||Nat.beq a.tag 9
 | .niliface=>Nat.beq a.tag 12||Nat.beq a.tag 11
 | _=>false
def vL:List zA->List zA->Bool
 | [],[]=>true
 | z::zs,a::l=>zug z a&&vL zs l
 | _,_=>false
structure mF where
 tm:Tm
 ad:List (Nat × Nat × Nat)
 lo:Tr (List zA)
 lit:List Nat
abbrev KT:=mF->T
structure KtT where
 norm:KT
 exit:Nat->KT
 ret:KT
def kB {α:Type}(x:Option α)(K:α->T):T:=Option.rec (motive:=fun _=>T) .fail K x
def gdT (b:Bool)(K:T):T:=Bool.rec (motive:=fun _=>T) .fail K b
def mH(i:Nat)(l:List (Nat × Nat × Nat)):Option (Nat × Nat):=
 List.rec (motive:=fun _=>Option (Nat × Nat)) none (fun a _ g=>Bool.rec (motive:=fun _=>Option (Nat × Nat)) g (some a.2) (Nat.beq i a.1)) l
inductive cJ where
 | now (ad:List (Nat × Nat × Nat))
 | mixed (ad old:List (Nat × Nat × Nat)) (olds names:List Nat)
def tAd (e:cJ)(t:Nat):Option (Nat × Nat):=
 match e with
 | .now ad=>mH t ad
 | .mixed ad old olds names=>bif iE t names then mH t (bif iE t olds then old else ad)else none
def xAd (e:cJ)(x:Operand):Option (Nat × Nat):=
 match x with
 | .tmp t=>tAd e t
 | _=>none
def H0A:xA:=⟨0,.leaf⟩
def tG (C:pA)(t:Nat):Nat:=
 match C.tys.get t with
 | some ty=>ty.desc.tag
 | none=>10
def zia(x:Operand):Bool:=
 match x with
 | .const _=>true
 | _=>false
def zz7(x:Operand):Bool:=
 match x with
 | .const (.int _ n) => !lA n 0
 | _=>false
def binDir(C:pA)(op:BinOp)(t:Nat)(y:Operand):Bool:=
 match op with
 | .add=>Nat.beq (tG C t) 1
 | .sub=>true
 | .mul=>true
 | .quo=>zz7 y
 | .rem=>zz7 y
 | .shl=>zia y
 | .shr=>zia y
 | .eql=>Nat.ble (tG C t) 2
 | .neq=>Nat.ble (tG C t) 2
 | .lss=>Nat.ble (tG C t) 2
 | .leq=>Nat.ble (tG C t) 2
 | .gtr=>Nat.ble (tG C t) 2
 | .geq=>Nat.ble (tG C t) 2
 | _=>false
structure KOp where
 K:zA->T
 Kd:zA->T
 KA:Nat->Nat->T
def zpj (C:pA)(op:Op)(e:pC)(k:KOp):T:=kB ((qE op).f C e H0A) k.Kd
def z1m(C:pA)(op:Op)(x:Operand)(e:pC)(ae:cJ)(k:KOp):T:=
 match xAd ae x with
 | some p=>k.KA p.1 p.2
 | none=>zpj C op e k
def tLoad(C:pA)(t:Nat)(a:Operand)(e:pC)(ae:cJ)(lo:Tr (List zA))(k:KOp):T:=
 match xAd ae a with
 | some p=>kB (lo.get p.1) fun l=>kB (C.tys.get t) fun ty=>gdT (Nat.ble (p.2+ty.size) (dA l)) (kB (aK C t l p.2) k.Kd)
 | none=>kB (ev a e) fun v=>.light (fun m=>oA C t ⟨0,m⟩ v) k.K
def zfk(C:pA)(s:Nat)(x:Operand)(f:Nat)(e:pC)(ae:cJ)(k:KOp):T:=
 match xAd ae x with
 | some p=>kB (kV C s f) fun o=>k.KA p.1 (p.2+o)
 | none=>kB (ev x e) fun v=>.opt (rB C s f v) k.K
def zfj(C:pA)(t:Nat)(x i:Operand)(e:pC)(ae:cJ)(k:KOp):T:=
 match xAd ae x with
 | some p=>kB (ev i e) fun i=>kB i.asNat fun i=>kB (zpb C t i) fun o=>k.KA p.1 (p.2+o)
 | none=>kB (ev x e) fun v=>kB (ev i e) fun i=>.opt (lB C t v i) k.K
def tNil (x:Operand)(e:pC)(ae:cJ)(k:KOp):T:=
 match xAd ae x with
 | some p=>k.KA p.1 p.2
 | none=>kB (ev x e) fun v=>.opt (qC v) k.K
def tLen (C:pA)(c:Call)(e:pC)(k:KOp):T:=
 kB (mC c.argTypes.toList 0) fun t=>kB (mC c.args.toList 0) fun x=>kB (ev x e) fun v=>
  bif Nat.beq (tG C t) 4 then .opt (xC v) k.K else bif Nat.beq (tG C t) 6 then .light (fun m=>zuc C t ⟨0,m⟩ v) k.K else kB (zuc C t H0A v) k.Kd
def tBin (C:pA)(op:BinOp)(t:Nat)(x y:Operand)(u:Nat)(e:pC)(k:KOp):T:=
 bif binDir C op t y then zpj C (.binOp op t x y u) e k else kB (ev x e) fun a=>kB (ev y e) fun b=>.opt ((binA op).f C t x y a b) k.K
def z7e(C:pA)(s d:Nat)(x:Operand)(e:pC)(k:KOp):T:=
 bif Nat.beq (tG C d) 2 then(bif Nat.beq (tG C s) 2 then zpj C (.convert s d x) e k else kB (ev x e) fun v=>.light (fun m=>nK C s d ⟨0,m⟩ v) k.K)else bif Nat.beq (tG C d) 1 then zpj C (.convert s d x) e k else .fail
def z5b(C:pA)(t:Nat)(x:Operand)(lo hi:Option Operand)(e:pC)(k:KOp):T:=
 kB (ev x e) fun a=>kB (evo lo e) fun l=>kB (evo hi e) fun h=>
  bif Nat.beq (tG C t) 2 then .opt (aF C t H0A a l h) k.K else .light (fun m=>aF C t ⟨0,m⟩ a l h) k.K
def gV(C:pA)(c:Call)(e:pC)(k:KOp):Builtin->T
 | .len=>tLen C c e k
 | .max=>zpj C (.call c) e k
 | .min=>zpj C (.call c) e k
 | _=>.fail
def zgp(ty:uC)(v:zA):List zA:=bif ty.desc.isAgg then v.cells else [v]
def z31(cells:List zA)(off size:Nat)(vc:List zA):Option (List zA):=
 iA (Nat.beq (dA vc) size&&Nat.ble (off+dA vc) (dA cells)) (some (eC (ze7 cells off) (eC vc (gL cells (off+dA vc)))))
def zw2(C:pA)(tyAt:Nat->Option Nat):List (Nat × zA)->Option (List (Nat × zA × List zA) × List zA):=
 List.rec (motive:=fun _=>Option (List (Nat × zA × List zA) × List zA)) (some ([],[]))
  (fun p _ g=>ob (tyAt p.1) fun t=>ob (C.tys.get t) fun ty=>ob g fun r=>some (bif ty.desc.isAgg then((p.1,p.2,p.2.cells)::r.1,r.2)else((p.1,p.2,[p.2])::r.1,p.2::r.2)))
def z32(place:Nat->Option (Nat × Nat)):List (Nat × zA × List zA)->List zA->Option (List zA):=
 List.rec (motive:=fun _=>List zA->Option (List zA)) (fun cells=>some cells) (fun p _ g cells=>ob (place p.1) fun q=>ob (z31 cells q.1 q.2 p.2.2) fun cells=>g cells)
def tyAtS(ty:uC)(i:Nat):Option Nat:=
 match ty.desc.asStruct with
 | some fs=>ob (mC fs i) fun x=>some x.2.1
 | none=>ob ty.desc.asArr fun a=>some a.2
def zf3(C:pA)(ty:uC)(i:Nat):Option (Nat × Nat):=
 match ty.desc.asStruct with
 | some fs=>ob (mC fs i) fun x=>some (x.1,x.2.2)
 | none=>ob ty.desc.asArr fun a=>ob (C.tys.get a.2) fun et=>some (i*et.size,et.size)
def zls(C:pA)(ty:uC):Bool:=
 match ty.desc.asStruct with
 | some _=>true
 | none=>match ty.desc.asArr with
  | some a=>(match C.tys.get a.2 with | some _=>true | none=>false)
  | none=>false
def z5d(C:pA)(t:Nat)(ps:Array (Nat × Operand))(e:pC)(k:KOp):T:=
 kB (C.tys.get t) fun ty=>gdT (zls C ty) <| kB (evp ps.toList e) fun vs=>kB (zw2 C (tyAtS ty) vs) fun q=>kB (z32 (zf3 C ty) q.1 ty.zero) fun l=>.ite (tC zA.one q.2) (k.Kd (.agg l)) .fail
def tL (C:pA)(op:Op)(e:pC)(ae:cJ)(lo:Tr (List zA))(k:KOp):T:=
 match op with
 | .move x=>z1m C (.move x) x e ae k
 | .assign x=>z1m C (.assign x) x e ae k
 | .load t a=>tLoad C t a e ae lo k
 | .fieldAddr s x f=>zfk C s x f e ae k
 | .indexAddr t x i=>zfj C t x i e ae k
 | .nilCheck x=>tNil x e ae k
 | .binOp op t x y u=>tBin C op t x y u e k
 | .convert s d x=>z7e C s d x e k
 | .slice t x lo hi none=>z5b C t x lo hi e k
 | .index t x i=>bif zia i&&Nat.beq (tG C t) 5 then zpj C (.index t x i) e k else kB (ev x e) fun v=>kB (ev i e) fun i=>.opt (aJ C t v i) k.K
 | .extract t i=>kB (ev t e) fun v=>.opt (sB i v) k.K
 | .typeAssert x _ u ok=>kB (ev x e) fun v=>.opt (zmm C u ok v) k.K
 | .lookup t x i ok=>kB (ev x e) fun m=>kB (ev i e) fun key=>.light (fun h=>kH C t ⟨0,h⟩ m key ok) k.K
 | .call c=>match c.callee with
  | .builtin b=>gV C c e k b
  | _=>.fail
 | .pick c a b=>zpj C (.pick c a b) e k
 | .unOp o t x=>(match o with
  | .xor=>kB (ev x e) fun v=>.opt (zmo v) k.K
  | o=>zpj C (.unOp o t x) e k)
 | .makeInterface t x=>zpj C (.makeInterface t x) e k
 | .makeFunc fn a b=>zpj C (.makeFunc fn a b) e k
 | .field t x f=>zpj C (.field t x f) e k
 | .build t ps=>z5d C t ps e k
 | _=>.fail
def laOf (la:List Nat)(dst:Option Nat):Option Nat:=
 match dst with
 | some d=>bif iE d la then some d else none
 | none=>none
structure KLo where
 new:Nat->List zA->T
 set:Nat->List zA->T
def z5c(f:Operand)(args:Array Operand)(e:pC)(k:KOp):T:=
 match f with
 | .func g=>gdT (Nat.blt g yo) (kB (evs args.toList e) fun aq=>.call g aq k.K)
 | f=>kB (ev f e) fun fv=>kB (evs args.toList e) fun aq=>.callv fv aq k.K
def two' (c:Call)(e:pC)(K:zA->zA->T):T:=kB (two c e) fun p=>K p.1 p.2
def zjk(C:pA)(c:Call)(e:pC)(k:KOp):Builtin->T
 | .append=>kB (mC c.argTypes.toList 0) fun t=>kB (mC c.argTypes.toList 1) fun u=>two' c e fun a b=>.heavy (zG C t u a b) k.K
 | b=>gV C c e k b
def z5a(C:pA)(t:Nat)(a x:Operand)(e:pC)(ae:cJ)(lo:Tr (List zA))(k:KOp)(kl:KLo):T:=
 match xAd ae a with
 | some p=>kB (ev x e) fun v=>kB (C.tys.get t) fun ty=>kB (lo.get p.1) fun l=>kB (z31 l p.2 ty.size (zgp ty v)) fun l'=>.ite (tC zA.one (zgp ty v)) (kl.set p.1 l') .fail
 | none=>kB (ev a e) fun a=>kB (ev x e) fun v=>.heavy (dC C t a v) k.Kd
def tH (C:pA)(la:List Nat)(dst:Option Nat)(op:Op)(e:pC)(ae:cJ)(lo:Tr (List zA))(k:KOp)(kl:KLo):T:=
 match op with
 | .box t x=>bif fG (mI C t)then kB (ev x e) fun v=>(match laOf la dst with
  | some d=>kB (C.tys.get t) fun ty=>bif ty.desc.isAgg then kl.new d v.cells else .ite (zA.one v) (kl.new d [v]) .fail
  | none=>.heavy (zpc v) k.K)else kB (ev x e) fun v=>.heavy (zr2 C t v) k.K
 | .alloc t=>bif fG (mI C t)then(match laOf la dst with
  | some d=>kB (C.tys.get t) fun ty=>kl.new d ty.zero
  | none=>.heavy (dG C t) k.K)else .heavy (zg6 C t) k.K
 | .store t a x=>z5a C t a x e ae lo k kl
 | .buildSlice t len ps=>kB (evp ps.toList e) fun ps=>.heavy (jH C t len ps) k.K
 | .makeMap _ none=>.heavy mV k.K
 | .insert t m key x=>kB (ev m e) fun m=>kB (ev key e) fun key=>kB (ev x e) fun v=>.heavy (vI C t m key v) k.Kd
 | .mapUpdate t m key x=>kB (ev m e) fun m=>kB (ev key e) fun key=>kB (ev x e) fun v=>.heavy (vI C t m key v) k.Kd
 | .makeSlice t l c=>kB (ev l e) fun l=>kB (ev c e) fun c=>.heavy (qN C t l c) k.K
 | .convert s d x=>bif Nat.beq (tG C d) 4 then kB (ev x e) fun v=>.heavy (zg4 C s d v) k.K else z7e C s d x e k
 | .call c=>match c.callee with
  | .value f=>z5c f c.args e k
  | .builtin b=>zjk C c e k b
  | _=>.fail
 | op=>tL C op e ae lo k
def rmNat(i:Nat)(l:List Nat):List Nat:=List.rec (motive:=fun _=>List Nat) [] (fun j _ g=>bif Nat.beq i j then g else j::g) l
def zph (n:Nat)(dst:Option Nat)(v:zA)(lt:Bool)(st:mF)(κ:KT):T:=
 match dst with
 | none=>κ st
 | some d=>bif Nat.blt d n then gdT (fG (mH d st.ad)) (κ ⟨st.tm.set d v,st.ad,st.lo,bif lt then d::rmNat d st.lit else rmNat d st.lit⟩)else κ st
def z7b(n:Nat)(dst:Option Nat)(d off:Nat)(st:mF)(κ:KT):T:=
 kB dst fun i=>gdT (Nat.blt i n) (gdT (fG (st.tm.get i)) (κ ⟨st.tm,(i,d,off)::st.ad,st.lo,st.lit⟩))
def z5t(d:Nat)(ad:List (Nat × Nat × Nat)):Bool:=tC (fun a=>bif Nat.beq a.2.1 d then Nat.beq a.1 d else true) ad
def tNew (n:Nat)(d:Nat)(l:List zA)(st:mF)(κ:KT):T:=
 gdT (Nat.blt d n) (gdT (fG (st.tm.get d)) (gdT (z5t d st.ad) (κ ⟨st.tm,(d,d,0)::st.ad,st.lo.set d l,st.lit⟩)))
def fitB (C:pA)(t:Nat)(v:zA):Bool:=
 match C.tys.get t with
 | some ty=>(match ty.desc with
  | .bool=>Nat.beq v.tag 0
  | .int k=>(match v.asIntK with | some p=>kEq p.1 k | none=>false)
  | .string=>Nat.beq v.tag 2
  | _=>true)
 | none=>true
def zvi(C:pA)(t:Nat)(v:zA)(K:zA->T):T:=
 match C.tys.get t with
 | some ty=>(match ty.desc with
  | .bool=>.asB v fun b=>K (.bool b)
  | .int k=>.asI k v fun n=>K (.int k n)
  | .string=>.asS v fun s=>K (.str s)
  | .struct _=>bif Nat.ble (dA ty.zero) 40 then .asG ty.zero v fun X=>K (.agg (jL ty.zero X 0))else K v
  | .arr _ _=>bif Nat.ble (dA ty.zero) 40 then .asG ty.zero v fun X=>K (.agg (jL ty.zero X 0))else K v
  | _=>K v)
 | none=>K v
def z5v (x:Operand)(lit:List Nat):Bool:=
 match x with
 | .tmp t=>lit.contains t
 | .const _=>true
 | _=>false
def z2x(op:Op)(e:pC)(lit:List Nat):Bool:=
 match op with
 | .move x=>z5v x lit
 | .assign x=>z5v x lit
 | .unOp _ _ x=>z5v x lit
 | .pick c a b=>bif z5v c lit then(match ob (ev c e) zA.asBool with
  | some w=>bif w then z5v a lit else z5v b lit
  | none=>false)else false
 | _=>false
def zh9(all:List Oper)(dst:Option Nat)(l:List Oper):Bool:=
 match dst with
 | none=>false
 | some d => !tC (fun o=>match o.guard with
  | some g=>(match ob (mC all g.1) fun p=>p.dst with | some i => !Nat.beq i d | none=>true)
  | none=>true) l
def zfi(g lt:Bool)(v:zA)(K:zA->Bool->T):T:=
 bif g then(bif lt then K v true else kB v.asBool fun b=>.ite b (K (.bool true) true) (K (.bool false) true))else K v lt
def kop (C:pA)(all:Array Oper)(n:Nat)(o:Oper)(e:pC)(st:mF)(κ:KT):KOp:=
 ⟨fun v=>zvi C o.type v fun v=>zfi (zh9 all.toList o.dst all.toList) (z2x o.op e st.lit) v fun v lt=>zph n o.dst v lt st κ,
  fun v=>gdT (fitB C o.type v) (zfi (zh9 all.toList o.dst all.toList) (z2x o.op e st.lit) v fun v lt=>zph n o.dst v lt st κ),
  fun d off=>gdT (!Nat.ble (tG C o.type) 2) (z7b n o.dst d off st κ)⟩
def klo (C:pA)(n:Nat)(o:Oper)(st:mF)(κ:KT):KLo:=
 ⟨fun d l=>gdT (!Nat.ble (tG C o.type) 2) (tNew n d l st κ),
  fun d l=>gdT (fitB C o.type pD) (zph n o.dst pD false ⟨st.tm,st.ad,st.lo.set d l,st.lit⟩ κ)⟩
def pC.adCut(k:Nat)(l:List (Nat × Nat × Nat)):List (Nat × Nat × Nat):=l.filter fun a=>Nat.blt a.1 k
def mF.cut(st:mF):mF:=⟨st.tm.cut,pC.adCut st.tm.k st.ad,st.lo,st.lit⟩
def tops (C:pA)(la:List Nat)(all:Array Oper)(n:Nat)(κ:KT)(l:List Oper):KT:=
 List.rec (motive:=fun _=>KT) κ
  (fun o _ g st=>kB (nE o.guard all st.tm) fun w=>Bool.rec (motive:=fun _=>T) (zph n o.dst pD false st g)
   (tH C la o.dst o.op (.now st.tm) (.now st.ad) st.lo (kop C all n o (.now st.tm) st g) (klo C n o st g)) w) l
def zns (st old:mF)(olds:List Nat)(op:Op):pC:=.mixed st.tm old.tm olds (eF op)
def z2s (st old:mF)(olds:List Nat)(op:Op):cJ:=.mixed st.ad old.ad olds (eF op)
def oM(C:pA)(all:Array Oper)(n:Nat)(old:mF)(olds:List (Nat × List Nat))(κ:KT)(l:List Nat):KT:=
 List.rec (motive:=fun _=>KT) κ
  (fun i _ g st=>kB (mC all.toList i) fun o=>kB (nE o.guard all st.tm) fun w=>Bool.rec (motive:=fun _=>T) (zph n o.dst pD false st g)
   (tL C o.op (zns st old (lD i olds) o.op) (z2s st old (lD i olds) o.op) st.lo (kop C all n o (zns st old (lD i olds) o.op) st g)) w) l
def tP(C:pA)(all:Array Oper)(old:mF)(olds:List (Nat × List Nat))(st:mF)(k:T)(l:List Nat):T:=
 List.rec (motive:=fun _=>T) k
  (fun i _ g=>kB (mC all.toList i) fun o=>kB o.dst fun d=>kB (nE o.guard all st.tm) fun w=>Bool.rec (motive:=fun _=>T) g
   (kB (st.tm.get d) fun u=>gdT (fitB C o.type u) (tL C o.op (zns st old (lD i olds) o.op) (z2s st old (lD i olds) o.op) st.lo ⟨fun v=>.ite (same 10 v u) g .fail,fun v=>.ite (same 10 v u) g .fail,fun _ _=>.fail⟩)) w) l
def uP(C:pA)(es:List Eff)(H:xA):Option (zA × xA):=ob (fP C es H) fun H'=>some (pD,H')
def tEff (op:Op)(e:pC)(ae:cJ):Option Eff:=
 match op with
 | .store t a x=>(match xAd ae a with
  | some _=>none
  | none=>gO (.store t a x) e)
 | op=>gO op e
def z1o(all:Array Oper)(old:mF)(olds:List (Nat × List Nat))(st:mF)(l:List Nat):Option (List Eff):=
 qF (fun i=>ob (mC all.toList i) fun o=>ob (nE o.guard all st.tm) fun w=>iA w (tEff o.op (zns st old (lD i olds) o.op) (z2s st old (lD i olds) o.op))) l
def rR(C:pA)(all:Array Oper)(n:Nat)(old:mF)(olds:List (Nat × List Nat))(κ:KT)(l:List wE):KT:=
 List.rec (motive:=fun _=>KT) κ
  (fun s _ g st=>Bool.rec (motive:=fun _=>T) (kB (mC all.toList (hvI all s.heavy)) fun o=>kB (zO C all s.heavy o st.tm) fun w=>
   (fun cont:KT=>Bool.rec (motive:=fun _=>T) (zph n o.dst pD false st cont)
    (tH C [] o.dst o.op (zns st old (lD (hvI all s.heavy) olds) o.op) (z2s st old (lD (hvI all s.heavy) olds) o.op) st.lo (kop C all n o (zns st old (lD (hvI all s.heavy) olds) o.op) st cont) (klo C n o st cont)) w)
   (fun st'=>tP C all old olds st' (oM C all n old olds g s.lights st') s.again))
   (gdT (mP C all) (kB (z1o all old olds st s.again) fun es=>.heavy (uP C es) fun _=>oM C all n old olds g s.lights st)) (gN all s)) l
def zu7(C:pA)(la:List Nat)(fn n:Nat)(κ:KT)(id:Nat)(all:Array Oper)(draw:Bool):KT:=
 Bool.rec (motive:=fun _=>KT) (fun st=>tops C la all n κ all.toList st.cut)
  (fun st=>kB (ob (C.plans.get fn) fun t=>t.get id) fun p=>gdT (kN all p) (oM C all n st.cut p.olds (rR C all n st.cut p.olds κ p.stages) p.first st.cut)) draw
def zfg(st:mF)(ll:List (Nat × Nat)):Option (List zA):=
 List.rec (motive:=fun _=>Option (List zA)) (some []) (fun p _ g=>ob (mH p.1 st.ad) fun a=>iA (Nat.beq a.1 p.1&&Nat.beq a.2 0) (ob (st.lo.get p.1) fun l=>iA (Nat.beq (dA l) p.2) (ob g fun r=>some (eC l r)))) ll
def zff(p:PI)(st:mF):Option (List zA):=ob (qF (fun i=>st.tm.get i) p.pl) fun a=>ob (zfg st p.ll) fun b=>some (eC a b)
def z08 (ll:List (Nat × Nat)):List zA->Tr (List zA):=
 List.rec (motive:=fun _=>List zA->Tr (List zA)) (fun _=>.leaf) (fun p _ g vals=>(g (gL vals p.2)).set p.1 (ze7 vals p.2)) ll
def zl7 (pl:List Nat):List zA->Tr zA:=
 List.rec (motive:=fun _=>List zA->Tr zA) (fun _=>.leaf) (fun i _ g vals=>List.rec (motive:=fun _=>Tr zA) .leaf (fun v vals _=>(g vals).set i v) vals) pl
def stAd (ll:List (Nat × Nat)):List (Nat × Nat × Nat):=List.rec (motive:=fun _=>List (Nat × Nat × Nat)) [] (fun p _ g=>(p.1,p.1,0)::g) ll
def zud (k:Nat)(p:PI)(vals:List zA):mF:=⟨⟨k,zl7 p.pl vals,[]⟩,stAd p.ll,z08 p.ll (gL vals (dA p.pl)),[]⟩
def npC (C:pA)(g:Nat):Bool:=fG (C.prims.get g)
def z5n(pl:List Nat)(st:mF):Option (List zA):=qF (fun i=>st.tm.get i) pl
def zwr(k n:Nat)(pl ps:List Nat)(ops:List Oper)(c:tD):Bool:=
 tC (fun p=>Nat.blt p k&&Nat.blt p n && !iE p pl) ps&&Nat.ble (dA ps) 1&&vW ops&&(match mM c with | []=>true | _=>false)
def rdT:KtT:=⟨fun _=>.ret (.bool true),fun _ _=>.fail,fun _=>.ret (.bool false)⟩
def zwq(C:pA)(n:Nat)(κ:KtT)(i:Nat)(pl:List Nat)(f:Operand)(ps:List Nat)(ops:List Oper)(c:tD)(st:mF):T:=
 gdT (zwr st.tm.k n pl ps ops c) (kB (z5n pl st) fun vals=>kB (ev f (.now st.tm)) fun fv=>.range (npC C) fv i (dA ps) vals (κ.norm st) (κ.ret st))
def zmr (C:pA)(la:List Nat)(fn n:Nat)(c:tD):KtT->KT:=
 tD.rec (motive:=fun _=>KtT->KT)
  (fun κ st=>κ.norm st)
  (fun id all draw κ=>zu7 C la fn n κ.norm id all draw)
  (fun _ _ ga gb κ=>ga ⟨gb κ,κ.exit,κ.ret⟩)
  (fun c _ _ gx gy κ st=>kB (ob (ev c (.now st.tm)) zA.asBool) fun b=>bif z5v c st.lit then Bool.rec (motive:=fun _=>T) (gy κ st) (gx κ st) b else .ite b (gx κ st) (gy κ st))
  (fun id _ g κ=>g ⟨κ.norm,fun i st=>Bool.rec (motive:=fun _=>T) (κ.exit i st) (κ.norm st) (Nat.beq id i),κ.ret⟩)
  (fun p _ _ _ st=>kB (zff p st) fun vals=>.jump p.id vals)
  (fun id κ st=>κ.exit id st)
  (fun κ st=>κ.ret st)
  (fun p _ _ _ st=>kB (zff p st) fun vals=>.jump p.id vals)
  (fun i pl f ps _ ops c _ κ st=>zwq C n κ i pl f ps.toList ops.toList c st) c
structure PtT where
 p:PI
 tree:List zA->T
def zs8(p:PI):KT:=fun st=>kB (zff p st) fun vals=>.jump p.id vals
def lR(C:pA)(la:List Nat)(fn n k:Nat)(c:tD):KtT->List PtT:=
 tD.rec (motive:=fun _=>KtT->List PtT)
  (fun _=>[])
  (fun _ _ _ _=>[])
  (fun _ b ga gb κ=>eC (ga ⟨zmr C la fn n b κ,κ.exit,κ.ret⟩) (gb κ))
  (fun _ _ _ gx gy κ=>eC (gx κ) (gy κ))
  (fun id _ g κ=>g ⟨κ.norm,fun i st=>Bool.rec (motive:=fun _=>T) (κ.exit i st) (κ.norm st) (Nat.beq id i),κ.ret⟩)
  (fun p c g κ=>⟨p,fun vals=>zmr C la fn n c ⟨zs8 p,κ.exit,κ.ret⟩ (zud k p vals)⟩::g ⟨zs8 p,κ.exit,κ.ret⟩)
  (fun _ _=>[])
  (fun _=>[])
  (fun p c g κ=>⟨p,fun vals=>zmr C la fn n c κ (zud k p vals)⟩::g κ)
  (fun i pl _ ps id ops c g _=>⟨⟨i,eC pl ps.toList,[]⟩,fun vals=>zmr C la fn n (.seq (.region id ops false) c) rdT (zud k ⟨i,eC pl ps.toList,[]⟩ vals)⟩::g rdT) c
def resT (C:pA)(st:mF)(l:List ResultVar):(List zA->T)->T:=
 List.rec (motive:=fun _=>(List zA->T)->T) (fun K=>K [])
  (fun r _ g K=>match r with
   | .tmp t=>kB (st.tm.get t) fun v=>g fun l=>K (v::l)
   | .cell a t=>match mH a st.ad with
    | some p=>kB (st.lo.get p.1) fun l=>kB (C.tys.get t) fun ty=>gdT (Nat.ble (p.2+ty.size) (dA l)) (kB (aK C t l p.2) fun v=>g fun l=>K (v::l))
    | none=>kB (st.tm.get a) fun a=>.light (fun m=>oA C t ⟨0,m⟩ a) fun v=>g fun l=>K (v::l)) l
def endT (C:pA)(fn:Func):KT:=fun st=>resT C st fn.results.toList fun l=>.ret (cS l)
def topT (C:pA)(fn:Func):KtT:=⟨endT C fn,fun _ _=>.fail,endT C fn⟩
structure uB where
 code:tD
 la:List Nat
def entT (C:pA)(fn:Func)(k:Nat)(f:Nat)(A:uB)(args:List zA):T:=zmr C A.la f fn.ntmps A.code (topT C fn) ⟨⟨k,Tr.ofList args,[]⟩,[],.leaf,[]⟩
def ptsT (C:pA)(fn:Func)(k:Nat)(f:Nat)(A:uB):List PtT:=lR C A.la f fn.ntmps k A.code (topT C fn)
def zsq(l:List PtT)(i:Nat)(vals:List zA):List T:=List.rec (motive:=fun _=>List T) [] (fun p _ g=>bif Nat.beq p.p.id i then p.tree vals::g else g) l
end Go.Am
namespace Go.Am
open Go Go.RowKit
def rE {α:Type}(x:Option α)(P:α->Prop):Prop:=
 match x with
 | some a=>P a
 | none=>False
theorem vO{α:Type}{x:Option α}{P:α->Prop}:rE x P ↔ ∃a,x=some a/\P a:=by
 cases x with
 | none=>simp[rE]
 | some a=>simp[rE]
@[simp] theorem tA {α:Type} {a:α} {P:α->Prop}:rE (some a) P=P a:=rfl
@[simp] theorem optP_none {α:Type} {P:α->Prop}:rE (none:Option α) P=False:=rfl
abbrev aB:=zA->Tr rA->Prop
abbrev rH:=Nat->List zA->Tr rA->aB->Prop
def z6k{α:Type}:List α->Bool | []=>true | _::_=>false
def bO(f:zA)(args:List zA):Option (Nat × List zA):=ob f.asFunc fun p=>match p.1 with
 | .func g=>iA (Nat.blt g yo) (some (g,eC (eC p.2.1 args) p.2.2))
 | .yld l=>iA (z6k p.2.1&&z6k p.2.2) (some (yo+l,args))
def kX(np:Nat->Bool)(f:zA)(l:Nat):Option (Nat × List zA):=ob f.asFunc fun p=>match p.1 with
 | .func g=>iA (Nat.blt g yo&&np g) (some (g,eC p.2.1 (.func (.yld l) [] []::p.2.2)))
 | .yld _=>none
def z8t (k:IntKind)(v:zA):Option Int:=ob v.asIntK fun p=>iA (kEq p.1 k) (some p.2)
def rK (zs:List zA)(v:zA):Option yP:=ob v.asAgg fun l=>iA (vL zs l) (some (cellsOf l))
def qA (base:Nat)(W:rH)(J:rH):T->Tr rA->aB->Prop
 | .ret v,t,Q=>Q v t
 | .fail,_,_=>False
 | .ite b x y,t,Q=>if b=true then qA base W J x t Q else qA base W J y t Q
 | .opt x K,t,Q=>rE x fun v=>qA base W J (K v) t Q
 | .light x K,t,Q=>rE (x t) fun v=>qA base W J (K v) t Q
 | .heavy x K,t,Q=>∀b,t.get b=none->base<=b->rE (x ⟨b,t⟩) fun p=>qA base W J (K p.1) p.2.t Q
 | .call f args K,t,Q=>W f args t fun v t'=>qA base W J (K v) t' Q
 | .callv f args K,t,Q=>rE (bO f args) fun p=>W p.1 p.2 t fun v t'=>qA base W J (K v) t' Q
 | .asI k v K,t,Q=>rE (z8t k v) fun n=>qA base W J (K n) t Q
 | .asB v K,t,Q=>rE v.asBool fun n=>qA base W J (K n) t Q
 | .asS v K,t,Q=>rE v.asStr fun n=>qA base W J (K n) t Q
 | .asG zs v K,t,Q=>rE (rK zs v) fun X=>qA base W J (K X) t Q
 | .jump i vals,t,Q=>J i vals t Q
 | .range np f i m vals K R,t,Q=>256<=base/\∀l r,t.get l=none->base<=l->r.state=.ready->r.pending=none →
   (∀args t1 Q1,args.length=m->t1.get l=some (.loop r)->J i (vals++args) (t1.del l) (fun v t2=>t2.get l=none->∃b,v=.bool b/\Q1 v (t2.set l (.loop (zh5 b r))))->W (yo+l) args t1 Q1) →
   rE (kX np f l) fun p=>W p.1 p.2 (t.set l (.loop r)) fun _ t'=>(t'.get l=some (.loop r)/\qA base W J K (t'.del l) Q)\/(t'.get l=some (.loop (zh5 false r))/\qA base W J R (t'.del l) Q)
abbrev Xt:=Nat->Option rA
def XLe (X Y:Xt):Prop:=∀b y,X b=some y->Y b=some y
theorem XLe.refl(X:Xt):XLe X X:=fun _ _ h=>h
theorem XLe.trans{X Y Z:Xt}(h:XLe X Y)(k:XLe Y Z):XLe X Z:=fun b y e=>k b y (h b y e)
structure Ov (base:Nat) (t:Tr rA) (X:Xt) (H:xA):Prop where
 base:base<=H.next
 same:∀b,X b=none->H.t.get b=t.get b
 ext:∀b y,X b=some y->H.t.get b=some y/\t.get b=none/\b<H.next
 lt:∀b y,t.get b=some y->b<H.next
def HLe (H H':xA):Prop:=∀b y,H.t.get b=some y->H'.t.get b=some y
def tN(e e':pC):Prop:=∀i v,z05 i e=some v->z05 i e'=some v
section
variable {base:Nat}{t:Tr rA}{X:Xt}{H HA:xA}{e e':pC}{C:pA}{v:zA}
theorem Ov.notX(h:Ov base t X HA){b:Nat}{y:rA}(hb:t.get b=some y):X b=none:=by
 cases hx:X b with
 | none=>rfl
 | some z=>have:=(h.ext b z hx).2.1;rw[hb]at this;cases this
theorem Ov.up(h:Ov base t X HA){b:Nat}{y:rA}(hb:t.get b=some y):HA.t.get b=some y:=by rw[h.same b (h.notX hb)];exact hb
theorem Ov.le(h:Ov base t X HA){n:Nat}:HLe ⟨n,t⟩ HA:=fun _ _ hb=>h.up hb
theorem Ov.nextX(h:Ov base t X HA):X HA.next=none:=by
 cases hx:X HA.next with
 | none=>rfl
 | some z=>exact absurd (h.ext _ z hx).2.2 (Nat.lt_irrefl _)
theorem Ov.nextT(h:Ov base t X HA):t.get HA.next=none:=by
 cases hx:t.get HA.next with
 | none=>rfl
 | some z=>exact absurd (h.lt _ z hx) (Nat.lt_irrefl _)
theorem wM(h:HLe H HA){b:Nat}{p:Tr zA × Nat × Option Lo}(hb:uD H b=some p):uD HA b=some p:=by
 unfold uD at hb ⊢;rw[sA]at hb ⊢;obtain⟨y,h1,h2⟩:=hb;exact⟨y,h _ _ h1,h2⟩
theorem eT(h:HLe H HA){b:Nat}{p:List (zA × zA)}(hb:oG H b=some p):oG HA b=some p:=by
 unfold oG at hb ⊢;rw[sA]at hb ⊢;obtain⟨y,h1,h2⟩:=hb;exact⟨y,h _ _ h1,h2⟩
theorem gC(h:tN e e'){x:Operand}(hx:ev x e=some v):ev x e'=some v:=by
 cases x with
 | tmp i=>exact h i v hx
 | const c=>exact hx
 | global g=>exact hx
 | func f=>exact hx
theorem zil(h:tN e e'){l:List Operand}{vs:List zA}(hx:evs l e=some vs):evs l e'=some vs:=dX l (fun _ _ k=>gC h k) hx
theorem zrc(h:tN e e'){x:Option Operand}{r:Option zA}(hx:evo x e=some r):evo x e'=some r:=by
 cases x with
 | none=>exact hx
 | some x=>
  have hx:ob (ev x e) (fun v=>some (some v))=some r:=hx
  show ob (ev x e') (fun v=>some (some v))=some r
  rw[sA]at hx ⊢
  obtain⟨a,h1,h2⟩:=hx
  exact⟨a,gC h h1,h2⟩
theorem zim(h:tN e e'){l:List (Nat × Operand)}{vs:List (Nat × zA)}(hx:evp l e=some vs):evp l e'=some vs:=
 dX l (fun a b k=>by rw[sA]at k ⊢;obtain⟨u,h1,h2⟩:=k;exact⟨u,gC h h1,h2⟩) hx
theorem zha(h:tN e e'){c:Call}{p:zA × zA}(hx:two c e=some p):two c e'=some p:=by
 unfold two at hx ⊢
 split at hx
 ·rw[sA]at hx ⊢
  obtain⟨a,h1,hx⟩:=hx
  refine⟨a,gC h h1,?_⟩
  rw[sA]at hx ⊢
  obtain⟨b,h2,hx⟩:=hx
  exact⟨b,gC h h2,hx⟩
 ·cases hx
theorem wX(h:HLe H HA){ty:Nat}{a:zA}(hx:oA C ty H a=some v):oA C ty HA a=some v:=by
 unfold oA at hx ⊢
 simp only[sA]at hx ⊢
 obtain⟨p,h1,y,h2,c,h3,h4⟩:=hx
 exact⟨p,h1,y,h2,c,wM h h3,h4⟩
theorem za7(h:HLe H HA){s d:uC}{a:zA}(hx:bL C s d a H=some v):bL C s d a HA=some v:=by
 unfold bL at hx ⊢
 split at hx
 ·rename_i k hk;exact hx
 ·rename_i hk
  rw[xB]at hx ⊢
  refine⟨hx.1,?_⟩
  have hx:=hx.2
  rw[jB]at hx ⊢
  split at hx
  ·rename_i e;rw[if_pos e];exact hx
  ·rename_i e
   rw[if_neg e];simp only[sA,xB]at hx ⊢
   obtain⟨a1,h1,b1,h2,k1,h3,h4,h5⟩:=hx
   refine⟨a1,h1,b1,h2,k1,h3,h4,?_⟩
   unfold kT at h5 ⊢
   split at h5
   ·simp only[sA]at h5 ⊢
    obtain⟨c,g1,g2⟩:=h5
    exact⟨c,wM h g1,g2⟩
   ·exact h5
theorem zr1(h:HLe H HA){s d:Nat}{a:zA}(hx:nK C s d H a=some v):nK C s d HA a=some v:=by
 unfold nK at hx ⊢
 simp only[sA]at hx ⊢
 obtain⟨a1,h1,b1,h2,h3⟩:=hx
 exact⟨a1,h1,b1,h2,za7 h h3⟩
theorem ze2(h:HLe H HA){b size cap l:Nat}{arr:Bool}(hx:pH H b size cap l arr=true):pH HA b size cap l arr=true:=by
 unfold pH at hx ⊢
 cases hc:uD H b with
 | none=>rw[hc]at hx;cases hx
 | some c=>rw[hc]at hx;rw[wM h hc];exact hx
theorem uZ(h:HLe H HA){ty:uC}{a:zA}{l r:Option zA}(hx:zK C H ty a l r=some v):zK C HA ty a l r=some v:=by
 have row:∀ {arr e b off len cap},dK C H arr e b off len cap l r=some v->dK C HA arr e b off len cap l r=some v:=by
  intro arr e b off len cap hx;unfold dK at hx ⊢
  simp only[sA]at hx ⊢
  obtain⟨a1,h1,b1,h2,hx⟩:=hx
  refine⟨a1,h1,b1,h2,?_⟩
  cases hb:uD H b with
  | none=>
   have e1:kI H b a1.size cap b1.1 arr=false:=by unfold kI;rw[hb]
   have e2:pH H b a1.size cap b1.1 arr=false:=by unfold pH;rw[hb]
   rw[e1,e2,Bool.and_false,Bool.and_false]at hx
   cases hx
  | some c=>
   have e1:kI HA b a1.size cap b1.1 arr=kI H b a1.size cap b1.1 arr:=by unfold kI;rw[hb,wM h hb]
   have e2:pH HA b a1.size cap b1.1 arr=pH H b a1.size cap b1.1 arr:=by unfold pH;rw[hb,wM h hb]
   rw[e1,e2];exact hx
 unfold zK at hx ⊢
 split at hx
 ·exact hx
 ·split at hx
  ·rw[sA]at hx ⊢;obtain⟨a1,h1,h2⟩:=hx;exact⟨a1,h1,row h2⟩
  ·split at hx
   ·rw[sA]at hx ⊢;obtain⟨a1,h1,h2⟩:=hx;exact⟨a1,h1,row h2⟩
   ·exact hx
theorem zmk(h:HLe H HA){ty:Nat}{a:zA}{l r:Option zA}(hx:aF C ty H a l r=some v):aF C ty HA a l r=some v:=by
 unfold aF at hx ⊢
 rw[sA]at hx ⊢
 obtain⟨a1,h1,h2⟩:=hx
 exact⟨a1,h1,uZ h h2⟩
theorem za0(h:HLe H HA){m:zA}{l:List (zA × zA)}(hx:jM H m=some l):jM HA m=some l:=by
 unfold jM at hx ⊢
 split at hx
 ·exact eT h hx
 ·exact hx
theorem zja(h:HLe H HA){ty:Nat}{m k:zA}{ok:Bool}(hx:kH C ty H m k ok=some v):kH C ty HA m k ok=some v:=by
 unfold kH at hx ⊢
 simp only[sA,xB]at hx ⊢
 obtain⟨a1,h1,b1,h2,c1,h3,h4,d1,h5,es,h6,h7⟩:=hx
 exact⟨a1,h1,b1,h2,c1,h3,h4,d1,h5,es,za0 h h6,h7⟩
theorem zdn(h:HLe H HA){ty:uC}{a:zA}{n:Nat}(hx:zue H ty a=some n):zue HA ty a=some n:=by
 unfold zue at hx ⊢
 split at hx
 ·exact hx
 ·split at hx
  ·exact hx
  ·split at hx
   ·exact hx
   ·split at hx
    ·rw[xB,sA]at hx ⊢
     obtain⟨h1,l,h2,h3⟩:=hx
     exact⟨h1,l,eT h h2,h3⟩
    ·exact hx
theorem zus(h:HLe H HA){ty:Nat}{a:zA}(hx:zuc C ty H a=some v):zuc C ty HA a=some v:=by
 unfold zuc at hx ⊢
 simp only[sA]at hx ⊢
 obtain⟨a1,h1,n,h2,h3⟩:=hx
 exact⟨a1,h1,n,zdn h h2,h3⟩
theorem zx9{ty:Nat}{a:Operand}:qO ty a C e H=ob (ev a e) fun v=>oA C ty H v:=rfl
theorem zyc{s d:Nat}{x:Operand}{u:zA}(hx:ev x e=some u):jK s d x C e H=nK C s d H u:=by unfold jK nK;rw[hx];rfl
theorem z27{ty:Nat}{x:Operand}{lo hi:Option Operand}{a:zA}{l r:Option zA}(h1:ev x e=some a)(h2:evo lo e=some l)(h3:evo hi e=some r):jQ ty x lo hi C e H=aF C ty H a l r:=by unfold jQ aF;rw[h1,uA,h2,uA,h3,uA]
theorem zbj{s f:Nat}{x:Operand}{u:zA}(hx:ev x e=some u):nO s x f C e H=rB C s f u:=by
 unfold nO rB kV;rw[hx]
 cases C.tys.get s with
 | none=>rfl
 | some ty=>
  simp only[uA]
  cases ty.desc.asStruct with
  | none=>rfl
  | some fs=>
   simp only[uA]
   cases mC fs f with
   | none=>rfl
   | some fd=>simp only[uA];cases hb:(!Nat.beq fd.2.2 0)<;>rfl
theorem zbi{ty:Nat}{x i:Operand}{u w:zA}(hx:ev x e=some u)(hi:ev i e=some w):pO ty x i C e H=lB C ty u w:=by unfold pO lB;rw[hx,hi];rfl
theorem z3a{ty:Nat}{x i:Operand}{u w:zA}(hx:ev x e=some u)(hi:ev i e=some w):oO ty x i C e H=aJ C ty u w:=by unfold oO aJ;rw[hx,hi];rfl
theorem z5x{x:Operand}{u:zA}(hx:ev x e=some u):z28 x C e H=qC u:=by unfold z28 qC;rw[hx];rfl
theorem zs5{x:Operand}{i:Nat}{u:zA}(hx:ev x e=some u):mO x i C e H=sB i u:=by unfold mO sB;rw[hx];rfl
theorem lBin_v{op:BinOp}{ty:Nat}{x y:Operand}{u w:zA}(hx:ev x e=some u)(hy:ev y e=some w):zye op ty x y C e H=(binA op).f C ty x y u w:=by unfold zye;rw[hx,hy];rfl
theorem zyf{x:Operand}{a:Nat}{ok:Bool}{u:zA}(hx:ev x e=some u):lO x a ok C e H=zmm C a ok u:=by
 unfold lO zmm;rw[hx];rfl
theorem zx8{ty:Nat}{x i:Operand}{ok:Bool}{m k:zA}(hx:ev x e=some m)(hi:ev i e=some k):rO ty x i ok C e H=kH C ty H m k ok:=by unfold rO kH;rw[hx,hi];rfl
theorem lLen_v{c:Call}{ty:Nat}{x:Operand}{u:zA}(h1:mC c.argTypes.toList 0=some ty)(h2:mC c.args.toList 0=some x)(hx:ev x e=some u):zny c C e H=zuc C ty H u:=by unfold zny zuc;rw[h1,uA,h2,uA,hx];rfl
theorem z38(he:tN e e'){op:Op}(hp:nN op=true\/(∃s d x,op=.convert s d x/\(tG C d=1\/tG C s=2))\/(∃c,op=.call c/\(c.callee=.builtin .max\/c.callee=.builtin .min))){H':xA}(h:(qE op).f C e H=some v):(qE op).f C e' H'=some v:=by
 rcases hp with hp | hp | hp
 ·cases op<;>simp only[nN]at hp<;>try (cases hp;done)
  case move x=>exact gC he h
  case assign x=>exact gC he h
  case pick c a b=>
   have h:ob (ev c e) (fun c=>ob c.asBool fun c=>bif c then ev a e else ev b e)=some v:=h
   show ob (ev c e') (fun c=>ob c.asBool fun c=>bif c then ev a e' else ev b e')=some v
   simp only[sA]at h ⊢
   obtain⟨u,h1,w,h2,h3⟩:=h
   refine⟨u,gC he h1,w,h2,?_⟩
   cases w with
   | true=>exact gC he h3
   | false=>exact gC he h3
  case nilCheck x=>
   have h:ob (ev x e) (fun u=>iA (Nat.beq u.tag 4||Nat.beq u.tag 9) (some u))=some v:=h
   show ob (ev x e') (fun u=>iA (Nat.beq u.tag 4||Nat.beq u.tag 9) (some u))=some v
   rw[sA]at h ⊢
   obtain⟨u,h1,h2⟩:=h
   exact⟨u,gC he h1,h2⟩
  case binOp op t x y u=>
   have h:zye op t x y C e H=some v:=h
   show zye op t x y C e' H'=some v
   unfold zye at h ⊢
   simp only[sA]at h ⊢
   obtain⟨a,h1,b,h2,h3⟩:=h
   exact⟨a,gC he h1,b,gC he h2,h3⟩
  case unOp op t x=>
   have h:lUn op x C e H=some v:=h
   show lUn op x C e' H'=some v
   unfold lUn at h ⊢
   rw[sA]at h ⊢
   obtain⟨a,h1,h2⟩:=h
   exact⟨a,gC he h1,h2⟩
  case makeInterface t x=>
   have h:iR t x C e H=some v:=h
   show iR t x C e' H'=some v
   unfold iR at h ⊢
   simp only[sA,xB]at h ⊢
   obtain⟨a,h1,h2,b,h3,h4⟩:=h
   exact⟨a,h1,h2,b,gC he h3,h4⟩
  case makeFunc fn a b=>
   have h:(fR fn a b).f C e H=some v:=h
   show(fR fn a b).f C e' H'=some v
   unfold fR at h ⊢
   split at h
   ·show zyb _ a b C e' H'=some v
    unfold zyb at h ⊢
    simp only[sA]at h ⊢
    obtain⟨x,h1,y,h2,h3⟩:=h
    exact⟨x,zil he h1,y,zil he h2,h3⟩
   ·cases h
  case fieldAddr s x f=>
   have h:nO s x f C e H=some v:=h
   show nO s x f C e' H'=some v
   unfold nO at h ⊢
   simp only[sA,xB]at h ⊢
   obtain⟨a,h1,b,h2,c,h3,h4,u,h5,h6⟩:=h
   exact⟨a,h1,b,h2,c,h3,h4,u,gC he h5,h6⟩
  case field t x f=>
   have h:eR t x f C e H=some v:=h
   show eR t x f C e' H'=some v
   unfold eR at h ⊢
   simp only[sA]at h ⊢
   obtain⟨a,h1,b,h2,c,h3,u,h5,h6⟩:=h
   exact⟨a,h1,b,h2,c,h3,u,gC he h5,h6⟩
  case indexAddr t x i=>
   have h:pO t x i C e H=some v:=h
   show pO t x i C e' H'=some v
   unfold pO at h ⊢
   simp only[sA]at h ⊢
   obtain⟨a,h1,b,h2,c,h3,h4⟩:=h
   exact⟨a,h1,b,gC he h2,c,gC he h3,h4⟩
  case index t x i=>
   have h:oO t x i C e H=some v:=h
   show oO t x i C e' H'=some v
   unfold oO at h ⊢
   simp only[sA]at h ⊢
   obtain⟨a,h1,b,h2,c,h3,h4⟩:=h
   exact⟨a,h1,b,gC he h2,c,gC he h3,h4⟩
  case extract t i=>
   have h:mO t i C e H=some v:=h
   show mO t i C e' H'=some v
   unfold mO at h ⊢
   rw[sA]at h ⊢
   obtain⟨a,h1,h2⟩:=h
   exact⟨a,gC he h1,h2⟩
  case build t ps=>
   have h:lP t ps C e H=some v:=h
   show lP t ps C e' H'=some v
   unfold lP at h ⊢
   rw[sA]at h ⊢
   obtain⟨a,h1,h⟩:=h
   refine⟨a,h1,?_⟩
   rw[sA]at h ⊢
   obtain⟨b,h2,h⟩:=h
   exact⟨b,zim he h2,h⟩
  case typeAssert x t u ok=>
   have h:lO x u ok C e H=some v:=h
   show lO x u ok C e' H'=some v
   unfold lO at h ⊢
   rw[sA]at h ⊢
   obtain⟨a,h1,h⟩:=h
   refine⟨a,h1,?_⟩
   rw[xB]at h ⊢
   refine⟨h.1,?_⟩
   have h:=h.2
   rw[sA]at h ⊢
   obtain⟨b,h2,h⟩:=h
   exact⟨b,gC he h2,h⟩
 ·obtain⟨s,d,x,rfl,hp⟩:=hp
  have h:jK s d x C e H=some v:=h
  show jK s d x C e' H'=some v
  unfold jK at h ⊢
  simp only[sA]at h ⊢
  obtain⟨u,h1,sy,h2,dy,h3,h4⟩:=h
  refine⟨u,gC he h1,sy,h2,dy,h3,?_⟩
  unfold bL at h4 ⊢
  split at h4
  ·exact h4
  ·rename_i hd
   rw[xB]at h4 ⊢
   refine⟨h4.1,?_⟩
   have h4:=h4.2
   rw[jB]at h4 ⊢
   split at h4
   ·rename_i e;rw[if_pos e];exact h4
   ·rename_i e
    exfalso
    rcases hp with hp | hp
    ·unfold tG at hp
     rw[h3]at hp;have hp:dy.desc.tag=1:=hp
     cases hx:dy.desc<;>rw[hx]at hp hd<;>first
      | (cases hp;done)
      | (cases hd;done)
    ·unfold tG at hp
     rw[h2]at hp;have hp:sy.desc.tag=2:=hp
     simp only[sA]at h4;obtain⟨el,h5,_⟩:=h4
     cases hx:sy.desc<;>rw[hx]at hp h5<;>first
      | (cases hp;done)
      | (cases h5;done)
 ·obtain⟨c,rfl,hc⟩:=hp
  rcases hc with hc | hc
  ·have h:(dM c c.callee).f C e H=some v:=h
   show(dM c c.callee).f C e' H'=some v
   rw[hc]at h ⊢
   have h:zx7 c C e H=some v:=h
   show zx7 c C e' H'=some v
   unfold zx7 at h ⊢
   rw[sA]at h ⊢
   obtain⟨p,h1,h2⟩:=h
   exact⟨p,zha he h1,h2⟩
  ·have h:(dM c c.callee).f C e H=some v:=h
   show(dM c c.callee).f C e' H'=some v
   rw[hc]at h ⊢
   have h:zx5 c C e H=some v:=h
   show zx5 c C e' H'=some v
   unfold zx5 at h ⊢
   rw[sA]at h ⊢
   obtain⟨p,h1,h2⟩:=h
   exact⟨p,zha he h1,h2⟩
end
end Go.Am
