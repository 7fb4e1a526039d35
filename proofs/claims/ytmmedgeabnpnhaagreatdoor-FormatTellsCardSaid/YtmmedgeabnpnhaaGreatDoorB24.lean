/- Lent data: slices with marks behind them. -/
import Derived.Test.YtmmedgeabnpnhaaGreatDoorB23
set_option linter.all false
noncomputable section
namespace Go.Am
open Go Go.RowKit
section
inductive E where
 | pl (d:D)
 | sl (sz:Nat) (l:List E) (m:List D)
 | st (l:List E)
mutual
def E.d:E->D
 | .pl d=>d
 | .sl sz l _=>.sl sz (E.ds l)
 | .st l=>.st (E.ds l)
def E.ds:List E->List D
 | []=>[]
 | e::l=>e.d::E.ds l
end
mutual
def LE (t:Tr sA):E->List zA->Prop
 | .pl d,cs=>RD t d cs
 | .sl sz l m,cs=>∃b cl cm,cs=[.slice b 0 cl.length (cl.length+cm.length)]/\tJ t sz (.slice b 0 (cl++cm).length (cl++cm).length) (cl++cm)/\aD t l cl/\iC t m cm
 | .st l,cs=>∃cl,cs=cl.flatten/\aD t l cl
def aD (t:Tr sA):List E->List (List zA)->Prop
 | [],cl=>cl=[]
 | e::l,cl=>∃c r,cl=c::r/\LE t e c/\aD t l r
end
section
variable {t t' tf:Tr sA}{C:fA}
def mQ{e:E}{l:List E}{cl:List (List zA)}:aD t (e::l) cl ↔ ∃c r,cl=c::r/\LE t e c/\aD t l r:=by rw[aD]
def yT{cl:List (List zA)}:aD t [] cl ↔ cl=[]:=by rw[aD]
def dW{d:D}{cs:List zA}:LE t (.pl d) cs ↔ RD t d cs:=by rw[LE]
def Bo{l:List E}{cs:List zA}:LE t (.st l) cs ↔ ∃cl,cs=cl.flatten/\aD t l cl:=by rw[LE]
theorem E.ds_map:∀(l:List E),E.ds l=l.map E.d
 | []=>rfl
 | e::l=>by rw[E.ds,E.ds_map l,ycm]
mutual
theorem LE.mono(h:yB t t'):∀(e:E) (cs:List zA),LE t e cs->LE t' e cs
 | .pl d,cs,k=>by grind [LE,RD.mono]
 | .sl sz l m,cs,k=>by
  rw[LE]at k ⊢;obtain⟨b,cl,cm,h1,h2,h3,h4⟩:=k;exact⟨b,cl,cm,h1,h2.mono h,aD.mono h l cl h3,iC.mono h _ _ h4⟩
 | .st l,cs,k=>by
  rw[LE]at k ⊢;obtain⟨cl,h1,h2⟩:=k;exact⟨cl,h1,aD.mono h l cl h2⟩
theorem aD.mono(h:yB t t'):∀(l:List E) (cl:List (List zA)),aD t l cl->aD t' l cl
 | [],cl,k=>by grind [aD]
 | e::l,cl,k=>by
  rw[aD]at k ⊢;obtain⟨c,r,h1,h2,h3⟩:=k;exact⟨c,r,h1,LE.mono h e c h2,aD.mono h l r h3⟩
end
theorem XZ{sz b:Nat}{cl cm:List (List zA)}(h:tJ t sz (.slice b 0 (cl++cm).length (cl++cm).length) (cl++cm)):tJ t sz (.slice b 0 cl.length (cl.length+cm.length)) cl:=by
 rcases h with⟨h,_⟩ | ⟨b',off,cap,h1,h2,h3,h4⟩
 ·cases h
 ·cases h1;refine .inr ⟨b,0,_,rfl,by omega,h3,fun i cs hi=>h4 i cs ?_⟩
  grind
mutual
theorem LE.rd:∀(e:E) (cs:List zA),LE t e cs->RD t e.d cs
 | .pl d,cs,k=>by rw[LE]at k;exact k
 | .sl sz l m,cs,k=>by
  rw[LE]at k;obtain⟨b,cl,cm,rfl,h2,h3,h4⟩:=k;rw[E.d,RD];exact⟨_,cl,rfl,XZ h2,aD.rd l cl h3⟩
 | .st l,cs,k=>by
  rw[LE]at k;obtain⟨cl,h1,h2⟩:=k;rw[E.d,RD];exact⟨cl,h1,aD.rd l cl h2⟩
theorem aD.rd:∀(l:List E) (cl:List (List zA)),aD t l cl->iC t (E.ds l) cl
 | [],cl,k=>by grind [aD,E.ds,iC]
 | e::l,cl,k=>by
  rw[aD]at k;obtain⟨c,r,h1,h2,h3⟩:=k;rw[E.ds,iC];exact⟨c,r,h1,LE.rd e c h2,aD.rd l r h3⟩
end
theorem aD.length:∀ {l:List E} {cl:List (List zA)},aD t l cl->cl.length=l.length:=by
 intro l cl h;have:=(aD.rd l cl h).length
 grind [E.ds_map]
theorem aD.get:∀ {l:List E} {cl:List (List zA)} {i:Nat} {e:E},aD t l cl->l[i]?=some e->∃cs,cl[i]?=some cs/\LE t e cs:=by
 intro l;induction l with
 | nil=>simp_all
 | cons x l ih=>
  grind [aD]
theorem aD.app:∀ {l m:List E} {cl cm:List (List zA)},aD t l cl->aD t m cm->aD t (l++m) (cl++cm)
 | [],m,cl,cm,h,k=>by
  grind [aD]
 | d::l,m,cl,cm,h,k=>by
  obtain⟨c,r,rfl,h1,h2⟩:=mQ.1 h;exact mQ.2 ⟨c,r++cm,rfl,h1,aD.app h2 k⟩
def aD.split:∀ {l m:List E} {cl:List (List zA)},aD t (l++m) cl->∃c1 c2,cl=c1++c2/\aD t l c1/\aD t m c2
 | [],m,cl,h=>⟨[],cl,rfl,yT.2 rfl,h⟩
 | e::l,m,cl,h=>by
  obtain⟨c,r,rfl,h1,h2⟩:=mQ.1 h;obtain⟨c1,c2,rfl,h3,h4⟩:=aD.split h2;exact⟨c::c1,c2,rfl,mQ.2 ⟨c,c1,rfl,h1,h3⟩,h4⟩
def Mi:∀ {m:List D} {cl:List (List zA)},aD t (m.map E.pl) cl ↔ iC t m cl
 | [],cl=>by rw[List.map_nil,aD,iC]
 | d::m,cl=>by
  rw[ycm,aD,iC];constructor
  ·rintro⟨c,r,h1,h2,h3⟩;exact⟨c,r,h1,dW.1 h2,Mi.1 h3⟩
  ·rintro⟨c,r,h1,h2,h3⟩;exact⟨c,r,h1,dW.2 h2,Mi.2 h3⟩
theorem aD.ones(l:List E)(cl:List (List zA))(h:aD t l cl):∀a∈cl.flatten,zA.one a=true:=iC.ones _ _ (aD.rd l cl h)
def Room (tf t:Tr sA)(b sz cap:Nat)(es:List E):Prop:=es.length<=cap/\∃cl c,t.get b=some (.cells c (cap*sz) none)/\(∀(i:Nat) cs,cl[i]?=some cs->cs.length=sz/\∀(j:Nat) a,cs[j]?=some a->c.get (i*sz+j)=some a)/\aD tf es cl
def nJ(b sz cap:Nat)(es:List E):dG where
 blks:=[b]
 ok:=fun tf t=>Room tf t b sz cap es
 keep:=fun h hf k=>by
  obtain⟨h0,cl,c,h1,h2,h3⟩:=h;exact⟨h0,cl,c,by simp_all,h2,aD.mono hf _ _ h3⟩
 live:=fun h k hk=>by
  rw[ydd]at hk;subst hk;obtain⟨_,cl,c,h1,_⟩:=h
  simp_all
theorem FD{z:List zA}:∀n,kB (oJ z n)=n*kB z
 | 0=>by show kB []=_;rw[jD];simp
 | n+1=>by
  have:=FD (z:=z) n;show kB (iD z (oJ z n))=_;rw[jD,jD]at this ⊢;rw[zH,ybg,this,ybo,Nat.one_mul,yap]
theorem SV{T el sz cap n:Nat}{L:List dG}(hT:gL C T el sz)(hcap:cap<1000000)(ho:kE C.base tf t L)(hn:t.get n=none)(hb:C.base<=n) :
  ∃t',fJ C T (.int .i64 0) (.int .i64 (cap:Int)) ⟨n,t⟩=some (.slice n 0 0 cap,⟨n+1,t'⟩)/\kE C.base tf t' (nJ n sz cap []::L):=by
 obtain⟨⟨y,hy1,hy2,hy3⟩,⟨z,hz1,hz2,hz3,hz4,hz5⟩,hnb⟩:=hT;refine⟨t.set n (.cells (Tr.ofList (oJ z.zero cap)) (kB (oJ z.zero cap)) none),?_,?_⟩
 ·unfold fJ;rw[hy1,pA,hy2,pA,hz1,pA];have e1:(zA.int .i64 (cap:Int)).asNat=some cap:=rfl;have e0:(zA.int .i64 0).asNat=some 0:=rfl;rw[e1,e0,pA,pA];have e2:(Nat.ble 0 cap&&Nat.blt cap 1000000&&Nat.blt (cap*z.bytes) 1000000000&&Nat.beq (kB z.zero) z.size)=true:=by
   rw[hz3,hz2,show Nat.ble 0 cap=true from rF.2 (yaw _),lC.2 hcap];have:cap*z.bytes<1000000000:=by
    have:=ydb (Nat.le_of_lt hcap) hz4;omega
   simp_all
  rw[e2,sE];rfl
 ·refine kE.add (A:=[]) (o':=nJ n sz cap []) ho (fun k hk=>?_) (fun k hk=>?_) ⟨yaw _,[],Tr.ofList (oJ z.zero cap),?_,fun i cs hi=>by simp at hi,yT.2 rfl⟩ (by simp[nJ]) (ho.tle.trans (iK hn _).1)
  all_goals grind [Tr.get_set,nJ,FD]
theorem Wn{T el sz b cap n:Nat}{A B:List dG}{es em:List E}{x:zA}{cm:List (List zA)}(hT:gL C T el sz)(h:kE C.base tf t (A++nJ b sz cap es::B))(hx:tJ t sz x cm)(hm:aD tf em cm)(hle:es.length+em.length<=cap) :
  ∃t',vF C T T (.slice b 0 es.length cap) x ⟨n,t⟩=some (.slice b 0 (es.length+em.length) cap,⟨n,t'⟩)/\kE C.base tf t' (A++nJ b sz cap (es++em)::B):=by
 obtain⟨h0,cl,c,h1,h2,h3⟩:Room tf t b sz cap es:=h.ok (nJ b sz cap es) (by simp);obtain⟨hlow1,hlow2⟩:=h.low b (by grind [nJ]);obtain⟨hf,hl⟩:=hx.first (n:=n);have hlen:=hm.length;have hcl:=h3.length;have hall:=hx.len;have hfl:=Zj hall;rw[za4 hT hl hf (by omega)];have hfin:∀t',t'.get b=some (.cells (c.setMany cm.flatten (0+es.length*sz)) (cap*sz) none)->rE b t t'->kE C.base tf t' (A++nJ b sz cap (es++em)::B):=by
  intro t' g1 g2;refine h.upd (o':=nJ b sz cap (es++em)) (fun k k1 _=>g2 k (by grind [nJ])) (fun k hk=>.inl (by grind [nJ])) ⟨by grind,cl++cm,_,g1,fun i cs hi=>?_,h3.app hm⟩ (by simp[nJ]) (h.tle.off hlow2 g2);rw[List.getElem?_append]at hi;split at hi
  ·rename_i hlt;obtain⟨k1,k2⟩:=h2 i cs hi;refine⟨k1,fun j a hj=>?_⟩;have hjl:j<sz:=by grind
   have:i*sz+j<es.length*sz:=by
    have:=ybi sz (show i+1<=es.length by omega)
    grind
   grind [Tr.get_setMany]
  ·rename_i hge;have k1:=hall _ cs hi;refine⟨k1,fun j a hj=>?_⟩;have hf1:=Di hall _ j cs a hi hj;have hlt:=(ybc.1 hf1).1;have e:i*sz=es.length*sz+(i-cl.length)*sz:=by rw[<- ybo];simp_all
   grind [Tr.get_setMany]
 cases hq:cm.flatten with
 | nil=>
  refine⟨t,by rw[hlen],hfin t ?_ (rE.refl _ _)⟩;rw[hq];exact h1
 | cons a r=>
  refine⟨t.set b (.cells (c.setMany cm.flatten (0+es.length*sz)) (cap*sz) none),?_,hfin _ (by rw[Tr.get_set,yab rfl]) fun d hd=>by rw[Tr.get_set,yaa hd]⟩;show ob (zJ C ⟨n,t⟩ b (0+es.length*sz) (a::r)) _=_;rw[<- hq];unfold zJ oD;have e2:(!Nat.blt b C.base)=true:=by
   grind [lC]
  simp only[];rw[e2,sE,h1,pA];simp only[sA.asCells,pA];have hmul:=ybi sz (show es.length+cm.length<=cap by omega);rw[ybo]at hmul;have e3:Nat.ble (0+es.length*sz+kB cm.flatten) (cap*sz)=true:=by grind [jD,rF]
  have e4:nE zA.one cm.flatten=true:=by grind [iI,aD.ones]
  rw[e3,e4,hlen];rfl
theorem DO{T el sz b n cap k m:Nat}{agg:Bool}{c:Tr zA}{lo:Option Lo}(hT:rD C T el sz agg)(hg:t.get b=some (.cells c m lo))(hlo:lo=none\/∃x,lo=some x/\x.es=sz)(hk:k<=cap) :
  zE C T ⟨0,t⟩ (.slice b 0 n cap) none (some (.int .i64 (k:Int)))=some (.slice b 0 k cap):=by
 obtain⟨⟨y,hy1,hy2⟩,⟨z,hz1,hz2,hz3⟩⟩:=hT;unfold zE;rw[hy1,pA];unfold bL;simp only[zA.asStr,zA.asSlice];rw[hy2,pA];unfold sN;rw[hz1,pA];have hb:mW cap (.int .i64 (k:Int))=mB (Nat.ble k cap) (some k):=rfl;unfold xP Be;simp only[hb];rw[rF.2 hk];simp only[sE,pA];have he2:pL ⟨0,t⟩ b z.size cap 0 false=false:=by
  unfold pL oD;rw[hg,pA];simp only[sA.asCells];rcases hlo with rfl | ⟨x,rfl,hx⟩
  ·rfl
  ·simp
 rw[he2];have hft:cL ⟨0,t⟩ b z.size cap 0 false=true:=by
  unfold cL oD;rw[hg,pA];simp only[sA.asCells];rcases hlo with rfl | ⟨x,rfl,hx⟩
  all_goals simp_all
 rw[hft,rF.2 hk];simp only[yay,Bool.and_true,cond_false,sE,Nat.zero_mul,yct,Nat.sub_zero];cases Nat.beq cap 0<;>rfl
theorem SW{T el sz b cap:Nat}{agg:Bool}{A B:List dG}{l:List E}{m:List D}(hT:rD C T el sz agg)(h:kE C.base tf t (A++nJ b sz cap (l++m.map E.pl)::B))(hc:l.length+m.length=cap) :
  zE C T ⟨0,t⟩ (.slice b 0 cap cap) none (some (.int .i64 (l.length:Int)))=some (.slice b 0 l.length cap)/\∃tf',yB tf tf'/\kE C.base tf' t (A++B)/\LE tf' (.sl sz l m) [.slice b 0 l.length cap]:=by
 obtain⟨h0,cl,c,h1,h2,h3⟩:Room tf t b sz cap (l++m.map E.pl):=h.ok (nJ b sz cap (l++m.map E.pl)) (by simp);obtain⟨hlow1,hlow2⟩:=h.low b (by grind [nJ]);refine⟨DO hT h1 (.inl rfl) (by omega),tf.set b (.cells c (cap*sz) none),(iK hlow2 _).1,?_,?_⟩
 ·exact(h.drop.froze (h.notin (o:=nJ b sz cap (l++m.map E.pl)) (by simp[nJ])) h1 hlow2).1
 ·obtain⟨c1,c2,rfl,k1,k2⟩:=h3.split;rw[Mi]at k2;have l1:=k1.length;have l2:=k2.length;rw[LE];refine⟨b,c1,c2,by rw[l1,l2,hc],.inr ⟨b,0,_,rfl,ybk _,⟨c,_,none,by rw[Tr.get_set,yab rfl],.inl rfl⟩,fun i cs hi=>?_⟩,aD.mono (iK hlow2 _).1 _ _ k1,iC.mono (iK hlow2 _).1 _ _ k2⟩;obtain⟨g1,g2⟩:=h2 i cs hi;exact⟨g1,c,_,none,by rw[Tr.get_set,yab rfl],fun j a hj=>by simp_all⟩
def Ed(base:Nat)(tf:Tr sA)(L:List dG)(sz:Nat)(l:List E)(m:List D)(Q:wC):Prop:=∀tf' t' v,yB tf tf'->kE base tf' t' L->LE tf' (.sl sz l m) [v]->Q v t'
def zV(base:Nat)(W:pI)(g:Nat)(e:E):Prop:=∀ ⦃L:List dG⦄ ⦃tf t:Tr sA⦄ ⦃cs:List zA⦄ ⦃Q:wC⦄,kE base tf t L->RD tf e.d cs->(∀tf' t' cs',yB tf tf'->kE base tf' t' L->LE tf' e cs'->Q (.agg cs') t')->W g [.agg cs] t Q
theorem LE.sl{sz:Nat}{l:List E}{m:List D}{cs:List zA}(h:LE t (.sl sz l m) cs):∃v,cs=[v]/\mA t sz (l.map E.d) v:=by
 have:=LE.rd _ _ h
 grind [E.d,qM,E.ds_map]
def zj8(C:fA)(S sz:Nat)(w:zA)(c:List zA):Prop:=∀n (t:Tr sA),t.get n=none->∃t',jE C S 1 [(0,w)] ⟨n,t⟩=some (.slice n 0 1 1,⟨n+1,t'⟩)/\tJ t' sz (.slice n 0 1 1) [c]/\rE n t t'
theorem Ke{S el sz:Nat}{cs:List zA}(hT:gL C S el sz)(hc:cs.length=sz)(hs:sz<1000000):zj8 C S sz (.agg cs) cs:=fun n t hn=>by
 grind [lit1]
theorem US{S el:Nat}{k:IntKind}{x:Int}(hT:gL C S el 1):zj8 C S 1 (.int k x) [.int k x]:=fun n t hn=>by
 obtain⟨⟨y,hy1,hy2,_⟩,⟨z,hz1,hz2,hz3,_,_⟩,_⟩:=hT;obtain⟨t',h1,h2,h3,h4⟩:=Pq (t:=t) (C:=C) (n:=1) (ps:=[(0,.int k x)]) (cl:=[[.int k x]]) hy1 hy2 hz1 hz2 hz3 (by omega) (by
  have e:oJ z.zero 1=z.zero:=by show iD z.zero []=z.zero;rw[zH,ycd]
  rw[e];unfold iN Aw;have e1:(zA.int k x).cells=[.int k x]:=rfl
  grind [jD,pA,sS,zU,zH,bC,rF,sE,iN]) (fun i q hq=>by
  grind) rfl hn
 simp_all
section
variable {W J:pI}{S el sz p:Nat}{agg:Bool}{L:List dG}{l:List E}{m:List D}{v0:zA}{Q:wC}{tf0:Tr sA}
theorem Gg{w:Nat->zA}{cm:Nat->List zA}(hT:gL C S el sz)(hS:rD C S el sz agg)(hm:m.length=12)(hmr:∀i,i<12->∃d,m[i]?=some d/\∀t,RD t d (cm i))
  (hw:∀i,i<12->zj8 C S sz (w i) (cm i))
  (h1:∀(i:Nat),i<12->∀v t,lA C.base W J (.heavy (jE C S 1 [(0,w i)]) fun a2=>.heavy (vF C S S v a2) fun a3=>.jump p [v0,a3,.int .i64 (iA .i64 ((i:Int)+1))]) t Q->J p [v0,v,.int .i64 (i:Int)] t Q)
  (h2:∀v t,lA C.base W J (.opt (aA v0) fun a4=>.asI .i64 a4 fun n5=>.light (fun m=>zE C S ⟨0,m⟩ v none (some (.int .i64 n5))) fun a6=>.ret a6) t Q->J p [v0,v,.int .i64 12] t Q)
  (hlen:aA v0=some (.int .i64 (l.length:Int))) (hQ:Ed C.base tf0 L sz l m Q) {b:Nat} :
  ∀(k i:Nat) (tf t:Tr sA),i+k=12->yB tf0 tf->kE C.base tf t (nJ b sz (l.length+12) (l++(m.take i).map E.pl)::L)->J p [v0,.slice b 0 (l.length+i) (l.length+12),.int .i64 (i:Int)] t Q:=by
 intro k;induction k with
 | zero=>
  intro i tf t hi hf ho;have:i=12:=by omega
  subst this;refine h2 _ _ ?_;simp only[lA];rw[hlen,xA,aB,xA];rw[yca (by omega)]at ho;obtain⟨k1,tf',k2,k3,k4⟩:=SW (A:=[]) hS ho (by omega);rw[k1,xA];exact hQ tf' t _ (hf.trans k2) k3 k4
 | succ k ih=>
  intro i tf t hi hf ho;have hlt:i<12:=by omega
  refine h1 i hlt _ _ ?_;simp only[lA];intro n hn _;obtain⟨t1,a1,a2,a3⟩:=hw i hlt n t hn;rw[a1,xA];intro n2 hn2 _;obtain⟨d,d1,d2⟩:=hmr i hlt;have hl:(l++(m.take i).map E.pl).length=l.length+i:=by grind
  obtain⟨t2,c1,c2⟩:=Wn (n:=n2) (A:=[]) (em:=[E.pl d]) hT (ho.junk hn a3) a2 (mQ.2 ⟨_,_,rfl,dW.2 (d2 _),yT.2 rfl⟩) (by grind);rw[hl]at c1;rw[c1,xA,wrap_i64 (by omega) (by omega)];have e:l++(m.take i).map E.pl++[E.pl d]=l++(m.take (i+1)).map E.pl:=by
   grind [List.take_add_one]
  grind
def zih(C:fA)(S el g p q:Nat)(zs:List zA)(v0 v:zA)(i:Int):T:=
 .opt (aA v0) fun a0=>.asI .i64 a0 fun n1=>.ite (lB i n1)
  (.opt (rB C S v0 (.int .i64 i)) fun a2=>.light (fun m=>dA C el ⟨0,m⟩ a2) fun a3=>.asG zs a3 fun X=>
   .call g [.agg (wJ zs X 0)] fun a5=>.asG zs a5 fun Y=>
   .ite (nE zA.one (wJ zs Y 0)) (.heavy (jE C S 1 [(0,.agg (wJ zs Y 0))]) fun a7=>.heavy (vF C S S v a7) fun a8=>.jump p [v0,a8,.int .i64 (iA .i64 (i+1))]) .fail)
  (.jump q [v0,v,.int .i64 0])
theorem Py{g q:Nat}{zs:List zA}{b:Nat}(hT:gL C S el sz)(hS:rD C S el sz true)(hsz:sz<1000000)(hz:∀e∈l,e.d.zs=zs)(hg:∀e∈l,zV C.base W g e)(hlen:l.length<300000)
  (hj:∀v i t,lA C.base W J (zih C S el g p q zs v0 v i) t Q->J p [v0,v,.int .i64 i] t Q)
  (hend:∀tf t,yB tf0 tf->kE C.base tf t (nJ b sz (l.length+12) l::L)->J q [v0,.slice b 0 l.length (l.length+12),.int .i64 0] t Q) (h0:mA tf0 sz (l.map E.d) v0) :
  ∀(k i:Nat) (tf t:Tr sA),i+k=l.length->yB tf0 tf->kE C.base tf t (nJ b sz (l.length+12) (l.take i)::L)->J p [v0,.slice b 0 i (l.length+12),.int .i64 (i:Int)] t Q:=by
 intro k;induction k with
 | zero=>
  intro i tf t hi hf ho;have:i=l.length:=by omega
  subst this;refine hj _ _ _ ?_;simp only[zih,lA];rw[h0.len,xA,aB,xA,ybf,yaa (fun e=>by grind [uC])]
  grind
 | succ k ih=>
  intro i tf t hi hf ho;have hlt:i<l.length:=by omega
  have hd:l[i]?=some l[i]:=ybd hlt;have hm:l[i]∈l:=ycj hlt;have hd':(l.map E.d)[i]?=some (l[i]).d:=by simp_all
  obtain⟨pb,off,cs,g1,g2,g3,g4,g5⟩:=rD.at (t:=tf) hS (by simp) (h0.mono hf) hd';obtain⟨b',off',cs',f1,f2,f3,f4,f5⟩:=rD.at (t:=t) hS (by simp) (h0.mono (hf.trans ho.tle)) hd';rw[g1]at f1;cases f1;have ecs:cs'=cs:=by
   obtain⟨c,n,lo,q1,q2⟩:=g3;obtain⟨c',n',lo',q3,q4⟩:=f3;rw[ho.tle _ _ q1]at q3;cases q3;refine List.ext_getElem? fun j=>?_
   grind
  subst ecs;refine hj _ _ _ ?_;simp only[zih,lA];rw[h0.len,xA,aB,xA,ybf,yab (uC.2 (by omega)),g1,xA,f2,xA];have hzz:=hz _ hm;show oE (cN zs (.agg cs')) _;rw[aF g5 hzz,xA,g5.mk hzz];refine hg _ hm ho g5 fun tf' t' cs2 k1 k2 k3=>?_;have k3d:=LE.rd _ _ k3;rw[aF k3d hzz,xA,k3d.mk hzz,yab k3d.all];intro n hn _;have hl2:cs2.length=sz:=by
   have e1:=g5.mk hzz;have e2:=k3d.mk hzz;have key:∀(zs:List zA) (X Y:kG) (j:Nat),(wJ zs X j).length=(wJ zs Y j).length:=by
    intro zs;induction zs with
    | nil=>intro X Y j;rfl
    | cons z zs ih=>
     intro X Y j;show(Kl z X j::wJ zs X (j+1)).length=(Kl z Y j::wJ zs Y (j+1)).length;rw[ybn,ybn,ih X Y (j+1)]
   grind
  obtain⟨t1,a1,a2,a3,a4⟩:=lit1 (C:=C) hT hl2 hsz hn;rw[a1,xA];intro n2 hn2 _;have hl:(l.take i).length=i:=by grind
  obtain⟨t2,c1,c2⟩:=Wn (n:=n2) (A:=[]) (em:=[l[i]]) hT (k2.junk hn a4) a2 (mQ.2 ⟨_,_,rfl,k3,yT.2 rfl⟩) (by grind);rw[hl]at c1;rw[c1,xA,wrap_i64 (by omega) (by omega)];have e:l.take i++[l[i]]=l.take (i+1):=by simp_all
  rw[e]at c2;exact ih (i+1) tf' t2 (by omega) (hf.trans k1) c2
theorem Gh{K:zA->T}{ds:List D}(hT:gL C S el sz)(hlen:ds.length<300000)(h0:mA tf sz ds v0)(ho:kE C.base tf t L)
  (hK:∀b t',kE C.base tf t' (nJ b sz (ds.length+12) []::L)->lA C.base W J (K (.slice b 0 0 (ds.length+12))) t' Q) :
  lA C.base W J (.opt (aA v0) fun a0=>.asI .i64 a0 fun n1=>.heavy (fJ C S (.int .i64 0) (.int .i64 (iA .i64 (n1+12)))) K) t Q:=by
 simp only[lA];rw[h0.len,xA,aB,xA,wrap_i64 (by omega) (by omega),show(ds.length:Int)+12=((ds.length+12:Nat):Int) by omega];intro n hn hb;obtain⟨t',c1,c2⟩:=SV (cap:=ds.length+12) hT (by omega) ho hn hb
 simp_all
theorem HP{K:zA->T}{ds:List D}{b cap:Nat}(hT:gL C S el sz)(hlen:ds.length<=cap)(h0:mA tf sz ds v0)(ho:kE C.base tf t (nJ b sz cap []::L))
  (hK:∀t',kE C.base tf t' (nJ b sz cap (ds.map E.pl)::L)->lA C.base W J (K (.slice b 0 ds.length cap)) t' Q) :
  lA C.base W J (.heavy (vF C S S (.slice b 0 0 cap) v0) K) t Q:=by
 simp only[lA];intro n hn _;obtain⟨cl,he,hd⟩:=h0;obtain⟨t2,c1,c2⟩:=Wn (n:=n) (A:=[]) (em:=ds.map E.pl) hT ho (he.mono ho.tle) (Mi.2 hd) (by simp_all)
 simp_all
end
end
end
section
section
variable {t:Tr sA}{C:fA}{W J:pI}{S el sz p:Nat}{Q:wC}{zs:List zA}
def rD.atc{T:Nat}(h:rD C T el sz true){v:zA}{cl:List (List zA)}(he:tJ t sz v cl){i:Nat}{cs:List zA}(hc:cl[i]?=some cs) :
  ∃b off,rB C T v (.int .i64 (i:Int))=some (.ptr b off)/\dA C el ⟨0,t⟩ (.ptr b off)=some (.agg cs):=by
 obtain⟨⟨y,hy1,hy2⟩,⟨z,hz1,hz2,hz3⟩⟩:=h;rcases he with⟨rfl,rfl⟩ | ⟨b,off,cap,rfl,_,_,he⟩
 ·simp at hc
 ·obtain⟨hl,ha⟩:=he i cs hc;have hlt:i<cl.length:=(ybc.1 hc).1;refine⟨b,off+i*sz,?_,?_⟩
  ·unfold rB;rw[hy1,pA];have:(zA.int .i64 (i:Int)).asNat=some i:=rfl;rw[this,pA];simp only[zA.asSlice];rw[hy2,pA,hz1,pA,lC.2 hlt,hz2];rfl
  ·have:=ha.load (j:=0) hz1 hz3 hz2 (by omega);simp only[yct,ycr]at this;rw[this,<- hl,List.take_length]
abbrev Cmp:=List zA->List zA->(zA->T)->T
def fS (g:Nat):Cmp:=fun a b K=>.call g [.agg a,.agg b] K
def zhq(C:fA)(S el p:Nat)(g:Cmp)(zs:List zA)(ne:Bool->Bool)(v0 v1:zA)(i:Int):T:=
 .opt (aA v0) fun a0=>.asI .i64 a0 fun n1=>.ite (lB i n1)
  (.opt (rB C S v0 (.int .i64 i)) fun a2=>.light (fun m=>dA C el ⟨0,m⟩ a2) fun a3=>.asG zs a3 fun X4=>
   .opt (rB C S v1 (.int .i64 i)) fun a5=>.light (fun m=>dA C el ⟨0,m⟩ a5) fun a6=>.asG zs a6 fun X7=>
   g (wJ zs X4 0) (wJ zs X7 0) fun a8=>.asB a8 fun b9=>.ite (ne b9) (.ret (.bool false)) (.jump p [v0,v1,.int .i64 (iA .i64 (i+1))]))
  (.ret (.bool true))
theorem Jl{g:Cmp}{ne:Bool->Bool}{ok:Bool}{ds:List D}{v0 v1:zA}(hS:rD C S el sz true)(hz:∀d∈ds,d.zs=zs)(hne:ne ok=false)
  (hg:∀d∈ds,∀cs cs' K,RD t d cs->RD t d cs'->lA C.base W J (K (.bool ok)) t Q->lA C.base W J (g cs cs' K) t Q) (hlen:ds.length<300000)
  (hj:∀i,lA C.base W J (zhq C S el p g zs ne v0 v1 i) t Q->J p [v0,v1,.int .i64 i] t Q) (h0:mA t sz ds v0) (h1:mA t sz ds v1) (hQ:Q (.bool true) t) :
  ∀(k i:Nat),i+k=ds.length->J p [v0,v1,.int .i64 (i:Int)] t Q:=by
 intro k;induction k with
 | zero=>
  intro i hi;refine hj _ ?_;unfold zhq;exact vA h0.len (tB (bA (fun e=>by grind [uC]) hQ))
 | succ k ih=>
  intro i hi;have hlt:i<ds.length:=by omega
  have hd:ds[i]?=some ds[i]:=ybd hlt;have hm:ds[i]∈ds:=ycj hlt;obtain⟨b,off,cs,g1,g2,g3,g4,g5⟩:=rD.at hS (by simp) h0 hd;obtain⟨b',off',cs',f1,f2,f3,f4,f5⟩:=rD.at hS (by simp) h1 hd;have hzz:=hz _ hm;refine hj _ ?_;unfold zhq;refine vA h0.len (tB (tA (uC.2 (by omega)) (vA g1 (sC g2 (dF (aF g5 hzz) (vA f1 (sC f2 (dF (aF f5 hzz) ?_))))))));rw[g5.mk hzz,f5.mk hzz];refine hg _ hm _ _ _ g5 f5 (yC (bA (by simp_all) (zC ?_)))
  rw[wrap_i64 (by omega) (by omega)];exact ih (i+1) (by omega)
def Nd(C:fA)(S el mk p:Nat)(s:Cmp)(zs:List zA)(v1 v5:zA)(i:Int):T:=
 .opt (aA v1) fun a12=>.asI .i64 a12 fun n13=>.ite (qC n13 i)
  (.opt (rB C S v5 (.int .i64 i)) fun a14=>.light (fun m=>dA C el ⟨0,m⟩ a14) fun a15=>.asG zs a15 fun X16=>
   .opt (aA v1) fun a17=>.asI .i64 a17 fun n18=>.call mk [.int .i64 1,.int .i64 (iA .i64 (i-n18))] fun a19=>.asG zs a19 fun X20=>
   .light (fun m=>dA C el ⟨0,m⟩ a14) fun a21=>.ite (same 10 a21 (.agg (wJ zs X16 0)))
   (s (wJ zs X16 0) (wJ zs X20 0) fun a22=>.asB a22 fun b23=>.ite (!b23) (.ret (.bool false)) (.jump p [v1,v5,.int .i64 (iA .i64 (i+1))])) .fail)
  (.jump p [v1,v5,.int .i64 (iA .i64 (i+1))])
def zir(C:fA)(S el mk p:Nat)(g s:Cmp)(zs:List zA)(v1 v5:zA)(i:Int):T:=
 .opt (aA v5) fun a0=>.asI .i64 a0 fun n1=>.ite (lB i n1)
  (.opt (aA v1) fun a2=>.asI .i64 a2 fun n3=>.ite (lB i n3)
   (.opt (rB C S v5 (.int .i64 i)) fun a4=>.light (fun m=>dA C el ⟨0,m⟩ a4) fun a5=>.asG zs a5 fun X6=>
    .opt (rB C S v1 (.int .i64 i)) fun a7=>.light (fun m=>dA C el ⟨0,m⟩ a7) fun a8=>.asG zs a8 fun X9=>
    g (wJ zs X6 0) (wJ zs X9 0) fun a10=>.asB a10 fun b11=>.ite (!b11) (.ret (.bool false)) (Nd C S el mk p s zs v1 v5 i))
   (Nd C S el mk p s zs v1 v5 i))
  (.ret (.bool true))
theorem Ky{g s:Cmp}{mk:Nat}{l:List E}{m:List D}{cl cm:List (List zA)}{v1 v5:zA}(hS:rD C S el sz true)(hz:∀e∈l,e.d.zs=zs)(hzm:∀d∈m,d.zs=zs)
  (hg:∀e∈l,∀cs cs' K,LE t e cs->RD t e.d cs'->lA C.base W J (K (.bool true)) t Q->lA C.base W J (g cs cs' K) t Q)
  (hs:∀d∈m,∀cs cs' K,RD t d cs->RD t d cs'->lA C.base W J (K (.bool true)) t Q->lA C.base W J (s cs cs' K) t Q)
  (hmk:∀(i:Nat) d,m[i]?=some d->∃cs,RD t d cs/\∀R:wC,R (.agg cs) t->W mk [.int .i64 1,.int .i64 (i:Int)] t R)
  (hlen:l.length+m.length<400000) (hj:∀i,lA C.base W J (zir C S el mk p g s zs v1 v5 i) t Q->J p [v1,v5,.int .i64 i] t Q)
  (h5:tJ t sz v5 (cl++cm)) (hcl:aD t l cl) (hcm:iC t m cm) (h1:mA t sz (l.map E.d) v1) (hQ:Q (.bool true) t) :
  ∀(k i:Nat),i+k=l.length+m.length->J p [v1,v5,.int .i64 (i:Int)] t Q:=by
 have l1:=hcl.length;have l2:=hcm.length;have hr5:mA t sz (E.ds l++m) v5:=⟨_,h5,by
  have app:∀ {a b:List D} {ca cb:List (List zA)},iC t a ca->iC t b cb->iC t (a++b) (ca++cb):=by
   intro a;induction a with
   | nil=>grind [iC]
   | cons d a ih=>
    grind [jH]
  grind [aD.rd]⟩
 have hn5:aA v5=some (.int .i64 ((l.length+m.length:Nat):Int)):=by
  rw[hr5.len,ybg,E.ds_map,ybf]
 have hn1:aA v1=some (.int .i64 (l.length:Int)):=by rw[h1.len,ybf]
 intro k;induction k with
 | zero=>
  intro i hi;refine hj _ ?_;unfold zir;exact vA hn5 (tB (bA (fun e=>by grind [uC]) hQ))
 | succ k ih=>
  intro i hi;have next:lA C.base W J (.jump p [v1,v5,.int .i64 (iA .i64 ((i:Int)+1))]) t Q:=by
   refine zC ?_;rw[wrap_i64 (by omega) (by omega)];exact ih (i+1) (by omega)
  refine hj _ ?_;unfold zir;refine vA hn5 (tB (tA (uC.2 (by omega)) (vA hn1 (tB ?_))));by_cases hlt:i<l.length
  ·have hd:l[i]?=some l[i]:=ybd hlt;have hm:l[i]∈l:=ycj hlt;have hd':(l.map E.d)[i]?=some (l[i]).d:=by simp_all
   have hzz:=hz _ hm;obtain⟨cs,g4,g5⟩:=hcl.get hd;have g5d:=LE.rd _ _ g5;obtain⟨b,off,g1,g2⟩:=rD.atc hS h5 (i:=i) (cs:=cs) (by grind);obtain⟨b',off',cs',f1,f2,f3,f4,f5⟩:=rD.at hS (by simp) h1 hd';refine tA (uC.2 (by omega)) (vA g1 (sC g2 (dF (aF g5d hzz) (vA f1 (sC f2 (dF (aF f5 hzz) ?_))))));rw[g5d.mk hzz,f5.mk hzz];grind [yC,bA,Nd,vA,tB,mD]
  ·have hlt2:i-l.length<m.length:=by omega
   have hd:m[i-l.length]?=some m[i-l.length]:=ybd hlt2;have hm:m[i-l.length]∈m:=ycj hlt2;have hzz:=hzm _ hm;obtain⟨cs,g4,g5⟩:=hcm.get hd;obtain⟨b,off,g1,g2⟩:=rD.atc hS h5 (i:=i) (cs:=cs) (by grind);obtain⟨cs',f5,f6⟩:=hmk _ _ hd;refine bA (fun e=>by grind [uC]) ?_;unfold Nd;refine vA hn1 (tB (tA (mD.2 (by omega)) (vA g1 (sC g2 (dF (aF g5 hzz) (vA hn1 (tB (cA ?_))))))))
   rw[wrap_i64 (n:=(i:Int)-(l.length:Int)) (by omega) (by omega),show(i:Int)-(l.length:Int)=((i-l.length:Nat):Int) by omega];refine f6 _ (dF (aF f5 hzz) (sC g2 ?_));rw[g5.mk hzz,f5.mk hzz];exact tA g5.sameA (hs _ hm _ _ _ g5 f5 (yC (bA (by simp) next)))
theorem Gl{agg:Bool}{l:List E}{m:List D}{v v1:zA}(hS:rD C S el sz agg)(h:LE t (.sl sz l m) [v])(hm:m.length=12)(h1:mA t sz (l.map E.d) v1)(hlen:l.length<300000)
  (hK:∀v5 cl cm,tJ t sz v5 (cl++cm)->aD t l cl->iC t m cm->J p [v1,v5,.int .i64 0] t Q) :
  lA C.base W J (.opt (aA v) fun a0=>.asI .i64 a0 fun n1=>.opt (aA v1) fun a2=>.asI .i64 a2 fun n3=>.ite (!zB n1 n3) (.ret (.bool false))
   (.opt (aA v1) fun a4=>.asI .i64 a4 fun n5=>.light (fun m=>zE C S ⟨0,m⟩ v none (some (.int .i64 (iA .i64 (n5+12))))) fun a6=>.jump p [v1,a6,.int .i64 0])) t Q:=by
 have hn1:aA v1=some (.int .i64 (l.length:Int)):=by rw[h1.len,ybf]
 rw[LE]at h;obtain⟨b,cl,cm,e,h2,h3,h4⟩:=h;have l1:=h3.length;have l2:=h4.length;cases e;have hn:aA (.slice b 0 cl.length (cl.length+cm.length))=some (.int .i64 (l.length:Int)):=by rw[<- l1];rfl
 refine vA hn (tB (vA hn1 (tB (bA (fun e=>absurd rfl (oN.1 e)) (vA hn1 (tB ?_))))));rw[wrap_i64 (by omega) (by omega),show(l.length:Int)+12=((cl.length+cm.length:Nat):Int) by omega];have h2':=h2;rcases h2' with⟨q,_⟩ | ⟨b',off,cap,q1,q2,⟨c,n,lo,q3,q4⟩,q5⟩
 ·cases q
 ·cases q1;refine sC (DO hS q3 q4 (ybk _)) (zC (hK _ cl cm ?_ h3 h4))
  simp_all
end
end
section
def zeroF:fC:=⟨⟨false,[]⟩,⟨false,[]⟩⟩
def jI(i:Nat):List Nat:=[35,1,0,0,47,i,0,0]
def tY:List D:=(List.range 12).map fun i=>D.int .u16 (((8000024+i)%65536:Nat):Int)
def Fj (i:Nat):vD:=⟨((8000024+i:Nat):Int),0,0,zeroF⟩
def Ey(i:Nat):tD:=⟨jI i,false,[]⟩
def Hm(name:List Nat):qA:=.mk 0 name ⟨0,zeroF,0⟩ []
def zji(i:Nat):qA:=Hm (jI i)
def Hd(i:Nat):gC:=⟨[],jI i,0,0,0,false,Hm [],Hm []⟩
def defM (i:Nat):cE:=⟨jI i,0,false⟩
def cZ:List D:=(List.range 12).map fun i=>(Fj i).d
def eZ:List D:=(List.range 12).map fun i=>(Ey i).d
def Ay:List D:=(List.range 12).map fun i=>(zji i).d
def Bc:List D:=(List.range 12).map fun i=>(Hd i).d
def Bb:List D:=(List.range 12).map fun i=>(defM i).d
def nF.e(w:nF):E:=.st [.pl (.bool w.neg),.sl 1 ((jC w.limbs).map E.pl) tY]
def fC.e(f:fC):E:=.st [f.n.e,f.d.e]
def xE.e(v:xE):E:=.st [.pl (.int .u8 v.kind),v.f.e,.pl (.int .i64 v.i)]
mutual
def qA.e:qA->E
 | .mk op name v args=>.st [.pl (.int .u8 op),.pl (.str name),v.e,.sl 9 (qA.es args) Ay]
def qA.es:List qA->List E
 | []=>[]
 | x::l=>x.e::qA.es l
end
def qA.es_eq(l:List qA):qA.es l=l.map qA.e:=by
 induction l with
 | nil=>rfl
 | cons x l ih=>simp[qA.es,ih]
def vD.e(r:vD):E:=.st [.pl (.int .i64 r.a),.pl (.int .i64 r.b),.pl (.int .i64 r.known),r.f.e]
def tD.e(x:tD):E:=.st [.pl (.str x.name),.pl (.bool x.two),.sl 7 (x.rows.map vD.e) cZ]
def cE.e(x:cE):E:=.pl x.d
def gC.e(x:gC):E:=.st [.pl (.str x.name),.pl (.str x.label),.pl (.int .i64 x.from_),.pl (.int .i64 x.to),.pl (.int .i64 x.known),.pl (.bool x.off),x.when_.e,x.then_.e]
def wF.e(x:wF):E:=.st [.pl (.str x.name),.sl 3 (x.defs.map cE.e) Bb,.sl 3 (x.tables.map tD.e) eZ,.sl 24 (x.clauses.map gC.e) Bc]
theorem Ow(l:List D):(l.map E.pl).map E.d=l:=by
 induction l with
 | nil=>rfl
 | cons d l ih=>rw[ycm,ycm,ih];rfl
theorem nF.ed(w:nF):w.e.d=w.d:=by
 unfold nF.e nF.d;simp only[E.d,E.ds,E.ds_map,Ow]
theorem fC.ed(f:fC):f.e.d=f.dd:=by
 grind [fC.e,fC.dd,E.d,E.ds,nF.ed]
theorem xE.ed(v:xE):v.e.d=v.d:=by
 simp_all [xE.e,xE.d,E.d,E.ds,fC.ed]
mutual
theorem qA.ed:∀x:qA,x.e.d=x.d
 | .mk op name v args=>by
  simp_all [qA.e,qA.d,E.d,E.ds,xE.ed,qA.eds]
theorem qA.eds:∀l:List qA,E.ds (qA.es l)=qA.ds l
 | []=>by unfold qA.es qA.ds;rfl
 | x::l=>by
  unfold qA.es qA.ds;rw[E.ds,qA.ed x,qA.eds l]
end
theorem vD.ed(r:vD):r.e.d=r.d:=by
 simp_all [vD.e,vD.d,E.d,E.ds,fC.ed]
theorem cT{α:Type}{f:α->E}{g:α->D}(h:∀x,(f x).d=g x)(l:List α):(l.map f).map E.d=l.map g:=by
 simp_all
theorem tD.ed(x:tD):x.e.d=x.d:=by
 grind [tD.e,tD.d,E.d,E.ds_map,cT,vD.ed]
theorem cE.ed(x:cE):x.e.d=x.d:=rfl
theorem gC.ed(x:gC):x.e.d=x.d:=by
 simp_all [gC.e,gC.d,E.d,E.ds,qA.ed]
theorem wF.ed(x:wF):x.e.d=x.d:=by
 grind [wF.e,wF.d,E.d,E.ds,E.ds_map,cT,cE.ed,tD.ed,gC.ed]
section
variable {t:Tr sA}
theorem yY{w:nF}{u:zA}(hu:mA t 1 (jC w.limbs) u):RD t w.d [.bool w.neg,u]:=by
 unfold nF.d;rw[qJ];refine⟨[[.bool w.neg],[u]],rfl,?_⟩
 grind [jH,wI,oQ,qM]
theorem eV{f:fC}{u v:zA}(hu:mA t 1 (jC f.n.limbs) u)(hv:mA t 1 (jC f.d.limbs) v):RD t f.dd [.bool f.n.neg,u,.bool f.d.neg,v]:=by
 unfold fC.dd;rw[qJ];refine⟨[[.bool f.n.neg,u],[.bool f.d.neg,v]],rfl,?_⟩
 grind [jH,yY,wI]
theorem Kk{x:xE}{u v:zA}(hu:mA t 1 (jC x.f.n.limbs) u)(hv:mA t 1 (jC x.f.d.limbs) v):RD t x.d [.int .u8 x.kind,.bool x.f.n.neg,u,.bool x.f.d.neg,v,.int .i64 x.i]:=by
 unfold xE.d;rw[qJ];refine⟨[[.int .u8 x.kind],[.bool x.f.n.neg,u,.bool x.f.d.neg,v],[.int .i64 x.i]],rfl,?_⟩
 grind [jH,vP,eV,wI]
theorem mk_row{x:vD}{u v:zA}(hu:mA t 1 (jC x.f.n.limbs) u)(hv:mA t 1 (jC x.f.d.limbs) v):RD t x.d [.int .i64 x.a,.int .i64 x.b,.int .i64 x.known,.bool x.f.n.neg,u,.bool x.f.d.neg,v]:=by
 unfold vD.d;rw[qJ];refine⟨[[.int .i64 x.a],[.int .i64 x.b],[.int .i64 x.known],[.bool x.f.n.neg,u,.bool x.f.d.neg,v]],rfl,?_⟩
 grind [jH,wI,vP,eV]
theorem zco{x:tD}{v:zA}(hv:mA t 7 (x.rows.map vD.d) v):RD t x.d [.str x.name,.bool x.two,v]:=by
 unfold tD.d;rw[qJ];refine⟨[[.str x.name],[.bool x.two],[v]],rfl,?_⟩
 grind [jH,wI,mR,oQ,qM]
theorem zia{op:Nat}{name:List Nat}{v:xE}{args:List qA}{a b c:zA}(ha:mA t 1 (jC v.f.n.limbs) a)(hb:mA t 1 (jC v.f.d.limbs) b)(hc:mA t 9 (args.map qA.d) c):RD t (qA.mk op name v args).d (qH (.mk op name v args) a b c):=by
 unfold qA.d qH;rw[qJ,qA.ds_eq];refine⟨[[.int .u8 op],[.str name],[.int .u8 v.kind,.bool v.f.n.neg,a,.bool v.f.d.neg,b,.int .i64 v.i],[c]],rfl,?_⟩;rw[jH];refine⟨_,_,rfl,rfl,?_⟩;rw[jH];refine⟨_,_,rfl,rfl,?_⟩
 grind [jH,Kk,qM,wI]
theorem VP{x:gC}{cs ds:List zA}(h1:RD t x.when_.d cs)(h2:RD t x.then_.d ds):RD t x.d ([.str x.name,.str x.label,.int .i64 x.from_,.int .i64 x.to,.int .i64 x.known,.bool x.off]++(cs++ds)):=by
 unfold gC.d;rw[qJ];refine⟨[[.str x.name],[.str x.label],[.int .i64 x.from_],[.int .i64 x.to],[.int .i64 x.known],[.bool x.off],cs,ds],by simp,?_⟩;simp only[jH,wI,mR,vP,oQ];grind
theorem rY{w:nF}{cs:List zA}:LE t w.e cs ↔ ∃u,cs=[.bool w.neg,u]/\LE t (.sl 1 ((jC w.limbs).map E.pl) tY) [u]:=by
 unfold nF.e;rw[Bo];simp only[mQ,yT,dW,oQ];constructor
 ·rintro⟨cl,rfl,c,r,rfl,rfl,c',r',rfl,h,rfl⟩;obtain⟨v,rfl,_⟩:=h.sl
  simp_all
 grind
theorem Gi{f:fC}{cs:List zA}:LE t f.e cs ↔ ∃u v,cs=[.bool f.n.neg,u,.bool f.d.neg,v]/\LE t (.sl 1 ((jC f.n.limbs).map E.pl) tY) [u]/\LE t (.sl 1 ((jC f.d.limbs).map E.pl) tY) [v]:=by
 unfold fC.e;rw[Bo];simp only[mQ,yT];constructor
 ·grind [rY]
 ·rintro⟨u,v,rfl,h3,h4⟩;exact⟨[[.bool f.n.neg,u],[.bool f.d.neg,v]],rfl,_,_,rfl,rY.2 ⟨u,rfl,h3⟩,_,_,rfl,rY.2 ⟨v,rfl,h4⟩,rfl⟩
theorem Qb{x:xE}{cs:List zA}:LE t x.e cs ↔ ∃u v,cs=[.int .u8 x.kind,.bool x.f.n.neg,u,.bool x.f.d.neg,v,.int .i64 x.i]/\LE t x.f.e [.bool x.f.n.neg,u,.bool x.f.d.neg,v]:=by
 unfold xE.e;rw[Bo];simp only[mQ,yT,dW,vP];constructor
 all_goals grind [Gi]
theorem zfb{x:vD}{cs:List zA}:LE t x.e cs ↔ ∃u v,cs=[.int .i64 x.a,.int .i64 x.b,.int .i64 x.known,.bool x.f.n.neg,u,.bool x.f.d.neg,v]/\LE t x.f.e [.bool x.f.n.neg,u,.bool x.f.d.neg,v]:=by
 unfold vD.e;rw[Bo];simp only[mQ,yT,dW,vP];constructor
 ·grind [Gi]
 ·rintro⟨u,v,rfl,h⟩;exact⟨[[.int .i64 x.a],[.int .i64 x.b],[.int .i64 x.known],[.bool x.f.n.neg,u,.bool x.f.d.neg,v]],rfl,_,_,rfl,rfl,_,_,rfl,rfl,_,_,rfl,rfl,_,_,rfl,h,rfl⟩
theorem HW{x:tD}{cs:List zA}:LE t x.e cs ↔ ∃u,cs=[.str x.name,.bool x.two,u]/\LE t (.sl 7 (x.rows.map vD.e) cZ) [u]:=by
 unfold tD.e;rw[Bo];simp only[mQ,yT,dW,mR,oQ];constructor
 ·rintro⟨cl,rfl,c,r,rfl,rfl,c',r',rfl,rfl,c3,r3,rfl,h,rfl⟩;obtain⟨v,rfl,_⟩:=h.sl
  simp_all
 grind
def HY{op:Nat}{name:List Nat}{v:xE}{args:List qA}{cs:List zA}:LE t (qA.mk op name v args).e cs ↔ ∃a b c,cs=qH (.mk op name v args) a b c/\LE t v.e [.int .u8 v.kind,.bool v.f.n.neg,a,.bool v.f.d.neg,b,.int .i64 v.i]/\LE t (.sl 9 (args.map qA.e) Ay) [c]:=by
 unfold qA.e;rw[Bo,qA.es_eq];simp only[mQ,yT,dW,mR,vP];constructor
 ·rintro⟨cl,rfl,c,r,rfl,rfl,c',r',rfl,rfl,c3,r3,rfl,h,c4,r4,rfl,h4,rfl⟩;have h':=h;obtain⟨a,b,rfl,_⟩:=Qb.1 h;obtain⟨w,rfl,_⟩:=h4.sl;exact⟨a,b,w,rfl,h',h4⟩
 ·rintro⟨a,b,c,rfl,h,h4⟩;exact⟨[[.int .u8 op],[.str name],[.int .u8 v.kind,.bool v.f.n.neg,a,.bool v.f.d.neg,b,.int .i64 v.i],[c]],rfl,_,_,rfl,rfl,_,_,rfl,rfl,_,_,rfl,h,_,_,rfl,h4,rfl⟩
def HZ{x:gC}{cs:List zA}:LE t x.e cs ↔ ∃c1 c2,cs=[.str x.name,.str x.label,.int .i64 x.from_,.int .i64 x.to,.int .i64 x.known,.bool x.off]++(c1++c2)/\LE t x.when_.e c1/\LE t x.then_.e c2:=by
 unfold gC.e;rw[Bo];simp only[mQ,yT,dW,mR,vP,oQ];constructor
 ·rintro⟨cl,rfl,c,r,rfl,rfl,c',r',rfl,rfl,c3,r3,rfl,rfl,c4,r4,rfl,rfl,c5,r5,rfl,rfl,c6,r6,rfl,rfl,c7,r7,rfl,h1,c8,r8,rfl,h2,rfl⟩;exact⟨c7,c8,by simp,h1,h2⟩
 ·rintro⟨c1,c2,rfl,h1,h2⟩;exact⟨[[.str x.name],[.str x.label],[.int .i64 x.from_],[.int .i64 x.to],[.int .i64 x.known],[.bool x.off],c1,c2],by simp,_,_,rfl,rfl,_,_,rfl,rfl,_,_,rfl,rfl,_,_,rfl,rfl,_,_,rfl,rfl,_,_,rfl,rfl,_,_,rfl,h1,_,_,rfl,h2,rfl⟩
theorem HX{x:wF}{cs:List zA}:LE t x.e cs ↔ ∃a b c,cs=[.str x.name,a,b,c]/\LE t (.sl 3 (x.defs.map cE.e) Bb) [a]/\LE t (.sl 3 (x.tables.map tD.e) eZ) [b]/\LE t (.sl 24 (x.clauses.map gC.e) Bc) [c]:=by
 unfold wF.e;rw[Bo];simp only[mQ,yT,dW,mR];constructor
 ·rintro⟨cl,rfl,c,r,rfl,rfl,c',r',rfl,h1,c3,r3,rfl,h2,c4,r4,rfl,h3,rfl⟩;obtain⟨a,rfl,_⟩:=h1.sl;obtain⟨b,rfl,_⟩:=h2.sl;obtain⟨d,rfl,_⟩:=h3.sl
  grind
 ·rintro⟨a,b,c,rfl,h1,h2,h3⟩;exact⟨[[.str x.name],[a],[b],[c]],rfl,_,_,rfl,rfl,_,_,rfl,h1,_,_,rfl,h2,_,_,rfl,h3,rfl⟩
theorem Jt{f:Nat->D}{i:Nat}{d:D}(h:((List.range 12).map f)[i]?=some d):i<12/\d=f i:=by
 grind
def Fr{sz:Nat}:mA t sz [] .nilslice:=⟨[],.inl ⟨rfl,rfl⟩,wI.2 rfl⟩
def Wk(i:Nat):RD t (Fj i).d [.int .i64 ((8000024+i:Nat):Int),.int .i64 0,.int .i64 0,.bool false,.nilslice,.bool false,.nilslice]:=mk_row (x:=Fj i) Fr Fr
def Th(i:Nat):RD t (Ey i).d [.str (jI i),.bool false,.nilslice]:=zco (x:=Ey i) Fr
def Lx(s:List Nat):RD t (Hm s).d [.int .u8 0,.str s,.int .u8 0,.bool false,.nilslice,.bool false,.nilslice,.int .i64 0,.nilslice]:=zia Fr Fr Fr
def AH(i:Nat):RD t (Hd i).d ([.str [],.str (jI i),.int .i64 0,.int .i64 0,.int .i64 0,.bool false]++([.int .u8 0,.str [],.int .u8 0,.bool false,.nilslice,.bool false,.nilslice,.int .i64 0,.nilslice]++[.int .u8 0,.str [],.int .u8 0,.bool false,.nilslice,.bool false,.nilslice,.int .i64 0,.nilslice])):=VP (x:=Hd i) (Lx []) (Lx [])
def AB(i:Nat):RD t (defM i).d [.str (jI i),.int .u8 0,.bool false]:=by
 unfold cE.d;rw[qJ];exact⟨[[_],[_],[_]],rfl,jH.2 ⟨_,_,rfl,rfl,jH.2 ⟨_,_,rfl,rfl,jH.2 ⟨_,_,rfl,rfl,wI.2 rfl⟩⟩⟩⟩
end
end
end Go.Am
set_option maxRecDepth 100000
namespace Go.Proofs
open Go Go.Am
variable [kC]
variable {t tf:Tr sA}
def zh2{i:Nat}(h:i<12):vB yA F 252 [.int .i64 1,.int .i64 (i:Int)] t=some (.int .i64 ((8000024+i:Nat):Int)):=by
 refine bB.2 (w252 ?_);unfold t252 uZ uW;have e1:iA .i64 (1000003*(iA .i64 ((1:Int)+7)))=8000024:=by kernel_rfl
 rw[e1,wrap_i64 (by omega) (by omega)];exact⟨rfl,rfl⟩
def lit8{b:Nat}{x0 x1 x2 x3 x4 x5 x6 x7:Int}:jE yA 90 8 [(0,.int .u8 x0),(1,.int .u8 x1),(2,.int .u8 x2),(3,.int .u8 x3),(4,.int .u8 x4),(5,.int .u8 x5),(6,.int .u8 x6),(7,.int .u8 x7)] ⟨b,t⟩=some (.slice b 0 8 8,uF ⟨b,t⟩ [.int .u8 x0,.int .u8 x1,.int .u8 x2,.int .u8 x3,.int .u8 x4,.int .u8 x5,.int .u8 x6,.int .u8 x7] none):=by
 unfold jE;rw[sO,pA];simp only[lD.asSlice,pA];rw[tN,pA];rfl
theorem Ok{i:Nat}(h:i<12):vB yA F 177 [.int .i64 1,.int .i64 (i:Int)] t=some (.str (jI i)):=by
 refine rN (w177 ?_);unfold t177 uS uY;have e1:iA .u8 (1:Int)=1:=by kernel_rfl
 have e2:iA .u8 (Int.fdiv 1 256)=0:=by kernel_rfl
 have e3:iA .u8 (Int.fdiv 1 65536)=0:=by kernel_rfl
 have f1:Int.fdiv (i:Int) 256=0:=by grind
 have f2:Int.fdiv (i:Int) 65536=0:=by grind
 have f0:iA .u8 (0:Int)=0:=by kernel_rfl
 rw[e1,e2,e3,f1,f2,f0,Eg (by omega) (by omega)];refine jG fun b hb _=>?_;obtain⟨t',g1,g2,g3,g4⟩:=aX hb [.int .u8 35,.int .u8 1,.int .u8 0,.int .u8 0,.int .u8 47,.int .u8 (i:Int),.int .u8 0,.int .u8 0] none;refine⟨_,_,lit8,?_⟩;rw[g1];refine sC (MP (l:=jI i) sO gH rfl rfl rfl tN rfl g2 rfl (fun j x hj=>?_) (fun x hx=>?_)) (pB ⟨rfl,g3⟩)
 ·have:[zA.int .u8 35,.int .u8 1,.int .u8 0,.int .u8 0,.int .u8 47,.int .u8 (i:Int),.int .u8 0,.int .u8 0]=(jI i).map fun(x:Nat)=>zA.int .u8 (x:Int):=rfl
  simp_all
 ·unfold jI at hx;simp at hx;omega
def pv104{i:Nat}(h:i<12):vB yA F 222 [.int .i64 1,.int .i64 (i:Int)] t=some (.agg [.int .i64 ((8000024+i:Nat):Int),.int .i64 0,.int .i64 0,.bool false,.nilslice,.bool false,.nilslice]):=by
 refine bB.2 (w222 ?_);unfold t222 uI uZ;refine cA ?_;rw[q252,zh2 h,xA];exact tB (tA rfl (tA rfl ⟨rfl,rfl⟩))
def pv76{i:Nat}(h:i<12):vB yA F 115 [.int .i64 1,.int .i64 (i:Int)] t=some (.agg [.str (jI i),.bool false,.nilslice]):=by
 refine bB.2 (w115 ?_);unfold t115 uS uZ;refine cA ?_;rw[q177,Ok h,xA];exact pB (tA rfl (tA rfl ⟨rfl,rfl⟩))
def pv74{i:Nat}(h:i<12):vB yA F 113 [.int .i64 1,.int .i64 (i:Int)] t=some (.agg [.str (jI i),.int .u8 0,.bool false]):=by
 refine bB.2 (w113 ?_);unfold t113 uS uZ uY;refine cA ?_;rw[q177,Ok h,xA];exact pB (tA rfl (tA rfl ⟨rfl,rfl⟩))
def pv80{i:Nat}(h:i<12):vB yA F 135 [.int .i64 1,.int .i64 (i:Int)] t=some (.agg [.int .u8 0,.str (jI i),.int .u8 0,.bool false,.nilslice,.bool false,.nilslice,.int .i64 0,.nilslice]):=by
 refine bB.2 (w135 ?_);unfold t135 uS uZ uY;refine cA ?_;rw[q177,Ok h,xA];exact pB (tA rfl (tA rfl ⟨rfl,rfl⟩))
def pv78{i:Nat}(h:i<12):vB yA F 117 [.int .i64 1,.int .i64 (i:Int)] t=some (.agg ([.str [],.str (jI i),.int .i64 0,.int .i64 0,.int .i64 0,.bool false]++([.int .u8 0,.str [],.int .u8 0,.bool false,.nilslice,.bool false,.nilslice,.int .i64 0,.nilslice]++[.int .u8 0,.str [],.int .u8 0,.bool false,.nilslice,.bool false,.nilslice,.int .i64 0,.nilslice]))):=by
 refine bB.2 (w117 ?_);unfold t117 uS uZ uY;refine cA ?_;rw[q177,Ok h,xA];exact pB (tA rfl (tA rfl ⟨rfl,rfl⟩))
def sam203{l:List Nat}{u v:zA}(hu:mA t 1 (jC l) u)(hv:mA t 1 (jC l) v)(hl:l.length<300000):vB yA F 253 [u,v] t=some (.bool true):=by
 have hn:aA u=some (.int .i64 (l.length:Int)):=by rw[hu.len,fN]
 have hn':aA v=some (.int .i64 (l.length:Int)):=by rw[hv.len,fN]
 refine bB.2 (w253 ?_);unfold t253 uI jA uZ;refine vA hn (tB (vA hn' (tB (bA (fun e=>absurd rfl (oN.1 e)) (zC ?_)))));have loop:∀(m i:Nat),i+m=l.length->jp 253 2 [u,v,.int .i64 (i:Int)] t (fun v' t'=>v'=.bool true/\t'=t):=by
  intro m;induction m with
  | zero=>
   intro i hi;refine zfw ?_;unfold Ud uI uH qB jA cD uZ;exact vA hn (tB (bA (fE (by omega)) ⟨rfl,rfl⟩))
  | succ m ih=>
   intro i hi;obtain⟨x,hx⟩:=getElem?_of_lt (show i<l.length by omega);obtain⟨p,o,g1,g2⟩:=mA.idx (C:=yA) zI hu hx;obtain⟨p',o',g3,g4⟩:=mA.idx (C:=yA) zI hv hx;refine zfw ?_;unfold Ud uI uH qB jA cD uZ;refine vA hn (tB (tA (qE (by omega)) (vA g1 (sC g2 (tB (vA g3 (sC g4 (tB (bA (fun e=>absurd rfl (oN.1 e)) (zC ?_))))))))));rw[wrap_i64 (by omega) (by omega)]
   exact ih (i+1) (by omega)
 exact loop l.length 0 (by omega)
def Vy{w:nF}{cs ds:List zA}(hl:w.limbs.length<300000)(h:RD t w.d cs)(k:RD t w.d ds):vB yA F 231 [.agg cs,.agg ds] t=some (.bool true):=by
 obtain⟨u,rfl,hu⟩:=Fq h;obtain⟨v,rfl,hv⟩:=Fq k;refine bB.2 (w231 ?_);unfold t231 uB jA;refine tA (by rw[dS];simp) (cA ?_);rw[q253,sam203 hu hv hl,xA];exact yC ⟨rfl,rfl⟩
def Vz{f:fC}{cs ds:List zA}(hl:f.n.limbs.length<300000/\f.d.limbs.length<300000)(h:RD t f.dd cs)(k:RD t f.dd ds):vB yA F 192 [.agg cs,.agg ds] t=some (.bool true):=by
 obtain⟨a,b,rfl,ha,hb⟩:=Fs h;obtain⟨a',b',rfl,ha',hb'⟩:=Fs k;refine bB.2 (w192 ?_);unfold t192 uB jA;refine cA ?_;rw[q231,Vy hl.1 (yY (w:=f.n) ha) (yY (w:=f.n) ha'),xA];refine yC (tA rfl (cA ?_));rw[q231,Vy hl.2 (yY (w:=f.d) hb) (yY (w:=f.d) hb'),xA];exact yC ⟨rfl,rfl⟩
def sam94{x:xE}{cs ds:List zA}(hl:x.f.n.limbs.length<300000/\x.f.d.limbs.length<300000)(h:RD t x.d cs)(k:RD t x.d ds):vB yA F 144 [.agg cs,.agg ds] t=some (.bool true):=by
 obtain⟨a,b,rfl,ha,hb⟩:=Js h;obtain⟨a',b',rfl,ha',hb'⟩:=Js k;refine bB.2 (w144 ?_);unfold t144 uB jA;refine tA (tE.2 rfl) (cA ?_);rw[q192,Vz hl (eV (f:=x.f) ha hb) (eV (f:=x.f) ha' hb'),xA];refine yC (tA rfl ?_);rw[tE.2 rfl];exact⟨rfl,rfl⟩
def Wa{x:vD}{cs ds:List zA}(hl:x.f.n.limbs.length<300000/\x.f.d.limbs.length<300000)(h:RD t x.d cs)(k:RD t x.d ds):vB yA F 228 [.agg cs,.agg ds] t=some (.bool true):=by
 obtain⟨a,b,rfl,ha,hb⟩:=kX h;obtain⟨a',b',rfl,ha',hb'⟩:=kX k;refine bB.2 (w228 ?_);unfold t228 uB jA;refine tA (tE.2 rfl) (tA (tE.2 rfl) (tA (tE.2 rfl) (cA ?_)));rw[q192,Vz hl (eV (f:=x.f) ha hb) (eV (f:=x.f) ha' hb'),xA];exact yC ⟨rfl,rfl⟩
theorem sam58{l:List vD}{u v:zA}(hn:l.length<300000)(hl:∀x∈l,x.f.n.limbs.length<300000/\x.f.d.limbs.length<300000)(hu:mA t 7 (l.map vD.d) u)(hv:mA t 7 (l.map vD.d) v):vB yA F 188 [u,v] t=some (.bool true):=by
 refine bB.2 (w188 ?_);unfold t188 uI jA uZ;refine vA hu.len (tB (vA hv.len (tB (bA (fun e=>absurd rfl (oN.1 e)) (zC ?_)))));refine Jl (C:=yA) (W:=Wq yA F gE) (J:=Jq yA F 188) (g:=fS 228) (ne:=not) (ok:=true) (ds:=l.map vD.d) nV (fun d hd=>?_) rfl (fun d hd cs cs' K h1 h2 hK=>?_) (by simp_all) (fun i hw=>j188_2 hw) hu hv ⟨rfl,rfl⟩ l.length 0 (by simp)
 ·obtain⟨x,_,rfl⟩:=yaq.1 hd;exact x.zs
 ·obtain⟨x,hx,rfl⟩:=yaq.1 hd;refine cA ?_;rw[q228,Wa (hl x hx) h1 h2,xA];exact hK
def zhs{x:tD}{cs ds:List zA}(hn:x.rows.length<300000)(hl:∀r∈x.rows,r.f.n.limbs.length<300000/\r.f.d.limbs.length<300000)(h:RD t x.d cs)(k:RD t x.d ds):vB yA F 131 [.agg cs,.agg ds] t=some (.bool true):=by
 obtain⟨a,rfl,ha⟩:=lX h;obtain⟨b,rfl,hb⟩:=lX k;refine bB.2 (w131 ?_);unfold t131 uB jA;refine tA ((rH _ _).2 rfl) (tA (by rw[dS];simp) (cA ?_));rw[q188,sam58 hn hl ha hb,xA];exact yC ⟨rfl,rfl⟩
theorem sam89{l:List tD}{u v:zA}(hn:l.length<300000)(hl:∀x∈l,x.rows.length<300000/\∀r∈x.rows,r.f.n.limbs.length<300000/\r.f.d.limbs.length<300000)(hu:mA t 3 (l.map tD.d) u)(hv:mA t 3 (l.map tD.d) v):vB yA F 128 [u,v] t=some (.bool true):=by
 refine bB.2 (w128 ?_);unfold t128 uI jA uZ;refine vA hu.len (tB (vA hv.len (tB (bA (fun e=>absurd rfl (oN.1 e)) (zC ?_)))));refine Jl (C:=yA) (W:=Wq yA F gE) (J:=Jq yA F 128) (g:=fS 131) (ne:=not) (ok:=true) (ds:=l.map tD.d) lV (fun d hd=>?_) rfl (fun d hd cs cs' K h1 h2 hK=>?_) (by simp_all) (fun i hw=>j128_2 hw) hu hv ⟨rfl,rfl⟩ l.length 0 (by simp)
 ·obtain⟨x,_,rfl⟩:=yaq.1 hd;exact x.zs
 ·obtain⟨x,hx,rfl⟩:=yaq.1 hd;refine cA ?_;rw[q131,zhs (hl x hx).1 (hl x hx).2 h1 h2,xA];exact hK
theorem MK{x y:Operand}{s:List Nat}{k:Int}{b:Bool}:(zN .eql).f yA 47 x y (.agg [.str s,.int .u8 k,.bool b]) (.agg [.str s,.int .u8 k,.bool b])=some (.bool true):=by
 have e:(zN .eql).f yA 47 x y (.agg [.str s,.int .u8 k,.bool b]) (.agg [.str s,.int .u8 k,.bool b])=ob (bif zD s s then(bif zB k k then(bif bEq b b then some true else some false)else some false)else some false) fun r=>some (.bool r):=by kernel_rfl
 rw[e,(rH s s).2 rfl,tE.2 rfl];cases b<;>rfl
theorem zjr{x y:Operand}{s:List Nat}{k:Int}{b:Bool}:(zN .neq).f yA 47 x y (.agg [.str s,.int .u8 k,.bool b]) (.agg [.str s,.int .u8 k,.bool b])=some (.bool false):=by
 have e:(zN .neq).f yA 47 x y (.agg [.str s,.int .u8 k,.bool b]) (.agg [.str s,.int .u8 k,.bool b])=ob (bif zD s s then(bif zB k k then(bif bEq b b then some true else some false)else some false)else some false) fun r=>some (.bool (!r)):=by kernel_rfl
 rw[e,(rH s s).2 rfl,tE.2 rfl];cases b<;>rfl
theorem sam88{l:List cE}{u v:zA}(hn:l.length<300000)(hu:mA t 3 (l.map cE.d) u)(hv:mA t 3 (l.map cE.d) v):vB yA F 127 [u,v] t=some (.bool true):=by
 refine bB.2 (w127 ?_);unfold t127 uI jA uZ;refine vA hu.len (tB (vA hv.len (tB (bA (fun e=>absurd rfl (oN.1 e)) (zC ?_)))));refine Jl (C:=yA) (W:=Wq yA F gE) (J:=Jq yA F 127) (g:=fun a b K=>.opt ((zN .neq).f yA 47 (.tmp 20) (.tmp 24) (.agg a) (.agg b)) K) (ne:=fun b=>b) (ok:=false) (ds:=l.map cE.d) rX (fun d hd=>?_) rfl (fun d hd cs cs' K h1 h2 hK=>?_) (by simp_all) (fun i hw=>j127_2 hw) hu hv ⟨rfl,rfl⟩ l.length 0 (by simp)
 ·obtain⟨x,_,rfl⟩:=yaq.1 hd;exact x.zs
 ·obtain⟨x,hx,rfl⟩:=yaq.1 hd;have e1:=gT h1
  grind [gT,vA,zjr]
mutual
theorem Jm:∀(x:qA),qA.cpy x->∀cs ds,RD t x.d cs->RD t x.d ds->vB yA F 73 [.agg cs,.agg ds] t=some (.bool true)
 | .mk op name v args,h,cs,ds,hc,hd=>by
  obtain⟨a,b,c,rfl,ha,hb,he⟩:=xJ hc;obtain⟨a',b',c',rfl,ha',hb',he'⟩:=xJ hd;simp only[qA.op,qA.name,qA.v,qA.args]at ha hb he ha' hb' he' ⊢;unfold qA.cpy at h;refine bB.2 (w73 ?_);unfold t73 uB jA uZ uY;refine tA (tE.2 rfl) (tA ((rH _ _).2 rfl) (cA ?_));rw[q144,sam94 h.1 (Kk (x:=v) ha hb) (Kk (x:=v) ha' hb'),xA];refine yC (tA rfl (cA ?_))
  have:=sam95 args h.2.2;have e95:vB yA F 145 [c,c'] t=some (.bool true):=by
   refine bB.2 (w145 ?_);unfold t145 uI jA uZ;refine vA he.len (tB (vA he'.len (tB (bA (fun e=>absurd rfl (oN.1 e)) (zC ?_)))));refine Jl (C:=yA) (W:=Wq yA F gE) (J:=Jq yA F 145) (g:=fS 73) (ne:=not) (ok:=true) (ds:=args.map qA.d) nT (fun d hd=>?_) rfl (fun d hd cs cs' K h1 h2 hK=>?_) (by simp_all) (fun i hw=>j145_2 hw) he he' ⟨rfl,rfl⟩ args.length 0 (by simp)
   ·obtain⟨x,_,rfl⟩:=yaq.1 hd;exact x.zs
   ·obtain⟨x,hx,rfl⟩:=yaq.1 hd;refine cA ?_;rw[q73,this x hx cs cs' h1 h2,xA];exact hK
  rw[q145,e95,xA];exact yC ⟨rfl,rfl⟩
theorem sam95:∀(l:List qA),qA.cpys l->∀x∈l,∀cs ds,RD t x.d cs->RD t x.d ds->vB yA F 73 [.agg cs,.agg ds] t=some (.bool true)
 | [],_,x,hx=>by cases hx
 | y::l,h,x,hx=>by
  unfold qA.cpys at h;rcases ybs.1 hx with e | hx
  ·rw[e];exact Jm y h.1
  ·exact sam95 l h.2 x hx
end
def zhr{x:gC}{cs ds:List zA}(hw:qA.cpy x.when_)(ht:qA.cpy x.then_)(h:RD t x.d cs)(k:RD t x.d ds):vB yA F 133 [.agg cs,.agg ds] t=some (.bool true):=by
 obtain⟨a,b,c,d,e,f,rfl,h1,h2⟩:=jX h;obtain⟨a',b',c',d',e',f',rfl,k1,k2⟩:=jX k;refine bB.2 (w133 ?_);unfold t133 uB jA uZ uY;refine tA ((rH _ _).2 rfl) (tA ((rH _ _).2 rfl) (tA (tE.2 rfl) (tA (tE.2 rfl) (tA (tE.2 rfl) (tA (by rw[dS];simp) (cA ?_))))));have e1:=Jm x.when_ hw _ _ h1 k1;have e2:=Jm x.then_ ht _ _ h2 k2
 unfold qH at e1 e2;rw[q73,e1,xA];refine yC (tA rfl (cA ?_));rw[q73,e2,xA];exact yC ⟨rfl,rfl⟩
theorem sam90{l:List gC}{u v:zA}(hn:l.length<300000)(hl:∀x∈l,qA.cpy x.when_/\qA.cpy x.then_)(hu:mA t 24 (l.map gC.d) u)(hv:mA t 24 (l.map gC.d) v):vB yA F 129 [u,v] t=some (.bool true):=by
 refine bB.2 (w129 ?_);unfold t129 uI jA uZ;refine vA hu.len (tB (vA hv.len (tB (bA (fun e=>absurd rfl (oN.1 e)) (zC ?_)))));refine Jl (C:=yA) (W:=Wq yA F gE) (J:=Jq yA F 129) (g:=fS 133) (ne:=not) (ok:=true) (ds:=l.map gC.d) mV (fun d hd=>?_) rfl (fun d hd cs cs' K h1 h2 hK=>?_) (by simp_all) (fun i hw=>j129_2 hw) hu hv ⟨rfl,rfl⟩ l.length 0 (by simp)
 ·obtain⟨x,_,rfl⟩:=yaq.1 hd;exact x.zs
 ·obtain⟨x,hx,rfl⟩:=yaq.1 hd;refine cA ?_;rw[q133,zhr (hl x hx).1 (hl x hx).2 h1 h2,xA];exact hK
def sam47{p:wF}{cs ds:List zA}(hp:wF.cpy p)(h:RD t p.d cs)(k:RD t p.d ds):vB yA F 62 [.agg cs,.agg ds] t=some (.bool true):=by
 obtain⟨a,b,c,rfl,ha,hb,hc⟩:=zR h;obtain⟨a',b',c',rfl,ha',hb',hc'⟩:=zR k;refine bB.2 (w62 ?_);unfold t62 uB jA;refine tA ((rH _ _).2 rfl) (cA ?_);rw[q127,sam88 hp.defs ha ha',xA];refine yC (tA rfl (cA ?_));rw[q128,sam89 hp.tables hp.rows hb hb',xA];refine yC (tA rfl (cA ?_));rw[q129,sam90 hp.clauses hp.exprs hc hc',xA];exact yC ⟨rfl,rfl⟩
end Go.Proofs
namespace Go.Proofs
open Go Go.Am
section
variable [kC]
variable {t tf:Tr sA}
def el30:gL yA 30 72 1:=⟨⟨_,tV,rfl,rfl⟩,⟨_,lM,rfl,rfl,by decide,by decide⟩,fun y h=>by rw[lM]at h;cases h;rfl⟩
def el22:gL yA 22 47 3:=⟨⟨_,ty22,rfl,rfl⟩,⟨_,ty47,rfl,rfl,by decide,by decide⟩,fun y h=>by rw[ty47]at h;cases h;rfl⟩
def el23:gL yA 23 50 3:=⟨⟨_,ty23,rfl,rfl⟩,⟨_,ty50,rfl,rfl,by decide,by decide⟩,fun y h=>by rw[ty50]at h;cases h;rfl⟩
def el24:gL yA 24 55 24:=⟨⟨_,ty24,rfl,rfl⟩,⟨_,ty55,rfl,rfl,by decide,by decide⟩,fun y h=>by rw[ty55]at h;cases h;rfl⟩
def el48:gL yA 48 53 7:=⟨⟨_,ty48,rfl,rfl⟩,⟨_,ty53,rfl,rfl,by decide,by decide⟩,fun y h=>by rw[ty53]at h;cases h;rfl⟩
def el37:gL yA 37 39 9:=⟨⟨_,ty37,rfl,rfl⟩,⟨_,ty39,rfl,rfl,by decide,by decide⟩,fun y h=>by rw[ty39]at h;cases h;rfl⟩
theorem zeb{i:Nat}(h:i<12):iA .u16 ((8000024+i:Nat):Int)=(((8000024+i)%65536:Nat):Int):=by
 have:(List.range 12).all (fun i=>zB (iA .u16 ((8000024+i:Nat):Int)) (((8000024+i)%65536:Nat):Int))=true:=by kernel_rfl
 grind [tE]
theorem Ft{f:Nat->D}{i:Nat}(h:i<12):((List.range 12).map f)[i]?=some (f i):=by
 simp_all
theorem zii{l:List Nat}{x:zA}{L:List dG}{Q:wC}(hx:mA tf 1 (jC l) x)(ho:kE yA.base tf t L)(hl:l.length<300000)(hQ:Ed yA.base tf L 1 ((jC l).map E.pl) tY Q):Wc yA F 229 [x] t Q:=by
 refine w229 ?_;unfold t229 uI uZ uW;refine Gh el30 (by grind [fN]) hx ho fun b t1 ho1=>?_;refine HP el30 (by omega) hx ho1 fun t2 ho2=>zC ?_;have:=Gg (W:=Wq yA F gE) (J:=Jq yA F 229) (p:=2) (v0:=x) (Q:=Q) (l:=(jC l).map E.pl) (m:=tY) (tf0:=tf) (L:=L) (w:=fun i=>.int .u16 (((8000024+i)%65536:Nat):Int)) (cm:=fun i=>[.int .u16 (((8000024+i)%65536:Nat):Int)]) el30 zI rfl (fun i hi=>⟨_,Ft hi,fun t=>rfl⟩) (fun i hi=>US el30)
  (fun i hi v t hw=>zf4 (by
   unfold Um uI qB uZ;refine tA (qE (by omega)) (cA ?_);rw[q252,zh2 hi,xA];grind [tB,zeb]))
  (fun v t hw=>zf4 (i0:=12) (by unfold Um uI qB uZ;grind [bA,fE])) (by rw[hx.len,ybf]) hQ (b:=b) 12 0 tf t2 (by omega) (yB.refl _)
 simp_all
def HQ{w:nF}(hl:w.limbs.length<300000):zV yA.base (Wq yA F gE) 189 w.e:=by
 intro L tf t cs Q ho hd hQ;rw[nF.ed]at hd;obtain⟨u,rfl,hu⟩:=Fq hd;rw[q189];refine w189 ?_;unfold t189 mC;refine cA ?_;rw[q229];refine zii hu ho hl fun tf' t' v k1 k2 k3=>?_;have hr:=rY.2 ⟨v,rfl,k3⟩;exact tA (LE.rd _ _ k3).all (tA (LE.rd _ _ hr).all (hQ tf' t' _ k1 k2 hr))
theorem zfa{f:fC}(hl:f.n.limbs.length<300000/\f.d.limbs.length<300000):zV yA.base (Wq yA F gE) 134 f.e:=by
 intro L tf t cs Q ho hd hQ;rw[fC.ed]at hd;obtain⟨u,v,rfl,hu,hv⟩:=Fs hd;rw[q134];refine w134 ?_;unfold t134 uG mC pP;refine cA (HQ hl.1 ho (by grind [nF.ed,yY]) fun tf1 t1 c1 k1 k2 k3=>?_);have r1:=LE.rd _ _ k3;have hz1:=aF r1 ((congrArg D.zs (nF.ed _)).trans (nF.zs _));have a1:=r1.all;obtain⟨u1,rfl,hu1⟩:=rY.1 k3;refine dF hz1 (tA a1 (cA (HQ hl.2 k2 (by rw[nF.ed];exact yY (w:=f.d) (hv.mono k1)) fun tf2 t2 c2 m1 m2 m3=>?_)))
 have r2:=LE.rd _ _ m3;have hz2:=aF r2 ((congrArg D.zs (nF.ed _)).trans (nF.zs _));have a2:=r2.all;obtain⟨v1,rfl,hv1⟩:=rY.1 m3;have hr:=Gi.2 ⟨u1,v1,rfl,LE.mono m1 _ _ hu1,hv1⟩;exact dF hz2 (tA a2 (tA (LE.rd _ _ hr).all (hQ tf2 t2 _ (k1.trans m1) m2 hr)))
theorem lent43{x:xE}(hl:x.f.n.limbs.length<300000/\x.f.d.limbs.length<300000):zV yA.base (Wq yA F gE) 66 x.e:=by
 intro L tf t cs Q ho hd hQ;rw[xE.ed]at hd;obtain⟨u,v,rfl,hu,hv⟩:=Js hd;rw[q66];refine w66 ?_;unfold t66 uG mC uZ uY uM8;refine cA (zfa hl ho (by grind [fC.ed,eV]) fun tf1 t1 c1 k1 k2 k3=>?_);have r1:=LE.rd _ _ k3;have hz1:=aF r1 ((congrArg D.zs (fC.ed _)).trans (fC.zs _));have a1:=r1.all;have k3':=k3;obtain⟨u1,v1,rfl,_,_⟩:=Gi.1 k3';have hr:=Qb.2 ⟨u1,v1,rfl,k3⟩
 exact dF hz1 (tA a1 (tA (LE.rd _ _ hr).all (hQ tf1 t1 _ k1 k2 hr)))
theorem zij{r:vD}(hl:r.f.n.limbs.length<300000/\r.f.d.limbs.length<300000):zV yA.base (Wq yA F gE) 221 r.e:=by
 intro L tf t cs Q ho hd hQ;rw[vD.ed]at hd;obtain⟨u,v,rfl,hu,hv⟩:=kX hd;rw[q221];refine w221 ?_;unfold t221 uG mC uZ uM8;refine cA (zfa hl ho (by grind [fC.ed,eV]) fun tf1 t1 c1 k1 k2 k3=>?_);have r1:=LE.rd _ _ k3;have hz1:=aF r1 ((congrArg D.zs (fC.ed _)).trans (fC.zs _));have a1:=r1.all;have k3':=k3;obtain⟨u1,v1,rfl,_,_⟩:=Gi.1 k3';have hr:=zfb.2 ⟨u1,v1,rfl,k3⟩
 exact dF hz1 (tA a1 (tA (LE.rd _ _ hr).all (hQ tf1 t1 _ k1 k2 hr)))
theorem zik{l:List vD}{x:zA}{L:List dG}{Q:wC}(hx:mA tf 7 (l.map vD.d) x)(ho:kE yA.base tf t L)(hn:l.length<300000)(hl:∀r∈l,r.f.n.limbs.length<300000/\r.f.d.limbs.length<300000)(hQ:Ed yA.base tf L 7 (l.map vD.e) cZ Q):Wc yA F 178 [x] t Q:=by
 refine w178 ?_;unfold t178 uI uZ uW;refine Gh el48 (by simp_all) hx ho fun b t1 ho1=>zC ?_;have:=Py (W:=Wq yA F gE) (J:=Jq yA F 178) (p:=2) (q:=6) (g:=221) (v0:=x) (Q:=Q) (l:=l.map vD.e) (b:=b) (tf0:=tf) (L:=L) el48 nV (by decide) (fun e he=>by
   obtain⟨r,_,rfl⟩:=yaq.1 he;rw[vD.ed];exact r.zs) (fun e he=>by
   grind [zij]) (by simp_all) (fun v i t hw=>j178_2 hw) (fun tf1 t1 hf ho1=>by
   have:=Gg (W:=Wq yA F gE) (J:=Jq yA F 178) (p:=6) (v0:=x) (Q:=Q) (l:=l.map vD.e) (m:=cZ) (tf0:=tf) (L:=L) (w:=fun i=>.agg [.int .i64 ((8000024+i:Nat):Int),.int .i64 0,.int .i64 0,.bool false,.nilslice,.bool false,.nilslice]) (cm:=fun i=>[.int .i64 ((8000024+i:Nat):Int),.int .i64 0,.int .i64 0,.bool false,.nilslice,.bool false,.nilslice]) el48 nV rfl (fun i hi=>⟨_,Ft hi,fun t=>Wk i⟩) (fun i hi=>Ke el48 rfl (by decide))
    (fun i hi v t hw=>zf9 (by
     unfold Us uI uG qB uZ dL;refine tA (qE (by omega)) (cA ?_);rw[q222,pv104 hi,xA];exact dF (aF (Wk (t:=t) i) (Fj i).zs) hw))
    (fun v t hw=>zf9 (i0:=12) (by unfold Us uI uG qB uZ dL;grind [bA,fE])) (by rw[hx.len,ybf,ybf]) hQ (b:=b) 12 0 tf1 t1 (by omega) hf
   simp_all) (by grind [cT,vD.ed]) l.length 0 tf t1 (by simp) (yB.refl _)
 simp_all
theorem lent75{x:tD}(hn:x.rows.length<300000)(hl:∀r∈x.rows,r.f.n.limbs.length<300000/\r.f.d.limbs.length<300000):zV yA.base (Wq yA F gE) 114 x.e:=by
 intro L tf t cs Q ho hd hQ;rw[tD.ed]at hd;obtain⟨a,rfl,ha⟩:=lX hd;rw[q114];refine w114 ?_;unfold t114 mC;refine cA ?_;rw[q178];refine zik ha ho hn hl fun tf' t' v k1 k2 k3=>?_;have hr:=HW.2 ⟨v,rfl,k3⟩;exact tA (LE.rd _ _ k3).all (tA (LE.rd _ _ hr).all (hQ tf' t' _ k1 k2 hr))
theorem lent44{l:List qA}{x:zA}{L:List dG}{Q:wC}(hx:mA tf 9 (l.map qA.d) x)(ho:kE yA.base tf t L)(hn:l.length<300000)(hl:∀y∈l,zV yA.base (Wq yA F gE) 27 y.e)(hQ:Ed yA.base tf L 9 (l.map qA.e) Ay Q):Wc yA F 67 [x] t Q:=by
 refine w67 ?_;unfold t67 uI uZ uW;refine Gh el37 (by simp_all) hx ho fun b t1 ho1=>zC ?_;have:=Py (W:=Wq yA F gE) (J:=Jq yA F 67) (p:=2) (q:=6) (g:=27) (v0:=x) (Q:=Q) (l:=l.map qA.e) (b:=b) (tf0:=tf) (L:=L) el37 nT (by decide) (fun e he=>by
   obtain⟨r,_,rfl⟩:=yaq.1 he;rw[qA.ed];exact r.zs) (fun e he=>by
   grind) (by simp_all) (fun v i t hw=>j67_2 hw) (fun tf1 t1 hf ho1=>by
   have:=Gg (W:=Wq yA F gE) (J:=Jq yA F 67) (p:=6) (v0:=x) (Q:=Q) (l:=l.map qA.e) (m:=Ay) (tf0:=tf) (L:=L) (w:=fun i=>.agg [.int .u8 0,.str (jI i),.int .u8 0,.bool false,.nilslice,.bool false,.nilslice,.int .i64 0,.nilslice]) (cm:=fun i=>[.int .u8 0,.str (jI i),.int .u8 0,.bool false,.nilslice,.bool false,.nilslice,.int .i64 0,.nilslice]) el37 nT rfl (fun i hi=>⟨_,Ft hi,fun t=>Lx (jI i)⟩) (fun i hi=>Ke el37 rfl (by decide))
    (fun i hi v t hw=>j67_6 (by
     unfold zhh uI uG qB uZ aG;refine tA (qE (by omega)) (cA ?_);rw[q135,pv80 hi,xA];exact dF (aF (Lx (t:=t) (jI i)) (Hm (jI i)).zs) hw))
    (fun v t hw=>j67_6 (i0:=12) (by unfold zhh uI uG qB uZ aG;grind [bA,fE])) (by rw[hx.len,ybf,ybf]) hQ (b:=b) 12 0 tf1 t1 (by omega) hf
   simp_all) (by grind [cT,qA.ed]) l.length 0 tf t1 (by simp) (yB.refl _)
 simp_all
mutual
theorem Yc:∀(x:qA),qA.cpy x->zV yA.base (Wq yA F gE) 27 x.e
 | .mk op name v args,h=>by
  intro L tf t cs Q ho hd hQ;rw[qA.ed]at hd;obtain⟨a,b,c,rfl,ha,hb,hc⟩:=xJ hd;simp only[qA.op,qA.name,qA.v,qA.args]at ha hb hc ⊢;unfold qA.cpy at h;rw[q27];refine w27 ?_;unfold t27 uG mC uZ uY;refine cA (lent43 h.1 ho (by grind [xE.ed,Kk]) fun tf1 t1 c1 k1 k2 k3=>?_);have r1:=LE.rd _ _ k3;have hz1:=aF r1 ((congrArg D.zs (xE.ed _)).trans (xE.zs _));have a1:=r1.all
  have k3':=k3;obtain⟨u1,v1,rfl,_⟩:=Qb.1 k3';refine dF hz1 (tA a1 (cA ?_));rw[q67];refine lent44 (hc.mono k1) k2 h.2.1 (HO args h.2.2) fun tf2 t2 v2 m1 m2 m3=>?_;have hr:=(HY (op:=op) (name:=name)).2 ⟨u1,v1,v2,rfl,LE.mono m1 _ _ k3,m3⟩;exact tA (LE.rd _ _ m3).all (tA (LE.rd _ _ hr).all (hQ tf2 t2 _ (k1.trans m1) m2 hr))
theorem HO:∀(l:List qA),qA.cpys l->∀x∈l,zV yA.base (Wq yA F gE) 27 x.e
 | [],_,x,hx=>by cases hx
 | y::l,h,x,hx=>by
  unfold qA.cpys at h;rcases ybs.1 hx with e | hx
  ·rw[e];exact Yc y h.1
  ·exact HO l h.2 x hx
end
theorem lent77{x:gC}(h1:qA.cpy x.when_)(h2:qA.cpy x.then_):zV yA.base (Wq yA F gE) 116 x.e:=by
 intro L tf t cs Q ho hd hQ;rw[gC.ed]at hd;obtain⟨a,b,c,a',b',c',rfl,hw,ht⟩:=jX hd;rw[q116];refine w116 ?_;unfold t116 uG mC uZ uY uM0;refine cA (Yc _ h1 ho (by rw[qA.ed];exact hw) fun tf1 t1 c1 k1 k2 k3=>?_);have r1:=LE.rd _ _ k3;have hz1:=aF r1 ((congrArg D.zs (qA.ed _)).trans (qA.zs _));have a1:=r1.all;have r1':=r1;rw[qA.ed]at r1';obtain⟨u1,u2,u3,rfl,_⟩:=xJ r1'
 refine dF hz1 (tA a1 (cA (Yc _ h2 k2 (by rw[qA.ed];exact RD.mono k1 _ _ ht) fun tf2 t2 c2 m1 m2 m3=>?_)));have r2:=LE.rd _ _ m3;have hz2:=aF r2 ((congrArg D.zs (qA.ed _)).trans (qA.zs _));have a2:=r2.all;have r2':=r2;rw[qA.ed]at r2';obtain⟨v1,v2,v3,rfl,_⟩:=xJ r2';have hr:=HZ.2 ⟨_,_,rfl,LE.mono m1 _ _ k3,m3⟩;exact dF hz2 (tA a2 (tA (LE.rd _ _ hr).all (hQ tf2 t2 _ (k1.trans m1) m2 hr)))
theorem lent42{l:List gC}{x:zA}{L:List dG}{Q:wC}(hx:mA tf 24 (l.map gC.d) x)(ho:kE yA.base tf t L)(hn:l.length<300000)(hl:∀y∈l,qA.cpy y.when_/\qA.cpy y.then_)(hQ:Ed yA.base tf L 24 (l.map gC.e) Bc Q):Wc yA F 52 [x] t Q:=by
 refine w52 ?_;unfold t52 uI uZ uW;refine Gh el24 (by simp_all) hx ho fun b t1 ho1=>zC ?_;have:=Py (W:=Wq yA F gE) (J:=Jq yA F 52) (p:=2) (q:=6) (g:=116) (v0:=x) (Q:=Q) (l:=l.map gC.e) (b:=b) (tf0:=tf) (L:=L) el24 mV (by decide) (fun e he=>by
   obtain⟨r,_,rfl⟩:=yaq.1 he;rw[gC.ed];exact r.zs) (fun e he=>by
   grind [lent77]) (by simp_all) (fun v i t hw=>j52_2 hw) (fun tf1 t1 hf ho1=>by
   have:=Gg (W:=Wq yA F gE) (J:=Jq yA F 52) (p:=6) (v0:=x) (Q:=Q) (l:=l.map gC.e) (m:=Bc) (tf0:=tf) (L:=L) (w:=fun i=>.agg ([.str [],.str (jI i),.int .i64 0,.int .i64 0,.int .i64 0,.bool false]++([.int .u8 0,.str [],.int .u8 0,.bool false,.nilslice,.bool false,.nilslice,.int .i64 0,.nilslice]++[.int .u8 0,.str [],.int .u8 0,.bool false,.nilslice,.bool false,.nilslice,.int .i64 0,.nilslice]))) (cm:=fun i=>([.str [],.str (jI i),.int .i64 0,.int .i64 0,.int .i64 0,.bool false]++([.int .u8 0,.str [],.int .u8 0,.bool false,.nilslice,.bool false,.nilslice,.int .i64 0,.nilslice]++[.int .u8 0,.str [],.int .u8 0,.bool false,.nilslice,.bool false,.nilslice,.int .i64 0,.nilslice]))) el24 mV rfl (fun i hi=>⟨_,Ft hi,fun t=>AH i⟩) (fun i hi=>Ke el24 rfl (by decide))
    (fun i hi v t hw=>j52_6 (by
     unfold zhi uI uG qB uZ wK;refine tA (qE (by omega)) (cA ?_);rw[q117,pv78 hi,xA];exact dF (aF (AH (t:=t) i) (Hd i).zs) hw))
    (fun v t hw=>j52_6 (i0:=12) (by unfold zhi uI uG qB uZ wK;grind [bA,fE])) (by rw[hx.len,ybf,ybf]) hQ (b:=b) 12 0 tf1 t1 (by omega) hf
   simp_all) (by grind [cT,gC.ed]) l.length 0 tf t1 (by simp) (yB.refl _)
 simp_all
theorem lent41{l:List tD}{x:zA}{L:List dG}{Q:wC}(hx:mA tf 3 (l.map tD.d) x)(ho:kE yA.base tf t L)(hn:l.length<300000)(hl:∀y∈l,y.rows.length<300000/\∀r∈y.rows,r.f.n.limbs.length<300000/\r.f.d.limbs.length<300000)(hQ:Ed yA.base tf L 3 (l.map tD.e) eZ Q):Wc yA F 51 [x] t Q:=by
 refine w51 ?_;unfold t51 uI uZ uW;refine Gh el23 (by simp_all) hx ho fun b t1 ho1=>zC ?_;have:=Py (W:=Wq yA F gE) (J:=Jq yA F 51) (p:=2) (q:=6) (g:=114) (v0:=x) (Q:=Q) (l:=l.map tD.e) (b:=b) (tf0:=tf) (L:=L) el23 lV (by decide) (fun e he=>by
   obtain⟨r,_,rfl⟩:=yaq.1 he;rw[tD.ed];exact r.zs) (fun e he=>by
   grind [lent75]) (by simp_all) (fun v i t hw=>j51_2 hw) (fun tf1 t1 hf ho1=>by
   have:=Gg (W:=Wq yA F gE) (J:=Jq yA F 51) (p:=6) (v0:=x) (Q:=Q) (l:=l.map tD.e) (m:=eZ) (tf0:=tf) (L:=L) (w:=fun i=>.agg [.str (jI i),.bool false,.nilslice]) (cm:=fun i=>[.str (jI i),.bool false,.nilslice]) el23 lV rfl (fun i hi=>⟨_,Ft hi,fun t=>Th i⟩) (fun i hi=>Ke el23 rfl (by decide))
    (fun i hi v t hw=>j51_6 (by
     unfold zhj uI uG qB uZ uN;refine tA (qE (by omega)) (cA ?_);rw[q115,pv76 hi,xA];exact dF (aF (Th (t:=t) i) (Ey i).zs) hw))
    (fun v t hw=>j51_6 (i0:=12) (by unfold zhj uI uG qB uZ uN;grind [bA,fE])) (by rw[hx.len,ybf,ybf]) hQ (b:=b) 12 0 tf1 t1 (by omega) hf
   simp_all) (by grind [cT,tD.ed]) l.length 0 tf t1 (by simp) (yB.refl _)
 simp_all
theorem lent40{l:List cE}{x:zA}{L:List dG}{Q:wC}(hx:mA tf 3 (l.map cE.d) x)(ho:kE yA.base tf t L)(hn:l.length<300000)(hQ:Ed yA.base tf L 3 (l.map cE.e) Bb Q):Wc yA F 50 [x] t Q:=by
 refine w50 ?_;unfold t50 uI uZ uW;refine Gh el22 (by simp_all) hx ho fun b t1 ho1=>?_;refine HP el22 (by omega) hx ho1 fun t2 ho2=>zC ?_;have:=Gg (W:=Wq yA F gE) (J:=Jq yA F 50) (p:=2) (v0:=x) (Q:=Q) (l:=l.map cE.e) (m:=Bb) (tf0:=tf) (L:=L) (w:=fun i=>.agg [.str (jI i),.int .u8 0,.bool false]) (cm:=fun i=>[.str (jI i),.int .u8 0,.bool false]) el22 rX rfl (fun i hi=>⟨_,Ft hi,fun t=>AB i⟩) (fun i hi=>Ke el22 rfl (by decide))
  (fun i hi v t hw=>j50_2 (by
   unfold zhk uI uG qB uZ oP;refine tA (qE (by omega)) (cA ?_);rw[q113,pv74 hi,xA];exact dF (aF (AB (t:=t) i) (defM i).zs) hw))
  (fun v t hw=>j50_2 (i0:=12) (by unfold zhk uI uG qB uZ oP;grind [bA,fE])) (by rw[hx.len,ybf,ybf]) hQ (b:=b) 12 0 tf t2 (by omega) (yB.refl _)
 simp only[ybf,List.take_zero,List.map_nil,ycd,yct,List.map_map]at this ho2 ⊢;exact this ho2
def lent19{p:wF}(hp:wF.cpy p):zV yA.base (Wq yA F gE) 23 p.e:=by
 intro L tf t cs Q ho hd hQ;rw[wF.ed]at hd;obtain⟨a,b,c,rfl,ha,hb,hc⟩:=zR hd;rw[q23];refine w23 ?_;unfold t23 mC;refine cA ?_;rw[q50];refine lent40 ha ho hp.defs fun tf1 t1 a1 k1 k2 k3=>tA (LE.rd _ _ k3).all (cA ?_);rw[q51];refine lent41 (hb.mono k1) k2 hp.tables hp.rows fun tf2 t2 b1 m1 m2 m3=>tA (LE.rd _ _ m3).all (cA ?_);rw[q52];refine lent42 (hc.mono (k1.trans m1)) m2 hp.clauses hp.exprs fun tf3 t3 c1 n1 n2 n3=>tA (LE.rd _ _ n3).all ?_
 have hr:=HX.2 ⟨a1,b1,c1,rfl,LE.mono (m1.trans n1) _ _ k3,LE.mono n1 _ _ m3,n3⟩;exact tA (LE.rd _ _ hr).all (hQ tf3 t3 _ (k1.trans (m1.trans n1)) n2 hr)
end
section
variable [kC]
variable {t tf:Tr sA}
def Ps:List Nat:=(List.range 12).map fun i=>(8000024+i)%65536
theorem kep166{l:List Nat}{u v:zA}(hn:l.length<300000)(hu:LE t (.sl 1 ((jC l).map E.pl) tY) [u])(hv:mA t 1 (jC l) v):vB yA F 232 [u,v] t=some (.bool true):=by
 refine bB.2 (w232 ?_);unfold t232 uI jA uZ uW;refine Gl zI hu rfl (by grind [Ow]) (by grind [fN]) fun v5 cl cm h5 h6 h7=>?_;have hm:tY=jC Ps:=rfl;have h8:mA t 1 (jC (l++Ps)) v5:=by
  refine⟨_,h5,?_⟩;have e:jC (l++Ps)=E.ds ((jC l).map E.pl++tY.map E.pl):=by
   rw[E.ds_map,List.map_append,Ow,Ow,hm];unfold jC;rw[List.map_append]
  rw[e];exact aD.rd _ _ (h6.app (Mi.2 h7))
 have hn5:aA v5=some (.int .i64 ((l.length+12:Nat):Int)):=by
  rw[h8.len,fN,ybg];rfl
 have hn1:aA v=some (.int .i64 (l.length:Int)):=by rw[hv.len,fN]
 have loop:∀(k i:Nat),i+k=l.length+12->jp 232 2 [v,v5,.int .i64 (i:Int)] t (fun v' t'=>v'=.bool true/\t'=t):=by
  intro k;induction k with
  | zero=>
   intro i hi;refine zf3 ?_;unfold Ul uI uH qB jA cD uZ uW;exact vA hn5 (tB (bA (fE (by omega)) ⟨rfl,rfl⟩))
  | succ k ih=>
   intro i hi;have next:wp 232 (.jump 2 [v,v5,.int .i64 (iA .i64 ((i:Int)+1))]) t (fun v' t'=>v'=.bool true/\t'=t):=by
    refine zC ?_;rw[wrap_i64 (by omega) (by omega)];exact ih (i+1) (by omega)
   refine zf3 ?_;unfold Ul uI uH qB jA cD uZ uW;refine vA hn5 (tB (tA (qE (by omega)) (vA hn1 (tB ?_))));by_cases hlt:i<l.length
   ·obtain⟨x,hx⟩:=getElem?_of_lt hlt;obtain⟨p,o,g1,g2⟩:=mA.idx (C:=yA) zI h8 (i:=i) (x:=x) (by grind);obtain⟨p',o',g3,g4⟩:=mA.idx (C:=yA) zI hv hx
    grind [tA,vA,sC,tB,bA,oN,nLe]
   ·have hi2:i-l.length<12:=by omega
    obtain⟨p,o,g1,g2⟩:=mA.idx (C:=yA) zI h8 (i:=i) (x:=(8000024+(i-l.length))%65536) (by
     simp_all [ybp,Ps])
    refine bA (fE (by omega)) (vA hn1 (tB (tA (yLe (by omega)) (vA g1 (sC g2 (tB (vA hn1 (tB (cA ?_)))))))));rw[wrap_i64 (n:=(i:Int)-(l.length:Int)) (by omega) (by omega),show(i:Int)-(l.length:Int)=((i-l.length:Nat):Int) by omega,q252,zh2 hi2,xA]
    grind [tB,sC,tA,lT,bA,zeb,oN]
 exact loop (l.length+12) 0 (by omega)
def led{w:E}{d:D}{cs:List zA}(h:LE t w cs)(e:w.d=d):RD t d cs:=e ▸ LE.rd _ _ h
def zff{w:nF}{cs ds:List zA}(hl:w.limbs.length<300000)(h:LE t w.e cs)(k:RD t w.d ds):vB yA F 193 [.agg cs,.agg ds] t=some (.bool true):=by
 have h':=led h w.ed;have k':=k;obtain⟨u,rfl,hu⟩:=rY.1 h;obtain⟨v,rfl,hv⟩:=Fq k;refine bB.2 (w193 ?_);unfold t193 uB jA;refine cA ?_;rw[q231,Vy hl h' k',xA];refine yC (tA rfl (cA ?_));rw[q232,kep166 hl hu hv,xA];exact yC ⟨rfl,rfl⟩
def kep96{f:fC}{cs ds:List zA}(hl:f.n.limbs.length<300000/\f.d.limbs.length<300000)(h:LE t f.e cs)(k:RD t f.dd ds):vB yA F 146 [.agg cs,.agg ds] t=some (.bool true):=by
 have h':=led h f.ed;have k':=k;obtain⟨a,b,rfl,ha,hb⟩:=Gi.1 h;obtain⟨a',b',rfl,ha',hb'⟩:=Fs k;refine bB.2 (w146 ?_);unfold t146 uB jA;refine cA ?_;rw[q192,Vz hl h' k',xA];refine yC (tA rfl (cA ?_));rw[q193,zff hl.1 (rY.2 ⟨a,rfl,ha⟩) (yY (w:=f.n) ha'),xA];refine yC (tA rfl (cA ?_));rw[q193,zff hl.2 (rY.2 ⟨b,rfl,hb⟩) (yY (w:=f.d) hb'),xA]
 exact yC ⟨rfl,rfl⟩
def kep52{x:xE}{cs ds:List zA}(hl:x.f.n.limbs.length<300000/\x.f.d.limbs.length<300000)(h:LE t x.e cs)(k:RD t x.d ds):vB yA F 74 [.agg cs,.agg ds] t=some (.bool true):=by
 have h':=led h x.ed;have k':=k;obtain⟨a,b,rfl,hf⟩:=Qb.1 h;obtain⟨a',b',rfl,ha',hb'⟩:=Js k;refine bB.2 (w74 ?_);unfold t74 uB jA uZ uY;refine cA ?_;rw[q144,sam94 hl h' k',xA];refine yC (tA rfl (cA ?_));rw[q146,kep96 hl hf (eV (f:=x.f) ha' hb'),xA];exact yC ⟨rfl,rfl⟩
def kep164{x:vD}{cs ds:List zA}(hl:x.f.n.limbs.length<300000/\x.f.d.limbs.length<300000)(h:LE t x.e cs)(k:RD t x.d ds):vB yA F 227 [.agg cs,.agg ds] t=some (.bool true):=by
 have h':=led h x.ed;have k':=k;obtain⟨a,b,rfl,hf⟩:=zfb.1 h;obtain⟨a',b',rfl,ha',hb'⟩:=kX k;refine bB.2 (w227 ?_);unfold t227 uB jA uZ;refine cA ?_;rw[q228,Wa hl h' k',xA];refine yC (tA rfl (cA ?_));rw[q146,kep96 hl hf (eV (f:=x.f) ha' hb'),xA];exact yC ⟨rfl,rfl⟩
theorem cV{f:Nat->D}{d:D}(h:d∈(List.range 12).map f):∃i,d=f i:=by
 grind
theorem kep131{l:List vD}{u v:zA}(hn:l.length<300000)(hl:∀x∈l,x.f.n.limbs.length<300000/\x.f.d.limbs.length<300000)(hu:LE t (.sl 7 (l.map vD.e) cZ) [u])(hv:mA t 7 (l.map vD.d) v):vB yA F 187 [u,v] t=some (.bool true):=by
 refine bB.2 (w187 ?_);unfold t187 uI jA uZ uW;have hv':mA t 7 ((l.map vD.e).map E.d) v:=by grind [cT,vD.ed]
 refine Gl nV hu rfl hv' (by simp_all) fun v5 cl cm h5 h6 h7=>?_;refine Ky (C:=yA) (W:=Wq yA F gE) (J:=Jq yA F 187) (g:=fS 227) (s:=fS 228) (mk:=222) (l:=l.map vD.e) (m:=cZ) nV (fun e he=>?_) (fun d hd=>?_) (fun e he cs cs' K h1 h2 hK=>?_) (fun d hd cs cs' K h1 h2 hK=>?_) (fun i d hd=>?_) (by rw[ybf,show cZ.length=12 from rfl];omega) (fun i hw=>j187_2 hw) h5 h6 h7 hv' ⟨rfl,rfl⟩ (l.length+12) 0 (by rw[ybf,show cZ.length=12 from rfl];omega)
 ·obtain⟨x,_,rfl⟩:=yaq.1 he;exact(congrArg D.zs x.ed).trans x.zs
 ·obtain⟨i,rfl⟩:=cV hd;exact(Fj i).zs
 ·obtain⟨x,hx,rfl⟩:=yaq.1 he;refine cA ?_;rw[q227,kep164 (hl x hx) h1 (x.ed ▸ h2),xA];exact hK
 ·obtain⟨i,rfl⟩:=cV hd;refine cA ?_;rw[q228,Wa (x:=Fj i) ⟨by show 0<300000;omega,by show 0<300000;omega⟩ h1 h2,xA];exact hK
 ·obtain⟨hi,rfl⟩:=Jt hd;exact⟨_,Wk i,fun R hR=>by rw[q222,pv104 hi,xA];exact hR⟩
def kep91{x:tD}{cs ds:List zA}(hn:x.rows.length<300000)(hl:∀r∈x.rows,r.f.n.limbs.length<300000/\r.f.d.limbs.length<300000)(h:LE t x.e cs)(k:RD t x.d ds):vB yA F 130 [.agg cs,.agg ds] t=some (.bool true):=by
 have h':=led h x.ed;have k':=k;obtain⟨a,rfl,ha⟩:=HW.1 h;obtain⟨b,rfl,hb⟩:=lX k;refine bB.2 (w130 ?_);unfold t130 uB jA;refine cA ?_;rw[q131,zhs hn hl h' k',xA];refine yC (tA rfl (cA ?_));rw[q187,kep131 hn hl ha hb,xA];exact yC ⟨rfl,rfl⟩
theorem kep49{l:List tD}{u v:zA}(hn:l.length<300000)(hl:∀x∈l,x.rows.length<300000/\∀r∈x.rows,r.f.n.limbs.length<300000/\r.f.d.limbs.length<300000)(hu:LE t (.sl 3 (l.map tD.e) eZ) [u])(hv:mA t 3 (l.map tD.d) v):vB yA F 64 [u,v] t=some (.bool true):=by
 refine bB.2 (w64 ?_);unfold t64 uI jA uZ uW;have hv':mA t 3 ((l.map tD.e).map E.d) v:=by grind [cT,tD.ed]
 refine Gl lV hu rfl hv' (by simp_all) fun v5 cl cm h5 h6 h7=>?_;refine Ky (C:=yA) (W:=Wq yA F gE) (J:=Jq yA F 64) (g:=fS 130) (s:=fS 131) (mk:=115) (l:=l.map tD.e) (m:=eZ) lV (fun e he=>?_) (fun d hd=>?_) (fun e he cs cs' K h1 h2 hK=>?_) (fun d hd cs cs' K h1 h2 hK=>?_) (fun i d hd=>?_) (by rw[ybf,show eZ.length=12 from rfl];omega) (fun i hw=>j64_2 hw) h5 h6 h7 hv' ⟨rfl,rfl⟩ (l.length+12) 0 (by rw[ybf,show eZ.length=12 from rfl];omega)
 ·obtain⟨x,_,rfl⟩:=yaq.1 he;exact(congrArg D.zs x.ed).trans x.zs
 ·obtain⟨i,rfl⟩:=cV hd;exact(Ey i).zs
 ·obtain⟨x,hx,rfl⟩:=yaq.1 he;refine cA ?_;rw[q130,kep91 (hl x hx).1 (hl x hx).2 h1 (x.ed ▸ h2),xA];exact hK
 ·obtain⟨i,rfl⟩:=cV hd;refine cA ?_;rw[q131,zhs (x:=Ey i) (by show 0<300000;omega) (fun r hr=>by cases hr) h1 h2,xA];exact hK
 ·obtain⟨hi,rfl⟩:=Jt hd;exact⟨_,Th i,fun R hR=>by rw[q115,pv76 hi,xA];exact hR⟩
theorem kep48{l:List cE}{u v:zA}(hn:l.length<300000)(hu:LE t (.sl 3 (l.map cE.e) Bb) [u])(hv:mA t 3 (l.map cE.d) v):vB yA F 63 [u,v] t=some (.bool true):=by
 refine bB.2 (w63 ?_);unfold t63 uI jA uZ uW;have hv':mA t 3 ((l.map cE.e).map E.d) v:=by grind [cT,cE.ed]
 refine Gl rX hu rfl hv' (by simp_all) fun v5 cl cm h5 h6 h7=>?_;refine Ky (C:=yA) (W:=Wq yA F gE) (J:=Jq yA F 63) (g:=fun a b K=>.opt ((zN .eql).f yA 47 (.tmp 31) (.tmp 35) (.agg a) (.agg b)) K) (s:=fun a b K=>.opt ((zN .eql).f yA 47 (.tmp 48) (.tmp 53) (.agg a) (.agg b)) K) (mk:=113) (l:=l.map cE.e) (m:=Bb) rX (fun e he=>?_) (fun d hd=>?_) (fun e he cs cs' K h1 h2 hK=>?_) (fun d hd cs cs' K h1 h2 hK=>?_) (fun i d hd=>?_) (by rw[ybf,show Bb.length=12 from rfl];omega) (fun i hw=>j63_2 hw) h5 h6 h7 hv' ⟨rfl,rfl⟩ (l.length+12) 0 (by rw[ybf,show Bb.length=12 from rfl];omega)
 ·obtain⟨x,_,rfl⟩:=yaq.1 he;exact(congrArg D.zs x.ed).trans x.zs
 ·obtain⟨i,rfl⟩:=cV hd;exact(defM i).zs
 ·obtain⟨x,hx,rfl⟩:=yaq.1 he;have e1:=gT (led h1 x.ed);have e2:=gT (x:=x) h2
  grind [vA,MK]
 ·obtain⟨i,rfl⟩:=cV hd;have e1:=gT h1
  grind [gT,vA,MK]
 ·obtain⟨hi,rfl⟩:=Jt hd;exact⟨_,AB i,fun R hR=>by rw[q113,pv74 hi,xA];exact hR⟩
def AP(s:List Nat):qA.cpy (Hm s):=⟨⟨by decide,by decide⟩,by decide,trivial⟩
theorem kep53{l:List qA}{u v:zA}(hn:l.length<300000)(hl:∀x∈l,∀cs ds,LE t x.e cs->RD t x.d ds->vB yA F 31 [.agg cs,.agg ds] t=some (.bool true))(hu:LE t (.sl 9 (l.map qA.e) Ay) [u])(hv:mA t 9 (l.map qA.d) v):vB yA F 75 [u,v] t=some (.bool true):=by
 refine bB.2 (w75 ?_);unfold t75 uI jA uZ uW;have hv':mA t 9 ((l.map qA.e).map E.d) v:=by grind [cT,qA.ed]
 refine Gl nT hu rfl hv' (by simp_all) fun v5 cl cm h5 h6 h7=>?_;refine Ky (C:=yA) (W:=Wq yA F gE) (J:=Jq yA F 75) (g:=fS 31) (s:=fS 73) (mk:=135) (l:=l.map qA.e) (m:=Ay) nT (fun e he=>?_) (fun d hd=>?_) (fun e he cs cs' K h1 h2 hK=>?_) (fun d hd cs cs' K h1 h2 hK=>?_) (fun i d hd=>?_) (by rw[ybf,show Ay.length=12 from rfl];omega) (fun i hw=>j75_2 hw) h5 h6 h7 hv' ⟨rfl,rfl⟩ (l.length+12) 0 (by rw[ybf,show Ay.length=12 from rfl];omega)
 ·obtain⟨x,_,rfl⟩:=yaq.1 he;exact(congrArg D.zs x.ed).trans x.zs
 ·obtain⟨i,rfl⟩:=cV hd;exact(zji i).zs
 ·obtain⟨x,hx,rfl⟩:=yaq.1 he;refine cA ?_;rw[q31,hl x hx _ _ h1 (x.ed ▸ h2),xA];exact hK
 ·obtain⟨i,rfl⟩:=cV hd;refine cA ?_;rw[q73,Jm (zji i) (AP _) _ _ h1 h2,xA];exact hK
 ·obtain⟨hi,rfl⟩:=Jt hd;exact⟨_,Lx (jI i),fun R hR=>by rw[q135,pv80 hi,xA];exact hR⟩
mutual
def zis:∀(x:qA),qA.cpy x->∀cs ds,LE t x.e cs->RD t x.d ds->vB yA F 31 [.agg cs,.agg ds] t=some (.bool true)
 | .mk op name v args,h0,cs,ds,h,k=>by
  have h':=led h (qA.ed _);have k':=k;obtain⟨a,b,c,rfl,hv,hc⟩:=HY.1 h;obtain⟨a',b',c',rfl,ha',hb',hc'⟩:=xJ k;have e51:=Jm _ h0 _ _ h' k';unfold qH at e51  ⊢;simp only[qA.op,qA.name,qA.v,qA.args]at ha' hb' hc' e51 ⊢;unfold qA.cpy at h0;refine bB.2 (w31 ?_);unfold t31 uB jA uZ uY;refine cA ?_;rw[q73,e51,xA];refine yC (tA rfl (cA ?_));rw[q74,kep52 h0.1 hv (Kk (x:=v) ha' hb'),xA]
  refine yC (tA rfl (cA ?_));rw[q75,kep53 h0.2.1 (zfe args h0.2.2) hc hc',xA];exact yC ⟨rfl,rfl⟩
def zfe:∀(l:List qA),qA.cpys l->∀x∈l,∀cs ds,LE t x.e cs->RD t x.d ds->vB yA F 31 [.agg cs,.agg ds] t=some (.bool true)
 | [],_,x,hx=>by cases hx
 | y::l,h,x,hx=>by
  unfold qA.cpys at h;rcases ybs.1 hx with e | hx
  ·rw[e];exact zis y h.1
  ·exact zfe l h.2 x hx
end
def kep92{x:gC}{cs ds:List zA}(hw:qA.cpy x.when_)(ht:qA.cpy x.then_)(h:LE t x.e cs)(k:RD t x.d ds):vB yA F 132 [.agg cs,.agg ds] t=some (.bool true):=by
 have h':=led h x.ed;have k':=k;obtain⟨c1,c2,rfl,h1,h2⟩:=HZ.1 h;have r1:=led h1 (qA.ed _);have r2:=led h2 (qA.ed _);obtain⟨u1,u2,u3,rfl,_⟩:=xJ r1;obtain⟨w1,w2,w3,rfl,_⟩:=xJ r2;obtain⟨a',b',c',d',e',f',rfl,k1,k2⟩:=jX k;have e0:=zhr hw ht h' k';have e1:=zis x.when_ hw _ _ h1 k1;have e2:=zis x.then_ ht _ _ h2 k2;unfold qH at e0 e1 e2;refine bB.2 (w132 ?_);unfold t132 uB jA uZ uY;refine cA ?_
 simp only[List.cons_append,yah]at e0;rw[q133,e0,xA];refine yC (tA rfl (cA ?_));rw[q31,e1,xA];refine yC (tA rfl (cA ?_));rw[q31,e2,xA];exact yC ⟨rfl,rfl⟩
theorem kep50{l:List gC}{u v:zA}(hn:l.length<300000)(hl:∀x∈l,qA.cpy x.when_/\qA.cpy x.then_)(hu:LE t (.sl 24 (l.map gC.e) Bc) [u])(hv:mA t 24 (l.map gC.d) v):vB yA F 65 [u,v] t=some (.bool true):=by
 refine bB.2 (w65 ?_);unfold t65 uI jA uZ uW;have hv':mA t 24 ((l.map gC.e).map E.d) v:=by grind [cT,gC.ed]
 refine Gl mV hu rfl hv' (by simp_all) fun v5 cl cm h5 h6 h7=>?_;refine Ky (C:=yA) (W:=Wq yA F gE) (J:=Jq yA F 65) (g:=fS 132) (s:=fS 133) (mk:=117) (l:=l.map gC.e) (m:=Bc) mV (fun e he=>?_) (fun d hd=>?_) (fun e he cs cs' K h1 h2 hK=>?_) (fun d hd cs cs' K h1 h2 hK=>?_) (fun i d hd=>?_) (by rw[ybf,show Bc.length=12 from rfl];omega) (fun i hw=>j65_2 hw) h5 h6 h7 hv' ⟨rfl,rfl⟩ (l.length+12) 0 (by rw[ybf,show Bc.length=12 from rfl];omega)
 ·obtain⟨x,_,rfl⟩:=yaq.1 he;exact(congrArg D.zs x.ed).trans x.zs
 ·obtain⟨i,rfl⟩:=cV hd;exact(Hd i).zs
 ·obtain⟨x,hx,rfl⟩:=yaq.1 he;refine cA ?_;rw[q132,kep92 (hl x hx).1 (hl x hx).2 h1 (x.ed ▸ h2),xA];exact hK
 ·obtain⟨i,rfl⟩:=cV hd;refine cA ?_;rw[q133,zhr (x:=Hd i) (AP _) (AP _) h1 h2,xA];exact hK
 ·obtain⟨hi,rfl⟩:=Jt hd;exact⟨_,AH i,fun R hR=>by rw[q117,pv78 hi,xA];exact hR⟩
def kep24{p:wF}{cs ds:List zA}(hp:wF.cpy p)(h:LE t p.e cs)(k:RD t p.d ds):vB yA F 26 [.agg cs,.agg ds] t=some (.bool true):=by
 have h':=led h p.ed;have k':=k;obtain⟨a,b,c,rfl,ha,hb,hc⟩:=HX.1 h;obtain⟨a',b',c',rfl,ha',hb',hc'⟩:=zR k;refine bB.2 (w26 ?_);unfold t26 uB jA;refine cA ?_;rw[q62,sam47 hp h' k',xA];refine yC (tA rfl (cA ?_));rw[q63,kep48 hp.defs ha ha',xA];refine yC (tA rfl (cA ?_));rw[q64,kep49 hp.tables hp.rows hb hb',xA];refine yC (tA rfl (cA ?_))
 rw[q65,kep50 hp.clauses hp.exprs hc hc',xA];exact yC ⟨rfl,rfl⟩
end
section
variable [kC]
variable {t tf:Tr sA}
theorem Kb{o:Option zA}{v:zA}{R:zA->Prop}(h:o=some v)(k:R v):oE o R:=by simp_all
def XC(p:wF):∃s n,As p=.tup [.str s,.int .i64 n]:=by
 unfold As;split
 ·split<;>exact⟨_,_,rfl⟩
 ·exact⟨_,_,rfl⟩
def XD{p:wF}{cs:List zA}(hp:p.fit)(hs:qX p<=2000)(hM:pK t)(hW:sP t)(hK:bW t)(hr:RD t p.d cs):Wc yA F 8 [.agg cs] t (fun v _=>v=.bool true):=by
 have hr0:=hr;have hcpy:=(GH hp hs).1;obtain⟨a,b,c,rfl,ha,hb,hc⟩:=zR hr;refine w8 ?_;unfold t8 uI uS uG uB mC uX jA uM7 uA7;have o0:kE yA.base t t []:=⟨yB.refl _,by simp,(fun o ho=>by cases ho),(fun k hk=>by cases hk)⟩;refine cA ?_;refine lent19 hcpy o0 (by rw[wF.ed];exact hr0) fun tf2 t4 c2 m1 m2 m3=>?_;have r2:=led m3 p.ed;have r2':=r2;obtain⟨y1,y2,y3,rfl,k1,k2,k3⟩:=zR r2'
 have hle:yB t t4:=m1.trans m2.tle;have D2:=RD.mono m2.tle _ _ r2;refine dF (aF r2 p.zs) (tA r2.all (cA ?_));rw[q20];refine zad hp (hM.mono hle) (hW.mono hle) (hK.mono hle) D2 fun t5 hl5=>?_;obtain⟨s,n,e⟩:=XC p;rw[e];have hle5:=hle.trans hl5;have P5:=RD.mono hle5 _ _ hr0;refine vA rfl (pB (vA rfl (tB (cA ?_))));rw[q24];refine Kb (TB hp hs P5) ?_
 rw[e];refine vA rfl (pB (vA rfl (tB (tA ((rH _ _).2 rfl) (tA (bG rfl) (cA ?_))))));rw[q21];refine Kb (FT hp (D2.mono hl5)) (yC (tA hr0.sameA (cA ?_)));rw[q25];refine Kb (EO hp P5) (yC (tA (by cases eP p<;>rfl) (cA ?_)));rw[q26];exact Kb (kep24 hcpy (LE.mono (m2.tle.trans hl5) _ _ m3) P5) (yC rfl)
def QS{p:wF}{cs:List zA}(hp:p.fit)(hM:pK t)(hW:sP t)(hK:bW t)(hr:RD t p.d cs):Wc yA F 3 [.agg cs] t (fun v _=>v=.bool true):=by
 have hr0:=hr;obtain⟨a,b,c,rfl,_⟩:=zR hr;have h8:∀t,vB yA F 7 [] t=some (.bool true):=fun t=>Oj (g:=Oy) (by kernel_rfl) fun H=>rfl;refine w3 ?_;unfold t3 uI uB jA uZ;refine cA ?_;rw[q6];refine Kb (zbw hp hr0) (tB ?_);by_cases h2:2000<qX p
 ·refine tA (qE h2) (cA ?_);rw[q7,h8,xA];exact yC rfl
 refine bA (fE h2) (cA ?_);have hk:=XD hp (by omega) hM hW hK hr0;rw[q8];refine Wc.mono hk fun v t' hv=>?_;subst hv;refine yC (tA rfl (cA ?_));rw[q7,h8,xA];exact yC rfl
end
end Go.Proofs
namespace Go.Am
open Go Go.RowKit Go.Proofs
def ftells3{w:World}(hL:vI w){ds:Array Value}{p:wF}(hp:p.fit)
  (hk:Has w.heap.size ds.toList) (hr:RD (rI w) p.d (ds.toList.map (av w.heap.size))) :
  Calls Tryz.prog 3 #[.agg ds] w fun e w'=>e=.returned (.bool true)/\Below w.heap.size w w':=
 QN hL 3 [.agg (ds.toList.map (av w.heap.size))] _ (by intro _;kernel_rfl) (.single (zch hk)) ⟨_,QS hp (zjb hL) (zdf hL) (KS hL) hr,fun v t h=>h⟩
end Go.Am
