/- Lent data: slices with marks behind them. -/
import Derived.Test.YtmmedgeabnpnhaaGreatDoorA22
set_option linter.all false
noncomputable section
namespace Go.Am
open Go Go.RowKit
section
inductive E where
 | pl (d:D)
 | sl (sz:Nat) (l:List E) (m:List D)
 | st (l:List E)
mutual
def E.d:E->D
 | .pl d=>d
 | .sl sz l _=>.sl sz (E.ds l)
 | .st l=>.st (E.ds l)
def E.ds:List E->List D
 | []=>[]
 | e::l=>e.d::E.ds l
end
mutual
def LE (t:Tr sA):E->List zA->Prop
 | .pl d,cs=>RD t d cs
 | .sl sz l m,cs=>∃b cl cm,cs=[.slice b 0 cl.length (cl.length+cm.length)]/\vI t sz (.slice b 0 (cl++cm).length (cl++cm).length) (cl++cm)/\nD t l cl/\tC t m cm
 | .st l,cs=>∃cl,cs=cl.flatten/\nD t l cl
def nD (t:Tr sA):List E->List (List zA)->Prop
 | [],cl=>cl=[]
 | e::l,cl=>∃c r,cl=c::r/\LE t e c/\nD t l r
end
section
variable {t t' tf:Tr sA}{C:oA}
def sU{e:E}{l:List E}{cl:List (List zA)}:nD t (e::l) cl ↔ ∃c r,cl=c::r/\LE t e c/\nD t l r:=by rw[nD]
def oY{cl:List (List zA)}:nD t [] cl ↔ cl=[]:=by rw[nD]
def Eh{d:D}{cs:List zA}:LE t (.pl d) cs ↔ RD t d cs:=by rw[LE]
def Oh{l:List E}{cs:List zA}:LE t (.st l) cs ↔ ∃cl,cs=cl.flatten/\nD t l cl:=by rw[LE]
theorem E.ds_map:∀(l:List E),E.ds l=l.map E.d
 | []=>rfl
 | e::l=>by rw[E.ds,E.ds_map l,ycm]
mutual
theorem LE.mono(h:bA t t'):∀(e:E) (cs:List zA),LE t e cs->LE t' e cs
 | .pl d,cs,k=>by grind [LE,RD.mono]
 | .sl sz l m,cs,k=>by
  rw[LE]at k ⊢;obtain⟨b,cl,cm,h1,h2,h3,h4⟩:=k;exact⟨b,cl,cm,h1,h2.mono h,nD.mono h l cl h3,tC.mono h _ _ h4⟩
 | .st l,cs,k=>by
  rw[LE]at k ⊢;obtain⟨cl,h1,h2⟩:=k;exact⟨cl,h1,nD.mono h l cl h2⟩
theorem nD.mono(h:bA t t'):∀(l:List E) (cl:List (List zA)),nD t l cl->nD t' l cl
 | [],cl,k=>by grind [nD]
 | e::l,cl,k=>by
  rw[nD]at k ⊢;obtain⟨c,r,h1,h2,h3⟩:=k;exact⟨c,r,h1,LE.mono h e c h2,nD.mono h l r h3⟩
end
theorem XG{sz b:Nat}{cl cm:List (List zA)}(h:vI t sz (.slice b 0 (cl++cm).length (cl++cm).length) (cl++cm)):vI t sz (.slice b 0 cl.length (cl.length+cm.length)) cl:=by
 rcases h with⟨h,_⟩ | ⟨b',off,cap,h1,h2,h3,h4⟩
 ·cases h
 ·cases h1;refine .inr ⟨b,0,_,rfl,by omega,h3,fun i cs hi=>h4 i cs ?_⟩
  grind
mutual
theorem LE.rd:∀(e:E) (cs:List zA),LE t e cs->RD t e.d cs
 | .pl d,cs,k=>by rw[LE]at k;exact k
 | .sl sz l m,cs,k=>by
  rw[LE]at k;obtain⟨b,cl,cm,rfl,h2,h3,h4⟩:=k;rw[E.d,RD];exact⟨_,cl,rfl,XG h2,nD.rd l cl h3⟩
 | .st l,cs,k=>by
  rw[LE]at k;obtain⟨cl,h1,h2⟩:=k;rw[E.d,RD];exact⟨cl,h1,nD.rd l cl h2⟩
theorem nD.rd:∀(l:List E) (cl:List (List zA)),nD t l cl->tC t (E.ds l) cl
 | [],cl,k=>by grind [nD,E.ds,tC]
 | e::l,cl,k=>by
  rw[nD]at k;obtain⟨c,r,h1,h2,h3⟩:=k;rw[E.ds,tC];exact⟨c,r,h1,LE.rd e c h2,nD.rd l r h3⟩
end
theorem nD.length:∀ {l:List E} {cl:List (List zA)},nD t l cl->cl.length=l.length:=by
 intro l cl h;have:=(nD.rd l cl h).length
 grind [E.ds_map]
theorem nD.get:∀ {l:List E} {cl:List (List zA)} {i:Nat} {e:E},nD t l cl->l[i]?=some e->∃cs,cl[i]?=some cs/\LE t e cs:=by
 intro l;induction l with
 | nil=>simp_all
 | cons x l ih=>
  grind [nD]
theorem nD.app:∀ {l m:List E} {cl cm:List (List zA)},nD t l cl->nD t m cm->nD t (l++m) (cl++cm)
 | [],m,cl,cm,h,k=>by
  grind [nD]
 | d::l,m,cl,cm,h,k=>by
  obtain⟨c,r,rfl,h1,h2⟩:=sU.1 h;exact sU.2 ⟨c,r++cm,rfl,h1,nD.app h2 k⟩
def nD.split:∀ {l m:List E} {cl:List (List zA)},nD t (l++m) cl->∃c1 c2,cl=c1++c2/\nD t l c1/\nD t m c2
 | [],m,cl,h=>⟨[],cl,rfl,oY.2 rfl,h⟩
 | e::l,m,cl,h=>by
  obtain⟨c,r,rfl,h1,h2⟩:=sU.1 h;obtain⟨c1,c2,rfl,h3,h4⟩:=nD.split h2;exact⟨c::c1,c2,rfl,sU.2 ⟨c,c1,rfl,h1,h3⟩,h4⟩
def Iq:∀ {m:List D} {cl:List (List zA)},nD t (m.map E.pl) cl ↔ tC t m cl
 | [],cl=>by rw[List.map_nil,nD,tC]
 | d::m,cl=>by
  rw[ycm,nD,tC];constructor
  ·rintro⟨c,r,h1,h2,h3⟩;exact⟨c,r,h1,Eh.1 h2,Iq.1 h3⟩
  ·rintro⟨c,r,h1,h2,h3⟩;exact⟨c,r,h1,Eh.2 h2,Iq.2 h3⟩
theorem nD.ones(l:List E)(cl:List (List zA))(h:nD t l cl):∀a∈cl.flatten,zA.one a=true:=tC.ones _ _ (nD.rd l cl h)
def Room (tf t:Tr sA)(b sz cap:Nat)(es:List E):Prop:=es.length<=cap/\∃cl c,t.get b=some (.cells c (cap*sz) none)/\(∀(i:Nat) cs,cl[i]?=some cs->cs.length=sz/\∀(j:Nat) a,cs[j]?=some a->c.get (i*sz+j)=some a)/\nD tf es cl
def oI(b sz cap:Nat)(es:List E):iG where
 blks:=[b]
 ok:=fun tf t=>Room tf t b sz cap es
 keep:=fun h hf k=>by
  obtain⟨h0,cl,c,h1,h2,h3⟩:=h;exact⟨h0,cl,c,by simp_all,h2,nD.mono hf _ _ h3⟩
 live:=fun h k hk=>by
  rw[ydd]at hk;subst hk;obtain⟨_,cl,c,h1,_⟩:=h
  simp_all
theorem BN{z:List zA}:∀n,rB (pI z n)=n*rB z
 | 0=>by show rB []=_;rw[vD];simp
 | n+1=>by
  have:=BN (z:=z) n;show rB (uD z (pI z n))=_;rw[vD,vD]at this ⊢;rw[wG,ybg,this,ybo,Nat.one_mul,yap]
theorem QI{T el sz cap n:Nat}{L:List iG}(hT:sN C T el sz)(hcap:cap<1000000)(ho:vE C.base tf t L)(hn:t.get n=none)(hb:C.base<=n) :
  ∃t',sK C T (.int .i64 0) (.int .i64 (cap:Int)) ⟨n,t⟩=some (.slice n 0 0 cap,⟨n+1,t'⟩)/\vE C.base tf t' (oI n sz cap []::L):=by
 obtain⟨⟨y,hy1,hy2,hy3⟩,⟨z,hz1,hz2,hz3,hz4,hz5⟩,hnb⟩:=hT;refine⟨t.set n (.cells (Tr.ofList (pI z.zero cap)) (rB (pI z.zero cap)) none),?_,?_⟩
 ·unfold sK;rw[hy1,tA,hy2,tA,hz1,tA];have e1:(zA.int .i64 (cap:Int)).asNat=some cap:=rfl;have e0:(zA.int .i64 0).asNat=some 0:=rfl;rw[e1,e0,tA,tA];have e2:(Nat.ble 0 cap&&Nat.blt cap 1000000&&Nat.blt (cap*z.bytes) 1000000000&&Nat.beq (rB z.zero) z.size)=true:=by
   rw[hz3,hz2,show Nat.ble 0 cap=true from rE.2 (yaw _),vC.2 hcap];have:cap*z.bytes<1000000000:=by
    have:=ydb (Nat.le_of_lt hcap) hz4;omega
   simp_all
  rw[e2,jD];rfl
 ·refine vE.add (A:=[]) (o':=oI n sz cap []) ho (fun k hk=>?_) (fun k hk=>?_) ⟨yaw _,[],Tr.ofList (pI z.zero cap),?_,fun i cs hi=>by simp at hi,oY.2 rfl⟩ (by simp[oI]) (ho.tle.trans (fK hn _).1)
  all_goals grind [Tr.get_set,oI,BN]
theorem Sa{T el sz b cap n:Nat}{A B:List iG}{es em:List E}{x:zA}{cm:List (List zA)}(hT:sN C T el sz)(h:vE C.base tf t (A++oI b sz cap es::B))(hx:vI t sz x cm)(hm:nD tf em cm)(hle:es.length+em.length<=cap) :
  ∃t',nF C T T (.slice b 0 es.length cap) x ⟨n,t⟩=some (.slice b 0 (es.length+em.length) cap,⟨n,t'⟩)/\vE C.base tf t' (A++oI b sz cap (es++em)::B):=by
 obtain⟨h0,cl,c,h1,h2,h3⟩:Room tf t b sz cap es:=h.ok (oI b sz cap es) (by simp);obtain⟨hlow1,hlow2⟩:=h.low b (by grind [oI]);obtain⟨hf,hl⟩:=hx.first (n:=n);have hlen:=hm.length;have hcl:=h3.length;have hall:=hx.len;have hfl:=Uy hall;rw[ZH hT hl hf (by omega)];have hfin:∀t',t'.get b=some (.cells (c.setMany cm.flatten (0+es.length*sz)) (cap*sz) none)->dD b t t'->vE C.base tf t' (A++oI b sz cap (es++em)::B):=by
  intro t' g1 g2;refine h.upd (o':=oI b sz cap (es++em)) (fun k k1 _=>g2 k (by grind [oI])) (fun k hk=>.inl (by grind [oI])) ⟨by grind,cl++cm,_,g1,fun i cs hi=>?_,h3.app hm⟩ (by simp[oI]) (h.tle.off hlow2 g2);rw[List.getElem?_append]at hi;split at hi
  ·rename_i hlt;obtain⟨k1,k2⟩:=h2 i cs hi;refine⟨k1,fun j a hj=>?_⟩;have hjl:j<sz:=by grind
   have:i*sz+j<es.length*sz:=by
    have:=ybi sz (show i+1<=es.length by omega)
    grind
   grind [Tr.get_setMany]
  ·rename_i hge;have k1:=hall _ cs hi;refine⟨k1,fun j a hj=>?_⟩;have hf1:=Af hall _ j cs a hi hj;have hlt:=(ybc.1 hf1).1;have e:i*sz=es.length*sz+(i-cl.length)*sz:=by rw[<- ybo];simp_all
   grind [Tr.get_setMany]
 cases hq:cm.flatten with
 | nil=>
  refine⟨t,by rw[hlen],hfin t ?_ (dD.refl _ _)⟩;rw[hq];exact h1
 | cons a r=>
  refine⟨t.set b (.cells (c.setMany cm.flatten (0+es.length*sz)) (cap*sz) none),?_,hfin _ (by rw[Tr.get_set,yab rfl]) fun d hd=>by rw[Tr.get_set,yaa hd]⟩;show ob (xI C ⟨n,t⟩ b (0+es.length*sz) (a::r)) _=_;rw[<- hq];unfold xI aC;have e2:(!Nat.blt b C.base)=true:=by
   grind [vC]
  simp only[];rw[e2,jD,h1,tA];simp only[sA.asCells,tA];have hmul:=ybi sz (show es.length+cm.length<=cap by omega);rw[ybo]at hmul;have e3:Nat.ble (0+es.length*sz+rB cm.flatten) (cap*sz)=true:=by grind [vD,rE]
  have e4:vF zA.one cm.flatten=true:=by grind [aI,nD.ones]
  rw[e3,e4,hlen];rfl
theorem Zw{T el sz b n cap k m:Nat}{agg:Bool}{c:Tr zA}{lo:Option Lo}(hT:yF C T el sz agg)(hg:t.get b=some (.cells c m lo))(hlo:lo=none\/∃x,lo=some x/\x.es=sz)(hk:k<=cap) :
  tE C T ⟨0,t⟩ (.slice b 0 n cap) none (some (.int .i64 (k:Int)))=some (.slice b 0 k cap):=by
 obtain⟨⟨y,hy1,hy2⟩,⟨z,hz1,hz2,hz3⟩⟩:=hT;unfold tE;rw[hy1,tA];unfold iK;simp only[zA.asStr,zA.asSlice];rw[hy2,tA];unfold gL;rw[hz1,tA];have hb:bT cap (.int .i64 (k:Int))=xB (Nat.ble k cap) (some k):=rfl;unfold xN cX;simp only[hb];rw[rE.2 hk];simp only[jD,tA];have he2:rK ⟨0,t⟩ b z.size cap 0 false=false:=by
  unfold rK aC;rw[hg,tA];simp only[sA.asCells];rcases hlo with rfl | ⟨x,rfl,hx⟩
  ·rfl
  ·simp
 rw[he2];have hft:jK ⟨0,t⟩ b z.size cap 0 false=true:=by
  unfold jK aC;rw[hg,tA];simp only[sA.asCells];rcases hlo with rfl | ⟨x,rfl,hx⟩
  all_goals simp_all
 rw[hft,rE.2 hk];simp only[yay,Bool.and_true,cond_false,jD,Nat.zero_mul,yct,Nat.sub_zero];cases Nat.beq cap 0<;>rfl
theorem QJ{T el sz b cap:Nat}{agg:Bool}{A B:List iG}{l:List E}{m:List D}(hT:yF C T el sz agg)(h:vE C.base tf t (A++oI b sz cap (l++m.map E.pl)::B))(hc:l.length+m.length=cap) :
  tE C T ⟨0,t⟩ (.slice b 0 cap cap) none (some (.int .i64 (l.length:Int)))=some (.slice b 0 l.length cap)/\∃tf',bA tf tf'/\vE C.base tf' t (A++B)/\LE tf' (.sl sz l m) [.slice b 0 l.length cap]:=by
 obtain⟨h0,cl,c,h1,h2,h3⟩:Room tf t b sz cap (l++m.map E.pl):=h.ok (oI b sz cap (l++m.map E.pl)) (by simp);obtain⟨hlow1,hlow2⟩:=h.low b (by grind [oI]);refine⟨Zw hT h1 (.inl rfl) (by omega),tf.set b (.cells c (cap*sz) none),(fK hlow2 _).1,?_,?_⟩
 ·exact(h.drop.froze (h.notin (o:=oI b sz cap (l++m.map E.pl)) (by simp[oI])) h1 hlow2).1
 ·obtain⟨c1,c2,rfl,k1,k2⟩:=h3.split;rw[Iq]at k2;have l1:=k1.length;have l2:=k2.length;rw[LE];refine⟨b,c1,c2,by rw[l1,l2,hc],.inr ⟨b,0,_,rfl,ybk _,⟨c,_,none,by rw[Tr.get_set,yab rfl],.inl rfl⟩,fun i cs hi=>?_⟩,nD.mono (fK hlow2 _).1 _ _ k1,tC.mono (fK hlow2 _).1 _ _ k2⟩;obtain⟨g1,g2⟩:=h2 i cs hi;exact⟨g1,c,_,none,by rw[Tr.get_set,yab rfl],fun j a hj=>by simp_all⟩
def ze5(base:Nat)(tf:Tr sA)(L:List iG)(sz:Nat)(l:List E)(m:List D)(Q:dB):Prop:=∀tf' t' v,bA tf tf'->vE base tf' t' L->LE tf' (.sl sz l m) [v]->Q v t'
def Bb(base:Nat)(W:oH)(g:Nat)(e:E):Prop:=∀ ⦃L:List iG⦄ ⦃tf t:Tr sA⦄ ⦃cs:List zA⦄ ⦃Q:dB⦄,vE base tf t L->RD tf e.d cs->(∀tf' t' cs',bA tf tf'->vE base tf' t' L->LE tf' e cs'->Q (.agg cs') t')->W g [.agg cs] t Q
theorem LE.sl{sz:Nat}{l:List E}{m:List D}{cs:List zA}(h:LE t (.sl sz l m) cs):∃v,cs=[v]/\mA t sz (l.map E.d) v:=by
 have:=LE.rd _ _ h
 grind [E.d,vN,E.ds_map]
def ze4(C:oA)(S sz:Nat)(w:zA)(c:List zA):Prop:=∀n (t:Tr sA),t.get n=none->∃t',bE C S 1 [(0,w)] ⟨n,t⟩=some (.slice n 0 1 1,⟨n+1,t'⟩)/\vI t' sz (.slice n 0 1 1) [c]/\dD n t t'
theorem SU{S el sz:Nat}{cs:List zA}(hT:sN C S el sz)(hc:cs.length=sz)(hs:sz<1000000):ze4 C S sz (.agg cs) cs:=fun n t hn=>by
 grind [lit1]
theorem STzx{S el:Nat}{k:IntKind}{x:Int}(hT:sN C S el 1):ze4 C S 1 (.int k x) [.int k x]:=fun n t hn=>by
 obtain⟨⟨y,hy1,hy2,_⟩,⟨z,hz1,hz2,hz3,_,_⟩,_⟩:=hT;obtain⟨t',h1,h2,h3,h4⟩:=Lr (t:=t) (C:=C) (n:=1) (ps:=[(0,.int k x)]) (cl:=[[.int k x]]) hy1 hy2 hz1 hz2 hz3 (by omega) (by
  have e:pI z.zero 1=z.zero:=by show uD z.zero []=z.zero;rw[wG,ycd]
  rw[e];unfold yM jX;have e1:(zA.int k x).cells=[.int k x]:=rfl
  grind [vD,tA,sQ,nR,wG,oC,rE,jD,yM]) (fun i q hq=>by
  grind) rfl hn
 simp_all
section
variable {W J:oH}{S el sz p:Nat}{agg:Bool}{L:List iG}{l:List E}{m:List D}{v0:zA}{Q:dB}{tf0:Tr sA}
theorem DM{w:Nat->zA}{cm:Nat->List zA}(hT:sN C S el sz)(hS:yF C S el sz agg)(hm:m.length=12)(hmr:∀i,i<12->∃d,m[i]?=some d/\∀t,RD t d (cm i))
  (hw:∀i,i<12->ze4 C S sz (w i) (cm i))
  (h1:∀(i:Nat),i<12->∀v t,qA C.base W J (.heavy (bE C S 1 [(0,w i)]) fun a2=>.heavy (nF C S S v a2) fun a3=>.jump p [v0,a3,.int .i64 (rA .i64 ((i:Int)+1))]) t Q->J p [v0,v,.int .i64 (i:Int)] t Q)
  (h2:∀v t,qA C.base W J (.opt (vB v0) fun a4=>.asI .i64 a4 fun n5=>.light (fun m=>tE C S ⟨0,m⟩ v none (some (.int .i64 n5))) fun a6=>.ret a6) t Q->J p [v0,v,.int .i64 12] t Q)
  (hlen:vB v0=some (.int .i64 (l.length:Int))) (hQ:ze5 C.base tf0 L sz l m Q) {b:Nat} :
  ∀(k i:Nat) (tf t:Tr sA),i+k=12->bA tf0 tf->vE C.base tf t (oI b sz (l.length+12) (l++(m.take i).map E.pl)::L)->J p [v0,.slice b 0 (l.length+i) (l.length+12),.int .i64 (i:Int)] t Q:=by
 intro k;induction k with
 | zero=>
  intro i tf t hi hf ho;have:i=12:=by omega
  subst this;refine h2 _ _ ?_;simp only[qA];rw[hlen,wA,fB,wA];rw[yca (by omega)]at ho;obtain⟨k1,tf',k2,k3,k4⟩:=QJ (A:=[]) hS ho (by omega);rw[k1,wA];exact hQ tf' t _ (hf.trans k2) k3 k4
 | succ k ih=>
  intro i tf t hi hf ho;have hlt:i<12:=by omega
  refine h1 i hlt _ _ ?_;simp only[qA];intro n hn _;obtain⟨t1,a1,a2,a3⟩:=hw i hlt n t hn;rw[a1,wA];intro n2 hn2 _;obtain⟨d,d1,d2⟩:=hmr i hlt;have hl:(l++(m.take i).map E.pl).length=l.length+i:=by grind
  obtain⟨t2,c1,c2⟩:=Sa (n:=n2) (A:=[]) (em:=[E.pl d]) hT (ho.junk hn a3) a2 (sU.2 ⟨_,_,rfl,Eh.2 (d2 _),oY.2 rfl⟩) (by grind);rw[hl]at c1;rw[c1,wA,wrap_i64 (by omega) (by omega)];have e:l++(m.take i).map E.pl++[E.pl d]=l++(m.take (i+1)).map E.pl:=by
   grind [List.take_add_one]
  grind
def Tq(C:oA)(S el g p q:Nat)(zs:List zA)(v0 v:zA)(i:Int):T:=
 .opt (vB v0) fun a0=>.asI .i64 a0 fun n1=>.ite (iB i n1)
  (.opt (jB C S v0 (.int .i64 i)) fun a2=>.light (fun m=>aA C el ⟨0,m⟩ a2) fun a3=>.asG zs a3 fun X=>
   .call g [.agg (iJ zs X 0)] fun a5=>.asG zs a5 fun Y=>
   .ite (vF zA.one (iJ zs Y 0)) (.heavy (bE C S 1 [(0,.agg (iJ zs Y 0))]) fun a7=>.heavy (nF C S S v a7) fun a8=>.jump p [v0,a8,.int .i64 (rA .i64 (i+1))]) .fail)
  (.jump q [v0,v,.int .i64 0])
theorem UM{g q:Nat}{zs:List zA}{b:Nat}(hT:sN C S el sz)(hS:yF C S el sz true)(hsz:sz<1000000)(hz:∀e∈l,e.d.zs=zs)(hg:∀e∈l,Bb C.base W g e)(hlen:l.length<300000)
  (hj:∀v i t,qA C.base W J (Tq C S el g p q zs v0 v i) t Q->J p [v0,v,.int .i64 i] t Q)
  (hend:∀tf t,bA tf0 tf->vE C.base tf t (oI b sz (l.length+12) l::L)->J q [v0,.slice b 0 l.length (l.length+12),.int .i64 0] t Q) (h0:mA tf0 sz (l.map E.d) v0) :
  ∀(k i:Nat) (tf t:Tr sA),i+k=l.length->bA tf0 tf->vE C.base tf t (oI b sz (l.length+12) (l.take i)::L)->J p [v0,.slice b 0 i (l.length+12),.int .i64 (i:Int)] t Q:=by
 intro k;induction k with
 | zero=>
  intro i tf t hi hf ho;have:i=l.length:=by omega
  subst this;refine hj _ _ _ ?_;simp only[Tq,qA];rw[h0.len,wA,fB,wA,ybf,yaa (fun e=>by grind [xC])]
  grind
 | succ k ih=>
  intro i tf t hi hf ho;have hlt:i<l.length:=by omega
  have hd:l[i]?=some l[i]:=ybd hlt;have hm:l[i]∈l:=ycj hlt;have hd':(l.map E.d)[i]?=some (l[i]).d:=by simp_all
  obtain⟨pb,off,cs,g1,g2,g3,g4,g5⟩:=yF.at (t:=tf) hS (by simp) (h0.mono hf) hd';obtain⟨b',off',cs',f1,f2,f3,f4,f5⟩:=yF.at (t:=t) hS (by simp) (h0.mono (hf.trans ho.tle)) hd';rw[g1]at f1;cases f1;have ecs:cs'=cs:=by
   obtain⟨c,n,lo,q1,q2⟩:=g3;obtain⟨c',n',lo',q3,q4⟩:=f3;rw[ho.tle _ _ q1]at q3;cases q3;refine List.ext_getElem? fun j=>?_
   grind
  subst ecs;refine hj _ _ _ ?_;simp only[Tq,qA];rw[h0.len,wA,fB,wA,ybf,yab (xC.2 (by omega)),g1,wA,f2,wA];have hzz:=hz _ hm;show oE (oO zs (.agg cs')) _;rw[wJ g5 hzz,wA,g5.mk hzz];refine hg _ hm ho g5 fun tf' t' cs2 k1 k2 k3=>?_;have k3d:=LE.rd _ _ k3;rw[wJ k3d hzz,wA,k3d.mk hzz,yab k3d.all];intro n hn _;have hl2:cs2.length=sz:=by
   have e1:=g5.mk hzz;have e2:=k3d.mk hzz;have key:∀(zs:List zA) (X Y:jI) (j:Nat),(iJ zs X j).length=(iJ zs Y j).length:=by
    intro zs;induction zs with
    | nil=>intro X Y j;rfl
    | cons z zs ih=>
     intro X Y j;show(Gw z X j::iJ zs X (j+1)).length=(Gw z Y j::iJ zs Y (j+1)).length;rw[ybn,ybn,ih X Y (j+1)]
   grind
  obtain⟨t1,a1,a2,a3,a4⟩:=lit1 (C:=C) hT hl2 hsz hn;rw[a1,wA];intro n2 hn2 _;have hl:(l.take i).length=i:=by grind
  obtain⟨t2,c1,c2⟩:=Sa (n:=n2) (A:=[]) (em:=[l[i]]) hT (k2.junk hn a4) a2 (sU.2 ⟨_,_,rfl,k3,oY.2 rfl⟩) (by grind);rw[hl]at c1;rw[c1,wA,wrap_i64 (by omega) (by omega)];have e:l.take i++[l[i]]=l.take (i+1):=by simp_all
  rw[e]at c2;exact ih (i+1) tf' t2 (by omega) (hf.trans k1) c2
theorem ED{K:zA->T}{ds:List D}(hT:sN C S el sz)(hlen:ds.length<300000)(h0:mA tf sz ds v0)(ho:vE C.base tf t L)
  (hK:∀b t',vE C.base tf t' (oI b sz (ds.length+12) []::L)->qA C.base W J (K (.slice b 0 0 (ds.length+12))) t' Q) :
  qA C.base W J (.opt (vB v0) fun a0=>.asI .i64 a0 fun n1=>.heavy (sK C S (.int .i64 0) (.int .i64 (rA .i64 (n1+12)))) K) t Q:=by
 simp only[qA];rw[h0.len,wA,fB,wA,wrap_i64 (by omega) (by omega),show(ds.length:Int)+12=((ds.length+12:Nat):Int) by omega];intro n hn hb;obtain⟨t',c1,c2⟩:=QI (cap:=ds.length+12) hT (by omega) ho hn hb
 simp_all
theorem UN{K:zA->T}{ds:List D}{b cap:Nat}(hT:sN C S el sz)(hlen:ds.length<=cap)(h0:mA tf sz ds v0)(ho:vE C.base tf t (oI b sz cap []::L))
  (hK:∀t',vE C.base tf t' (oI b sz cap (ds.map E.pl)::L)->qA C.base W J (K (.slice b 0 ds.length cap)) t' Q) :
  qA C.base W J (.heavy (nF C S S (.slice b 0 0 cap) v0) K) t Q:=by
 simp only[qA];intro n hn _;obtain⟨cl,he,hd⟩:=h0;obtain⟨t2,c1,c2⟩:=Sa (n:=n) (A:=[]) (em:=ds.map E.pl) hT ho (he.mono ho.tle) (Iq.2 hd) (by simp_all)
 simp_all
end
end
end
section
section
variable {t:Tr sA}{C:oA}{W J:oH}{S el sz p:Nat}{Q:dB}{zs:List zA}
def yF.atc{T:Nat}(h:yF C T el sz true){v:zA}{cl:List (List zA)}(he:vI t sz v cl){i:Nat}{cs:List zA}(hc:cl[i]?=some cs) :
  ∃b off,jB C T v (.int .i64 (i:Int))=some (.ptr b off)/\aA C el ⟨0,t⟩ (.ptr b off)=some (.agg cs):=by
 obtain⟨⟨y,hy1,hy2⟩,⟨z,hz1,hz2,hz3⟩⟩:=h;rcases he with⟨rfl,rfl⟩ | ⟨b,off,cap,rfl,_,_,he⟩
 ·simp at hc
 ·obtain⟨hl,ha⟩:=he i cs hc;have hlt:i<cl.length:=(ybc.1 hc).1;refine⟨b,off+i*sz,?_,?_⟩
  ·unfold jB;rw[hy1,tA];have:(zA.int .i64 (i:Int)).asNat=some i:=rfl;rw[this,tA];simp only[zA.asSlice];rw[hy2,tA,hz1,tA,vC.2 hlt,hz2];rfl
  ·have:=ha.load (j:=0) hz1 hz3 hz2 (by omega);simp only[yct,ycr]at this;rw[this,<- hl,List.take_length]
abbrev Cmp:=List zA->List zA->(zA->T)->T
def cmpC (g:Nat):Cmp:=fun a b K=>.call g [.agg a,.agg b] K
def Rp(C:oA)(S el p:Nat)(g:Cmp)(zs:List zA)(ne:Bool->Bool)(v0 v1:zA)(i:Int):T:=
 .opt (vB v0) fun a0=>.asI .i64 a0 fun n1=>.ite (iB i n1)
  (.opt (jB C S v0 (.int .i64 i)) fun a2=>.light (fun m=>aA C el ⟨0,m⟩ a2) fun a3=>.asG zs a3 fun X4=>
   .opt (jB C S v1 (.int .i64 i)) fun a5=>.light (fun m=>aA C el ⟨0,m⟩ a5) fun a6=>.asG zs a6 fun X7=>
   g (iJ zs X4 0) (iJ zs X7 0) fun a8=>.asB a8 fun b9=>.ite (ne b9) (.ret (.bool false)) (.jump p [v0,v1,.int .i64 (rA .i64 (i+1))]))
  (.ret (.bool true))
theorem PO{g:Cmp}{ne:Bool->Bool}{ok:Bool}{ds:List D}{v0 v1:zA}(hS:yF C S el sz true)(hz:∀d∈ds,d.zs=zs)(hne:ne ok=false)
  (hg:∀d∈ds,∀cs cs' K,RD t d cs->RD t d cs'->qA C.base W J (K (.bool ok)) t Q->qA C.base W J (g cs cs' K) t Q) (hlen:ds.length<300000)
  (hj:∀i,qA C.base W J (Rp C S el p g zs ne v0 v1 i) t Q->J p [v0,v1,.int .i64 i] t Q) (h0:mA t sz ds v0) (h1:mA t sz ds v1) (hQ:Q (.bool true) t) :
  ∀(k i:Nat),i+k=ds.length->J p [v0,v1,.int .i64 (i:Int)] t Q:=by
 intro k;induction k with
 | zero=>
  intro i hi;refine hj _ ?_;unfold Rp;exact lA h0.len (qB (dA (fun e=>by grind [xC]) hQ))
 | succ k ih=>
  intro i hi;have hlt:i<ds.length:=by omega
  have hd:ds[i]?=some ds[i]:=ybd hlt;have hm:ds[i]∈ds:=ycj hlt;obtain⟨b,off,cs,g1,g2,g3,g4,g5⟩:=yF.at hS (by simp) h0 hd;obtain⟨b',off',cs',f1,f2,f3,f4,f5⟩:=yF.at hS (by simp) h1 hd;have hzz:=hz _ hm;refine hj _ ?_;unfold Rp;refine lA h0.len (qB (fA (xC.2 (by omega)) (lA g1 (gC g2 (wI (wJ g5 hzz) (lA f1 (gC f2 (wI (wJ f5 hzz) ?_))))))));rw[g5.mk hzz,f5.mk hzz];refine hg _ hm _ _ _ g5 f5 (wD (dA (by simp_all) (qC ?_)))
  rw[wrap_i64 (by omega) (by omega)];exact ih (i+1) (by omega)
def Jm(C:oA)(S el mk p:Nat)(s:Cmp)(zs:List zA)(v1 v5:zA)(i:Int):T:=
 .opt (vB v1) fun a12=>.asI .i64 a12 fun n13=>.ite (uC n13 i)
  (.opt (jB C S v5 (.int .i64 i)) fun a14=>.light (fun m=>aA C el ⟨0,m⟩ a14) fun a15=>.asG zs a15 fun X16=>
   .opt (vB v1) fun a17=>.asI .i64 a17 fun n18=>.call mk [.int .i64 1,.int .i64 (rA .i64 (i-n18))] fun a19=>.asG zs a19 fun X20=>
   .light (fun m=>aA C el ⟨0,m⟩ a14) fun a21=>.ite (same 10 a21 (.agg (iJ zs X16 0)))
   (s (iJ zs X16 0) (iJ zs X20 0) fun a22=>.asB a22 fun b23=>.ite (!b23) (.ret (.bool false)) (.jump p [v1,v5,.int .i64 (rA .i64 (i+1))])) .fail)
  (.jump p [v1,v5,.int .i64 (rA .i64 (i+1))])
def zdt(C:oA)(S el mk p:Nat)(g s:Cmp)(zs:List zA)(v1 v5:zA)(i:Int):T:=
 .opt (vB v5) fun a0=>.asI .i64 a0 fun n1=>.ite (iB i n1)
  (.opt (vB v1) fun a2=>.asI .i64 a2 fun n3=>.ite (iB i n3)
   (.opt (jB C S v5 (.int .i64 i)) fun a4=>.light (fun m=>aA C el ⟨0,m⟩ a4) fun a5=>.asG zs a5 fun X6=>
    .opt (jB C S v1 (.int .i64 i)) fun a7=>.light (fun m=>aA C el ⟨0,m⟩ a7) fun a8=>.asG zs a8 fun X9=>
    g (iJ zs X6 0) (iJ zs X9 0) fun a10=>.asB a10 fun b11=>.ite (!b11) (.ret (.bool false)) (Jm C S el mk p s zs v1 v5 i))
   (Jm C S el mk p s zs v1 v5 i))
  (.ret (.bool true))
theorem VE{g s:Cmp}{mk:Nat}{l:List E}{m:List D}{cl cm:List (List zA)}{v1 v5:zA}(hS:yF C S el sz true)(hz:∀e∈l,e.d.zs=zs)(hzm:∀d∈m,d.zs=zs)
  (hg:∀e∈l,∀cs cs' K,LE t e cs->RD t e.d cs'->qA C.base W J (K (.bool true)) t Q->qA C.base W J (g cs cs' K) t Q)
  (hs:∀d∈m,∀cs cs' K,RD t d cs->RD t d cs'->qA C.base W J (K (.bool true)) t Q->qA C.base W J (s cs cs' K) t Q)
  (hmk:∀(i:Nat) d,m[i]?=some d->∃cs,RD t d cs/\∀R:dB,R (.agg cs) t->W mk [.int .i64 1,.int .i64 (i:Int)] t R)
  (hlen:l.length+m.length<400000) (hj:∀i,qA C.base W J (zdt C S el mk p g s zs v1 v5 i) t Q->J p [v1,v5,.int .i64 i] t Q)
  (h5:vI t sz v5 (cl++cm)) (hcl:nD t l cl) (hcm:tC t m cm) (h1:mA t sz (l.map E.d) v1) (hQ:Q (.bool true) t) :
  ∀(k i:Nat),i+k=l.length+m.length->J p [v1,v5,.int .i64 (i:Int)] t Q:=by
 have l1:=hcl.length;have l2:=hcm.length;have hr5:mA t sz (E.ds l++m) v5:=⟨_,h5,by
  have app:∀ {a b:List D} {ca cb:List (List zA)},tC t a ca->tC t b cb->tC t (a++b) (ca++cb):=by
   intro a;induction a with
   | nil=>grind [tC]
   | cons d a ih=>
    grind [tJ]
  grind [nD.rd]⟩
 have hn5:vB v5=some (.int .i64 ((l.length+m.length:Nat):Int)):=by
  rw[hr5.len,ybg,E.ds_map,ybf]
 have hn1:vB v1=some (.int .i64 (l.length:Int)):=by rw[h1.len,ybf]
 intro k;induction k with
 | zero=>
  intro i hi;refine hj _ ?_;unfold zdt;exact lA hn5 (qB (dA (fun e=>by grind [xC]) hQ))
 | succ k ih=>
  intro i hi;have next:qA C.base W J (.jump p [v1,v5,.int .i64 (rA .i64 ((i:Int)+1))]) t Q:=by
   refine qC ?_;rw[wrap_i64 (by omega) (by omega)];exact ih (i+1) (by omega)
  refine hj _ ?_;unfold zdt;refine lA hn5 (qB (fA (xC.2 (by omega)) (lA hn1 (qB ?_))));by_cases hlt:i<l.length
  ·have hd:l[i]?=some l[i]:=ybd hlt;have hm:l[i]∈l:=ycj hlt;have hd':(l.map E.d)[i]?=some (l[i]).d:=by simp_all
   have hzz:=hz _ hm;obtain⟨cs,g4,g5⟩:=hcl.get hd;have g5d:=LE.rd _ _ g5;obtain⟨b,off,g1,g2⟩:=yF.atc hS h5 (i:=i) (cs:=cs) (by grind);obtain⟨b',off',cs',f1,f2,f3,f4,f5⟩:=yF.at hS (by simp) h1 hd';refine fA (xC.2 (by omega)) (lA g1 (gC g2 (wI (wJ g5d hzz) (lA f1 (gC f2 (wI (wJ f5 hzz) ?_))))));rw[g5d.mk hzz,f5.mk hzz];grind [wD,dA,Jm,lA,qB,pD]
  ·have hlt2:i-l.length<m.length:=by omega
   have hd:m[i-l.length]?=some m[i-l.length]:=ybd hlt2;have hm:m[i-l.length]∈m:=ycj hlt2;have hzz:=hzm _ hm;obtain⟨cs,g4,g5⟩:=hcm.get hd;obtain⟨b,off,g1,g2⟩:=yF.atc hS h5 (i:=i) (cs:=cs) (by grind);obtain⟨cs',f5,f6⟩:=hmk _ _ hd;refine dA (fun e=>by grind [xC]) ?_;unfold Jm;refine lA hn1 (qB (fA (pD.2 (by omega)) (lA g1 (gC g2 (wI (wJ g5 hzz) (lA hn1 (qB (wB ?_))))))))
   rw[wrap_i64 (n:=(i:Int)-(l.length:Int)) (by omega) (by omega),show(i:Int)-(l.length:Int)=((i-l.length:Nat):Int) by omega];refine f6 _ (wI (wJ f5 hzz) (gC g2 ?_));rw[g5.mk hzz,f5.mk hzz];exact fA g5.sameA (hs _ hm _ _ _ g5 f5 (wD (dA (by simp) next)))
theorem GC{agg:Bool}{l:List E}{m:List D}{v v1:zA}(hS:yF C S el sz agg)(h:LE t (.sl sz l m) [v])(hm:m.length=12)(h1:mA t sz (l.map E.d) v1)(hlen:l.length<300000)
  (hK:∀v5 cl cm,vI t sz v5 (cl++cm)->nD t l cl->tC t m cm->J p [v1,v5,.int .i64 0] t Q) :
  qA C.base W J (.opt (vB v) fun a0=>.asI .i64 a0 fun n1=>.opt (vB v1) fun a2=>.asI .i64 a2 fun n3=>.ite (!iA n1 n3) (.ret (.bool false))
   (.opt (vB v1) fun a4=>.asI .i64 a4 fun n5=>.light (fun m=>tE C S ⟨0,m⟩ v none (some (.int .i64 (rA .i64 (n5+12))))) fun a6=>.jump p [v1,a6,.int .i64 0])) t Q:=by
 have hn1:vB v1=some (.int .i64 (l.length:Int)):=by rw[h1.len,ybf]
 rw[LE]at h;obtain⟨b,cl,cm,e,h2,h3,h4⟩:=h;have l1:=h3.length;have l2:=h4.length;cases e;have hn:vB (.slice b 0 cl.length (cl.length+cm.length))=some (.int .i64 (l.length:Int)):=by rw[<- l1];rfl
 refine lA hn (qB (lA hn1 (qB (dA (fun e=>absurd rfl (uQ.1 e)) (lA hn1 (qB ?_))))));rw[wrap_i64 (by omega) (by omega),show(l.length:Int)+12=((cl.length+cm.length:Nat):Int) by omega];have h2':=h2;rcases h2' with⟨q,_⟩ | ⟨b',off,cap,q1,q2,⟨c,n,lo,q3,q4⟩,q5⟩
 ·cases q
 ·cases q1;refine gC (Zw hS q3 q4 (ybk _)) (qC (hK _ cl cm ?_ h3 h4))
  simp_all
end
end
section
def zeroF:kC:=⟨⟨false,[]⟩,⟨false,[]⟩⟩
def tQ(i:Nat):List Nat:=[35,1,0,0,47,i,0,0]
def sV:List D:=(List.range 12).map fun i=>D.int .u16 (((8000024+i)%65536:Nat):Int)
def Nu(name:List Nat):pA:=.mk 0 name ⟨0,zeroF,0⟩ []
def zeg(i:Nat):pA:=Nu (tQ i)
def fX:List D:=(List.range 12).map fun i=>(zeg i).d
def mE.e(w:mE):E:=.st [.pl (.bool w.neg),.sl 1 ((lC w.limbs).map E.pl) sV]
def kC.e(f:kC):E:=.st [f.n.e,f.d.e]
def oD.e(v:oD):E:=.st [.pl (.int .u8 v.kind),v.f.e,.pl (.int .i64 v.i)]
mutual
def pA.e:pA->E
 | .mk op name v args=>.st [.pl (.int .u8 op),.pl (.str name),v.e,.sl 9 (pA.es args) fX]
def pA.es:List pA->List E
 | []=>[]
 | x::l=>x.e::pA.es l
end
def pA.es_eq(l:List pA):pA.es l=l.map pA.e:=by
 induction l with
 | nil=>rfl
 | cons x l ih=>simp[pA.es,ih]
theorem Kw(l:List D):(l.map E.pl).map E.d=l:=by
 induction l with
 | nil=>rfl
 | cons d l ih=>rw[ycm,ycm,ih];rfl
theorem mE.ed(w:mE):w.e.d=w.d:=by
 unfold mE.e mE.d;simp only[E.d,E.ds,E.ds_map,Kw]
theorem kC.ed(f:kC):f.e.d=f.dd:=by
 grind [kC.e,kC.dd,E.d,E.ds,mE.ed]
theorem oD.ed(v:oD):v.e.d=v.d:=by
 simp_all [oD.e,oD.d,E.d,E.ds,kC.ed]
mutual
theorem pA.ed:∀x:pA,x.e.d=x.d
 | .mk op name v args=>by
  simp_all [pA.e,pA.d,E.d,E.ds,oD.ed,pA.eds]
theorem pA.eds:∀l:List pA,E.ds (pA.es l)=pA.ds l
 | []=>by unfold pA.es pA.ds;rfl
 | x::l=>by
  unfold pA.es pA.ds;rw[E.ds,pA.ed x,pA.eds l]
end
theorem DO{α:Type}{f:α->E}{g:α->D}(h:∀x,(f x).d=g x)(l:List α):(l.map f).map E.d=l.map g:=by
 simp_all
section
variable {t:Tr sA}
theorem wV{w:mE}{u:zA}(hu:mA t 1 (lC w.limbs) u):RD t w.d [.bool w.neg,u]:=by
 unfold mE.d;rw[mL];refine⟨[[.bool w.neg],[u]],rfl,?_⟩
 grind [tJ,aJ,rY,vN]
theorem Gv{f:kC}{u v:zA}(hu:mA t 1 (lC f.n.limbs) u)(hv:mA t 1 (lC f.d.limbs) v):RD t f.dd [.bool f.n.neg,u,.bool f.d.neg,v]:=by
 unfold kC.dd;rw[mL];refine⟨[[.bool f.n.neg,u],[.bool f.d.neg,v]],rfl,?_⟩
 grind [tJ,wV,aJ]
theorem Gu{x:oD}{u v:zA}(hu:mA t 1 (lC x.f.n.limbs) u)(hv:mA t 1 (lC x.f.d.limbs) v):RD t x.d [.int .u8 x.kind,.bool x.f.n.neg,u,.bool x.f.d.neg,v,.int .i64 x.i]:=by
 unfold oD.d;rw[mL];refine⟨[[.int .u8 x.kind],[.bool x.f.n.neg,u,.bool x.f.d.neg,v],[.int .i64 x.i]],rfl,?_⟩
 grind [tJ,oW,Gv,aJ]
theorem zdh{op:Nat}{name:List Nat}{v:oD}{args:List pA}{a b c:zA}(ha:mA t 1 (lC v.f.n.limbs) a)(hb:mA t 1 (lC v.f.d.limbs) b)(hc:mA t 9 (args.map pA.d) c):RD t (pA.mk op name v args).d (Nn (.mk op name v args) a b c):=by
 unfold pA.d Nn;rw[mL,pA.ds_eq];refine⟨[[.int .u8 op],[.str name],[.int .u8 v.kind,.bool v.f.n.neg,a,.bool v.f.d.neg,b,.int .i64 v.i],[c]],rfl,?_⟩;rw[tJ];refine⟨_,_,rfl,rfl,?_⟩;rw[tJ];refine⟨_,_,rfl,rfl,?_⟩
 grind [tJ,Gu,vN,aJ]
theorem mk_clause{x:vY}{cs ds:List zA}(h1:RD t x.when_.d cs)(h2:RD t x.then_.d ds):RD t x.d ([.str x.name,.str x.label,.int .i64 x.from_,.int .i64 x.to,.int .i64 x.known,.bool x.off]++(cs++ds)):=by
 unfold vY.d;rw[mL];refine⟨[[.str x.name],[.str x.label],[.int .i64 x.from_],[.int .i64 x.to],[.int .i64 x.known],[.bool x.off],cs,ds],by simp,?_⟩;simp only[tJ,aJ,Il,oW,rY];grind
theorem pV{w:mE}{cs:List zA}:LE t w.e cs ↔ ∃u,cs=[.bool w.neg,u]/\LE t (.sl 1 ((lC w.limbs).map E.pl) sV) [u]:=by
 unfold mE.e;rw[Oh];simp only[sU,oY,Eh,rY];constructor
 ·rintro⟨cl,rfl,c,r,rfl,rfl,c',r',rfl,h,rfl⟩;obtain⟨v,rfl,_⟩:=h.sl
  simp_all
 grind
theorem Mc{f:kC}{cs:List zA}:LE t f.e cs ↔ ∃u v,cs=[.bool f.n.neg,u,.bool f.d.neg,v]/\LE t (.sl 1 ((lC f.n.limbs).map E.pl) sV) [u]/\LE t (.sl 1 ((lC f.d.limbs).map E.pl) sV) [v]:=by
 unfold kC.e;rw[Oh];simp only[sU,oY];constructor
 ·grind [pV]
 ·rintro⟨u,v,rfl,h3,h4⟩;exact⟨[[.bool f.n.neg,u],[.bool f.d.neg,v]],rfl,_,_,rfl,pV.2 ⟨u,rfl,h3⟩,_,_,rfl,pV.2 ⟨v,rfl,h4⟩,rfl⟩
theorem Mb{x:oD}{cs:List zA}:LE t x.e cs ↔ ∃u v,cs=[.int .u8 x.kind,.bool x.f.n.neg,u,.bool x.f.d.neg,v,.int .i64 x.i]/\LE t x.f.e [.bool x.f.n.neg,u,.bool x.f.d.neg,v]:=by
 unfold oD.e;rw[Oh];simp only[sU,oY,Eh,oW];constructor
 all_goals grind [Mc]
def EL{op:Nat}{name:List Nat}{v:oD}{args:List pA}{cs:List zA}:LE t (pA.mk op name v args).e cs ↔ ∃a b c,cs=Nn (.mk op name v args) a b c/\LE t v.e [.int .u8 v.kind,.bool v.f.n.neg,a,.bool v.f.d.neg,b,.int .i64 v.i]/\LE t (.sl 9 (args.map pA.e) fX) [c]:=by
 unfold pA.e;rw[Oh,pA.es_eq];simp only[sU,oY,Eh,Il,oW];constructor
 ·rintro⟨cl,rfl,c,r,rfl,rfl,c',r',rfl,rfl,c3,r3,rfl,h,c4,r4,rfl,h4,rfl⟩;have h':=h;obtain⟨a,b,rfl,_⟩:=Mb.1 h;obtain⟨w,rfl,_⟩:=h4.sl;exact⟨a,b,w,rfl,h',h4⟩
 ·rintro⟨a,b,c,rfl,h,h4⟩;exact⟨[[.int .u8 op],[.str name],[.int .u8 v.kind,.bool v.f.n.neg,a,.bool v.f.d.neg,b,.int .i64 v.i],[c]],rfl,_,_,rfl,rfl,_,_,rfl,rfl,_,_,rfl,h,_,_,rfl,h4,rfl⟩
theorem RP{f:Nat->D}{i:Nat}{d:D}(h:((List.range 12).map f)[i]?=some d):i<12/\d=f i:=by
 grind
def Sf{sz:Nat}:mA t sz [] .nilslice:=⟨[],.inl ⟨rfl,rfl⟩,aJ.2 rfl⟩
def Wd(s:List Nat):RD t (Nu s).d [.int .u8 0,.str s,.int .u8 0,.bool false,.nilslice,.bool false,.nilslice,.int .i64 0,.nilslice]:=zdh Sf Sf Sf
end
end
end Go.Am
set_option maxRecDepth 100000
namespace Go.Proofs
open Go Go.Am
variable [sC]
variable {t tf:Tr sA}
def pv137{i:Nat}(h:i<12):lB yA F 252 [.int .i64 1,.int .i64 (i:Int)] t=some (.int .i64 ((8000024+i:Nat):Int)):=by
 refine bB.2 (w252 ?_);unfold t252 uZ uW;have e1:rA .i64 (1000003*(rA .i64 ((1:Int)+7)))=8000024:=by kernel_rfl
 rw[e1,wrap_i64 (by omega) (by omega)];exact⟨rfl,rfl⟩
def lit8{b:Nat}{x0 x1 x2 x3 x4 x5 x6 x7:Int}:bE yA 90 8 [(0,.int .u8 x0),(1,.int .u8 x1),(2,.int .u8 x2),(3,.int .u8 x3),(4,.int .u8 x4),(5,.int .u8 x5),(6,.int .u8 x6),(7,.int .u8 x7)] ⟨b,t⟩=some (.slice b 0 8 8,sE ⟨b,t⟩ [.int .u8 x0,.int .u8 x1,.int .u8 x2,.int .u8 x3,.int .u8 x4,.int .u8 x5,.int .u8 x6,.int .u8 x7] none):=by
 unfold bE;rw[pM,tA];simp only[sD.asSlice,tA];rw[nN,tA];rfl
theorem pv121{i:Nat}(h:i<12):lB yA F 177 [.int .i64 1,.int .i64 (i:Int)] t=some (.str (tQ i)):=by
 refine fN (w177 ?_);unfold t177 uS uY;have e1:rA .u8 (1:Int)=1:=by kernel_rfl
 have e2:rA .u8 (Int.fdiv 1 256)=0:=by kernel_rfl
 have e3:rA .u8 (Int.fdiv 1 65536)=0:=by kernel_rfl
 have f1:Int.fdiv (i:Int) 256=0:=by grind
 have f2:Int.fdiv (i:Int) 65536=0:=by grind
 have f0:rA .u8 (0:Int)=0:=by kernel_rfl
 rw[e1,e2,e3,f1,f2,f0,Bf (by omega) (by omega)];refine eI fun b hb _=>?_;obtain⟨t',g1,g2,g3,g4⟩:=iZ hb [.int .u8 35,.int .u8 1,.int .u8 0,.int .u8 0,.int .u8 47,.int .u8 (i:Int),.int .u8 0,.int .u8 0] none;refine⟨_,_,lit8,?_⟩;rw[g1];refine gC (IZ (l:=tQ i) pM iL rfl rfl rfl nN rfl g2 rfl (fun j x hj=>?_) (fun x hx=>?_)) (rC ⟨rfl,g3⟩)
 ·have:[zA.int .u8 35,.int .u8 1,.int .u8 0,.int .u8 0,.int .u8 47,.int .u8 (i:Int),.int .u8 0,.int .u8 0]=(tQ i).map fun(x:Nat)=>zA.int .u8 (x:Int):=rfl
  simp_all
 ·unfold tQ at hx;simp at hx;omega
def pv80{i:Nat}(h:i<12):lB yA F 135 [.int .i64 1,.int .i64 (i:Int)] t=some (.agg [.int .u8 0,.str (tQ i),.int .u8 0,.bool false,.nilslice,.bool false,.nilslice,.int .i64 0,.nilslice]):=by
 refine bB.2 (w135 ?_);unfold t135 uS uZ uY;refine wB ?_;rw[q177,pv121 h,wA];exact rC (fA rfl (fA rfl ⟨rfl,rfl⟩))
def sam203{l:List Nat}{u v:zA}(hu:mA t 1 (lC l) u)(hv:mA t 1 (lC l) v)(hl:l.length<300000):lB yA F 253 [u,v] t=some (.bool true):=by
 have hn:vB u=some (.int .i64 (l.length:Int)):=by rw[hu.len,vM]
 have hn':vB v=some (.int .i64 (l.length:Int)):=by rw[hv.len,vM]
 refine bB.2 (w253 ?_);unfold t253 uI zB uZ;refine lA hn (qB (lA hn' (qB (dA (fun e=>absurd rfl (uQ.1 e)) (qC ?_)))));have loop:∀(m i:Nat),i+m=l.length->jp 253 2 [u,v,.int .i64 (i:Int)] t (fun v' t'=>v'=.bool true/\t'=t):=by
  intro m;induction m with
  | zero=>
   intro i hi;refine zb2 ?_;unfold Qh uI uH yC zB qF uZ;exact lA hn (qB (dA (nG (by omega)) ⟨rfl,rfl⟩))
  | succ m ih=>
   intro i hi;obtain⟨x,hx⟩:=getElem?_of_lt (show i<l.length by omega);obtain⟨p,o,g1,g2⟩:=mA.idx (C:=yA) yH hu hx;obtain⟨p',o',g3,g4⟩:=mA.idx (C:=yA) yH hv hx;refine zb2 ?_;unfold Qh uI uH yC zB qF uZ;refine lA hn (qB (fA (pG (by omega)) (lA g1 (gC g2 (qB (lA g3 (gC g4 (qB (dA (fun e=>absurd rfl (uQ.1 e)) (qC ?_))))))))));rw[wrap_i64 (by omega) (by omega)]
   exact ih (i+1) (by omega)
 exact loop l.length 0 (by omega)
def Rr{w:mE}{cs ds:List zA}(hl:w.limbs.length<300000)(h:RD t w.d cs)(k:RD t w.d ds):lB yA F 231 [.agg cs,.agg ds] t=some (.bool true):=by
 obtain⟨u,rfl,hu⟩:=Ce h;obtain⟨v,rfl,hv⟩:=Ce k;refine bB.2 (w231 ?_);unfold t231 uB zB;refine fA (by rw[yU];simp) (wB ?_);rw[q253,sam203 hu hv hl,wA];exact wD ⟨rfl,rfl⟩
def AR{f:kC}{cs ds:List zA}(hl:f.n.limbs.length<300000/\f.d.limbs.length<300000)(h:RD t f.dd cs)(k:RD t f.dd ds):lB yA F 192 [.agg cs,.agg ds] t=some (.bool true):=by
 obtain⟨a,b,rfl,ha,hb⟩:=Ge h;obtain⟨a',b',rfl,ha',hb'⟩:=Ge k;refine bB.2 (w192 ?_);unfold t192 uB zB;refine wB ?_;rw[q231,Rr hl.1 (wV (w:=f.n) ha) (wV (w:=f.n) ha'),wA];refine wD (fA rfl (wB ?_));rw[q231,Rr hl.2 (wV (w:=f.d) hb) (wV (w:=f.d) hb'),wA];exact wD ⟨rfl,rfl⟩
def sam94{x:oD}{cs ds:List zA}(hl:x.f.n.limbs.length<300000/\x.f.d.limbs.length<300000)(h:RD t x.d cs)(k:RD t x.d ds):lB yA F 144 [.agg cs,.agg ds] t=some (.bool true):=by
 obtain⟨a,b,rfl,ha,hb⟩:=Gd h;obtain⟨a',b',rfl,ha',hb'⟩:=Gd k;refine bB.2 (w144 ?_);unfold t144 uB zB;refine fA (gE.2 rfl) (wB ?_);rw[q192,AR hl (Gv (f:=x.f) ha hb) (Gv (f:=x.f) ha' hb'),wA];refine wD (fA rfl ?_);rw[gE.2 rfl];exact⟨rfl,rfl⟩
mutual
theorem Rq:∀(x:pA),pA.cpy x->∀cs ds,RD t x.d cs->RD t x.d ds->lB yA F 73 [.agg cs,.agg ds] t=some (.bool true)
 | .mk op name v args,h,cs,ds,hc,hd=>by
  obtain⟨a,b,c,rfl,ha,hb,he⟩:=cK hc;obtain⟨a',b',c',rfl,ha',hb',he'⟩:=cK hd;simp only[pA.op,pA.name,pA.v,pA.args]at ha hb he ha' hb' he' ⊢;unfold pA.cpy at h;refine bB.2 (w73 ?_);unfold t73 uB zB uZ uY;refine fA (gE.2 rfl) (fA ((fH _ _).2 rfl) (wB ?_));rw[q144,sam94 h.1 (Gu (x:=v) ha hb) (Gu (x:=v) ha' hb'),wA];refine wD (fA rfl (wB ?_))
  have:=sam95 args h.2.2;have e95:lB yA F 145 [c,c'] t=some (.bool true):=by
   refine bB.2 (w145 ?_);unfold t145 uI zB uZ;refine lA he.len (qB (lA he'.len (qB (dA (fun e=>absurd rfl (uQ.1 e)) (qC ?_)))));refine PO (C:=yA) (W:=Wq yA F jH) (J:=Jq yA F 145) (g:=cmpC 73) (ne:=not) (ok:=true) (ds:=args.map pA.d) xR (fun d hd=>?_) rfl (fun d hd cs cs' K h1 h2 hK=>?_) (by simp_all) (fun i hw=>j145_2 hw) he he' ⟨rfl,rfl⟩ args.length 0 (by simp)
   ·obtain⟨x,_,rfl⟩:=yaq.1 hd;exact x.zs
   ·obtain⟨x,hx,rfl⟩:=yaq.1 hd;refine wB ?_;rw[q73,this x hx cs cs' h1 h2,wA];exact hK
  rw[q145,e95,wA];exact wD ⟨rfl,rfl⟩
theorem sam95:∀(l:List pA),pA.cpys l->∀x∈l,∀cs ds,RD t x.d cs->RD t x.d ds->lB yA F 73 [.agg cs,.agg ds] t=some (.bool true)
 | [],_,x,hx=>by cases hx
 | y::l,h,x,hx=>by
  unfold pA.cpys at h;rcases ybs.1 hx with e | hx
  ·rw[e];exact Rq y h.1
  ·exact sam95 l h.2 x hx
end
end Go.Proofs
namespace Go.Proofs
open Go Go.Am
section
variable [sC]
variable {t tf:Tr sA}
def el30:sN yA 30 72 1:=⟨⟨_,gS,rfl,rfl⟩,⟨_,rL,rfl,rfl,by decide,by decide⟩,fun y h=>by rw[rL]at h;cases h;rfl⟩
def el37:sN yA 37 39 9:=⟨⟨_,ty37,rfl,rfl⟩,⟨_,ty39,rfl,rfl,by decide,by decide⟩,fun y h=>by rw[ty39]at h;cases h;rfl⟩
theorem Wy{i:Nat}(h:i<12):rA .u16 ((8000024+i:Nat):Int)=(((8000024+i)%65536:Nat):Int):=by
 have:(List.range 12).all (fun i=>iA (rA .u16 ((8000024+i:Nat):Int)) (((8000024+i)%65536:Nat):Int))=true:=by kernel_rfl
 grind [gE]
theorem BU{f:Nat->D}{i:Nat}(h:i<12):((List.range 12).map f)[i]?=some (f i):=by
 simp_all
theorem zdn{l:List Nat}{x:zA}{L:List iG}{Q:dB}(hx:mA tf 1 (lC l) x)(ho:vE yA.base tf t L)(hl:l.length<300000)(hQ:ze5 yA.base tf L 1 ((lC l).map E.pl) sV Q):Wc yA F 229 [x] t Q:=by
 refine w229 ?_;unfold t229 uI uZ uW;refine ED el30 (by grind [vM]) hx ho fun b t1 ho1=>?_;refine UN el30 (by omega) hx ho1 fun t2 ho2=>qC ?_;have:=DM (W:=Wq yA F jH) (J:=Jq yA F 229) (p:=2) (v0:=x) (Q:=Q) (l:=(lC l).map E.pl) (m:=sV) (tf0:=tf) (L:=L) (w:=fun i=>.int .u16 (((8000024+i)%65536:Nat):Int)) (cm:=fun i=>[.int .u16 (((8000024+i)%65536:Nat):Int)]) el30 yH rfl (fun i hi=>⟨_,BU hi,fun t=>rfl⟩) (fun i hi=>STzx el30)
  (fun i hi v t hw=>zb8 (by
   unfold Qo uI yC uZ;refine fA (pG (by omega)) (wB ?_);rw[q252,pv137 hi,wA];grind [qB,Wy]))
  (fun v t hw=>zb8 (i0:=12) (by unfold Qo uI yC uZ;grind [dA,nG])) (by rw[hx.len,ybf]) hQ (b:=b) 12 0 tf t2 (by omega) (bA.refl _)
 simp_all
def EF{w:mE}(hl:w.limbs.length<300000):Bb yA.base (Wq yA F jH) 189 w.e:=by
 intro L tf t cs Q ho hd hQ;rw[mE.ed]at hd;obtain⟨u,rfl,hu⟩:=Ce hd;rw[q189];refine w189 ?_;unfold t189 kD;refine wB ?_;rw[q229];refine zdn hu ho hl fun tf' t' v k1 k2 k3=>?_;have hr:=pV.2 ⟨v,rfl,k3⟩;exact fA (LE.rd _ _ k3).all (fA (LE.rd _ _ hr).all (hQ tf' t' _ k1 k2 hr))
theorem lent79{f:kC}(hl:f.n.limbs.length<300000/\f.d.limbs.length<300000):Bb yA.base (Wq yA F jH) 134 f.e:=by
 intro L tf t cs Q ho hd hQ;rw[kC.ed]at hd;obtain⟨u,v,rfl,hu,hv⟩:=Ge hd;rw[q134];refine w134 ?_;unfold t134 uG kD pN;refine wB (EF hl.1 ho (by grind [mE.ed,wV]) fun tf1 t1 c1 k1 k2 k3=>?_);have r1:=LE.rd _ _ k3;have hz1:=wJ r1 ((congrArg D.zs (mE.ed _)).trans (mE.zs _));have a1:=r1.all;obtain⟨u1,rfl,hu1⟩:=pV.1 k3;refine wI hz1 (fA a1 (wB (EF hl.2 k2 (by rw[mE.ed];exact wV (w:=f.d) (hv.mono k1)) fun tf2 t2 c2 m1 m2 m3=>?_)))
 have r2:=LE.rd _ _ m3;have hz2:=wJ r2 ((congrArg D.zs (mE.ed _)).trans (mE.zs _));have a2:=r2.all;obtain⟨v1,rfl,hv1⟩:=pV.1 m3;have hr:=Mc.2 ⟨u1,v1,rfl,LE.mono m1 _ _ hu1,hv1⟩;exact wI hz2 (fA a2 (fA (LE.rd _ _ hr).all (hQ tf2 t2 _ (k1.trans m1) m2 hr)))
theorem lent43{x:oD}(hl:x.f.n.limbs.length<300000/\x.f.d.limbs.length<300000):Bb yA.base (Wq yA F jH) 66 x.e:=by
 intro L tf t cs Q ho hd hQ;rw[oD.ed]at hd;obtain⟨u,v,rfl,hu,hv⟩:=Gd hd;rw[q66];refine w66 ?_;unfold t66 uG kD uZ uY uM8;refine wB (lent79 hl ho (by grind [kC.ed,Gv]) fun tf1 t1 c1 k1 k2 k3=>?_);have r1:=LE.rd _ _ k3;have hz1:=wJ r1 ((congrArg D.zs (kC.ed _)).trans (kC.zs _));have a1:=r1.all;have k3':=k3;obtain⟨u1,v1,rfl,_,_⟩:=Mc.1 k3';have hr:=Mb.2 ⟨u1,v1,rfl,k3⟩
 exact wI hz1 (fA a1 (fA (LE.rd _ _ hr).all (hQ tf1 t1 _ k1 k2 hr)))
theorem lent44{l:List pA}{x:zA}{L:List iG}{Q:dB}(hx:mA tf 9 (l.map pA.d) x)(ho:vE yA.base tf t L)(hn:l.length<300000)(hl:∀y∈l,Bb yA.base (Wq yA F jH) 27 y.e)(hQ:ze5 yA.base tf L 9 (l.map pA.e) fX Q):Wc yA F 67 [x] t Q:=by
 refine w67 ?_;unfold t67 uI uZ uW;refine ED el37 (by simp_all) hx ho fun b t1 ho1=>qC ?_;have:=UM (W:=Wq yA F jH) (J:=Jq yA F 67) (p:=2) (q:=6) (g:=27) (v0:=x) (Q:=Q) (l:=l.map pA.e) (b:=b) (tf0:=tf) (L:=L) el37 xR (by decide) (fun e he=>by
   obtain⟨r,_,rfl⟩:=yaq.1 he;rw[pA.ed];exact r.zs) (fun e he=>by
   grind) (by simp_all) (fun v i t hw=>j67_2 hw) (fun tf1 t1 hf ho1=>by
   have:=DM (W:=Wq yA F jH) (J:=Jq yA F 67) (p:=6) (v0:=x) (Q:=Q) (l:=l.map pA.e) (m:=fX) (tf0:=tf) (L:=L) (w:=fun i=>.agg [.int .u8 0,.str (tQ i),.int .u8 0,.bool false,.nilslice,.bool false,.nilslice,.int .i64 0,.nilslice]) (cm:=fun i=>[.int .u8 0,.str (tQ i),.int .u8 0,.bool false,.nilslice,.bool false,.nilslice,.int .i64 0,.nilslice]) el37 xR rfl (fun i hi=>⟨_,BU hi,fun t=>Wd (tQ i)⟩) (fun i hi=>SU el37 rfl (by decide))
    (fun i hi v t hw=>j67_6 (by
     unfold Pq uI uG yC uZ cF;refine fA (pG (by omega)) (wB ?_);rw[q135,pv80 hi,wA];exact wI (wJ (Wd (t:=t) (tQ i)) (Nu (tQ i)).zs) hw))
    (fun v t hw=>j67_6 (i0:=12) (by unfold Pq uI uG yC uZ cF;grind [dA,nG])) (by rw[hx.len,ybf,ybf]) hQ (b:=b) 12 0 tf1 t1 (by omega) hf
   simp_all) (by grind [DO,pA.ed]) l.length 0 tf t1 (by simp) (bA.refl _)
 simp_all
mutual
theorem EE:∀(x:pA),pA.cpy x->Bb yA.base (Wq yA F jH) 27 x.e
 | .mk op name v args,h=>by
  intro L tf t cs Q ho hd hQ;rw[pA.ed]at hd;obtain⟨a,b,c,rfl,ha,hb,hc⟩:=cK hd;simp only[pA.op,pA.name,pA.v,pA.args]at ha hb hc ⊢;unfold pA.cpy at h;rw[q27];refine w27 ?_;unfold t27 uG kD uZ uY;refine wB (lent43 h.1 ho (by grind [oD.ed,Gu]) fun tf1 t1 c1 k1 k2 k3=>?_);have r1:=LE.rd _ _ k3;have hz1:=wJ r1 ((congrArg D.zs (oD.ed _)).trans (oD.zs _));have a1:=r1.all
  have k3':=k3;obtain⟨u1,v1,rfl,_⟩:=Mb.1 k3';refine wI hz1 (fA a1 (wB ?_));rw[q67];refine lent44 (hc.mono k1) k2 h.2.1 (EC args h.2.2) fun tf2 t2 v2 m1 m2 m3=>?_;have hr:=(EL (op:=op) (name:=name)).2 ⟨u1,v1,v2,rfl,LE.mono m1 _ _ k3,m3⟩;exact fA (LE.rd _ _ m3).all (fA (LE.rd _ _ hr).all (hQ tf2 t2 _ (k1.trans m1) m2 hr))
theorem EC:∀(l:List pA),pA.cpys l->∀x∈l,Bb yA.base (Wq yA F jH) 27 x.e
 | [],_,x,hx=>by cases hx
 | y::l,h,x,hx=>by
  unfold pA.cpys at h;rcases ybs.1 hx with e | hx
  ·rw[e];exact EE y h.1
  ·exact EC l h.2 x hx
end
end
section
variable [sC]
variable {t tf:Tr sA}
def Lt:List Nat:=(List.range 12).map fun i=>(8000024+i)%65536
theorem kep166{l:List Nat}{u v:zA}(hn:l.length<300000)(hu:LE t (.sl 1 ((lC l).map E.pl) sV) [u])(hv:mA t 1 (lC l) v):lB yA F 232 [u,v] t=some (.bool true):=by
 refine bB.2 (w232 ?_);unfold t232 uI zB uZ uW;refine GC yH hu rfl (by grind [Kw]) (by grind [vM]) fun v5 cl cm h5 h6 h7=>?_;have hm:sV=lC Lt:=rfl;have h8:mA t 1 (lC (l++Lt)) v5:=by
  refine⟨_,h5,?_⟩;have e:lC (l++Lt)=E.ds ((lC l).map E.pl++sV.map E.pl):=by
   rw[E.ds_map,List.map_append,Kw,Kw,hm];unfold lC;rw[List.map_append]
  rw[e];exact nD.rd _ _ (h6.app (Iq.2 h7))
 have hn5:vB v5=some (.int .i64 ((l.length+12:Nat):Int)):=by
  rw[h8.len,vM,ybg];rfl
 have hn1:vB v=some (.int .i64 (l.length:Int)):=by rw[hv.len,vM]
 have loop:∀(k i:Nat),i+k=l.length+12->jp 232 2 [v,v5,.int .i64 (i:Int)] t (fun v' t'=>v'=.bool true/\t'=t):=by
  intro k;induction k with
  | zero=>
   intro i hi;refine zb7 ?_;unfold Qn uI uH yC zB qF uZ uW;exact lA hn5 (qB (dA (nG (by omega)) ⟨rfl,rfl⟩))
  | succ k ih=>
   intro i hi;have next:wp 232 (.jump 2 [v,v5,.int .i64 (rA .i64 ((i:Int)+1))]) t (fun v' t'=>v'=.bool true/\t'=t):=by
    refine qC ?_;rw[wrap_i64 (by omega) (by omega)];exact ih (i+1) (by omega)
   refine zb7 ?_;unfold Qn uI uH yC zB qF uZ uW;refine lA hn5 (qB (fA (pG (by omega)) (lA hn1 (qB ?_))));by_cases hlt:i<l.length
   ·obtain⟨x,hx⟩:=getElem?_of_lt hlt;obtain⟨p,o,g1,g2⟩:=mA.idx (C:=yA) yH h8 (i:=i) (x:=x) (by grind);obtain⟨p',o',g3,g4⟩:=mA.idx (C:=yA) yH hv hx
    grind [fA,lA,gC,qB,dA,uQ,nLe]
   ·have hi2:i-l.length<12:=by omega
    obtain⟨p,o,g1,g2⟩:=mA.idx (C:=yA) yH h8 (i:=i) (x:=(8000024+(i-l.length))%65536) (by
     simp_all [ybp,Lt])
    refine dA (nG (by omega)) (lA hn1 (qB (fA (yLe (by omega)) (lA g1 (gC g2 (qB (lA hn1 (qB (wB ?_)))))))));rw[wrap_i64 (n:=(i:Int)-(l.length:Int)) (by omega) (by omega),show(i:Int)-(l.length:Int)=((i-l.length:Nat):Int) by omega,q252,pv137 hi2,wA]
    grind [qB,gC,fA,cW,dA,Wy,uQ]
 exact loop (l.length+12) 0 (by omega)
def led{w:E}{d:D}{cs:List zA}(h:LE t w cs)(e:w.d=d):RD t d cs:=e ▸ LE.rd _ _ h
def zbn{w:mE}{cs ds:List zA}(hl:w.limbs.length<300000)(h:LE t w.e cs)(k:RD t w.d ds):lB yA F 193 [.agg cs,.agg ds] t=some (.bool true):=by
 have h':=led h w.ed;have k':=k;obtain⟨u,rfl,hu⟩:=pV.1 h;obtain⟨v,rfl,hv⟩:=Ce k;refine bB.2 (w193 ?_);unfold t193 uB zB;refine wB ?_;rw[q231,Rr hl h' k',wA];refine wD (fA rfl (wB ?_));rw[q232,kep166 hl hu hv,wA];exact wD ⟨rfl,rfl⟩
def kep96{f:kC}{cs ds:List zA}(hl:f.n.limbs.length<300000/\f.d.limbs.length<300000)(h:LE t f.e cs)(k:RD t f.dd ds):lB yA F 146 [.agg cs,.agg ds] t=some (.bool true):=by
 have h':=led h f.ed;have k':=k;obtain⟨a,b,rfl,ha,hb⟩:=Mc.1 h;obtain⟨a',b',rfl,ha',hb'⟩:=Ge k;refine bB.2 (w146 ?_);unfold t146 uB zB;refine wB ?_;rw[q192,AR hl h' k',wA];refine wD (fA rfl (wB ?_));rw[q193,zbn hl.1 (pV.2 ⟨a,rfl,ha⟩) (wV (w:=f.n) ha'),wA];refine wD (fA rfl (wB ?_));rw[q193,zbn hl.2 (pV.2 ⟨b,rfl,hb⟩) (wV (w:=f.d) hb'),wA]
 exact wD ⟨rfl,rfl⟩
def kep52{x:oD}{cs ds:List zA}(hl:x.f.n.limbs.length<300000/\x.f.d.limbs.length<300000)(h:LE t x.e cs)(k:RD t x.d ds):lB yA F 74 [.agg cs,.agg ds] t=some (.bool true):=by
 have h':=led h x.ed;have k':=k;obtain⟨a,b,rfl,hf⟩:=Mb.1 h;obtain⟨a',b',rfl,ha',hb'⟩:=Gd k;refine bB.2 (w74 ?_);unfold t74 uB zB uZ uY;refine wB ?_;rw[q144,sam94 hl h' k',wA];refine wD (fA rfl (wB ?_));rw[q146,kep96 hl hf (Gv (f:=x.f) ha' hb'),wA];exact wD ⟨rfl,rfl⟩
theorem DL{f:Nat->D}{d:D}(h:d∈(List.range 12).map f):∃i,d=f i:=by
 grind
def zbe(s:List Nat):pA.cpy (Nu s):=⟨⟨by decide,by decide⟩,by decide,trivial⟩
theorem kep53{l:List pA}{u v:zA}(hn:l.length<300000)(hl:∀x∈l,∀cs ds,LE t x.e cs->RD t x.d ds->lB yA F 31 [.agg cs,.agg ds] t=some (.bool true))(hu:LE t (.sl 9 (l.map pA.e) fX) [u])(hv:mA t 9 (l.map pA.d) v):lB yA F 75 [u,v] t=some (.bool true):=by
 refine bB.2 (w75 ?_);unfold t75 uI zB uZ uW;have hv':mA t 9 ((l.map pA.e).map E.d) v:=by grind [DO,pA.ed]
 refine GC xR hu rfl hv' (by simp_all) fun v5 cl cm h5 h6 h7=>?_;refine VE (C:=yA) (W:=Wq yA F jH) (J:=Jq yA F 75) (g:=cmpC 31) (s:=cmpC 73) (mk:=135) (l:=l.map pA.e) (m:=fX) xR (fun e he=>?_) (fun d hd=>?_) (fun e he cs cs' K h1 h2 hK=>?_) (fun d hd cs cs' K h1 h2 hK=>?_) (fun i d hd=>?_) (by rw[ybf,show fX.length=12 from rfl];omega) (fun i hw=>j75_2 hw) h5 h6 h7 hv' ⟨rfl,rfl⟩ (l.length+12) 0 (by rw[ybf,show fX.length=12 from rfl];omega)
 ·obtain⟨x,_,rfl⟩:=yaq.1 he;exact(congrArg D.zs x.ed).trans x.zs
 ·obtain⟨i,rfl⟩:=DL hd;exact(zeg i).zs
 ·obtain⟨x,hx,rfl⟩:=yaq.1 he;refine wB ?_;rw[q31,hl x hx _ _ h1 (x.ed ▸ h2),wA];exact hK
 ·obtain⟨i,rfl⟩:=DL hd;refine wB ?_;rw[q73,Rq (zeg i) (zbe _) _ _ h1 h2,wA];exact hK
 ·obtain⟨hi,rfl⟩:=RP hd;exact⟨_,Wd (tQ i),fun R hR=>by rw[q135,pv80 hi,wA];exact hR⟩
mutual
def kep25:∀(x:pA),pA.cpy x->∀cs ds,LE t x.e cs->RD t x.d ds->lB yA F 31 [.agg cs,.agg ds] t=some (.bool true)
 | .mk op name v args,h0,cs,ds,h,k=>by
  have h':=led h (pA.ed _);have k':=k;obtain⟨a,b,c,rfl,hv,hc⟩:=EL.1 h;obtain⟨a',b',c',rfl,ha',hb',hc'⟩:=cK k;have e51:=Rq _ h0 _ _ h' k';unfold Nn at e51  ⊢;simp only[pA.op,pA.name,pA.v,pA.args]at ha' hb' hc' e51 ⊢;unfold pA.cpy at h0;refine bB.2 (w31 ?_);unfold t31 uB zB uZ uY;refine wB ?_;rw[q73,e51,wA];refine wD (fA rfl (wB ?_));rw[q74,kep52 h0.1 hv (Gu (x:=v) ha' hb'),wA]
  refine wD (fA rfl (wB ?_));rw[q75,kep53 h0.2.1 (zbm args h0.2.2) hc hc',wA];exact wD ⟨rfl,rfl⟩
def zbm:∀(l:List pA),pA.cpys l->∀x∈l,∀cs ds,LE t x.e cs->RD t x.d ds->lB yA F 31 [.agg cs,.agg ds] t=some (.bool true)
 | [],_,x,hx=>by cases hx
 | y::l,h,x,hx=>by
  unfold pA.cpys at h;rcases ybs.1 hx with e | hx
  ·rw[e];exact kep25 y h.1
  ·exact zbm l h.2 x hx
end
end
section
variable [sC]
variable {t tf:Tr sA}
theorem lZ{o:Option zA}{v:zA}{R:zA->Prop}(h:o=some v)(k:R v):oE o R:=by simp_all
def WM(x:pA):∃s n,Ah x=.tup [.str s,.int .i64 n]:=by
 unfold Ah;split
 ·split<;>exact⟨_,_,rfl⟩
 ·exact⟨_,_,rfl⟩
def LR(hM:uK t){a:oD}{u v:zA}(hu:mA t 1 (lC a.f.n.limbs) u)(hv:mA t 1 (lC a.f.d.limbs) v)(hf:oD.fit a) :
  lB yA F 18 [.agg [.int .u8 a.kind,.bool a.f.n.neg,u,.bool a.f.d.neg,v,.int .i64 a.i]] t=some (if fF a=true then .tup [.str (rH a),.int .i64 0]else .tup [.str [],.int .i64 2]):=by
 refine bB.2 (w18 ?_);unfold t18 uB uS uZ uY;refine wB ?_;rw[q39,CD hu hv hf.2.1,wA];refine wD ?_
 cases hP:fF a with
 | false=>exact fA rfl ⟨by simp,rfl⟩
 | true=>
  refine dA (by simp) (wB ?_);rw[q40];refine lZ (Xc (date:=yN a.i) hu hv hf hP fun hk=>?_) (rC ⟨by simp[rH],rfl⟩);have hp:=hP;unfold fF at hp;rw[yaa (by omega),yaa (by omega),yab hk]at hp;simp only[ybb,decide_eq_true_eq]at hp;exact zcp hM hp.2.1 hp.2.2
def zau{x:pA}{cs:List zA}(hx:x.fit)(hM:uK t)(hW:fP t)(hcx:pA.cpy x)(hr:RD t x.d cs):Wc yA F 10 [.agg cs] t (fun v _=>v=.bool true):=by
 have hr0:=hr;obtain⟨a,b,c,rfl,ha,hb,hc⟩:=cK hr;refine w10 ?_;unfold t10 uI uS uG kD uX uZ uY uM0 cF;have o0:vE yA.base t t []:=⟨bA.refl _,by simp,(fun o ho=>by cases ho),(fun k hk=>by cases hk)⟩;refine wB ?_;refine EE x hcx o0 (by rw[pA.ed];exact hr0) fun tf2 t4 c2 m1 m2 m3=>?_;have r2:=led m3 x.ed;have r2':=r2;obtain⟨y1,y2,y3,rfl,k1,k2,k3⟩:=cK r2';have hle:bA t t4:=m1.trans m2.tle
 have D2:=RD.mono m2.tle _ _ r2;refine wI (wJ r2 x.zs) (fA r2.all (wB ?_));rw[q28];refine zat hx (hM.mono hle) (hW.mono hle) D2 fun t5 hl5=>?_;obtain⟨s,n,e⟩:=WM x;rw[e];have hle5:=hle.trans hl5;have P5:=RD.mono hle5 _ _ hr0;refine lA rfl (rC (lA rfl (qB (wB ?_))));rw[q29];refine lZ (QT hx P5) ?_;rw[e];refine lA rfl (rC (lA rfl (qB (wB ?_))))
 have hxv:oD.fit x.v:=by
  obtain⟨op,name,v,args⟩:=x;unfold pA.fit at hx;exact hx.2.2.2.1
 have k1':=mA.mono (m2.tle.trans hl5) k1;have k2':=mA.mono (m2.tle.trans hl5) k2;have ha':=mA.mono hle5 ha;have hb':=mA.mono hle5 hb;rw[q18];refine lZ (LR (hM.mono hle5) k1' k2' hxv) ?_;obtain⟨s18,h18,h18e,h18v⟩:=Rs ha' hb' hxv.2.1;have last:∀(z:List Nat) (w:Int),jp 10 19 [.str s,.int .i64 n,.str s,.int .i64 n,.str z,.int .i64 w,.str z,.int .i64 w,.int .u8 (x.op:Int),.str x.name,.int .u8 (x.v.kind:Int),.bool x.v.f.n.neg,a,.bool x.v.f.d.neg,b,.int .i64 x.v.i,c,.int .u8 (x.op:Int),.str x.name,.int .u8 (x.v.kind:Int),.bool x.v.f.n.neg,y1,.bool x.v.f.d.neg,y2,.int .i64 x.v.i,y3] t5 (fun v _=>v=.bool true):=fun z w=>by
  refine j10_19 ?_;unfold Zk uB zB uZ uY;refine fA ((fH _ _).2 rfl) (fA (zI rfl) (fA ((fH _ _).2 rfl) (fA (zI rfl) (wB ?_))));rw[q31];exact lZ (kep25 x hcx _ _ (LE.mono (m2.tle.trans hl5) _ _ m3) P5) (wD rfl)
 cases hP:fF x.v with
 | true=>
  rw[yab rfl];have hs:s18=rH x.v:=h18v hP;rw[hP]at h18e;refine lA rfl (rC (lA rfl (qB (wB ?_))));rw[q30];refine lZ h18 (rC (dA (by rw[h18e];simp) (qC ?_)));rw[hs];exact last _ _
 | false=>
  rw[yaa (by simp)];rw[hP]at h18e;have hs:s18=[]:=(fH _ _).1 h18e;refine lA rfl (rC (lA rfl (qB (wB ?_))));rw[q30];refine lZ h18 (rC (fA h18e (qC ?_)));rw[hs];exact last _ _
def NM{x:pA}{cs:List zA}(hx:x.fit)(hM:uK t)(hW:fP t)(hr:RD t x.d cs):Wc yA F 4 [.agg cs] t (fun v _=>v=.bool true):=by
 have hr0:=hr;obtain⟨a,b,c,rfl,_⟩:=cK hr;have h8:∀t,lB yA F 7 [] t=some (.bool true):=fun t=>Ko (g:=Ky) (by kernel_rfl) fun H=>rfl;refine w4 ?_;unfold t4 uI uB zB uZ uY;refine wB ?_;rw[q9];refine lZ (pv37 x 400 _ (pA.fit_ok hx) (by omega) (by omega) hr0) (qB ?_);by_cases h2:400<jN x 400
 ·refine fA (pG h2) (wB ?_);rw[q7,h8,wA];exact wD rfl
 refine dA (nG h2) (wB ?_);have hk:=zau hx hM hW (IW x 400 (pA.fit_ok hx) (by omega) (by omega)) hr0;rw[q10];refine Wc.mono hk fun v t' hv=>?_;subst hv;refine wD (fA rfl (wB ?_));rw[q7,h8,wA];exact wD rfl
end
end Go.Proofs
namespace Go.Am
open Go Go.RowKit Go.Proofs
def fexprs4{w:World}(hL:vH w){ds:Array Value}{x:pA}(hx:x.fit)
  (hk:Has w.heap.size ds.toList) (hr:RD (pH w) x.d (ds.toList.map (av w.heap.size))) :
  Calls Tryz.prog 4 #[.agg ds] w fun e w'=>e=.returned (.bool true)/\Below w.heap.size w w':=
 NG hL 4 [.agg (ds.toList.map (av w.heap.size))] _ (by intro _;kernel_rfl) (.single (SI hk)) ⟨_,NM hx (zd9 hL) (zam hL) hr,fun v t h=>h⟩
end Go.Am
