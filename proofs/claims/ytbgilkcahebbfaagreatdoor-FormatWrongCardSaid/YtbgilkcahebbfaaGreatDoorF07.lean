/- strings.Builder within a larger block: two functions that are not looked into. -/
import Derived.Lib.Bytealg
import Derived.Lib.Index
import Derived.Lib.IndexMore
import Derived.Test.YtbgilkcahebbfaaGreatDoorF06
set_option linter.all false
noncomputable section
namespace Go.Am
open Go Go.Shelf Go.RowKit Go.Proofs
section
variable {P:Program}{ρ:Ren}{B N:Nat}{μ:Mu}{H:xA}{w:World}
def cA.scratch(hH:cA B N μ H w){g:Nat}(hg:N<=g)(hfree:∀a x j,H.t.get a=some x->μ a=some j->j.b≠g)(o':Obj):cA B N μ H (World.setBlk w g o'):=by
 have hsz:(World.setBlk w g o').heap.size=w.heap.size:=by simp[World.setBlk]
 refine⟨hH.base,hH.glob,hH.low,hH.next,by rw[hsz];exact hH.size,hH.fresh,fun a x i hx hi=>?_,fun a i ha hi=>by rw[hsz];exact hH.own a i ha hi,hH.inj,hH.pnd⟩
 obtain⟨o,h1,h2⟩:=hH.blk a x i hx hi
 exact⟨o,by rw[jS,yaa fun e=>hfree a x i hx hi e.1];exact h1,h2⟩
def zfu:List (Nat × Nat)->Nat->Nat->Bool
 | [],_,_=>false
 | p::r,t,n=>bif Nat.beq p.1 t&&Nat.ble p.2 n then true else zfu r t n
def zjq:∀ {Ts:List (Nat × Nat)} {t n:Nat},zfu Ts t n=true->∃p∈Ts,p.1=t/\p.2<=n
 | [],_,_,h=>by cases h
 | p::r,t,n,h=>by
  unfold zfu at h;rw[iB]at h;split at h
  ·rename_i e
   rw[ybb]at e;exact⟨p,.head _,pB.1 e.1,vE.1 e.2⟩
  ·obtain⟨q,h1,h2⟩:=zjq h
   exact⟨q,.tail _ h1,h2⟩
def zc3(base:Nat)(Ts:List (Nat × Nat))(args:List zA)(H:xA):Option (zA × xA):=
 match args with
 | [.ptr b 0]=>ob (fC H b) fun c=>ob (c.1.get 0) fun v=>match v with
  | .nilptr=>jA (!Nat.blt b base&&(match c.2.2 with | some (.ty t)=>zfu Ts t c.2.1 | _=>false)) (some (.tup [],setBlk H b (.cells (c.1.set 0 (.ptr b 0)) c.2.1 c.2.2)))
  | .ptr d o=>jA (Nat.beq d b&&Nat.beq o 0) (some (.tup [],H))
  | _=>none
 | _=>none
def zvw{f:Nat}{Ts:List (Nat × Nat)}{base:Nat}(hbase:B<=base)
  (hfresh:∀p∈Ts,∀(b n:Nat) (w:World),w.cell? ⟨b,0,none⟩=some (.pointer none)->w.shape? b=some (p.1,n)->p.2<=n->w.frozen? ⟨b,0,none⟩=false->Calls P f #[.pointer (some ⟨b,0,none⟩)] w fun e w'=>e=.returned (.tuple #[])/\w'=w.setCell ⟨b,0,none⟩ (.pointer (some ⟨b,0,none⟩)))
  (hused:∀(b:Nat) (w:World),w.cell? ⟨b,0,none⟩=some (.pointer (some ⟨b,0,none⟩))->Calls P f #[.pointer (some ⟨b,0,none⟩)] w fun e w'=>e=.returned (.tuple #[])/\w'=w)
  (henter:∀(w:World) (a:Array Value),(callFunc f a).run P w=.ok (.enter f a) w) {args:List zA} {args':Array Value} {v:zA} {H':xA} (hH:cA B N μ H w) (hv:zc3 base Ts args H=some (v,H')) (hl:yB μ args args'.toList) :
  (callFunc f args').run P w=.ok (.enter f args') w/\Calls P f args' w fun e w'=>∃v' μ',e=.returned v'/\μ.le μ'/\cA B N μ' H' w'/\Below N w w'/\wA μ' v v':=by
 refine⟨henter w args',?_⟩
 unfold zc3 at hv;split at hv
 case h_2=>cases hv
 rename_i b;rw[yB]at hl;obtain⟨u,r,h1,h2,h3⟩:=hl
 rw[yB]at h3;subst h3;rw[wA]at h2;obtain⟨i,hi,rfl⟩:=h2
 have ha:args' = #[.pointer (some ⟨i.b,0,none⟩)]:=by apply yax.1;rw[h1]
 subst ha;rw[uA]at hv;obtain⟨⟨c,n,lo⟩,hc,hv⟩:=hv
 rw[uA]at hv;obtain⟨v0,h0,hv⟩:=hv
 have hx:=dR hc
 obtain⟨o,g1,g2⟩:=hH.blk _ _ _ hx hi
 have g2':=g2
 obtain⟨cs,E,fr,rfl,g3,g4,g5,g6⟩:=g2
 obtain⟨hn,u,hu,hr⟩:=g5 0 v0 h0
 have g3:n<=cs.size:=g3
 have hn:0<n:=hn
 have hcell0:w.cell? ⟨i.b,0,none⟩=some u:=by unfold World.cell?;rw[g1];simpa using hu
 have hundef:wA μ (.tup []) (.tuple #[]):=by rw[wA];exact⟨#[],rfl,.nil⟩
 split at hv
 ·rw[wA]at hr
  subst hr;simp only[zB,ybb,ycp]at hv;obtain⟨⟨hb,ht⟩,hv⟩:=hv
  cases hv;have hown:B<=b:=by
   have:¬ b<base:=fun k=>by rw[dB.2 k]at hb;cases hb
   omega
  have hNb:=hH.own b i hown hi
  have hfr:=g4.resolve_left (by rw[hNb.2.2];simp)
  have hE:∃p∈Ts,p.1=E/\p.2<=n:=by
   cases lo with
   | none=>cases ht
   | some lo=>
    cases lo with
    | sz _=>cases ht
    | ty t=>
     obtain⟨p,k1,k2,k3⟩:=zjq ht
     exact⟨p,k1,by rw[k2];exact(g6.2.2.2 t rfl).symm,k3⟩
  obtain⟨p,hpT,hpE,hpn⟩:=hE
  subst hpE;refine(hfresh p hpT i.b cs.size w hcell0 (by unfold World.shape?;rw[g1]) (Nat.le_trans hpn g3) ?_).mono ?_
  ·unfold World.frozen?
   rw[g1];obtain⟨f1,f2⟩:=fr
   simp only at hfr ⊢
   rcases hfr with h | h
   ·cases hq:(f1<=0&&0<f2:Bool)with
    | false=>rfl
    | true=>simp at hq;omega
   ·cases hq:(f1<=0&&0<f2:Bool)with
    | false=>rfl
    | true=>simp at hq;omega
  ·rintro e w' ⟨rfl,rfl⟩
   rw[iZ g1];refine⟨_,μ,rfl,μ.le_refl,hH.upd hx hi hown ?_,gP hNb.1,hundef⟩
   refine⟨_,_,fr,rfl,by simpa using g3,by simpa using g4,fun j x hj=>?_,by simpa using g6⟩
   rw[Tr.get_set]at hj;split at hj
   ·rename_i e
    cases hj;subst e;exact⟨hn,_,by rw[ycs,yab rfl,yab (by omega)],by rw[wA];exact⟨i,hi,rfl⟩⟩
   ·rename_i e
    obtain⟨k1,y,k2,k3⟩:=g5 j x hj
    exact⟨k1,y,by rw[ycs,yaa (fun h=>e h.symm)];exact k2,k3⟩
 ·rename_i d o
  simp only[zB,ybb,pB]at hv;obtain⟨⟨rfl,rfl⟩,hv⟩:=hv
  cases hv;rw[wA]at hr;obtain⟨i',hi',rfl⟩:=hr
  rw[hi]at hi'
  cases hi'
  refine(hused i.b w hcell0).mono ?_
  rintro e w' ⟨rfl,rfl⟩
  exact⟨_,μ,rfl,μ.le_refl,hH,Below.refl _ _,hundef⟩
 ·cases hv
def z07{α β:Type}{f:α->Option β}:∀ {l:List α} {r:List β},tF f l=some r->r.length=l.length/\∀(t:Nat) k,r[t]?=some k->∃y,l[t]?=some y/\f y=some k:=by
 intro l;induction l with
 | nil=>intro r h;rw[dS]at h;cases h;exact⟨rfl,fun t k h=>by simp at h⟩
 | cons a l ih=>
  intro r h;rw[pK,uA]at h;obtain⟨b,h1,h⟩:=h
  rw[uA]at h;obtain⟨s,h2,h⟩:=h
  cases h;obtain⟨i1,i2⟩:=ih h2
  refine⟨by simp[i1],fun t k ht=>?_⟩
  cases t with
  | zero=>simp at ht;subst ht;exact⟨a,rfl,h1⟩
  | succ t=>simp at ht;obtain⟨y,e1,e2⟩:=i2 t k ht;exact⟨y,by simpa using e1,e2⟩
def z3b{k:Nat}(h:k<256):(UInt8.ofNat k).toNat=k:=by
 rw[UInt8.toNat_ofNat'];omega
def byteOf:zA->Option Nat
 | .int .u8 (.ofNat k)=>jA (Nat.blt k 256) (some k)
 | _=>none
def znt{v:zA}{k:Nat}(h:byteOf v=some k):v=.int .u8 (k:Int)/\k<256:=by
 unfold byteOf at h;split at h
 ·rw[zB]at h
  obtain⟨h1,h2⟩:=h
  cases h2;exact⟨rfl,dB.1 h1⟩
 ·cases h
def uU(base U:Nat)(args:List zA)(H:xA):Option (zA × xA):=
 match args with
 | [.ptr b 0]=>ob (fC H b) fun c=>ob (c.1.get 1) fun v=>ob v.asSlice fun s=>ob (fC H s.1) fun d=>ob (d.1.many s.2.2.1 0) fun m=>ob (tF byteOf m) fun l=>
  jA (!Nat.blt s.1 base&&Nat.beq s.2.1 0&&Nat.blt 0 s.2.2.1&&Nat.ble s.2.2.1 s.2.2.2&&Nat.ble s.2.2.1 d.2.1&&Nat.blt s.2.2.1 1000000000&&(match d.2.2 with | some (.ty t)=>Nat.beq t U | _=>false)) (some (.str l,⟨H.next,H.t.del s.1⟩))
 | _=>none
def zrt{f:Nat}(L:Lays.n169 P ρ)(X:Builder.Extra P ρ)(hf:ρ.f 169=f){base:Nat}(hbase:B<=base)
  (henter:∀(w:World) (a:Array Value),(callFunc f a).run P w=.ok (.enter f a) w) {args:List zA} {args':Array Value} {v:zA} {H':xA} (hH:cA B N μ H w) (hv:uU base (ρ.t 5) args H=some (v,H')) (hl:yB μ args args'.toList) :
  (callFunc f args').run P w=.ok (.enter f args') w/\Calls P f args' w fun e w'=>∃v' μ',e=.returned v'/\μ.le μ'/\cA B N μ' H' w'/\Below N w w'/\wA μ' v v':=by
 refine⟨henter w args',?_⟩
 subst hf;unfold uU at hv;split at hv
 case h_2=>cases hv
 rename_i b;rw[yB]at hl;obtain⟨u,r,h1,h2,h3⟩:=hl
 rw[yB]at h3;subst h3;rw[wA]at h2;obtain⟨i,hi,rfl⟩:=h2
 have ha:args' = #[.pointer (some ⟨i.b,0,none⟩)]:=by apply yax.1;rw[h1]
 subst ha;simp only[uA,zB,ybb,ycp,aR]at hv;obtain⟨⟨c,n,lo⟩,hc,v0,h0,⟨g,off,len,cap⟩,rfl,⟨d,m,lo2⟩,hd,ml,hm,l,hlm,⟨⟨⟨⟨⟨⟨q1,q2⟩,q3⟩,q4⟩,q5⟩,q6⟩,q7⟩,hv⟩:=hv
 cases hv;have q2:off=0:=pB.1 q2
 have q3:0<len:=dB.1 q3
 have q4:len<=cap:=vE.1 q4
 have q5:len<=m:=vE.1 q5
 have q6:len<1000000000:=dB.1 q6
 subst q2;have hx:=dR hc
 obtain⟨o,g1,cs,E,fr,rfl,g3,g4,g5,g6⟩:=hH.blk _ _ _ hx hi
 obtain⟨hn,u,hu,hr⟩:=g5 1 _ h0
 rw[wA]at hr;rcases hr with⟨j,cap',hj,rfl,hcap,_,_⟩ | ⟨_,hz,_⟩
 case inr=>exact absurd (show len=0 from hz) (by omega)
 have hcap:cap<=cap':=hcap
 have hx2:=dR hd
 obtain⟨o2,k1,cs2,E2,fr2,rfl,k3,k4,k5,k6⟩:=hH.blk _ _ _ hx2 hj
 have k3:m<=cs2.size:=k3
 have hE:E2=ρ.t 5:=by
  cases lo2 with
  | none=>cases q7
  | some lo2=>
   cases lo2 with
   | sz _=>cases q7
   | ty t=>exact(k6.2.2.2 t rfl).trans (pB.1 q7)
 subst hE;have hown:B<=g:=by
  have:¬ g<base:=fun k=>by rw[dB.2 k]at q1;cases q1
  omega
 have hNb:=hH.own g j hown hj
 obtain⟨m1,m2⟩:=Tr.many_some _ _ _ _ hm
 obtain⟨hll,hla⟩:=z07 hlm
 let bs:List UInt8:=l.map UInt8.ofNat
 have hbl:bs.length=len:=by simp[bs,hll,m1]
 have hby:∀(t:Nat) k,l[t]?=some k->ml[t]?=some (.int .u8 (k:Int))/\k<256:=by
  intro t k ht;obtain⟨y,e1,e2⟩:=hla t k ht
  obtain⟨e3,e4⟩:=znt e2
  exact⟨by rw[e1,e3],e4⟩
 have hcell:∀t x,bs[t]?=some x->w.cell? ((⟨j.b,0,none⟩:Addr).add t)=some (.int .u8 x.toNat):=by
  intro t x ht;simp only[bs,ybu,yar]at ht;obtain⟨k,e1,rfl⟩:=ht
  obtain⟨e2,e3⟩:=hby t k e1
  have hg:=m2 t (by rw[<- m1];exact(ybc.1 e2).1)
  rw[ybw,e2]at hg;obtain⟨_,y,e4,e5⟩:=k5 t _ hg
  rw[wA]at e5;subst e5;rw[dP];unfold World.cell?
  simp only[k1];simp only[ybw];show cs2[t]?=_
  rw[e4,z3b e3]
 have c1:w.cell? ⟨i.b,1,none⟩=some (.slice (some ⟨j.b,0,none⟩) bs.length cap'):=by
  unfold World.cell?;rw[g1,hbl];simpa using hu
 have hne:bs≠[]:=by intro e;rw[e]at hbl;simp at hbl;omega
 refine(zsn L X i.b j.b cap' cs2.size bs w c1 hne (by omega) (by unfold World.shape?;rw[k1]) (by omega) (by omega) hcell).mono ?_
 rintro e w' ⟨rfl,rfl⟩
 have hfz:∃o',w.drew.freeze ⟨j.b,0,none⟩ bs.length=World.setBlk w.drew j.b o':=by
  unfold World.freeze;rw[yaa (by omega)]
  refine⟨.cells cs2 (ρ.t 5) (if fr2.1 == fr2.2 then(0,0+bs.length)else(min fr2.1 0,max fr2.2 (0+bs.length))),?_⟩
  unfold World.setBlk;congr 1
  apply Array.ext_getElem?
  intro k;rw[Array.getElem?_modify,ycs];have hk1:w.drew.heap[j.b]?=some (.cells cs2 (ρ.t 5) fr2):=k1
  by_cases e:j.b=k
  ·subst e
   have hg:=(ybe.1 hk1).1
   rw[yab rfl,yab rfl,yab hg,hk1];rfl
  ·rw[yaa e,yaa e]
 obtain⟨o',ho'⟩:=hfz
 rw[ho'];have hdrop:=hH.drew.drop g (fun x t e=>by have:=(hH.pnd _ _ _ e).1;rw[hj]at this;cases this)
 refine⟨_,μ,rfl,μ.le_refl,hdrop.scratch hNb.1 (fun a x k hax hak e=>?_) o',(cU).trans (gP hNb.1),?_⟩
 ·have hax':(if a=g then none else H.t.get a)=some x:=by rw[<- Tr.get_del];exact hax
  split at hax'
  ·cases hax'
  ·rename_i hne
   by_cases hab:B<=a
   ·exact hne (hH.inj a g x _ k j hax' hx2 hak hj hab hown e)
   ·have:=(hH.low a x k (by omega) hax' hak).1
    omega
 ·rw[wA]
  refine⟨_,rfl,?_⟩
  unfold aD;show bs.map UInt8.toNat=l
  simp only[bs,List.map_map];have:∀k∈l,(UInt8.toNat ∘ UInt8.ofNat) k=k:=by
   intro k hk;obtain⟨t,ht⟩:=List.mem_iff_getElem?.1 hk
   exact z3b (hby t k ht).2
  rw[List.map_congr_left this,List.map_id']
end
end Go.Am
set_option maxRecDepth 100000
namespace Go.Am
open Go Go.RowKit
def zdr(c:Nat):List Nat->Option Nat
 | []=>none
 | x::r=>bif Nat.beq x c then some 0 else ob (zdr c r) fun n=>some (n+1)
def tT(sub:List Nat):List Nat->Bool
 | []=>sub.isEmpty
 | b::l=>bif zr7 sub (b::l)then true else tT sub l
def zaq(a:List zA)(_:xA):Option zA:=match a with | [.str s,.int .u8 (.ofNat c)]=>jA (Nat.blt c 256) (some (.int .i64 (match zdr c s with | some n=>.ofNat n | none=>.negSucc 0))) | _=>none
def tU(a:List zA)(_:xA):Option zA:=match a with | [.str s,.str c]=>jA (Nat.blt (aA s) 4294967281) (some (.bool (tT c s))) | _=>none
def glob (g:Nat)(l:List zA)(t:Tr qA):Tr qA:=t.set g (.cells (Tr.ofList l) (aA l) none)
def uE:qE->Nat
 | .next _=>0
 | .done v _=>match v.asBool with
  | some true=>1
  | _=>2
 | .fail n=>100+n
def vQ(C:oA)(f:Nat)(args:List zA)(H:xA):qE:=match bI C f args false with
 | some fr=>.next ⟨fr,[],H⟩
 | none=>.fail 0
def zpo:∀(c s:List UInt8),zr7 (c.map UInt8.toNat) (s.map UInt8.toNat)=c.isPrefixOf s
 | [],_=>by simp[zr7]
 | _::_,[]=>rfl
 | a::x,b::y=>by
  simp only[ycm,zr7,iB,zpo x y,List.isPrefixOf];by_cases h:a=b
  ·subst h;simp
  ·have:¬ Nat.beq a.toNat b.toNat=true:=fun e=>h (UInt8.toNat_inj.1 (pB.1 e))
   rw[yaa this];simp[h]
def zd3(c:List UInt8):∀s:List UInt8,tT (c.map UInt8.toNat) (s.map UInt8.toNat)=Lib.contains s c
 | []=>by cases c<;>simp[tT,Lib.contains,Lib.index]
 | b::l=>by
  have ih:=zd3 c l
  have hp:=zpo c (b::l)
  simp only[ycm]at hp ⊢
  simp only[tT,iB,hp,ih];unfold Lib.contains;have ge:=Lib.index_ge l c
  rw[Lib.index];split
  ·simp
  ·split
   ·rename_i e;simp at e;simp[e]
   ·rename_i e;simp at e;simp;omega
def zpu(c:UInt8):∀s:List UInt8,(match zdr c.toNat (s.map UInt8.toNat)with | some n=>Int.ofNat n | none=>.negSucc 0)=Lib.indexByte s c
 | []=>rfl
 | b::l=>by
  have ih:=zpu c l
  simp only[ycm,zdr,iB];rw[Lib.indexByte];by_cases h:b=c
  ·subst h;simp
  ·have:¬ Nat.beq b.toNat c.toNat=true:=fun e=>h (UInt8.toNat_inj.1 (pB.1 e))
   rw[yaa this];simp only[beq_iff_eq,h,if_false]
   cases hx:zdr c.toNat (l.map UInt8.toNat)with
   | none=>rw[hx]at ih;rw[<- ih];rfl
   | some n=>
    rw[hx]at ih;rw[<- ih];simp only[vA];rw[yaa (by intro e;simp at e)]
    rfl
def zx5:rD->rD->Bool
 | .bool,.bool=>true
 | .int k,.int j=>kEq k j
 | .string,.string=>true
 | .ptr a,.ptr b=>Nat.beq a b
 | .slice a,.slice b=>Nat.beq a b
 | .arr a c,.arr b d=>Nat.beq a b&&Nat.beq c d
 | .map a c,.map b d=>Nat.beq a b&&Nat.beq c d
 | .struct f,.struct g=>decide (f=g)
 | .func,.func=>true
 | .iface,.iface=>true
 | .other,.other=>true
 | _,_=>false
def zx4{a b:rD}(h:zx5 a b=true):a=b:=by
 cases a<;>cases b<;>simp[zx5,nI]at h ⊢<;>first | exact h | exact⟨h.1,h.2⟩
def eqTy (a b:uC):Bool:=zx5 a.desc b.desc&&Nat.beq a.size b.size&&Nat.beq a.bytes b.bytes&&same.sames 10 a.zero b.zero&&bEq a.eqOk b.eqOk
def z6u{a b:uC}(h:eqTy a b=true):a=b:=by
 obtain⟨d,s,y,z,e⟩:=a
 obtain⟨d',s',y',z',e'⟩:=b
 simp only[eqTy,ybb,pB,fQ,beq_iff_eq]at h;obtain⟨⟨⟨⟨h1,h2⟩,h3⟩,h4⟩,h5⟩:=h
 rw[zx4 h1,h2,h3,zg6 _ _ _ h4,h5]
def z7f {α:Type}(p:Nat->α->Bool):Tr α->(Nat->Nat)->Bool
 | .leaf,_=>true
 | .node l v r,f=>(match v with | some v=>p (f 0) v | none=>true)&&z7f p l (fun m=>f (2*m+1))&&z7f p r (fun m=>f (2*m+2))
def z7e{α:Type}{p:Nat->α->Bool}:∀(t:Tr α) (f:Nat->Nat),z7f p t f=true->∀(n:Nat) v,t.get n=some v->p (f n) v=true:=by
 intro t;induction t with
 | leaf=>intro f _ n v h;rw[Tr.get_leaf]at h;cases h
 | node l x r ihl ihr=>
  intro f h n v hv;simp only[z7f,ybb]at h;rw[Tr.get_node]at hv;split at hv
  ·rename_i e;subst e
   have:=h.1.1
   rw[hv]at this;exact this
  ·rename_i hn
   split at hv
   ·rename_i e
    have:=ihl _ h.1.2 _ v hv
    rw[show 2*(n / 2)+1=n by omega]at this
    exact this
   ·rename_i e
    have:=ihr _ h.2 _ v hv
    rw[show 2*(n / 2-1)+2=n by omega]at this
    exact this
def zlu (l:List (List UInt8)):List Value:=l.map fun b=>.string ⟨b.toArray⟩
def z1n (l:List Int):List Value:=l.map fun n=>.int .i64 n
def mu0:Mu:=⟨fun g=>if g<256 then some ⟨g,true,0,0,true⟩else none,fun _=>none⟩
def zgx{μ:Mu}:∀l:List (List UInt8),yB μ (l.map fun b=>zA.str (b.map UInt8.toNat)) (zlu l)
 | []=>.nil
 | b::l=>.cons (by rw[wA];exact⟨⟨b.toArray⟩,rfl,by simp[aD]⟩) (zgx l)
def zpt{μ:Mu}:∀l:List Int,yB μ (l.map fun n=>zA.int .i64 n) (z1n l)
 | []=>.nil
 | b::l=>.cons (by rw[wA]) (zpt l)
def rY{μ:Mu}{g:Nat}{l:List zA}{vs:List Value}(h:yB μ l vs)(t:TypeId):aG μ ⟨g,true,0,0,true⟩ (.cells (Tr.ofList l) (aA l) none) (.cells vs.toArray t (0,0)):=h.rel_one rfl
def z6q{o:qE}(h:uE o=1):∃H,o=.done (.bool true) H:=by
 cases o with
 | next s=>cases h
 | fail n=>simp only[uE]at h;omega
 | done v H=>
  cases hv:v.asBool with
  | none=>simp only[uE,hv]at h;omega
  | some b=>cases b with
   | false=>simp only[uE,hv]at h;omega
   | true=>exact⟨H,by rw[eQ.1 hv]⟩
end Go.Am
