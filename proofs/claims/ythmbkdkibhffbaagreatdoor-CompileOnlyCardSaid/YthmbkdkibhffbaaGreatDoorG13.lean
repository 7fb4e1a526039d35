/- Facts on types. (Printed by a tool.) -/
import Derived.Test.YthmbkdkibhffbaaGreatDoorG12
set_option linter.all false
noncomputable section
set_option maxRecDepth 100000
namespace Go.Proofs
open Go Go.Am
variable [dC]
theorem ty3:yA.tys.get 3=some ⟨(.int .i64),1,8,[.int .i64 0],true⟩:=by kernel_rfl
theorem ty4:yA.tys.get 4=some ⟨.bool,1,1,[.bool false],true⟩:=by kernel_rfl
theorem ty5:yA.tys.get 5=some ⟨(.int .u8),1,1,[.int .u8 0],true⟩:=by kernel_rfl
theorem ty9:yA.tys.get 9=some ⟨.string,1,16,[.str []],true⟩:=by kernel_rfl
theorem ty22:yA.tys.get 22=some ⟨(.slice 79),1,24,[.nilslice],true⟩:=by kernel_rfl
theorem ty23:yA.tys.get 23=some ⟨(.slice 82),1,24,[.nilslice],true⟩:=by kernel_rfl
theorem ty24:yA.tys.get 24=some ⟨(.slice 52),1,24,[.nilslice],true⟩:=by kernel_rfl
theorem z4l:yA.tys.get 30=some ⟨(.slice 9),1,24,[.nilslice],true⟩:=by kernel_rfl
theorem z2e:yA.tys.get 31=some ⟨(.slice 47),1,24,[.nilslice],true⟩:=by kernel_rfl
theorem z4k:yA.tys.get 32=some ⟨(.slice 37),1,24,[.nilslice],true⟩:=by kernel_rfl
theorem ty34:yA.tys.get 34=some ⟨(.struct [(0,26,4),(4,30,1),(5,31,1),(6,32,1),(7,32,1)]),8,184,[.str [],.nilslice,.nilslice,.nilslice,.nilslice,.nilslice,.nilslice,.nilslice],true⟩:=by kernel_rfl
theorem zrw:yA.tys.get 37=some ⟨(.slice 54),1,24,[.nilslice],true⟩:=by kernel_rfl
theorem ty41:yA.tys.get 41=some ⟨(.slice 227),1,24,[.nilslice],true⟩:=by kernel_rfl
theorem ty43:yA.tys.get 43=some ⟨(.struct [(0,4,1),(1,41,1)]),2,32,[.bool false,.nilslice],true⟩:=by kernel_rfl
theorem ty45:yA.tys.get 45=some ⟨(.struct [(0,43,2),(2,43,2)]),4,64,[.bool false,.nilslice,.bool false,.nilslice],true⟩:=by kernel_rfl
theorem ty47:yA.tys.get 47=some ⟨(.struct [(0,5,1),(1,45,4),(5,3,1)]),6,80,[.int .u8 0,.bool false,.nilslice,.bool false,.nilslice,.int .i64 0],true⟩:=by kernel_rfl
theorem ty48:yA.tys.get 48=some ⟨(.slice 50),1,24,[.nilslice],true⟩:=by kernel_rfl
theorem z2d:yA.tys.get 50=some ⟨(.struct [(0,5,1),(1,9,1),(2,47,6),(8,48,1)]),9,128,[.int .u8 0,.str [],.int .u8 0,.bool false,.nilslice,.bool false,.nilslice,.int .i64 0,.nilslice],true⟩:=by kernel_rfl
theorem ty52:yA.tys.get 52=some ⟨(.struct [(0,9,1),(1,9,1),(2,3,1),(3,3,1),(4,3,1),(5,4,1),(6,50,9),(15,50,9)]),24,320,[.str [],.str [],.int .i64 0,.int .i64 0,.int .i64 0,.bool false,.int .u8 0,.str [],.int .u8 0,.bool false,.nilslice,.bool false,.nilslice,.int .i64 0,.nilslice,.int .u8 0,.str [],.int .u8 0,.bool false,.nilslice,.bool false,.nilslice,.int .i64 0,.nilslice],true⟩:=by kernel_rfl
theorem z2c:yA.tys.get 54=some ⟨(.struct [(0,5,1),(1,3,1),(2,3,1)]),3,24,[.int .u8 0,.int .i64 0,.int .i64 0],true⟩:=by kernel_rfl
theorem ty73:yA.tys.get 73=some ⟨.func,1,8,[.nilfunc],true⟩:=by kernel_rfl
theorem ty79:yA.tys.get 79=some ⟨(.struct [(0,9,1),(1,5,1),(2,4,1)]),3,24,[.str [],.int .u8 0,.bool false],true⟩:=by kernel_rfl
theorem ty80:yA.tys.get 80=some ⟨(.slice 85),1,24,[.nilslice],true⟩:=by kernel_rfl
theorem ty82:yA.tys.get 82=some ⟨(.struct [(0,9,1),(1,4,1),(2,80,1)]),3,48,[.str [],.bool false,.nilslice],true⟩:=by kernel_rfl
theorem ty85:yA.tys.get 85=some ⟨(.struct [(0,3,1),(1,3,1),(2,3,1),(3,45,4)]),7,88,[.int .i64 0,.int .i64 0,.int .i64 0,.bool false,.nilslice,.bool false,.nilslice],true⟩:=by kernel_rfl
theorem zeh:yA.tys.get 105=some ⟨(.slice 3),1,24,[.nilslice],true⟩:=by kernel_rfl
theorem ty106:yA.tys.get 106=some ⟨(.ptr 109),1,8,[.nilptr],true⟩:=by kernel_rfl
theorem zy5:yA.tys.get 107=some ⟨(.map 9 3),1,8,[.nilmap],true⟩:=by kernel_rfl
theorem ty118:yA.tys.get 118=some ⟨(.struct [(0,34,8),(8,37,1)]),9,208,[.str [],.nilslice,.nilslice,.nilslice,.nilslice,.nilslice,.nilslice,.nilslice,.nilslice],true⟩:=by kernel_rfl
theorem zy4:yA.tys.get 188=some ⟨(.slice 5),1,24,[.nilslice],true⟩:=by kernel_rfl
theorem zp3:yA.tys.get 227=some ⟨(.int .u16),1,2,[.int .u16 0],true⟩:=by kernel_rfl
theorem z4m:yA.tys.get 232=some ⟨(.arr 14 3),14,112,[.int .i64 0,.int .i64 0,.int .i64 0,.int .i64 0,.int .i64 0,.int .i64 0,.int .i64 0,.int .i64 0,.int .i64 0,.int .i64 0,.int .i64 0,.int .i64 0,.int .i64 0,.int .i64 0],true⟩:=by kernel_rfl
theorem ty273:yA.tys.get 273=some ⟨(.arr 27 9),27,432,[.str [],.str [],.str [],.str [],.str [],.str [],.str [],.str [],.str [],.str [],.str [],.str [],.str [],.str [],.str [],.str [],.str [],.str [],.str [],.str [],.str [],.str [],.str [],.str [],.str [],.str [],.str []],true⟩:=by kernel_rfl
theorem gO:yA.tys.get 305=some ⟨(.slice 328),1,24,[.nilslice],true⟩:=by kernel_rfl
theorem ty326:yA.tys.get 326=some ⟨(.slice 43),1,24,[.nilslice],true⟩:=by kernel_rfl
theorem wH:yA.tys.get 328=some ⟨(.int .u32),1,4,[.int .u32 0],true⟩:=by kernel_rfl
theorem sl22:jE yA 22 79 3 true:=⟨⟨_,ty22,rfl⟩,⟨_,ty79,rfl,rfl⟩⟩
theorem sl23:jE yA 23 82 3 true:=⟨⟨_,ty23,rfl⟩,⟨_,ty82,rfl,rfl⟩⟩
theorem sl24:jE yA 24 52 24 true:=⟨⟨_,ty24,rfl⟩,⟨_,ty52,rfl,rfl⟩⟩
theorem sl30:jE yA 30 9 1 false:=⟨⟨_,z4l,rfl⟩,⟨_,ty9,rfl,rfl⟩⟩
theorem sl31:jE yA 31 47 6 true:=⟨⟨_,z2e,rfl⟩,⟨_,ty47,rfl,rfl⟩⟩
theorem sl32:jE yA 32 37 1 false:=⟨⟨_,z4k,rfl⟩,⟨_,zrw,rfl,rfl⟩⟩
theorem sl37:jE yA 37 54 3 true:=⟨⟨_,zrw,rfl⟩,⟨_,z2c,rfl,rfl⟩⟩
theorem zt7:jE yA 41 227 1 false:=⟨⟨_,ty41,rfl⟩,⟨_,zp3,rfl,rfl⟩⟩
theorem z2q:jE yA 48 50 9 true:=⟨⟨_,ty48,rfl⟩,⟨_,z2d,rfl,rfl⟩⟩
theorem sl80:jE yA 80 85 7 true:=⟨⟨_,ty80,rfl⟩,⟨_,ty85,rfl,rfl⟩⟩
theorem zt8:jE yA 105 3 1 false:=⟨⟨_,zeh,rfl⟩,⟨_,ty3,rfl,rfl⟩⟩
theorem kG:jE yA 305 328 1 false:=⟨⟨_,gO,rfl⟩,⟨_,wH,rfl,rfl⟩⟩
theorem sl326:jE yA 326 43 2 true:=⟨⟨_,ty326,rfl⟩,⟨_,ty43,rfl,rfl⟩⟩
end Go.Proofs
namespace Go.Proofs
open Go Go.Am
variable [dC]
variable {t:Tr jA}
theorem zst:∀(n:Nat) (l:List Nat) (v:zA),l.length=n->n<1125899906842624->oA t 1 (oC .u32 l) v->∃v',jp 313 2 [v] t (fun u m=>u=v'/\m=t)/\oA t 1 (oC .u32 (nF l)) v':=by
 intro n;induction n with
 | zero=>
  intro l v hl _ hv;have:l=[]:=ybd.1 hl
  subst this;refine⟨v,zwn _ ?_,hv⟩
  simp only[znp,pA,hv.len,xA,yB,uI,mB];rw[if_neg (by simp)]
  simp
 | succ n ih=>
  intro l v hl hn hv;obtain⟨m,x,rfl⟩:=zaf (l:=l) (by intro e;subst e;simp at hl)
  have hm:m.length=n:=by simpa using hl
  have hx:(m++[x])[m.length]?=some x:=by simp
  obtain⟨b,off,g1,g2⟩:=hv.idx kG hx
  obtain⟨u,g3,g4⟩:=jE.front kG hv (k:=m.length) (by simp[oC])
  rw[zf4]at g4;simp only[List.take_left']at g4;have e1:(((m++[x]).length:Nat):Int)-1=(m.length:Int):=by simp
  by_cases hx0:x=0
  ·subst hx0
   obtain⟨w,h1,h2⟩:=ih m u hm (by omega) g4
   refine⟨w,zwn _ ?_,by rw[zan];exact h2⟩
   simp (disch:=omega) only[znp,pA,hv.len,xA,yB,uI,mB,cD,fB,e1,g1,g2,g3]
   rw[if_pos (by simp),if_pos (by simp)]
   exact h1
  ·refine⟨v,zwn _ ?_,?_⟩
   ·simp (disch:=omega) only[znp,pA,hv.len,xA,yB,uI,mB,cD,fB,e1,g1,g2,g3]
    rw[if_pos (by simp),if_neg (by simpa using hx0)]
    simp
   ·rw[sW]
    ·exact hv
    ·intro _;simpa using hx0
theorem eT{l:List Nat}{v:zA}(hl:l.length<1125899906842624)(hv:oA t 1 (oC .u32 l) v):∃v',rD yA F 313 [v] t=some v'/\oA t 1 (oC .u32 (nF l)) v':=by
 obtain⟨v',h1,h2⟩:=zst _ l v rfl hl hv
 exact⟨v',mF.2 (w313 _ h1),h2⟩
theorem z1r{a b:List Nat}{u v:zA}(hu:oA t 1 (oC .u32 a) u)(hv:oA t 1 (oC .u32 b) v)(hl:a.length=b.length):∀(n:Nat),n<=a.length->n<1125899906842624->jp 314 2 [u,v,.int .i64 ((n:Int)-1)] t (fun w m=>w=.int .i64 (vK.go (a.take n) (b.take n))/\m=t):=by
 intro n;induction n with
 | zero=>
  intro _ _;refine z3i _ _ _ ?_
  simp only[zth,pA,xF];rw[if_neg (by omega)]
  simp[vK.go]
 | succ n ih=>
  intro hn hn2;obtain⟨x,hx⟩:=getElem?_of_lt (l:=a) (i:=n) (by omega)
  obtain⟨y,hy⟩:=getElem?_of_lt (l:=b) (i:=n) (by omega)
  obtain⟨c,off,g1,g2⟩:=hu.idx kG hx
  obtain⟨d,off',g3,g4⟩:=hv.idx kG hy
  have e1:(((n+1:Nat):Int)-1)=(n:Int):=by omega
  have key:∀(a b:List Nat) (x y:Nat),a.length=b.length->vK.go (a++[x]) (b++[y])=if x<y then -1 else if y<x then 1 else vK.go a b:=by
   intro a;induction a with
   | nil=>
    intro b x y h;have:b=[]:=ybd.1 (by simpa using h.symm)
    subst this;simp[vK.go]
   | cons p a ih=>
    intro b x y h
    cases b with
    | nil=>simp at h
    | cons q b=>
     simp only[List.cons_append,vK.go];rw[ih b x y (by simpa using h)]
     by_cases c1:x<y
     ·simp[c1]
     ·by_cases c2:y<x
      ·simp[c1,c2]
      ·simp[c1,c2]
  have e2:vK.go (a.take (n+1)) (b.take (n+1))=if x<y then -1 else if y<x then 1 else vK.go (a.take n) (b.take n):=by
   rw[ych,ych,hx,hy];exact key _ _ _ _ (by simp;omega)
  rw[e1,e2];refine z3i _ _ _ ?_
  simp (disch:=omega) only[zth,pA,xA,yB,mB,xF,zI,g1,g2,g3,g4,fB]
  rw[if_pos (by omega)]
  by_cases c0:x=y
  ·subst c0
   rw[if_neg (by simp),if_neg (by omega),if_neg (by omega)]
   exact ih (by omega) (by omega)
  ·rw[if_pos (by omega)]
   by_cases c1:x<y
   ·rw[if_pos (by omega),if_pos c1];simp
   ·rw[if_neg (by omega),if_neg c1,if_pos (by omega)];simp
theorem z34{a b:List Nat}{u v:zA}(ha:a.length<1125899906842624)(hu:oA t 1 (oC .u32 a) u)(hv:oA t 1 (oC .u32 b) v):rD yA F 314 [u,v] t=some (.int .i64 (vK a b)):=by
 refine mF.2 (w314 _ _ ?_)
 simp (disch:=omega) only[t314,pA,hu.len,hv.len,xA,yB,uI,mB,zI,fB]
 unfold vK;by_cases hl:a.length=b.length
 ·rw[if_neg (by omega),if_neg (by omega)]
  have:=z1r hu hv hl a.length (yal _) ha
  rw[List.take_length,hl,List.take_length]at this;rw[hl];exact this
 ·rw[if_pos (by omega),if_pos hl]
  by_cases hlt:a.length<b.length
  ·rw[if_pos (by omega),if_pos hlt];simp
  ·rw[if_neg (by omega),if_neg hlt];simp
def xN(neg:Bool)(l:List Nat):Bool:=if l=[]then !neg else decide (l.length<=1024)&&decide (l.getLast?≠some 0)
theorem zgc{neg:Bool}{l:List Nat}{v:zA}(hl:l.length<1125899906842624)(hv:oA t 1 (oC .u16 l) v):rD yA F 173 [.agg [.bool neg,v]] t=some (.bool (xN neg l)):=by
 refine mF.2 (w173 _ _ ?_)
 unfold xN;by_cases h0:l=[]
 ·subst h0
  simp only[t173,pA,hv.len,xA,yB,uI,cD];simp
 ·obtain⟨m,x,rfl⟩:=zaf h0
  have hx:(m++[x])[m.length]?=some x:=by simp
  obtain⟨b,off,g1,g2⟩:=hv.idx zt7 hx
  have e1:(((m++[x]).length:Nat):Int)-1=(m.length:Int):=by simp
  have hlm:m.length<1125899906842624:=by simp at hl;omega
  simp (disch:=omega) only[t173,pA,hv.len,xA,yB,uI,cD,xF,fB,e1,g1,g2]
  rw[if_neg (by simp;omega),if_neg h0]
  by_cases h1:(m++[x]).length<=1024
  ·rw[if_pos (by omega)]
   simp only[h1,decide_true,ybo];by_cases hx0:x=0
   ·subst hx0;simp[zdq]
   ·have:wA (x:Int) 0=false:=by
     cases hq:wA (x:Int) 0 with
     | false=>rfl
     | true=>have:=(qQ _ _).1 hq;omega
    simp[this,hx0]
  ·rw[if_neg (by omega),decide_eq_false h1]
   simp
theorem zo0{neg:Bool}{l:List Nat}{v:zA}(hv:oA t 1 (oC .u16 l) v):rD yA F 175 [.agg [.bool neg,v]] t=some (.bool (!neg&&decide (l=[1]))):=by
 refine mF.2 (w175 _ _ ?_)
 cases neg with
 | true=>simp[t175,pA]
 | false=>
  simp only[t175,pA,hv.len,xA,yB,uI,cD];rw[if_pos (by rfl)]
  by_cases h1:l.length=1
  ·obtain⟨x,rfl⟩:∃x,l=[x]:=by
    cases l with
    | nil=>simp at h1
    | cons x r=>cases r with
     | nil=>exact⟨x,rfl⟩
     | cons y r=>simp at h1
   obtain⟨b,off,g1,g2⟩:=hv.idx zt7 (i:=0) (x:=x) (by simp)
   simp only[Int.natCast_zero]at g1;rw[if_pos (by simp)]
   simp only[g1,g2,xA,yB];by_cases hx:x=1
   ·subst hx;simp[zdq]
   ·have:wA (x:Int) 1=false:=by
     cases hq:wA (x:Int) 1 with
     | false=>rfl
     | true=>have:=(qQ _ _).1 hq;omega
    simp[this,hx]
  ·rw[if_neg (by omega)]
   have:l≠[1]:=by intro e;subst e;simp at h1
   simp[this]
end Go.Proofs
namespace Go.Am
def uH:List Nat->List Nat
 | []=>[]
 | [a]=>[a]
 | a::b::l=>(a+65536*b)::uH l
theorem vQ:∀l:List Nat,(uH l).length=(l.length+1) / 2
 | []=>rfl
 | [a]=>by simp[uH]
 | a::b::l=>by simp[uH,vQ l];omega
theorem zh8:∀l:List Nat,val 4294967296 (uH l)=val 65536 l
 | []=>rfl
 | [a]=>by simp[uH,val]
 | a::b::l=>by simp only[uH,val,zh8 l];omega
theorem kZ:∀ {l:List Nat},dB 65536 l->dB 4294967296 (uH l)
 | [],_=>fun x hx=>(by cases hx)
 | [a],h=>fun x hx=>by
  have:=h a (by simp)
  have e:x=a:=by simpa[uH]using hx
  omega
 | a::b::l,h=>fun x hx=>by
  have h1:=h a (by simp)
  have h2:=h b (by simp)
  rcases yat.1 hx with rfl | hx
  ·omega
  ·exact kZ (l:=l) (fun y hy=>h y (by simp[hy])) x hx
theorem zas:∀ {l:List Nat},norm l->norm (uH l)
 | [],_=>fun h=>(h rfl).elim
 | [a],h=>by
  intro _;have:=h (by simp)
  simpa[uH]using this
 | [a,b],h=>by
  intro _;have:=h (by simp)
  simp at this;simp[uH];omega
 | a::b::c::l,h=>by
  intro _;have hn:norm (c::l):=by
   intro hne;have:=h (by simp)
   rw[List.getLast_cons (by simp),List.getLast_cons hne]at this
   exact this
  have hne:uH (c::l)≠[]:=by
   intro e;have:=congrArg List.length e
   rw[vQ]at this;simp at this;omega
  have:=zas (l:=c::l) hn hne
  show((a+65536*b)::uH (c::l)).getLast _≠0
  rw[List.getLast_cons hne];exact this
theorem zaq:∀(l:List Nat) (x:Nat),l.length%2=0->uH (l++[x])=uH l++[x]
 | [],x,_=>rfl
 | [a],x,h=>by simp at h
 | a::b::l,x,h=>by
  show(a+65536*b)::uH (l++[x])=(a+65536*b)::(uH l++[x])
  rw[zaq l x (by simp at h;omega)]
theorem zi8:∀(l:List Nat) (a x:Nat),l.length%2=0->uH (l++[a,x])=uH l++[a+65536*x]
 | [],a,x,_=>rfl
 | [b],a,x,h=>by simp at h
 | c::b::l,a,x,h=>by
  show(c+65536*b)::uH (l++[a,x])=(c+65536*b)::(uH l++[a+65536*x])
  rw[zi8 l a x (by simp at h;omega)]
def xH:List Nat->List Nat
 | []=>[]
 | w::l=>w%65536::w / 65536::xH l
theorem zV:∀l:List Nat,(xH l).length=2*l.length
 | []=>rfl
 | w::l=>by simp[xH,zV l];omega
theorem zcb:∀l:List Nat,val 65536 (xH l)=val 4294967296 l
 | []=>rfl
 | w::l=>by
  simp only[xH,val,zcb l];have:=ybi w 65536
  omega
theorem zam:∀ {l:List Nat},dB 4294967296 l->dB 65536 (xH l)
 | [],_=>fun x hx=>(by cases hx)
 | w::l,h=>fun x hx=>by
  have h1:=h w (by simp)
  rcases yat.1 hx with rfl | hx
  ·exact ybz _ (by decide)
  ·rcases yat.1 hx with rfl | hx
   ·exact ybv (by omega)
   ·exact zam (l:=l) (fun y hy=>h y (by simp[hy])) x hx
theorem vW:∀(l:List Nat) (w:Nat),xH (l++[w])=xH l++[w%65536,w / 65536]
 | [],w=>rfl
 | a::l,w=>by simp[xH,vW l w]
theorem zab{l:List Nat}{w:Nat}(hw:w≠0):nF (xH (l++[w]))=if w / 65536=0 then xH l++[w%65536]else xH (l++[w]):=by
 rw[vW];split
 ·rename_i h
  rw[h,show xH l++[w%65536,0]=(xH l++[w%65536])++[0] by simp,zan]
  refine sW fun _=>?_
  simp;omega
 ·rename_i h
  refine sW fun _=>?_
  simpa using h
end Go.Am
namespace Go.Proofs
open Go Go.Am
variable [dC]
variable {t:Tr jA}
theorem set_append_right{l m:List Nat}{i x:Nat}(h:l.length=i):(l++m).set i x=l++m.set 0 x:=by
 rw[List.set_append_right _ _ (by omega)];congr 1;congr 1;omega
theorem zu4{l:List Nat}{v:zA}{b:Nat}{Q:cB}(hv:oA t 1 (oC .u16 l) v)(hl:l.length<1000000)(hlt:dB 65536 l)(hbase:yA.base<=b)(hb:t.get b=none)
  (hQ:∀t' v',cA t t'->oA t' 1 (oC .u32 (uH l)) v'->Q v' t'):∀(k i:Nat) (t':Tr jA),i+k=l.length->cA t t'->tF t' b .u32 (uH (l.take i)++List.replicate ((l.length+1) / 2-(i+1) / 2) 0) →
  jp 281 2 [.slice b 0 ((l.length+1) / 2) ((l.length+1) / 2),v,.int .i64 l.length,.int .i64 i] t' Q:=by
 intro k;induction k with
 | zero=>
  intro i t' hi ht ho;refine z3j _ _ _ _ ?_
  simp only[zti,pA,mB];rw[if_neg (by omega)]
  rw[ybb (by omega),show(l.length+1) / 2-(i+1) / 2=0 by omega,List.replicate_zero,ybe]at ho
  refine hQ _ _ ht ?_
  have:=ho.all (yal _)
  rw[vQ]at this;exact this
 | succ k ih=>
  intro i t' hi ht ho;obtain⟨x,hx⟩:=getElem?_of_lt (l:=l) (i:=i) (by omega)
  have hxlt:x<65536:=bI hlt hx
  obtain⟨c,off,g1,g2⟩:=(hv.mono ht).idx zt7 hx
  have htake:l.take (i+1)=l.take i++[x]:=by rw[ych,hx];rfl
  have hlen:(l.take i).length=i:=by simp;omega
  obtain⟨y,hy,hnew⟩:∃y,(uH (l.take i)++List.replicate ((l.length+1) / 2-(i+1) / 2) 0)[i / 2]?=some y/\y<4294967296/\Nat.lor y (x*2^(16*(i%2)))<4294967296 ∧
    (uH (l.take i)++List.replicate ((l.length+1) / 2-(i+1) / 2) 0).set (i / 2) (Nat.lor y (x*2^(16*(i%2))))=uH (l.take (i+1))++List.replicate ((l.length+1) / 2-(i+1+1) / 2) 0:=by
   rcases Nat.mod_two_eq_zero_or_one i with he | ho1
   ·have hp:(uH (l.take i)).length=i / 2:=by rw[vQ,hlen];omega
    refine⟨0,?_,by decide,?_,?_⟩
    ·rw[yaq (by omega),hp,Nat.sub_self,List.getElem?_replicate,if_pos (by omega)]
    ·rw[he];simp;omega
    ·rw[set_append_right hp,he,htake,zaq _ _ (by rw[hlen];exact he)]
     have:Nat.lor 0 (x*2^(16*0))=x:=by show 0 ||| _=x;simp
     rw[this];obtain⟨r,hr⟩:∃r,(l.length+1) / 2-(i+1) / 2=r+1:=⟨(l.length+1) / 2-(i+1) / 2-1,by omega⟩
     rw[hr,List.replicate_succ,List.set_cons_zero,show(l.length+1) / 2-(i+1+1) / 2=r by omega]
     simp
   ·obtain⟨p,a,hpa⟩:=zaf (l:=l.take i) (by intro e;rw[e]at hlen;simp at hlen;omega)
    have hpl:p.length=i-1:=by rw[hpa]at hlen;simp at hlen;omega
    have hpe:p.length%2=0:=by omega
    have ha:a<65536:=hlt a (List.mem_of_mem_take (by rw[hpa];simp:a∈l.take i))
    have hp:(uH p).length=i / 2:=by rw[vQ,hpl];omega
    rw[hpa,zaq _ _ hpe];have hlor:Nat.lor a (x*2^(16*1))=a+65536*x:=by
     show a ||| x*2^(16*1)=_
     rw[Nat.or_comm];have:=zcu (a:=x) (b:=a) (n:=16) (by omega)
     show Nat.lor (x*2^16) a=_
     rw[this];omega
    refine⟨a,?_,by omega,?_,?_⟩
    ·rw[yba,yaq (by omega),hp,Nat.sub_self];rfl
    ·rw[ho1,hlor];omega
    ·rw[ho1,hlor,yba,set_append_right hp,htake,hpa,yba]
     rw[show [a]++[x]=[a,x] from rfl,zi8 _ _ _ hpe,yba];rw[show(l.length+1) / 2-(i+1+1) / 2=(l.length+1) / 2-(i+1) / 2 by omega]
     rfl
  obtain⟨hy1,hy2,hy3⟩:=hnew
  have hwlen:(uH (l.take i)++List.replicate ((l.length+1) / 2-(i+1) / 2) 0).length=(l.length+1) / 2:=by
   rw[yah,vQ,hlen,List.length_replicate];omega
  have g3:zB yA 305 (.slice b 0 ((l.length+1) / 2) ((l.length+1) / 2)) (.int .i64 ((i / 2:Nat):Int))=some (.ptr b (0+i / 2*1)):=dL kG (by omega)
  rw[show 0+i / 2*1=i / 2 by omega]at g3;have g4:=ho.load hy wH rfl
  obtain⟨t2,g5,g6,g7⟩:=ho.store (C:=yA) hbase (j:=i / 2) (by omega) (Nat.lor y (x*2^(16*(i%2)))) wH rfl
  rw[hy3]at g6;refine z3j _ _ _ _ ?_
  have e1:Int.tdiv (i:Int) 2=((i / 2:Nat):Int):=by rw[Int.tdiv_eq_ediv_of_nonneg (by omega)];rfl
  have e2:Int.tmod (i:Int) 2=((i%2:Nat):Int):=by rw[Int.tmod_eq_emod_of_nonneg (by omega)];rfl
  have hm:=ybz i (show 0<2 by decide)
  simp (disch:=omega) only[zti,pA,mB,g1,g2,xA,yB,fB,zR,e1,e2,g3,g4]
  rw[if_pos (by omega)]
  have e3:zq3 .u32 (x:Int) (16*((i%2:Nat):Int))=some (.int .u32 ((x*2^(16*(i%2)):Nat):Int)):=by
   rcases Nat.mod_two_eq_zero_or_one i with h | h<;>rw[h]
   ·simp[zq3,qS,aK]
    rw[zR (by omega) (by omega)]
   ·have:zq3 .u32 (x:Int) (16*((1:Nat):Int))=some (.int .u32 (vA .u32 ((x:Int)*65536))):=rfl
    rw[this,zR (by omega) (by omega)]
    simp
  rw[e3];have hb2:x*2^(16*(i%2))<4294967296:=by
   rcases Nat.mod_two_eq_zero_or_one i with h | h<;>rw[h]<;>omega
  simp only[xA,yB];rw[pO (show y<cG .u32 from hy1) (show x*2^(16*(i%2))<cG .u32 from hb2)]
  simp only[xA,yB];intro d _ _;rw[g5];simp only[xA];have:=ih (i+1) t2 (by omega) (ht.off hb g7) g6
  rw[show((i+1:Nat):Int)=(i:Int)+1 by omega]at this
  exact this
theorem zu3{l:List Nat}{v:zA}{Q:cB}(hv:oA t 1 (oC .u16 l) v)(hl:l.length<1000000)(hlt:dB 65536 l)
  (hQ:∀t' v',cA t t'->oA t' 1 (oC .u32 (uH l)) v'->Q v' t'):Wc yA F 281 [v] t Q:=by
 refine w281 _ ?_
 have e1:Int.tdiv ((l.length:Int)+1) 2=(((l.length+1) / 2:Nat):Int):=by rw[Int.tdiv_eq_ediv_of_nonneg (by omega)];rfl
 simp (disch:=omega) only[t281,pA,hv.len,xA,yB,uI,fB,e1]
 intro b hb hbase;obtain⟨t',g1,g2,g3,_⟩:=uU (C:=yA) (k:=.u32) gO rfl wH rfl rfl (by decide) (n:=(l.length+1) / 2) (by omega) hb
 rw[g1];simp only[xA];exact zu4 hv hl hlt hbase hb hQ l.length 0 t' (by omega) g3 (by simpa[uH]using g2)
end Go.Proofs
namespace Go.Proofs
open Go Go.Am
variable [dC]
variable {t:Tr jA}
theorem zsy{n:Nat}(h:n<4294967296):n / 2147483648=if n.testBit 31 then 1 else 0:=by
 have:n.testBit 31=decide (n / 2^31%2=1):=Nat.testBit_eq_decide_div_mod_eq
 rw[this];have h2:n / 2^31<2:=by omega
 by_cases c:n / 2^31%2=1
 ·rw[decide_eq_true c];simp;omega
 ·rw[decide_eq_false c];simp;omega
theorem zsx{n:Nat}(h:n<4294967296):n.testBit 31=decide (2147483648<=n):=by
 have:=zsy h
 by_cases c:2147483648<=n
 ·rw[decide_eq_true c]
  cases hb:n.testBit 31 with
  | true=>rfl
  | false=>rw[hb]at this;simp at this;omega
 ·rw[decide_eq_false c]
  cases hb:n.testBit 31 with
  | false=>rfl
  | true=>rw[hb]at this;simp at this;omega
theorem zid{x:Nat}(h:x<4294967296):zk4 (.int .u32 (x:Int))=some (.int .u32 (Nat.xor 4294967295 x:Nat)):=by
 unfold zk4;simp only[zA.asIntK,sA];have:Nat.beq (kLo .u32) 0=true:=rfl
 rw[this,qF];exact pO (k:=.u32) (x:=4294967295) (show 4294967295<cG .u32 by decide) (show x<cG .u32 from h)
theorem zzd{x y b:Nat}(hx:x<4294967296)(hy:y<4294967296)(hb:b<2) :
  rD yA F 342 [.int .u32 x,.int .u32 y,.int .u32 b] t=some (.tup [.int .u32 (((x+8589934592-y-b)%4294967296:Nat):Int),.int .u32 (((if x<y+b then 1 else 0):Nat):Int)]):=by
 refine mF.2 (w342 _ _ _ ?_)
 obtain⟨d,hd⟩:∃d,d=(x+8589934592-y-b)%4294967296:=⟨_,rfl⟩
 have hdl:d<4294967296:=by rw[hd];exact ybz _ (by decide)
 have e1:vA .u32 (vA .u32 ((x:Int)-y)-b)=(d:Int):=by
  rw[yN,yN,hd];omega
 have hn1:Nat.xor 4294967295 x<4294967296:=Nat.xor_lt_two_pow (n:=32) (by decide) hx
 have hn2:Nat.xor x y<4294967296:=Nat.xor_lt_two_pow (n:=32) hx hy
 have hn3:Nat.xor 4294967295 (Nat.xor x y)<4294967296:=Nat.xor_lt_two_pow (n:=32) (by decide) hn2
 have hn4:Nat.land (Nat.xor 4294967295 x) y<4294967296:=Nat.lt_of_le_of_lt Nat.and_le_left hn1
 have hn5:Nat.land (Nat.xor 4294967295 (Nat.xor x y)) d<4294967296:=Nat.lt_of_le_of_lt Nat.and_le_left hn3
 have hn6:Nat.lor (Nat.land (Nat.xor 4294967295 x) y) (Nat.land (Nat.xor 4294967295 (Nat.xor x y)) d)<4294967296:=Nat.or_lt_two_pow (n:=32) hn4 hn5
 simp only[t342,pA,e1];rw[zid hx];simp only[xA,yB];rw[pO (k:=.u32) hn1 hy]
 simp only[xA,yB];rw[pO (k:=.u32) hx hy]
 simp only[xA,yB];rw[zid hn2];simp only[xA,yB];rw[pO (k:=.u32) hn3 hdl]
 simp only[xA,yB];rw[pO (k:=.u32) hn4 hn5]
 simp only[xA,yB];have e2:Int.fdiv ((Nat.lor (Nat.land (Nat.xor 4294967295 x) y) (Nat.land (Nat.xor 4294967295 (Nat.xor x y)) d):Nat):Int) 2147483648=(((if x<y+b then 1 else 0):Nat):Int):=by
  rw[show(2147483648:Int)=((2147483648:Nat):Int) from rfl,oO,zsy hn6]
  congr 1
  have tb:(Nat.lor (Nat.land (Nat.xor 4294967295 x) y) (Nat.land (Nat.xor 4294967295 (Nat.xor x y)) d)).testBit 31=decide (x<y+b):=by
   show((4294967295 ^^^ x) &&& y ||| (4294967295 ^^^ (x ^^^ y)) &&& d).testBit 31=_
   rw[Nat.testBit_or,Nat.testBit_and,Nat.testBit_and,Nat.testBit_xor,Nat.testBit_xor,Nat.testBit_xor,zsx hx,zsx hy,zsx hdl];have:(4294967295:Nat).testBit 31=true:=by decide
   rw[this];by_cases c1:2147483648<=x<;>by_cases c2:2147483648<=y<;>by_cases c3:2147483648<=d<;>by_cases c4:x<y+b<;>simp only[c1,c2,c3,c4,decide_true,decide_false,Bool.xor_true,Bool.xor_false,Bool.true_xor,Bool.false_xor,Bool.not_true,ybm,Bool.and_true,Bool.and_false,Bool.or_true,Bool.or_false,Bool.xor_self]<;>omega
  rw[tb];by_cases c:x<y+b
  ·simp[c]
  ·simp[c]
 rw[e2,hd];simp
theorem z16{x y c:Nat}(hx:x<4294967296)(hy:y<4294967296)(hc:c<2) :
  rD yA F 362 [.int .u32 x,.int .u32 y,.int .u32 c] t=some (.tup [.int .u32 (((x+y+c)%4294967296:Nat):Int),.int .u32 (((x+y+c) / 4294967296:Nat):Int)]):=by
 refine mF.2 (w362 _ _ _ ?_)
 have e0:((x:Int)+y)+c=((x+y+c:Nat):Int):=by omega
 simp (disch:=omega) only[t362,pA,bF]
 have e1:((x+y+c:Nat):Int)%4294967296=(((x+y+c)%4294967296:Nat):Int):=by omega
 have e2:(((x+y+c) / 4294967296:Nat):Int)%4294967296=(((x+y+c) / 4294967296:Nat):Int):=by omega
 rw[e0,show Int.fdiv ((x+y+c:Nat):Int) 4294967296=(((x+y+c) / 4294967296:Nat):Int) from oO _ 4294967296,yN,yN,e1,e2]
 simp
theorem z1j{h l d:Nat}(hh:h<d)(hl:l<4294967296)(hd:d<4294967296) :
  rD yA F 347 [.int .u32 h,.int .u32 l,.int .u32 d] t=some (.tup [.int .u32 (((h*4294967296+l) / d:Nat):Int),.int .u32 (((h*4294967296+l)%d:Nat):Int)]):=by
 refine mF.2 (w347 _ _ _ ?_)
 simp only[t347,pA,zI,xF];rw[if_pos (by omega),if_neg (by omega)]
 refine j347_7 _ _ _ ?_
 have e1:(h:Int)*4294967296=((h*4294967296:Nat):Int):=by omega
 have hq:(h*4294967296+l) / d<4294967296:=ybv (by
  have:(h+1)*4294967296<=d*4294967296:=yaj _ hh
  omega)
 have hr:(h*4294967296+l)%d<d:=ybz _ (by omega)
 simp (disch:=omega) only[z2l,pA,bF,e1]
 have e2:oH Nat.lor .u64 ((h*4294967296:Nat):Int) (l:Int)=some (.int .u64 ((h*4294967296+l:Nat):Int)):=by
  rw[pO (k:=.u64) (show h*4294967296<cG .u64 by show _<18446744073709551616;omega) (show l<cG .u64 by show _<18446744073709551616;omega)]
  have:=zcu (a:=h) (b:=l) (n:=32) hl
  rw[show h*4294967296=h*2^32 by rfl,this]
 rw[e2];simp only[xA,yB];rw[zhc (k:=.u64) (by omega) (by
  generalize (h*4294967296+l) / d=q at hq ⊢
  exact bF (by omega) (by omega)),zby (k:=.u64) (by omega)]
 simp only[xA,yB];generalize (h*4294967296+l) / d=q at hq ⊢
 generalize (h*4294967296+l)%d=r at hr ⊢
 rw[zR (by omega) (by omega),zR (by omega) (by omega)]
 simp
theorem z0o(v:Nat)(hv:v<256):∃k,k<9/\oD [0,1,2,2,3,3,3,3,4,4,4,4,4,4,4,4,5,5,5,5,5,5,5,5,5,5,5,5,5,5,5,5,6,6,6,6,6,6,6,6,6,6,6,6,6,6,6,6,6,6,6,6,6,6,6,6,6,6,6,6,6,6,6,6,7,7,7,7,7,7,7,7,7,7,7,7,7,7,7,7,7,7,7,7,7,7,7,7,7,7,7,7,7,7,7,7,7,7,7,7,7,7,7,7,7,7,7,7,7,7,7,7,7,7,7,7,7,7,7,7,7,7,7,7,7,7,7,7,8,8,8,8,8,8,8,8,8,8,8,8,8,8,8,8,8,8,8,8,8,8,8,8,8,8,8,8,8,8,8,8,8,8,8,8,8,8,8,8,8,8,8,8,8,8,8,8,8,8,8,8,8,8,8,8,8,8,8,8,8,8,8,8,8,8,8,8,8,8,8,8,8,8,8,8,8,8,8,8,8,8,8,8,8,8,8,8,8,8,8,8,8,8,8,8,8,8,8,8,8,8,8,8,8,8,8,8,8,8,8,8,8,8,8,8,8,8,8,8,8,8,8,8,8,8,8,8] v=some k/\(v=0/\k=0\/0<k/\2^(k-1)<=v/\v<2^k):=by
 have h:∀v:Fin 256,(oD [0,1,2,2,3,3,3,3,4,4,4,4,4,4,4,4,5,5,5,5,5,5,5,5,5,5,5,5,5,5,5,5,6,6,6,6,6,6,6,6,6,6,6,6,6,6,6,6,6,6,6,6,6,6,6,6,6,6,6,6,6,6,6,6,7,7,7,7,7,7,7,7,7,7,7,7,7,7,7,7,7,7,7,7,7,7,7,7,7,7,7,7,7,7,7,7,7,7,7,7,7,7,7,7,7,7,7,7,7,7,7,7,7,7,7,7,7,7,7,7,7,7,7,7,7,7,7,7,8,8,8,8,8,8,8,8,8,8,8,8,8,8,8,8,8,8,8,8,8,8,8,8,8,8,8,8,8,8,8,8,8,8,8,8,8,8,8,8,8,8,8,8,8,8,8,8,8,8,8,8,8,8,8,8,8,8,8,8,8,8,8,8,8,8,8,8,8,8,8,8,8,8,8,8,8,8,8,8,8,8,8,8,8,8,8,8,8,8,8,8,8,8,8,8,8,8,8,8,8,8,8,8,8,8,8,8,8,8,8,8,8,8,8,8,8,8,8,8,8,8,8,8,8,8,8,8] v.val).elim false (fun k=>decide (k<9)&&(decide (v.val=0)&&decide (k=0)||decide (0<k)&&decide (2^(k-1)<=v.val)&&decide (v.val<2^k)))=true:=by decide +kernel
 have hv:=h ⟨v,hv⟩
 simp only[]at hv;generalize oD _ v=r at hv ⊢
 cases r with
 | none=>simp at hv
 | some k=>
  simp only[Option.elim_some,yac,ybr,decide_eq_true_eq]at hv;obtain⟨hk,hv⟩:=hv
  refine⟨k,hk,rfl,?_⟩
  rcases hv with hv | hv
  ·exact .inl hv
  ·exact .inr ⟨hv.1.1,hv.1.2,hv.2⟩
def BL (x k:Nat):Prop:=x=0/\k=0\/0<k/\2^(k-1)<=x/\x<2^k
theorem zjj{x s:Nat}(hx:x<256)(hs:s<100):∃k,k<=8/\BL x k/\jp 360 15 [.int .u32 x,.int .i64 s] t (fun v m=>v=.int .i64 ((s+k:Nat):Int)/\m=t):=by
 obtain⟨k,hk,h1,h2⟩:=z0o x hx
 refine⟨k,by omega,h2,z6a _ _ ?_⟩
 simp (disch:=omega) only[zs6,pA,zr8]
 unfold aN;rw[ty9,sA];have:(zA.int .u8 (x:Int)).asNat=some x:=rfl
 rw[this,sA];simp only[zA.asStr];rw[show(vD.desc ⟨.string,1,16,[.str []],true⟩).isString=true from rfl,qF]
 rw[h1,sA];simp only[xA];rw[show zyu .u8 (.int .u8 (Int.ofNat k))=some (Int.ofNat k) from yB]
 simp only[xA];rw[show Int.ofNat k=(k:Int) from rfl]
 simp (disch:=omega) only[fB]
 simp
theorem zji{x s:Nat}(hx:x<65536)(hs:s<90):∃k,k<=16/\BL x k/\jp 360 9 [.int .u32 x,.int .i64 s] t (fun v m=>v=.int .i64 ((s+k:Nat):Int)/\m=t):=by
 by_cases h:256<=x
 ·obtain⟨k,h1,h2,h3⟩:=zjj (t:=t) (x:=x / 256) (s:=s+8) (by omega) (by omega)
  refine⟨k+8,by omega,?_,z3a _ _ ?_⟩
  ·rcases h2 with h2 | ⟨g1,g2,g3⟩
   ·omega
   ·refine .inr ⟨by omega,?_,?_⟩
    ·rw[show k+8-1=(k-1)+8 by omega,Nat.pow_add];omega
    ·rw[Nat.pow_add];omega
  ·simp (disch:=omega) only[zs5,pA,xF,fB]
   rw[if_pos (by omega),show(256:Int)=((256:Nat):Int) from rfl,oO,show(s:Int)+8=((s+8:Nat):Int) by omega]
   rw[show s+(k+8)=s+8+k by omega]
   exact h3
 ·obtain⟨k,h1,h2,h3⟩:=zjj (t:=t) (x:=x) (s:=s) (by omega) (by omega)
  refine⟨k,by omega,h2,z3a _ _ ?_⟩
  simp only[zs5,pA,xF];rw[if_neg (by omega)]
  exact h3
theorem z0p{x:Nat}(hx:x<4294967296):∃k,k<=32/\BL x k/\rD yA F 360 [.int .u32 x] t=some (.int .i64 (k:Int)):=by
 by_cases h:65536<=x
 ·obtain⟨k,h1,h2,h3⟩:=zji (t:=t) (x:=x / 65536) (s:=16) (by omega) (by omega)
  refine⟨k+16,by omega,?_,mF.2 (w360 _ ?_)⟩
  ·rcases h2 with h2 | ⟨g1,g2,g3⟩
   ·omega
   ·refine .inr ⟨by omega,?_,?_⟩
    ·rw[show k+16-1=(k-1)+16 by omega,Nat.pow_add];omega
    ·rw[Nat.pow_add];omega
  ·simp only[t360,pA,xF]
   rw[if_pos (by omega),show(65536:Int)=((65536:Nat):Int) from rfl,oO]
   rw[show k+16=16+k by omega];exact h3
 ·obtain⟨k,h1,h2,h3⟩:=zji (t:=t) (x:=x) (s:=0) (by omega) (by omega)
  refine⟨k,by omega,h2,mF.2 (w360 _ ?_)⟩
  simp only[t360,pA,xF];rw[if_neg (by omega)]
  rw[yax]at h3;exact h3
theorem zvk{x:Nat}(hx:x<4294967296)(h0:0<x):∃s:Nat,s<32/\2147483648<=x*2^s/\x*2^s<4294967296/\rD yA F 337 [.int .u32 x] t=some (.int .i64 (s:Int)):=by
 obtain⟨k,h1,h2,h3⟩:=z0p (t:=t) hx
 rcases h2 with h2 | ⟨g1,g2,g3⟩
 ·omega
 ·refine⟨32-k,by omega,?_,?_,mF.2 (w337 _ ?_)⟩
  ·have:2^(k-1)*2^(32-k)=2147483648:=by rw[<- Nat.pow_add,show k-1+(32-k)=31 by omega]
   rw[<- this];exact yaj _ g2
  ·have:2^k*2^(32-k)=4294967296:=by rw[<- Nat.pow_add,show k+(32-k)=32 by omega]
   rw[<- this];exact Nat.mul_lt_mul_of_pos_right g3 (Nat.pow_pos (Nat.succ_pos 1))
  ·simp (disch:=omega) only[t337,pA,q360,h3,xA,yB,fB]
   refine⟨?_,trivial⟩
   congr 1;omega
end Go.Proofs
namespace Go.Am
theorem zY{p:List Nat}{n x:Nat}:(p++List.replicate (n+1) 0).set p.length x=(p++[x])++List.replicate n 0:=by
 rw[List.set_append_right _ _ (yal _),Nat.sub_self,List.replicate_succ,List.set_cons_zero];simp
theorem eL(B:Nat)(l:List Nat)(x:Nat):val B (l++[x])=val B l+B^l.length*x:=by rw[bU];simp[val]
theorem tT{B:Nat}{l:List Nat}{x:Nat}(h:dB B l)(hx:x<B):dB B (l++[x]):=zyf h fun y hy=>by rw[yce.1 hy];exact hx
theorem zqc{B:Nat}{r w d:Nat}(hr:r<d)(hw:w<B):(r*B+w) / d<B:=by
 have hd:0<d:=by omega
 refine ybv ?_
 have:(r+1)*B<=d*B:=yaj B hr
 rw[yap]at this;omega
theorem vR{l:List Nat}{i x:Nat}(h:l[i]?=some x):l.take (i+1)=l.take i++[x]:=by rw[ych,h];rfl
theorem gM{l:List Nat}{i x:Nat}(h:l[i]?=some x):l.drop i=x::l.drop (i+1):=by
 have hi:=(yad.1 h)
 rw[yam hi.1,hi.2]
end Go.Am
namespace Go.Am
open Go Go.RowKit
section
variable {t:Tr jA}{C:iA}
theorem zje{c:Tr zA}{sz:Nat}:∀(cl:List (List zA)) (off:Nat),(∀(i:Nat) cs,cl[i]?=some cs->cs.length=sz/\∀(j:Nat) a,cs[j]?=some a->c.get (off+i*sz+j)=some a)->c.many (cl.length*sz) off=some cl.flatten:=by
 intro cl;induction cl with
 | nil=>intro off _;simp;rfl
 | cons cs cl ih=>
  intro off h;obtain⟨h1,h2⟩:=h 0 cs (by simp)
  have hrest:=ih (off+sz) fun i cs' hi=>by
   obtain⟨g1,g2⟩:=h (i+1) cs' (by simpa using hi)
   refine⟨g1,fun j a hj=>?_⟩
   have:=g2 j a hj
   rw[show off+sz+i*sz+j=off+(i+1)*sz+j by rw[yap];omega]
   exact this
  have key:∀(n:Nat) (l r:List zA) (off:Nat),l.length=n->(∀(j:Nat) a,l[j]?=some a->c.get (off+j)=some a)->∀m,c.many m (off+n)=some r->c.many (n+m) off=some (l++r):=by
   intro n;induction n with
   | zero=>
    intro l r off hl _ m hm;have:l=[]:=ybd.1 hl
    subst this;simpa using hm
   | succ n ihn=>
    intro l r off hl hg m hm
    cases l with
    | nil=>simp at hl
    | cons a l=>
     rw[show n+1+m=(n+m)+1 by omega,Tr.many_succ]
     have:=hg 0 a (by simp)
     rw[ybu]at this;rw[this,sA,ihn l r (off+1) (by simpa using hl) (fun j b hj=>by
      have:=hg (j+1) b (by simpa using hj)
      rw[show off+1+j=off+(j+1) by omega];exact this) m (by rw[show off+1+n=off+(n+1) by omega];exact hm)]
     rfl
  rw[List.flatten_cons,yao,yap,Nat.one_mul,Nat.add_comm];exact key sz cs _ off h1 (fun j a hj=>by have:=h2 j a hj;rw[Nat.zero_mul,ybu]at this;exact this) _ hrest
theorem sH.first{sz:Nat}{v:zA}{cl:List (List zA)}(h:sH t sz v cl){n:Nat}:cS ⟨n,t⟩ sz cl.length v=some cl.flatten/\zjh v=some cl.length:=by
 rcases h with⟨rfl,rfl⟩ | ⟨b,off,cap,rfl,_,⟨c,m,lo,h1,_⟩,h2⟩
 ·exact⟨rfl,rfl⟩
 ·refine⟨?_,rfl⟩
  unfold cS;simp only[zA.asSlice];unfold nD;rw[h1,sA];simp only[jA.asCells,sA];refine zje cl off fun i cs hi=>?_
  obtain⟨g1,c',m',lo',g2,g3⟩:=h2 i cs hi
  rw[h1]at g2
  cases g2
  exact⟨g1,g3⟩
theorem mQ{sz:Nat}:∀ {cl:List (List zA)},(∀(i:Nat) cs,cl[i]?=some cs->cs.length=sz)->cl.flatten.length=cl.length*sz:=by
 intro cl;induction cl with
 | nil=>intro _;simp
 | cons c cl ih=>
  intro h;rw[List.flatten_cons,yah,yao,yap,ih fun i cs hi=>h (i+1) cs (by simpa using hi),h 0 c (by simp)]
  omega
theorem lQ{sz:Nat}:∀ {cl:List (List zA)},(∀(i:Nat) cs,cl[i]?=some cs->cs.length=sz)->∀(i j:Nat) cs a,cl[i]?=some cs->cs[j]?=some a->cl.flatten[i*sz+j]?=some a:=by
 intro cl;induction cl with
 | nil=>intro _ i j cs a h;simp at h
 | cons c cl ih=>
  intro h i j cs a hi hj;have hc:=h 0 c (by simp)
  rw[List.flatten_cons]
  cases i with
  | zero=>
   simp at hi;subst hi;rw[Nat.zero_mul,yax,ybp (yad.1 hj).1]
   exact hj
  | succ i=>
   rw[yaq (by rw[hc,yap];omega),hc,show(i+1)*sz+j-sz=i*sz+j by rw[yap];omega]
   exact ih (fun i cs hi=>h (i+1) cs (by simpa using hi)) i j cs a (by simpa using hi) hj
theorem sH.len{sz:Nat}{v:zA}{cl:List (List zA)}(h:sH t sz v cl):∀(i:Nat) cs,cl[i]?=some cs->cs.length=sz:=by
 rcases h with⟨rfl,rfl⟩ | ⟨b,off,cap,rfl,_,_,h2⟩
 ·intro i cs hi;simp at hi
 ·exact fun i cs hi=>(h2 i cs hi).1
theorem zai{sz n:Nat}{cl:List (List zA)}{t':Tr jA}{lo:Option Nat}(hl:∀(i:Nat) cs,cl[i]?=some cs->cs.length=sz)(h:t'.get n=some (.cells (Tr.ofList cl.flatten) (wB cl.flatten) lo))(hlo:lo=none\/lo=some sz):sH t' sz (.slice n 0 cl.length cl.length) cl:=
 .inr ⟨n,0,cl.length,rfl,yal _,⟨_,_,_,h,hlo⟩,fun i cs hi=>⟨hl i cs hi,_,_,_,h,fun j a hj=>by
  rw[Tr.get_ofList,yax];exact lQ hl i j cs a hi hj⟩⟩
structure zK (C:iA) (T el sz:Nat):Prop where
 ty:∃y,C.tys.get T=some y/\y.desc.asSlice=some el/\Nat.beq y.desc.tag 1=false
 el:∃y,C.tys.get el=some y/\y.size=sz/\wB y.zero=sz/\y.bytes<=500/\0<sz
theorem zm6{T el sz:Nat}(hT:zK C T el sz){l:List D}{x s:zA}(hx:oA t sz l x)(hl:l.length<1000000){n:Nat}(hn:t.get n=none)
  (hs:s=.nilslice\/∃b c m,s=.slice b 0 0 0/\t.get b=some (.cells c m none)) :
  ∃v H',eE C T T s x ⟨n,t⟩=some (v,H')/\oA H'.t sz l v/\cA t H'.t/\kD n t H'.t:=by
 obtain⟨⟨y,hy1,hy2,hy3⟩,⟨z,hz1,hz2,hz3,hz4,hz5⟩⟩:=hT
 obtain⟨cl,he,hd⟩:=hx
 have hcl:=hd.length
 obtain⟨hf,hlen⟩:=he.first (n:=n)
 have hall:=he.len
 have base:eE C T T s x ⟨n,t⟩=(match s.asSlice with
  | some s=>bif Nat.ble (s.2.2.1+cl.length) s.2.2.2 then oP C ⟨n,t⟩ z cl.length cl.flatten s else nP C ⟨n,t⟩ z cl.length cl.flatten s
  | none=>sB (Nat.beq s.tag 5) (kM ⟨n,t⟩ z cl.length cl.flatten)):=by
  unfold eE bM;rw[hy1,sA,sA,hy3];simp only[ybm,qF];rw[hy2,sA,hz1,sA,hlen,sA,hz2,hf,sA];rfl
 have hfl:wB cl.flatten=cl.length*sz:=by rw[bD];exact mQ hall
 have ok:kN z 0 0 cl.length cl.flatten=true:=by
  unfold kN;have h1:Nat.blt (0+cl.length+0) 1000000000=true:=lC.2 (by omega)
  have h2:Nat.blt ((0+cl.length+0)*z.bytes) 1000000000=true:=lC.2 (by
   have:=ycc (show 0+cl.length+0<=1000000 by omega) hz4
   omega)
  have h3:Nat.blt z.bytes 1000000000=true:=lC.2 (by omega)
  have h4:(!Nat.beq z.size 0)=true:=by
   cases hq:Nat.beq z.size 0 with
   | true=>have:=zC.1 hq;omega
   | false=>rfl
  have h5:Nat.beq (wB cl.flatten) (cl.length*z.size)=true:=by rw[hfl,hz2];exact zC.2 rfl
  have h6:Nat.beq (wB z.zero) z.size=true:=by rw[hz3,hz2];exact zC.2 rfl
  rw[h1,h2,h3,h4,h5,h6];rfl
 have newT:∀(q:jA),cA t (t.set n q)/\kD n t (t.set n q):=fun q=>⟨fun c u hc=>by
   rw[Tr.get_set,if_neg (by intro e;rw[e,hn]at hc;cases hc)];exact hc,fun c hc=>by rw[Tr.get_set,if_neg hc]⟩
 rcases hs with rfl | ⟨b,c,m,rfl,hb⟩
 ·by_cases h0:cl.length=0
  ·have:cl=[]:=ybd.1 h0
   subst this;refine⟨.nilslice,⟨n,t⟩,?_,⟨[],.inl ⟨rfl,rfl⟩,hd⟩,cA.refl _,kD.refl _ _⟩
   rw[base];rfl
  ·refine⟨.slice n 0 cl.length cl.length,⟨n+1,t.set n (.cells (Tr.ofList cl.flatten) (wB cl.flatten) (some z.size))⟩,?_,⟨cl,zai hall (show(t.set n _).get n=_ by rw[Tr.get_set,if_pos rfl]) (.inr (by rw[hz2])),kC.mono (newT _).1 _ _ hd⟩,(newT _).1,(newT _).2⟩
   rw[base];simp only[zA.asSlice];show sB true (kM ⟨n,t⟩ z cl.length cl.flatten)=_
   rw[qF];unfold kM;have:Nat.beq cl.length 0=false:=by
    cases hq:Nat.beq cl.length 0 with
    | true=>exact absurd (zC.1 hq) h0
    | false=>rfl
   rw[this,cond_false,ok];rfl
 ·by_cases h0:cl.length=0
  ·have:cl=[]:=ybd.1 h0
   subst this;refine⟨.slice b 0 0 0,⟨n,t⟩,?_,⟨[],.inr ⟨b,0,0,rfl,yal _,⟨c,m,none,hb,.inl rfl⟩,fun i cs hi=>by simp at hi⟩,hd⟩,cA.refl _,kD.refl _ _⟩
   rw[base];rfl
  ·refine⟨.slice n 0 cl.length cl.length,⟨n+1,t.set n (.cells (Tr.ofList cl.flatten) (wB cl.flatten) (some z.size))⟩,?_,⟨cl,zai hall (show(t.set n _).get n=_ by rw[Tr.get_set,if_pos rfl]) (.inr (by rw[hz2])),kC.mono (newT _).1 _ _ hd⟩,(newT _).1,(newT _).2⟩
   rw[base];simp only[zA.asSlice];have:Nat.ble (0+cl.length) 0=false:=by
    cases hq:Nat.ble (0+cl.length) 0 with
    | true=>have:=cE.1 hq;omega
    | false=>rfl
   rw[this,cond_false];unfold nP;simp only[];rw[show ∀x,(!(Nat.beq 0 1&&x))=true from fun _=>rfl,qF,ok,qF]
   unfold nD;rw[hb,sA];simp only[jA.asCells,sA];unfold rU;simp only[Nat.zero_mul];show ob (c.many 0 0) _=_
   rw[show c.many 0 0=some [] from rfl,sA];rw[eH,List.nil_append,yax];rfl
end
end Go.Am
namespace Go.Proofs
open Go Go.Am
variable [dC]
variable {t:Tr jA}
theorem el305:zK yA 305 328 1:=⟨⟨_,gO,rfl,rfl⟩,⟨_,wH,rfl,rfl,by decide,by decide⟩⟩
theorem lit0{T el:Nat}{y z:vD}(hT:yA.tys.get T=some y)(hel:y.desc.asSlice=some el)(hz:yA.tys.get el=some z)(hs:wB z.zero=z.size){b:Nat}(hb:t.get b=none) :
  ∃H',oF yA T 0 [] ⟨b,t⟩=some (.slice b 0 0 0,H')/\(∃c,H'.t.get b=some (.cells c 0 none))/\cA t H'.t:=by
 refine⟨jF ⟨b,t⟩ [] none,?_,⟨Tr.ofList [],?_⟩,?_⟩
 ·unfold oF
  rw[hT,sA,hel,sA,hz,sA];have:(Nat.blt (0*z.size) 1000000&&Nat.beq (wB z.zero) z.size)=true:=by rw[Nat.zero_mul,hs,zC.2 rfl];rfl
  rw[this];rfl
 ·show(t.set b _).get b=_
  rw[Tr.get_set,if_pos rfl];rfl
 ·intro c u hc
  show(t.set b _).get c=_
  rw[Tr.get_set,if_neg (by intro e;rw[e,hb]at hc;cases hc)];exact hc
theorem z1s{l:List Nat}{v:zA}{Q:cB}(hv:oA t 1 (oC .u32 l) v)(hl:l.length<1000000)
  (hQ:∀t' v',cA t t'->oA t' 1 (oC .u32 l) v'->Q v' t'):Wc yA F 339 [v] t Q:=by
 refine w339 _ ?_
 have e:(wL .eql).f yA 305 (.tmp 3) (.const (.slice none 0 0)) v .nilslice=some (.bool (Nat.beq v.tag 5)):=by
  obtain⟨cl,h1,_⟩:=hv
  rcases h1 with⟨rfl,_⟩ | ⟨b,off,cap,rfl,_⟩
  ·kernel_rfl
  ·kernel_rfl
 simp only[t339,pA,e,xA,mD];split
 ·rename_i h
  have:v=.nilslice:=(fO.2.1).1 (zC.1 h)
  subst this;exact hQ _ _ (cA.refl _) hv
 ·intro b hb hbase
  obtain⟨H1,g1,⟨c,g2⟩,g3⟩:=lit0 (t:=t) gO rfl wH rfl hb
  rw[g1];simp only[xA];intro n hn _;obtain⟨u,H',g4,g5,g6,_⟩:=zm6 el305 (hv.mono g3) (by rw[uI];exact hl) hn (.inr ⟨b,c,0,rfl,g2⟩)
  rw[g4];simp only[xA];exact hQ _ _ (g3.trans g6) g5
def ze9(n:Nat):List Nat:=nF [n%4294967296,n / 4294967296]
theorem zpy(n:Nat):val 4294967296 (ze9 n)=n:=by unfold ze9;rw[dP];simp only[val];omega
theorem zkn{n:Nat}(h:n<18446744073709551616):dB 4294967296 (ze9 n):=aR fun x hx=>by
 simp at hx;omega
theorem zly(n:Nat):norm (ze9 n):=nR _
theorem z50{T el:Nat}{y z:vD}{k:IntKind}(hT:yA.tys.get T=some y)(hel:y.desc.asSlice=some el)(hz:yA.tys.get el=some z)(hzero:z.zero=[.int k 0])(hs:z.size=1)(x:Nat)(hk:True){b:Nat}(hb:t.get b=none) :
  ∃H',oF yA T 1 [(0,.int k (x:Int))] ⟨b,t⟩=some (.slice b 0 1 1,H')/\tF H'.t b k [x]/\cA t H'.t:=by
 refine⟨jF ⟨b,t⟩ [.int k (x:Int)] none,?_,⟨Tr.ofList [.int k (x:Int)],?_,fun j u hj=>?_⟩,?_⟩
 ·unfold oF
  rw[hT,sA,hel,sA,hz,sA,hs,hzero];rfl
 ·show(t.set b _).get b=_
  rw[Tr.get_set,if_pos rfl];rfl
 ·rw[Tr.get_ofList]
  cases j with
  | zero=>simp at hj;subst hj;rfl
  | succ j=>simp at hj
 ·intro c u hc
  show(t.set b _).get c=_
  rw[Tr.get_set,if_neg (by intro e;rw[e,hb]at hc;cases hc)];exact hc
theorem z0m{T el:Nat}{y z:vD}{k:IntKind}(hT:yA.tys.get T=some y)(hel:y.desc.asSlice=some el)(hz:yA.tys.get el=some z)(hzero:z.zero=[.int k 0])(hs:z.size=1)(x x':Nat){b:Nat}(hb:t.get b=none) :
  ∃H',oF yA T 2 [(0,.int k (x:Int)),(1,.int k (x':Int))] ⟨b,t⟩=some (.slice b 0 2 2,H')/\tF H'.t b k [x,x']/\cA t H'.t:=by
 refine⟨jF ⟨b,t⟩ [.int k (x:Int),.int k (x':Int)] none,?_,⟨Tr.ofList [.int k (x:Int),.int k (x':Int)],?_,fun j u hj=>?_⟩,?_⟩
 ·unfold oF
  rw[hT,sA,hel,sA,hz,sA,hs,hzero];rfl
 ·show(t.set b _).get b=_
  rw[Tr.get_set,if_pos rfl];rfl
 ·rw[Tr.get_ofList]
  cases j with
  | zero=>simp at hj;subst hj;rfl
  | succ j=>
   cases j with
   | zero=>simp at hj;subst hj;rfl
   | succ j=>simp at hj
 ·intro c u hc
  show(t.set b _).get c=_
  rw[Tr.get_set,if_neg (by intro e;rw[e,hb]at hc;cases hc)];exact hc
theorem zzp{n:Nat}{Q:cB}(hn:n<18446744073709551616)(hQ:∀t' v',cA t t'->oA t' 1 (oC .u32 (ze9 n)) v'->Q v' t'):Wc yA F 319 [.int .u64 n] t Q:=by
 refine w319 _ ?_
 have e1:vA .u32 (n:Int)=((n%4294967296:Nat):Int):=by rw[yN];omega
 have e2:vA .u32 (Int.fdiv (n:Int) 4294967296)=((n / 4294967296:Nat):Int):=by
  rw[show Int.fdiv (n:Int) 4294967296=((n / 4294967296:Nat):Int) from oO _ 4294967296,zR (by omega) (by omega)]
 simp only[t319,pA,e1,e2];intro b hb _;obtain⟨H',g1,g2,g3⟩:=z0m (t:=t) (k:=.u32) gO rfl wH rfl rfl (n%4294967296) (n / 4294967296) hb
 rw[g1];simp only[xA];obtain⟨v',h1,h2⟩:=eT (l:=[n%4294967296,n / 4294967296]) (by simp) (g2.all (yal _))
 simp only[q313];have h1:rD yA F 313 [.slice b 0 2 2] H'.t=some v':=h1
 rw[h1];exact hQ _ _ g3 h2
theorem zk3{l:List Nat}{v:zA}{b:Nat}{neg:Bool}{Q:cB}(hv:oA t 1 (oC .u32 l) v)(hl:l.length<400000)(hlt:dB 4294967296 l)(hne:l≠[])(hnorm:norm l)(hbase:yA.base<=b)(hb:t.get b=none)
  (hQ:∀t' v',cA t t'->oA t' 1 (oC .u16 (nF (xH l))) v'->Q (.agg [.bool neg,v']) t'):∀(k i:Nat) (t':Tr jA),i+k=l.length->cA t t'->tF t' b .u16 (xH (l.take i)++List.replicate (2*k) 0) →
  jp 279 2 [.bool neg,.slice b 0 (2*l.length) (2*l.length),v,.int .i64 l.length,.int .i64 i,.bool false,.nilslice] t' Q:=by
 intro k;induction k with
 | zero=>
  intro i t' hi ht ho;refine z3k _ _ _ _ _ _ _ ?_
  rw[ybb (by omega),Nat.mul_zero,List.replicate_zero,ybe]at ho
  obtain⟨m,w,rfl⟩:=zaf hne
  have hw:w≠0:=by have:=hnorm (by simp);simpa using this
  have hwlt:w<4294967296:=hlt w (by simp)
  have hul:(xH (m++[w])).length=2*(m++[w]).length:=zV _
  have hml:(m++[w]).length=m.length+1:=by simp
  have hlast:(xH (m++[w]))[2*m.length+1]?=some (w / 65536):=by
   rw[vW,yaq (by rw[zV];omega),zV]
   rw[show 2*m.length+1-2*m.length=1 by omega];rfl
  have hread:=ho.all (cap:=2*(m++[w]).length) (by omega)
  rw[hul]at hread;have g3:zB yA 41 (.slice b 0 (2*(m++[w]).length) (2*(m++[w]).length)) (.int .i64 ((2*m.length+1:Nat):Int))=some (.ptr b (0+(2*m.length+1)*1)):=dL zt7 (by omega)
  rw[show 0+(2*m.length+1)*1=2*m.length+1 by omega]at g3
  have g4:=ho.load hlast zp3 rfl
  have e1:((2*(m++[w]).length:Nat):Int)-1=((2*m.length+1:Nat):Int):=by rw[hml];omega
  have hlen:uB (.slice b 0 (2*(m++[w]).length) (2*(m++[w]).length))=some (.int .i64 ((2*(m++[w]).length:Nat):Int)):=rfl
  have hb2:2*m.length+1<1000000:=by omega
  simp (disch:=omega) only[ztk,pA,mB,hlen,xA,yB,e1,fB,g3,g4,cD]
  rw[if_neg (by omega)]
  by_cases hz:w / 65536=0
  ·rw[if_pos (by rw[hz];rfl)]
   obtain⟨u,g5,g6⟩:=jE.front zt7 hread (k:=2*m.length+1) (by rw[uI,hul];omega)
   rw[g5];simp only[xA];have hone:bB zA.one [.bool neg,u]=true:=by
    show(bif zA.one (.bool neg)then(bif zA.one u then true else false)else false)=true
    rw[g6.one];rfl
   rw[if_pos hone,if_pos hone];refine hQ _ _ ht ?_
   rw[zf4]at g6;rw[zab hw,if_pos hz];have:(xH (m++[w])).take (2*m.length+1)=xH m++[w%65536]:=by
    rw[vW,show xH m++[w%65536,w / 65536]=(xH m++[w%65536])++[w / 65536] by simp]
    rw[List.take_left' (by simp[zV])]
   rw[this]at g6;exact g6
  ·rw[if_neg (by omega)]
   have hone:bB zA.one [.bool neg,.slice b 0 (2*(m++[w]).length) (2*(m++[w]).length)]=true:=rfl
   rw[if_pos hone,if_pos hone];refine hQ _ _ ht ?_
   rw[zab hw,if_neg hz];exact hread
 | succ k ih=>
  intro i t' hi ht ho;obtain⟨x,hx⟩:=getElem?_of_lt (l:=l) (i:=i) (by omega)
  have hxlt:x<4294967296:=bI hlt hx
  obtain⟨c,off,g1,g2⟩:=(hv.mono ht).idx kG hx
  have htl:(l.take i).length=i:=by simp;omega
  have hpl:(xH (l.take i)).length=2*i:=by rw[zV,htl]
  have hlen0:(xH (l.take i)++List.replicate (2*(k+1)) 0).length=2*l.length:=by simp[hpl];omega
  have g3:∀j,j<2*l.length->zB yA 41 (.slice b 0 (2*l.length) (2*l.length)) (.int .i64 (j:Int))=some (.ptr b j):=by
   intro j hj;have:=dL (b:=b) (off:=0) (cap:=2*l.length) zt7 hj
   rw[show 0+j*1=j by omega]at this;exact this
  have g3a:=g3 (2*i) (by omega)
  have g3b:=g3 (2*i+1) (by omega)
  obtain⟨t1,s1,s2,s3⟩:=ho.store (C:=yA) hbase (j:=2*i) (by rw[hlen0];omega) (x%65536) zp3 rfl
  have hs2:(xH (l.take i)++List.replicate (2*(k+1)) 0).set (2*i) (x%65536)=(xH (l.take i)++[x%65536])++List.replicate (2*k+1) 0:=by
   rw[<- hpl,show 2*(k+1)=(2*k+1)+1 by omega];exact zY
  rw[hs2]at s2;obtain⟨t2,s4,s5,s6⟩:=s2.store (C:=yA) hbase (j:=2*i+1) (by simp[hpl]) (x / 65536) zp3 rfl
  have hs5:((xH (l.take i)++[x%65536])++List.replicate (2*k+1) 0).set (2*i+1) (x / 65536)=xH (l.take (i+1))++List.replicate (2*k) 0:=by
   have hq:(xH (l.take i)++[x%65536]).length=2*i+1:=by simp[hpl]
   rw[<- hq,zY,vR hx,vW];simp
  rw[hs5]at s5;have e1:vA .u16 (x:Int)=((x%65536:Nat):Int):=by rw[zr7];omega
  have e2:vA .u16 (Int.fdiv (x:Int) 65536)=((x / 65536:Nat):Int):=by
   rw[show Int.fdiv (x:Int) 65536=((x / 65536:Nat):Int) from oO _ 65536,zyz (by omega) (by omega)]
  have e3:(2:Int)*(i:Int)=((2*i:Nat):Int):=by omega
  have e4:((2*i:Nat):Int)+1=((2*i+1:Nat):Int):=by omega
  refine z3k _ _ _ _ _ _ _ ?_
  simp (disch:=omega) only[ztk,pA,mB,g1,g2,xA,yB,e1,e2,e3,e4,fB,g3a,g3b]
  rw[if_pos (by omega)]
  intro d _ _;rw[s1];simp only[xA];intro d' _ _;rw[s4];simp only[xA];have:=ih (i+1) t2 (by omega) ((ht.off hb s3).off hb s6) s5
  rw[show((i+1:Nat):Int)=(i:Int)+1 by omega]at this
  exact this
theorem zsm{l:List Nat}{v:zA}{neg:Bool}{Q:cB}(hv:oA t 1 (oC .u32 l) v)(hl:l.length<400000)(hlt:dB 4294967296 l)
  (hQ:∀t' v',cA t t'->oA t' 1 (oC .u16 (nF (xH (nF l)))) v'->Q (.agg [.bool (if nF l=[]then false else neg),v']) t'):Wc yA F 279 [.bool neg,v] t Q:=by
 refine w279 _ _ ?_
 obtain⟨u,h1,h2⟩:=eT (l:=l) (by omega) hv
 have hsl:=zij l
 simp only[t279,pA,q313,h1,xA,h2.len,yB,uI,cD];by_cases h0:nF l=[]
 ·rw[if_pos (by rw[h0];rfl)]
  simp only[if_true];have:=hQ t .nilslice (cA.refl _) (by rw[h0];exact⟨[],.inl ⟨rfl,rfl⟩,by simp[xH,nF,oC,kC]⟩)
  rw[if_pos h0]at this;exact this
 ·have hpos:0<(nF l).length:=List.length_pos_iff.2 h0
  rw[if_neg (by omega)]
  have e1:(2:Int)*((nF l).length:Int)=((2*(nF l).length:Nat):Int):=by omega
  simp (disch:=omega) only[e1,fB]
  intro b hb hbase;obtain⟨t',g1,g2,g3,_⟩:=uU (C:=yA) (k:=.u16) ty41 rfl zp3 rfl rfl (by decide) (n:=2*(nF l).length) (by omega) hb
  rw[g1];simp only[xA];refine zk3 h2 (by omega) (aR hlt) h0 (nR l) hbase hb (fun t2 v2 a b=>?_) (nF l).length 0 t' (by omega) g3 (by simpa[xH]using g2)
  have:=hQ t2 v2 a b
  rw[if_neg h0]at this;exact this
end Go.Proofs
namespace Go.Proofs
open Go Go.Am
variable [dC]
variable {t:Tr jA}
theorem sU{T el:Nat}(h:jE yA T el 1 false){b n cap j:Nat}(hj:j<n):zB yA T (.slice b 0 n cap) (.int .i64 (j:Int))=some (.ptr b j):=by
 have:=dL (b:=b) (off:=0) (cap:=cap) h hj
 rw[show 0+j*1=j by omega]at this;exact this
theorem zo5{x s:Nat}(hs:s<64)(hx:x*2^s<18446744073709551616):zq3 .u64 (x:Int) (s:Int)=some (.int .u64 ((x*2^s:Nat):Int)):=by
 unfold zq3 qS;have:aK (s:Int)=some s:=rfl
 rw[this,sA,sA];have hm:min s (IntKind.bits .u64)=s:=by show min s 64=s;omega
 rw[hm];have e:(x:Int)*Int.ofNat (2^s)=((x*2^s:Nat):Int):=by rw[Int.natCast_mul];rfl
 rw[e,bF (by omega) (by omega)]
theorem zo4{x s:Nat}(hs:s<65):z6l .u64 (x:Int) (s:Int)=some (.int .u64 ((x / 2^s:Nat):Int)):=by
 unfold z6l qS;have:aK (s:Int)=some s:=rfl
 rw[this,sA,sA];have hm:min s (IntKind.bits .u64)=s:=by show min s 64=s;omega
 rw[hm];have e:Int.fdiv (x:Int) (Int.ofNat (2^s))=((x / 2^s:Nat):Int):=oO x (2^s)
 rw[e]
theorem zu0{s:Nat}(hs:s<32):2^s<=2147483648:=Nat.pow_le_pow_right (n:=2) (by decide) (show s<=31 by omega)
theorem zi4{s:Nat}(hs:s<=32):2^s*2^(32-s)=4294967296:=by rw[<- Nat.pow_add,show s+(32-s)=32 by omega]
theorem z5x{x s:Nat}(hs:s<=32):(x*2^s%4294967296)%2^s=0:=by
 rw[<- zi4 hs,yai x,Nat.mul_mod_mul_left,Nat.mul_mod_right]
theorem ziu{l:List Nat}{v:zA}{b s:Nat}{Q:cB}(hv:oA t 1 (oC .u32 l) v)(hl:l.length<900000)(hlt:dB 4294967296 l)(hs:s<32)(hbase:yA.base<=b)(hb:t.get b=none)
  (hQ:∀t' r,cA t t'->kD b t t'->tF t' b .u32 r->r.length=l.length+1->dB 4294967296 r->val 4294967296 r=val 4294967296 l*2^s->Q (.slice b 0 (l.length+1) (l.length+1)) t') :
  ∀(k i:Nat) (t':Tr jA) (P:List Nat) (c:Nat),i+k=l.length->cA t t'->kD b t t'->tF t' b .u32 ((P++[c])++List.replicate k 0)->P.length=i->c<2^s->dB 4294967296 P->val 4294967296 P+4294967296^i*c=val 4294967296 (l.take i)*2^s →
  jp 340 2 [.int .i64 s,.slice b 0 (l.length+1) (l.length+1),v,.int .i64 l.length,.int .i64 i] t' Q:=by
 have hp2:=zu0 hs
 intro k;induction k with
 | zero=>
  intro i t' P c hi ht hoff ho hP hc hPl hval;refine z3d _ _ _ _ _ ?_
  simp only[zta,pA,mB];rw[if_neg (by omega)]
  rw[List.replicate_zero,ybe]at ho;refine hQ t' (P++[c]) ht hoff ho (by simp;omega) (tT hPl (by omega)) ?_
  rw[eL,hP,hval,ybb (by omega)]
 | succ k ih=>
  intro i t' P c hi ht hoff ho hP hc hPl hval;obtain⟨x,hx⟩:=getElem?_of_lt (l:=l) (i:=i) (by omega)
  have hxlt:x<4294967296:=bI hlt hx
  obtain⟨d,off,g1,g2⟩:=(hv.mono ht).idx kG hx
  have hxs:x*2^s<4294967296*2^s:=Nat.mul_lt_mul_of_pos_right hxlt (Nat.pow_pos (by decide))
  have hxs2:x*2^s<18446744073709551616:=by
   have:4294967296*2^s<=4294967296*2147483648:=yaw _ hp2
   omega
  have hlow:=z5x (x:=x) (s:=s) (by omega)
  have hlor:Nat.lor c (x*2^s%4294967296)=x*2^s%4294967296+c:=by
   have:=or_low (a:=x*2^s%4294967296) (b:=c) (n:=s) hc hlow
   show c ||| _=_
   rw[Nat.or_comm];exact this
  have hsum:x*2^s%4294967296+c<4294967296:=by
   have h1:x*2^s%4294967296<4294967296:=ybz _ (by decide)
   have h2:(4294967296:Nat)%2^s=0:=by rw[<- zi4 (s:=s) (by omega),Nat.mul_mod_right]
   obtain⟨p,hp⟩:=Nat.dvd_of_mod_eq_zero hlow
   obtain⟨q,hq⟩:=Nat.dvd_of_mod_eq_zero h2
   have hpq:p<q:=by
    rcases Nat.lt_or_ge p q with g | g
    ·exact g
    ·have:=yaw (2^s) g;omega
   have:=yaw (2^s) (show p+1<=q from hpq)
   rw[yan]at this;omega
  have hhigh:x*2^s / 4294967296<2^s:=ybv (by omega)
  have hlen0:((P++[c])++List.replicate (k+1) 0).length=l.length+1:=by simp;omega
  have g3a:=sU kG (b:=b) (n:=l.length+1) (cap:=l.length+1) (j:=i) (by omega)
  have g3b:=sU kG (b:=b) (n:=l.length+1) (cap:=l.length+1) (j:=i+1) (by omega)
  have g4:=ho.load (j:=i) (x:=c) (by rw[yba,yaq (by omega),hP,Nat.sub_self];rfl) wH rfl
  obtain⟨t1,s1,s2,s3⟩:=ho.store (C:=yA) hbase (j:=i) (by rw[hlen0];omega) (x*2^s%4294967296+c) wH rfl
  have hs2:((P++[c])++List.replicate (k+1) 0).set i (x*2^s%4294967296+c)=(P++[x*2^s%4294967296+c])++List.replicate (k+1) 0:=by
   rw[yba,set_append_right hP];simp
  rw[hs2]at s2;obtain⟨t2,s4,s5,s6⟩:=s2.store (C:=yA) hbase (j:=i+1) (by simp;omega) (x*2^s / 4294967296) wH rfl
  have hs5:((P++[x*2^s%4294967296+c])++List.replicate (k+1) 0).set (i+1) (x*2^s / 4294967296)=((P++[x*2^s%4294967296+c])++[x*2^s / 4294967296])++List.replicate k 0:=by
   have hq:(P++[x*2^s%4294967296+c]).length=i+1:=by simp[hP]
   rw[<- hq];exact zY
  rw[hs5]at s5;refine z3d _ _ _ _ _ ?_
  have e1:vA .u32 ((x*2^s:Nat):Int)=((x*2^s%4294967296:Nat):Int):=by rw[yN];omega
  have e2:vA .u32 (Int.fdiv ((x*2^s:Nat):Int) 4294967296)=((x*2^s / 4294967296:Nat):Int):=by
   rw[show Int.fdiv ((x*2^s:Nat):Int) 4294967296=((x*2^s / 4294967296:Nat):Int) from oO _ 4294967296]
   generalize x*2^s=z at hhigh ⊢
   rw[zR (by omega) (by omega)]
  simp (disch:=omega) only[zta,pA,mB,g1,g2,xA,yB,bF,g3a,g4]
  rw[if_pos (by omega),zo5 (by omega) hxs2]
  simp only[xA,yB,e1];have e3:oH Nat.lor .u32 (c:Int) ((x*2^s%4294967296:Nat):Int)=some (.int .u32 ((x*2^s%4294967296+c:Nat):Int)):=by
   rw[pO (k:=.u32) (x:=c) (y:=x*2^s%4294967296) (show c<cG .u32 by show c<4294967296;omega) (by show x*2^s%4294967296<4294967296;exact ybz _ (by decide)),hlor]
  rw[e3];simp only[xA,yB];intro _ _ _;rw[s1];simp (disch:=omega) only[xA,fB]
  rw[show(i:Int)+1=((i+1:Nat):Int) by omega,g3b]
  simp only[xA,e2];intro _ _ _;rw[s4];simp only[xA];refine ih (i+1) t2 _ _ (by omega) ((ht.off hb s3).off hb s6) ((hoff.trans s3).trans s6) s5 (by simp[hP]) hhigh (tT hPl hsum) ?_
  rw[eL,hP,vR hx,eL,yap,<- hval];have:(l.take i).length=i:=by simp;omega
  rw[this,Nat.pow_succ];have hd:=ybi (x*2^s) 4294967296
  have e4:4294967296^i*x*2^s=4294967296^i*(4294967296*(x*2^s / 4294967296)+x*2^s%4294967296):=by rw[hd,yak]
  rw[e4,yan,yan];have e5:4294967296^i*4294967296*(x*2^s / 4294967296)=4294967296^i*(4294967296*(x*2^s / 4294967296)):=by rw[yak]
  rw[e5];omega
theorem zfa{l:List Nat}{v:zA}{s:Nat}{Q:cB}(hv:oA t 1 (oC .u32 l) v)(hl:l.length<900000)(hlt:dB 4294967296 l)(hs:s<32)
  (hQ:∀t' b r,cA t t'->t.get b=none->yA.base<=b->tF t' b .u32 r->r.length=l.length+1->dB 4294967296 r->val 4294967296 r=val 4294967296 l*2^s->Q (.slice b 0 (l.length+1) (l.length+1)) t'):Wc yA F 340 [v,.int .i64 s] t Q:=by
 refine w340 _ _ ?_
 simp (disch:=omega) only[t340,pA,hv.len,xA,yB,uI,fB]
 intro b hb hbase;obtain⟨t',g1,g2,g3,g4⟩:=uU (C:=yA) (k:=.u32) gO rfl wH rfl rfl (by decide) (n:=l.length+1) (by omega) hb
 rw[show(l.length:Int)+1=((l.length+1:Nat):Int) by omega,g1]
 simp only[xA];have:=ziu hv hl hlt hs hbase hb (fun t' r a _ c d e f=>hQ t' b r a hb hbase c d e f) l.length 0 t' [] 0 (by omega) g3 g4 (by simpa[List.replicate_succ]using g2) rfl (Nat.pow_pos (by decide)) (fun x hx=>by cases hx) (by simp[val])
 exact this
theorem zmp{l:List Nat}{v:zA}{b d:Nat}{Q:cB}(hv:oA t 1 (oC .u32 l) v)(hl:l.length<900000)(hlt:dB 4294967296 l)(hd:d<4294967296)(hd0:0<d)(hbase:yA.base<=b)(hb:t.get b=none)
  (hQ:∀t' v' q r,cA t t'->oA t' 1 (oC .u32 (nF q)) v'->dB 4294967296 q->q.length=l.length->r<d->val 4294967296 l=val 4294967296 q*d+r->Q (.tup [v',.int .u32 (r:Nat)]) t') :
  ∀(i:Nat) (t':Tr jA) (q:List Nat) (r:Nat),i<=l.length->cA t t'->tF t' b .u32 (List.replicate i 0++q)->q.length=l.length-i->dB 4294967296 q->r<d->val 4294967296 (l.drop i)=val 4294967296 q*d+r →
  jp 321 2 [v,.int .u32 d,.slice b 0 l.length l.length,.int .u32 r,.int .i64 ((i:Int)-1)] t' Q:=by
 intro i;induction i with
 | zero=>
  intro t' q r _ ht ho hq hql hr hval;refine z3e _ _ _ _ _ ?_
  simp only[ztb,pA,xF];rw[if_neg (by omega)]
  rw[List.replicate_zero,List.nil_append]at ho;have hread:=ho.all (yal _)
  have hqlen:q.length=l.length:=by omega
  rw[hqlen]at hread;obtain⟨v',h1,h2⟩:=eT (l:=q) (by omega) hread
  simp only[q313,h1,xA];exact hQ t' v' q r ht h2 hql hqlen hr (by simpa using hval)
 | succ i ih=>
  intro t' q r hi ht ho hq hql hr hval;obtain⟨x,hx⟩:=getElem?_of_lt (l:=l) (i:=i) (by omega)
  have hxlt:x<4294967296:=bI hlt hx
  obtain⟨c,off,g1,g2⟩:=(hv.mono ht).idx kG hx
  have e1:((i+1:Nat):Int)-1=(i:Int):=by omega
  have g3:=sU kG (b:=b) (n:=l.length) (cap:=l.length) (j:=i) (by omega)
  have hlen0:(List.replicate (i+1) 0++q).length=l.length:=by simp;omega
  have hdiv:=z1j (t:=t') hr hxlt hd
  have hqlt:(r*4294967296+x) / d<4294967296:=zqc hr hxlt
  have hrlt:(r*4294967296+x)%d<d:=ybz _ hd0
  obtain⟨t1,s1,s2,s3⟩:=ho.store (C:=yA) hbase (j:=i) (by rw[hlen0];omega) ((r*4294967296+x) / d) wH rfl
  have hs2:(List.replicate (i+1) 0++q).set i ((r*4294967296+x) / d)=List.replicate i 0++((r*4294967296+x) / d::q):=by
   rw[List.replicate_succ',yba,set_append_right (by simp)];rfl
  rw[hs2]at s2;rw[e1];refine z3e _ _ _ _ _ ?_
  simp (disch:=omega) only[ztb,pA,xF,g1,g2,xA,yB,q347,hdiv,vC,zA.asTup,sA,g3,fB]
  rw[if_pos (by omega)]
  simp only[vE,yaa,yab,xA,yB];intro _ _ _;rw[s1];simp only[xA];refine ih t1 _ _ (by omega) (ht.off hb s3) s2 (by simp;omega) ?_ hrlt ?_
  ·intro y hy
   rcases yat.1 hy with rfl | hy
   ·exact hqlt
   ·exact hql y hy
  ·rw[gM hx]
   simp only[val];rw[hval];have hd1:=ybi (r*4294967296+x) d
   rw[yap,yan,yak];rw[yai ((r*4294967296+x) / d) d]
   rw[yai 4294967296 r];omega
theorem zxk{l:List Nat}{v:zA}{d:Nat}{Q:cB}(hv:oA t 1 (oC .u32 l) v)(hl:l.length<900000)(hlt:dB 4294967296 l)(hd:d<4294967296)(hd0:0<d)
  (hQ:∀t' v' q r,cA t t'->oA t' 1 (oC .u32 (nF q)) v'->dB 4294967296 q->q.length=l.length->r<d->val 4294967296 l=val 4294967296 q*d+r->Q (.tup [v',.int .u32 (r:Nat)]) t'):Wc yA F 321 [v,.int .u32 d] t Q:=by
 refine w321 _ _ ?_
 simp (disch:=omega) only[t321,pA,hv.len,xA,yB,uI,fB]
 intro b hb hbase;obtain⟨t',g1,g2,g3,g4⟩:=uU (C:=yA) (k:=.u32) gO rfl wH rfl rfl (by decide) (n:=l.length) (by omega) hb
 rw[g1];simp only[xA];exact zmp hv hl hlt hd hd0 hbase hb hQ l.length t' [] 0 (yal _) g3 (by simpa using g2) (by simp) (fun x hx=>by cases hx) hd0 (by simp[val])
end Go.Proofs
namespace Go.Am
theorem kn_ge{B m U V head top u2 v2 ur vr:Nat}(hU:U=(head*B+u2)*B^m+ur)(hur:ur<B^m)(hu2:u2<B)(hV:V=(top*B+v2)*B^m+vr)(htop:0<top):U / V<=head / top:=by
 have hBm:0<B^m:=by omega
 rw[Nat.le_div_iff_mul_le htop];have h1:U / V*V<=U:=Nat.div_mul_le_self U V
 have h2:top*B*B^m<=V:=by
  rw[hV,yap];omega
 have h3:U<(head+1)*B*B^m:=by
  have:head*B+u2+1<=(head+1)*B:=by rw[yap];omega
  have:=yaj (B^m) this
  rw[hU];rw[yap (head*B+u2) 1,Nat.one_mul]at this
  omega
 have h4:U / V*top*(B*B^m)<(head+1)*(B*B^m):=by
  calc U / V*top*(B*B^m)=U / V*(top*B*B^m):=by rw[yak,yak]
   _<=U / V*V:=yaw _ h2
   _<=U:=h1
   _<(head+1)*B*B^m:=h3
   _=(head+1)*(B*B^m):=by rw[yak]
 exact Nat.lt_succ_iff.1 (Nat.lt_of_mul_lt_mul_right h4)
theorem kn_gt{B m U V head top u2 v2 ur vr d:Nat}(hU:U=(head*B+u2)*B^m+ur)(hur:ur<B^m)(hV:V=(top*B+v2)*B^m+vr)(h:head*B+u2<d*(top*B+v2)):U / V<d:=by
 rcases Nat.lt_or_ge (U / V) d with g | g
 ·exact g
 ·exfalso
  have h1:U / V*V<=U:=Nat.div_mul_le_self U V
  have h2:d*V<=U:=Nat.le_trans (yaj _ g) h1
  have h3:d*(top*B+v2)*B^m<=d*V:=by rw[hV,yak];exact yaw _ (Nat.le_add_right _ _)
  have h4:=yaj (B^m) (show head*B+u2+1<=d*(top*B+v2) from h)
  rw[yap (head*B+u2) 1,Nat.one_mul]at h4
  omega
theorem kn_le{B m U V head top u2 v2 ur vr d:Nat}(hB:0<B)(hU:U=(head*B+u2)*B^m+ur)(hV:V=(top*B+v2)*B^m+vr)(hvr:vr<B^m)(htop:0<top)(hd:d<=B)(h:d*(top*B+v2)<=head*B+u2):d<=U / V+1:=by
 have hVpos:0<V:=by
  rw[hV];have:0<top*B+v2:=by have:=Nat.mul_pos htop hB;omega
  have:=Nat.mul_pos this (show 0<B^m by omega)
  omega
 rcases Nat.lt_or_ge (U / V+1) d with g | g
 ·exfalso
  have h1:(d-1)*V<=U:=by
   have e1:d*V<=d*((top*B+v2)*B^m)+d*B^m:=by
    rw[hV,yan];exact Nat.add_le_add_left (yaw _ (Nat.le_of_lt hvr)) _
   have e2:d*((top*B+v2)*B^m)<=(head*B+u2)*B^m:=by rw[<- yak];exact yaj _ h
   have e3:d*B^m<=V:=by
    have:d*B^m<=top*B*B^m:=by
     refine yaj _ (Nat.le_trans hd ?_)
     exact Nat.le_mul_of_pos_left _ htop
    rw[hV,yap];omega
   rw[Nat.sub_mul,Nat.one_mul];omega
  have:=(Nat.le_div_iff_mul_le hVpos).2 h1
  omega
 ·exact g
theorem top2{B:Nat}(hB:0<B){l:List Nat}{m a b:Nat}(hlt:dB B l)(hl:l.length=m+2)(ha:l[m+1]?=some a)(hb:l[m]?=some b):val B l=(a*B+b)*B^m+val B (l.take m)/\val B (l.take m)<B^m:=by
 have e1:=jT B l m
 have hlen:(l.take m).length=m:=by simp;omega
 rw[hlen]at e1;have e2:l.drop m=[b,a]:=by
  rw[gM hb,gM ha,List.drop_of_length_le (by omega)]
 rw[e2]at e1;refine⟨?_,?_⟩
 ·rw[e1]
  simp only[val];rw[yai (B^m),Nat.mul_zero,ybu,yai B a]
  rw[Nat.add_comm b];omega
 ·have:=uM hB (bR hlt m);rw[hlen]at this;exact this
theorem top3{B:Nat}(hB:0<B){l:List Nat}{m a b c:Nat}(hlt:dB B l)(hl:l.length=m+3)(ha:l[m+2]?=some a)(hb:l[m+1]?=some b)(hc:l[m]?=some c):val B l=((a*B+b)*B+c)*B^m+val B (l.take m)/\val B (l.take m)<B^m:=by
 have e1:=jT B l m
 have hlen:(l.take m).length=m:=by simp;omega
 rw[hlen]at e1;have e2:l.drop m=[c,b,a]:=by
  rw[gM hc,gM hb,gM ha,List.drop_of_length_le (by omega)]
 rw[e2]at e1;refine⟨?_,?_⟩
 ·rw[e1]
  simp only[val];rw[yai (B^m),Nat.mul_zero,ybu]
  have e3:c+B*(b+B*a)=(a*B+b)*B+c:=by
   rw[yan,yap,yai B b,yai B (B*a),yai B a]
   omega
  rw[e3];omega
 ·have:=uM hB (bR hlt m);rw[hlen]at this;exact this
end Go.Am
namespace Go.Proofs
open Go Go.Am
variable [dC]
variable {t:Tr jA}
def BB:Nat:=4294967296
theorem uL:BB=4294967296:=rfl
theorem nH:0<BB:=by decide
theorem zhb{T el:Nat}(h:jE yA T el 1 false){b off n cap j:Nat}(hj:j<n):zB yA T (.slice b off n cap) (.int .i64 (j:Int))=some (.ptr b (off+j)):=by
 have:=dL (b:=b) (off:=off) (cap:=cap) h hj
 rw[Nat.mul_one]at this;exact this
theorem zau{A w Z:List Nat}{j x:Nat}(h:w[j]?=some x):(A++w++Z)[A.length+j]?=some x:=by
 rw[yba,yaq (by omega),Nat.add_sub_cancel_left,ybp (yad.1 h).1];exact h
theorem zdf{A w Z:List Nat}{j x:Nat}(h:j<w.length):(A++w++Z).set (A.length+j) x=A++w.set j x++Z:=by
 rw[yba,List.set_append_right _ _ (by omega),Nat.add_sub_cancel_left,List.set_append_left _ _ h,yba]
theorem zkp{A Z lv:List Nat}{v:zA}{b cap d:Nat}{t0:Tr jA}{Q:cB}(hv:oA t0 1 (oC .u32 lv) v)(hl:lv.length<900000)(hlv:dB BB lv)(hbase:yA.base<=b)(hb:t0.get b=none)(hd:0<d)(hd2:d<=BB)(W:List Nat)(hWl:W.length=lv.length)(hWlt:dB BB W)(last:Nat)(hlast:last<BB)(hcap:lv.length+1<=cap)
  (hQ:∀t' r up,kD b t t'->tF t' b .u32 (A++(r++[(last+up)%BB])++Z)->r.length=lv.length->dB BB r->up<2->val BB r+BB^lv.length*up=val BB W+val BB lv->Q (.int .u32 ((d-1:Nat):Int)) t') :
  ∀(k i up:Nat) (t':Tr jA) (r:List Nat),i+k=lv.length->cA t0 t'->kD b t t'->tF t' b .u32 (A++(r++(W++[last]).drop i)++Z)->r.length=i->dB BB r->up<2->val BB r+BB^i*up=val BB (W.take i)+val BB (lv.take i) →
  jp 341 10 [.slice b A.length (lv.length+1) cap,.int .i64 lv.length,.int .u64 d,.int .u32 up,v,.int .i64 lv.length,.int .i64 i] t' Q:=by
 intro k;induction k with
 | zero=>
  intro i up t' r hi ht hoff ho hr hrl hup hval;have hi':i=lv.length:=by omega
  subst hi'
  have hdrop:(W++[last]).drop lv.length=[last]:=by rw[<- hWl];simp
  rw[hdrop]at ho;refine zwm _ _ _ _ _ _ _ ?_
  have g1:=zhb kG (b:=b) (off:=A.length) (n:=lv.length+1) (cap:=cap) (j:=lv.length) (by omega)
  have hget:(r++[last])[lv.length]?=some last:=by rw[<- hr];simp
  have g2:=ho.load (zau (A:=A) (Z:=Z) hget) wH rfl
  obtain⟨t1,s1,s2,s3⟩:=ho.store (C:=yA) hbase (j:=A.length+lv.length) (by simp;omega) ((last+up)%BB) wH rfl
  rw[zdf (by simp;omega)]at s2
  have hset:(r++[last]).set lv.length ((last+up)%BB)=r++[(last+up)%BB]:=by rw[<- hr,List.set_append_right _ _ (yal _)];simp
  rw[hset]at s2;have e1:vA .u32 ((last:Int)+(up:Int))=(((last+up)%BB:Nat):Int):=by rw[yN];show _=(((last+up)%4294967296:Nat):Int);omega
  simp only[zk9,pA,mB,g1,g2,xA,yB,e1];rw[if_neg (by omega)]
  intro _ _ _;rw[s1];simp only[xA];rw[ybb (by omega),ybb (by omega)]at hval
  have e2:vA .u32 (vA .u64 ((d:Int)-1))=((d-1:Nat):Int):=by
   have:d<=4294967296:=hd2
   rw[bF (by omega) (by omega),zR (by omega) (by omega)];omega
  rw[e2];exact hQ t1 r up (hoff.trans s3) s2 hr hrl hup hval
 | succ k ih=>
  intro i up t' r hi ht hoff ho hr hrl hup hval;obtain⟨x,hx⟩:=getElem?_of_lt (l:=lv) (i:=i) (by omega)
  obtain⟨y,hy⟩:=getElem?_of_lt (l:=W) (i:=i) (by omega)
  have hxlt:x<BB:=bI hlv hx
  have hylt:y<BB:=bI hWlt hy
  obtain⟨c,off,g1,g2⟩:=(hv.mono ht).idx kG hx
  have hy':(W++[last])[i]?=some y:=by rw[ybp (by omega)];exact hy
  have hdrop:(W++[last]).drop i=y::(W++[last]).drop (i+1):=gM hy'
  have g3:=zhb kG (b:=b) (off:=A.length) (n:=lv.length+1) (cap:=cap) (j:=i) (by omega)
  have hget:(r++(W++[last]).drop i)[i]?=some y:=by rw[yaq (by omega),hr,Nat.sub_self,hdrop];rfl
  have g4:=ho.load (zau (A:=A) (Z:=Z) hget) wH rfl
  have hlen:i<(r++(W++[last]).drop i).length:=by rw[hdrop];simp;omega
  obtain⟨t1,s1,s2,s3⟩:=ho.store (C:=yA) hbase (j:=A.length+i) (by rw[yah,yah];omega) ((y+x+up)%BB) wH rfl
  rw[zdf hlen]at s2;have hset:(r++(W++[last]).drop i).set i ((y+x+up)%BB)=(r++[(y+x+up)%BB])++(W++[last]).drop (i+1):=by
   rw[hdrop,set_append_right hr];simp
  rw[hset]at s2;have hadd:=z16 (t:=t') (x:=y) (y:=x) (c:=up) hylt hxlt hup
  refine zwm _ _ _ _ _ _ _ ?_
  simp (disch:=omega) only[zk9,pA,mB,g1,g2,g3,g4,xA,yB,q362,hadd,vC,zA.asTup,sA,vE,yaa,yab,fB]
  rw[if_pos (by omega)]
  intro _ _ _;have s1':∀n,xE yA 328 (.ptr b (A.length+i)) (.int .u32 (((y+x+up)%4294967296:Nat):Int)) ⟨n,t'⟩=some (rE,⟨n,t1⟩):=s1
  rw[s1'];simp only[xA];refine ih (i+1) ((y+x+up) / BB) t1 _ (by omega) (ht.off hb s3) (hoff.trans s3) s2 (by simp[hr]) (tT hrl (ybz _ (by decide))) ?_ ?_
  ·have h1:y<4294967296:=hylt
   have h2:x<4294967296:=hxlt
   show(y+x+up) / 4294967296<2
   omega
  ·rw[eL,hr,vR hx,vR hy,eL,eL]
   have l1:(W.take i).length=i:=by simp;omega
   have l2:(lv.take i).length=i:=by simp;omega
   rw[l1,l2,Nat.pow_succ];have hd:=ybi (y+x+up) BB
   have e4:BB^i*y+BB^i*x+BB^i*up=BB^i*(BB*((y+x+up) / BB)+(y+x+up)%BB):=by rw[hd,yan,yan]
   rw[yan,<- yak]at e4;omega
theorem znu{u low bo:Nat}(hu:u<BB)(hl:low<BB)(hb:bo<2):∃w b',w<BB/\b'<2/\u+BB*b'=w+low+bo ∧
  vA .u32 (vA .u64 (vA .u64 ((u:Int)-(low:Int))-(bo:Int)))=(w:Int)/\Int.fdiv (vA .u64 (vA .u64 ((u:Int)-(low:Int))-(bo:Int))) 9223372036854775808=(b':Int):=by
 have hu:u<4294967296:=hu
 have hl:low<4294967296:=hl
 rcases Nat.lt_or_ge u (low+bo)with g | g
 ·refine⟨u+BB-low-bo,1,by show u+4294967296-low-bo<4294967296;omega,by omega,by show u+4294967296*1=u+4294967296-low-bo+low+bo;omega,?_,?_⟩
  ·rw[yN,uS,uS];show _=((u+4294967296-low-bo:Nat):Int);omega
  ·rw[uS,uS,Int.fdiv_eq_ediv_of_nonneg _ (by omega)];omega
 ·refine⟨u-low-bo,0,by show u-low-bo<4294967296;omega,by omega,by omega,?_,?_⟩
  ·rw[yN,uS,uS];omega
  ·rw[uS,uS,Int.fdiv_eq_ediv_of_nonneg _ (by omega)];omega
theorem zl2{A Z lu lv:List Nat}{v:zA}{b cap d:Nat}{t0:Tr jA}{Q:cB}(hv:oA t0 1 (oC .u32 lv) v)(hl:lv.length<900000)(hlv:dB BB lv)(hbase:yA.base<=b)(hb:t0.get b=none)(hd:d<BB)(hlul:lu.length=lv.length+1)(hlu:dB BB lu)(hcap:lv.length+1<=cap)
  (hQ:∀t' (W:List Nat) last bo,cA t0 t'->kD b t t'->tF t' b .u32 (A++(W++[last])++Z)->W.length=lv.length->dB BB W->last<BB->bo<2->val BB (W++[last])+d*val BB lv=val BB lu+BB^(lv.length+1)*bo →
   if bo=0 then Q (.int .u32 (d:Int)) t' else jp 341 10 [.slice b A.length (lv.length+1) cap,.int .i64 lv.length,.int .u64 d,.int .u32 0,v,.int .i64 lv.length,.int .i64 (0:Nat)] t' Q) :
  ∀(k i carry borrow:Nat) (t':Tr jA) (W:List Nat),i+k=lv.length->cA t0 t'->kD b t t'->tF t' b .u32 (A++(W++lu.drop i)++Z)->W.length=i->dB BB W->carry<BB->borrow<2->val BB W+d*val BB (lv.take i)=val BB (lu.take i)+BB^i*(carry+borrow) →
  jp 341 6 [.slice b A.length (lv.length+1) cap,v,.int .i64 lv.length,.int .u64 d,.int .u64 carry,.int .u64 borrow,v,.int .i64 lv.length,.int .i64 i] t' Q:=by
 intro k;induction k with
 | zero=>
  intro i carry borrow t' W hi ht hoff ho hW hWl hc hbo hval;have hi':i=lv.length:=by omega
  subst hi'
  obtain⟨x,hx⟩:=getElem?_of_lt (l:=lu) (i:=lv.length) (by omega)
  have hxlt:x<BB:=bI hlu hx
  have hdrop:lu.drop lv.length=[x]:=by rw[gM hx,List.drop_of_length_le (by omega)]
  rw[hdrop]at ho;obtain⟨w,bo,hw,hbo',hsum,e1,e2⟩:=znu hxlt hc hbo
  have g1:=zhb kG (b:=b) (off:=A.length) (n:=lv.length+1) (cap:=cap) (j:=lv.length) (by omega)
  have hget:(W++[x])[lv.length]?=some x:=by rw[<- hW];simp
  have g2:=ho.load (zau (A:=A) (Z:=Z) hget) wH rfl
  obtain⟨t1,s1,s2,s3⟩:=ho.store (C:=yA) hbase (j:=A.length+lv.length) (by simp;omega) w wH rfl
  rw[zdf (by simp;omega)]at s2
  have hset:(W++[x]).set lv.length w=W++[w]:=by rw[<- hW,List.set_append_right _ _ (yal _)];simp
  rw[hset]at s2;have hx32:x<4294967296:=hxlt
  have e0:vA .u64 (x:Int)=(x:Int):=bF (by omega) (by omega)
  refine z3b _ _ _ _ _ _ _ _ _ ?_
  simp only[zs7,pA,mB,g1,g2,xA,yB,e0,e1,e2,cD];rw[if_neg (by omega)]
  intro _ _ _;rw[s1];simp only[xA];have hfin:=hQ t1 W w bo (ht.off hb s3) (hoff.trans s3) s2 hW hWl hw hbo' (by
   rw[eL,hW];rw[ybb (by omega)]at hval
   have e5:val BB lu=val BB (lu.take lv.length)+BB^lv.length*x:=by
    have:=jT BB lu lv.length
    rw[hdrop]at this;rw[this];have:(lu.take lv.length).length=lv.length:=by simp;omega
    rw[this];simp[val]
   rw[e5,Nat.pow_succ];have e6:BB^lv.length*(x+BB*bo)=BB^lv.length*(w+carry+borrow):=by rw[hsum]
   rw[yan,yan,yan,<- yak]at e6;rw[yan]at hval;omega)
  by_cases hz:bo=0
  ·rw[if_pos (by omega)]
   rw[if_pos hz]at hfin;have hd32:d<4294967296:=hd
   rw[zR (by omega) (by omega)]
   exact hfin
  ·rw[if_neg (by omega)]
   rw[if_neg hz]at hfin;simp only[(hv.mono (ht.off hb s3)).len,xA,yB,uI]
   exact hfin
 | succ k ih=>
  intro i carry borrow t' W hi ht hoff ho hW hWl hc hbo hval;obtain⟨x,hx⟩:=getElem?_of_lt (l:=lu) (i:=i) (by omega)
  obtain⟨y,hy⟩:=getElem?_of_lt (l:=lv) (i:=i) (by omega)
  have hxlt:x<BB:=bI hlu hx
  have hylt:y<BB:=bI hlv hy
  have hd32:d<4294967296:=hd
  have hx32:x<4294967296:=hxlt
  have hy32:y<4294967296:=hylt
  have hc32:carry<4294967296:=hc
  have hdrop:lu.drop i=x::lu.drop (i+1):=gM hx
  obtain⟨c,off,g1,g2⟩:=(hv.mono ht).idx kG hy
  have g3:=zhb kG (b:=b) (off:=A.length) (n:=lv.length+1) (cap:=cap) (j:=i) (by omega)
  have hget:(W++lu.drop i)[i]?=some x:=by rw[yaq (by omega),hW,Nat.sub_self,hdrop];rfl
  have g4:=ho.load (zau (A:=A) (Z:=Z) hget) wH rfl
  have hprod:d*y<=4294967295*4294967295:=ycc (by omega) (by omega)
  obtain⟨P,hP⟩:∃P,P=d*y+carry:=⟨_,rfl⟩
  have hPlt:P<18446744073709551616:=by omega
  have hPhi:P / 4294967296<4294967296:=by omega
  obtain⟨w,bo,hw,hbo',hsum,e1,e2⟩:=znu (u:=x) (low:=P%4294967296) (bo:=borrow) hxlt (ybz _ (by decide)) hbo
  obtain⟨t1,s1,s2,s3⟩:=ho.store (C:=yA) hbase (j:=A.length+i) (by rw[yah,yah,yah,hdrop];simp;omega) w wH rfl
  rw[zdf (by rw[hdrop];simp;omega)]at s2
  have hset:(W++lu.drop i).set i w=(W++[w])++lu.drop (i+1):=by rw[hdrop,set_append_right hW];simp
  rw[hset]at s2;have e0:vA .u64 (x:Int)=(x:Int):=bF (by omega) (by omega)
  have e0':vA .u64 (y:Int)=(y:Int):=bF (by omega) (by omega)
  have e3:(d:Int)*(y:Int)=((d*y:Nat):Int):=(Int.natCast_mul d y).symm
  have e4:vA .u64 ((d*y:Nat):Int)=((d*y:Nat):Int):=by
   generalize d*y=z at hprod ⊢
   exact bF (by omega) (by omega)
  have e5:vA .u64 (((d*y:Nat):Int)+(carry:Int))=(P:Int):=by
   rw[hP,<- Int.natCast_add];generalize d*y=z at hprod ⊢
   exact bF (by omega) (by omega)
  have e6:vA .u64 (vA .u32 (P:Int))=((P%4294967296:Nat):Int):=by
   rw[yN,bF (by omega) (by omega)];omega
  have e7:Int.fdiv (P:Int) 4294967296=((P / 4294967296:Nat):Int):=oO P 4294967296
  refine z3b _ _ _ _ _ _ _ _ _ ?_
  simp only[zs7,pA,mB,g1,g2,g3,g4,xA,yB,e0,e0',e3,e4,e5,e6,e7,e1,e2];rw[if_pos (by omega)]
  intro _ _ _;rw[s1];simp (disch:=omega) only[xA,fB]
  refine ih (i+1) (P / 4294967296) bo t1 _ (by omega) (ht.off hb s3) (hoff.trans s3) s2 (by simp[hW]) (tT hWl hw) hPhi hbo' ?_
  rw[eL,hW,vR hx,vR hy,eL,eL];have l1:(lu.take i).length=i:=by simp;omega
  have l2:(lv.take i).length=i:=by simp;omega
  rw[l1,l2,Nat.pow_succ];have hd:=ybi P BB
  have e8:BB^i*(x+BB*bo)=BB^i*(w+P%BB+borrow):=congrArg (fun z=>BB^i*z) hsum
  have e9:BB^i*(d*y+carry)=BB^i*(BB*(P / BB)+P%BB):=by rw[hd,hP]
  rw[yan,yan,yan,<- yak]at e8;rw[yan,yan,<- yak (BB^i) BB]at e9
  rw[yan]at hval ⊢
  have e10:d*(BB^i*y)=BB^i*(d*y):=by rw[<- yak,yai d,yak]
  rw[e10,yan (BB^i*BB)]
  show _=val BB (lu.take i)+BB^i*x+(BB^i*BB*(P / BB)+BB^i*BB*bo)
  omega
attribute [irreducible] BB
end Go.Proofs
namespace Go.Proofs
open Go Go.Am
variable [dC]
variable {t:Tr jA}
theorem or32{x y:Nat}(hx:x<4294967296)(hy:y<4294967296):oH Nat.lor .u64 ((x*4294967296:Nat):Int) (y:Int)=some (.int .u64 ((x*4294967296+y:Nat):Int)):=by
 have h:=zcu (a:=x) (b:=y) (n:=32) hy
 have e:(2:Nat)^32=4294967296:=by decide
 rw[e]at h;rw[pO (k:=.u64) (show x*4294967296<cG .u64 by show _<18446744073709551616;omega) (show y<cG .u64 by show _<18446744073709551616;omega),h]
theorem zq5{lu lv:List Nat}{u v:zA}{Q:cB}{m head top u2 v2 U V ur vr:Nat}(hu:oA t 1 (oC .u32 lu) u)(hv:oA t 1 (oC .u32 lv) v)(hl:m<900000)(hu2:lu[m]?=some u2)(hv2:lv[m]?=some v2)(hu2lt:u2<BB)(hv2lt:v2<BB)(htop:0<top)(htoplt:top<BB)
  (hU:U=(head*BB+u2)*BB^m+ur) (hur:ur<BB^m) (hV:V=(top*BB+v2)*BB^m+vr) (hvr:vr<BB^m) (hq:U / V<BB) (hhead:head<=top*BB+(BB-1))
  (hexit:∀d,U / V<=d->d<=U / V+1->d<BB->jp 341 19 [u,v,.int .i64 (m+2:Nat),.int .u64 d] t Q) :
  ∀(d rest:Nat),d*top+rest=head->U / V<=d->d<=BB+1->rest<BB->jp 341 2 [u,v,.int .i64 (m+2:Nat),.int .u64 top,.int .u64 d,.int .u64 rest] t Q:=by
 intro d;induction d with
 | zero=>
  intro rest hsum hge _ hrest;have hBB:=uL
  have hr32:rest<4294967296:=by omega
  obtain⟨b,off,g1,g2⟩:=hv.idx kG hv2
  obtain⟨c,off',g3,g4⟩:=hu.idx kG hu2
  have hu32:u2<4294967296:=by omega
  have hv32:v2<4294967296:=by omega
  obtain⟨D,hD⟩:∃D:Int,((0:Nat):Int)=D:=⟨_,rfl⟩
  rw[hD];refine z3c _ _ _ _ _ _ ?_
  unfold zs8;generalize hC:(4294967296:Int)=C
  generalize hG:oH Nat.lor .u64 (vA .u64 ((rest:Int)*C))=G
  have e4:D*(v2:Int)=0:=by rw[<- hD];simp
  have e1:((m+2:Nat):Int)-2=(m:Int):=by omega
  have e2:(rest:Int)*C=((rest*4294967296:Nat):Int):=by rw[<- hC];omega
  have e3:G (u2:Int)=some (.int .u64 ((rest*4294967296+u2:Nat):Int)):=by rw[<- hG,e2,bF (by omega) (by omega)];exact or32 hr32 hu32
  simp only[pA,xF];rw[if_neg (by omega)]
  simp (disch:=omega) only[e1,fB,g1,xA]
  rw[g2];simp only[xA,yB,g3];rw[g4,xA,yB,xA,bF (n:=(u2:Int)) (by omega) (by omega),e3,xA,yB,xA,bF (n:=(v2:Int)) (by omega) (by omega),e4,bF (n:=0) (by decide) (by decide)]
  rw[if_neg (fun h=>absurd (mB.1 h) (by omega)),<- hD]
  exact hexit 0 hge (Nat.zero_le _) nH
 | succ d ih=>
  intro rest hsum hge hle hrest;have hBB:=uL
  have hr32:rest<4294967296:=by omega
  have ht32:top<4294967296:=by omega
  have hle32:d+1<=4294967296+1:=by omega
  have hsum':d*top+(rest+top)=head:=by rw[yap]at hsum;omega
  obtain⟨D,hD⟩:∃D:Int,((d+1:Nat):Int)=D:=⟨_,rfl⟩
  rw[hD];have e1:D-1=(d:Int):=by omega
  have e0:(rest:Int)+(top:Int)=((rest+top:Nat):Int):=by omega
  have less:U / V<=d->(if (4294967296:Int)<=((rest+top:Nat):Int)then jp 341 19 [u,v,.int .i64 (m+2:Nat),.int .u64 d] t Q else jp 341 2 [u,v,.int .i64 (m+2:Nat),.int .u64 top,.int .u64 d,.int .u64 ((rest+top:Nat):Int)] t Q):=by
   intro hge';split
   ·rename_i hb
    have hb':BB<=rest+top:=by omega
    have hdlt:d<BB:=by
     rcases Nat.lt_or_ge d BB with g | g
     ·exact g
     ·exfalso
      have:=yaj top g
      rw[yai BB top]at this;omega
    refine hexit d hge' ?_ hdlt
    refine kn_le nH hU hV hvr htop (Nat.le_of_lt hdlt) ?_
    have h1:d*v2<=BB*BB:=ycc (Nat.le_of_lt hdlt) (Nat.le_of_lt hv2lt)
    have h2:BB*BB<=(rest+top)*BB:=yaj _ hb'
    have h3:head*BB=d*top*BB+(rest+top)*BB:=by rw[<- hsum',yap]
    rw[yan,<- yak,h3];omega
   ·rename_i hb
    exact ih (rest+top) hsum' hge' (by omega) (by omega)
  refine z3c _ _ _ _ _ _ ?_
  unfold zs8;generalize hC:(4294967296:Int)=C
  generalize hG:oH Nat.lor .u64 (vA .u64 ((rest:Int)*C))=G
  by_cases hbig:4294967296<=d+1
  ·simp (disch:=omega) only[pA,xF,e0,e1,bF]
   rw[if_pos (by omega)]
   subst hC;exact less (by omega)
  ·obtain⟨b,off,g1,g2⟩:=hv.idx kG hv2
   obtain⟨c,off',g3,g4⟩:=hu.idx kG hu2
   have hu32:u2<4294967296:=by omega
   have hv32:v2<4294967296:=by omega
   have e5:((m+2:Nat):Int)-2=(m:Int):=by omega
   have e2:(rest:Int)*C=((rest*4294967296:Nat):Int):=by rw[<- hC];omega
   have e6:vA .u64 (D*(v2:Int))=(((d+1)*v2:Nat):Int):=by
    rw[<- hD,<- Int.natCast_mul];have:(d+1)*v2<=4294967295*4294967295:=ycc (by omega) (by omega)
    generalize (d+1)*v2=z at this ⊢
    exact bF (by omega) (by omega)
   have e3:G (u2:Int)=some (.int .u64 ((rest*4294967296+u2:Nat):Int)):=by rw[<- hG,e2,bF (by omega) (by omega)];exact or32 hr32 hu32
   simp only[pA,xF];rw[if_neg (by omega)]
   simp (disch:=omega) only[e5,fB,g1,xA]
   rw[g2];simp only[xA,yB,g3];rw[g4,xA,yB,xA,bF (n:=(u2:Int)) (by omega) (by omega),e3,xA,yB,xA,bF (n:=(v2:Int)) (by omega) (by omega),e6]
   have e7:vA .u64 ((rest:Int)+(top:Int))=((rest+top:Nat):Int):=by rw[e0];exact bF (by omega) (by omega)
   have e8:vA .u64 (D-1)=(d:Int):=by rw[e1];exact bF (by omega) (by omega)
   rw[e7,e8];have key:(d+1)*(top*BB+v2)=(d+1)*top*BB+(d+1)*v2:=by rw[yan,<- yak]
   have key2:head*BB=(d+1)*top*BB+rest*BB:=by rw[<- hsum,yap]
   by_cases htest:rest*4294967296+u2<(d+1)*v2
   ·rw[if_pos (mB.2 (by omega))]
    subst hC;refine less (Nat.lt_succ_iff.1 (kn_gt hU hur hV ?_))
    rw[key,key2];have:rest*BB=rest*4294967296:=by rw[hBB]
    generalize (d+1)*top*BB=P at this ⊢
    generalize (d+1)*v2=R at htest ⊢
    omega
   ·rw[if_neg (fun h=>absurd (mB.1 h) (by omega))]
    rw[<- hD];refine hexit (d+1) hge (kn_le nH hU hV hvr htop (by omega) ?_) (by omega)
    rw[key,key2];have:rest*BB=rest*4294967296:=by rw[hBB]
    generalize (d+1)*top*BB=P at this ⊢
    generalize (d+1)*v2=R at htest ⊢
    omega
end Go.Proofs
namespace Go.Proofs
open Go Go.Am
variable [dC]
variable {t:Tr jA}
theorem z1i{A lu lv Z:List Nat}{v:zA}{b cap m:Nat}{t0 t':Tr jA}{Q:cB}(hv:oA t0 1 (oC .u32 lv) v)(hl:lv.length=m+2)(hm:m<800000)(hlv:dB BB lv)(hbase:yA.base<=b)(hb:t0.get b=none)(hlul:lu.length=m+3)(hlu:dB BB lu)(hcap:m+3<=cap)
  (htop:∀top,lv[m+1]?=some top->2147483648<=top) (hlt:val BB lu<BB*val BB lv) (ht:cA t0 t') (hoff:kD b t t') (ho:tF t' b .u32 (A++lu++Z))
  (hQ:∀t2 r,cA t0 t2->kD b t t2->tF t2 b .u32 (A++(r++[0])++Z)->r.length=m+2->dB BB r->val BB r=val BB lu%val BB lv->val BB lu / val BB lv<BB->Q (.int .u32 ((val BB lu / val BB lv:Nat):Int)) t2) :
  Wc yA F 341 [.slice b A.length (m+3) cap,v] t' Q:=by
 obtain⟨top,h1⟩:=getElem?_of_lt (l:=lv) (i:=m+1) (by omega)
 obtain⟨v2,h2⟩:=getElem?_of_lt (l:=lv) (i:=m) (by omega)
 obtain⟨un,h3⟩:=getElem?_of_lt (l:=lu) (i:=m+2) (by omega)
 obtain⟨u1,h4⟩:=getElem?_of_lt (l:=lu) (i:=m+1) (by omega)
 obtain⟨u2,h5⟩:=getElem?_of_lt (l:=lu) (i:=m) (by omega)
 have b1:top<BB:=bI hlv h1
 have b2:v2<BB:=bI hlv h2
 have b3:un<BB:=bI hlu h3
 have b4:u1<BB:=bI hlu h4
 have b5:u2<BB:=bI hlu h5
 have hBB:=uL
 have c1:top<4294967296:=by omega
 have c3:un<4294967296:=by omega
 have c4:u1<4294967296:=by omega
 have htop2:=htop top h1
 obtain⟨hV,hvr⟩:=top2 (B:=BB) nH hlv hl h1 h2
 obtain⟨hU,hur⟩:=top3 (B:=BB) nH hlu hlul h3 h4 h5
 have hVpos:0<val BB lv:=by
  have:0<(top*BB+v2)*BB^m:=Nat.mul_pos (by have:0<top*BB:=Nat.mul_pos (by omega) nH;omega) (Nat.pow_pos nH)
  omega
 have hq:val BB lu / val BB lv<BB:=ybv (by rw[yai];exact hlt)
 have hread:oA t' 1 (oC .u32 lu) (.slice b A.length (m+3) cap):=by
  have:=ho.slice (off:=A.length) (n:=m+3) (cap:=cap) (by simp;omega) hcap
  rw[yba,List.drop_left,List.take_left' hlul]at this;exact this
 have hv':=hv.mono ht
 obtain⟨d1,o1,g1,g1'⟩:=hread.idx kG h3
 obtain⟨d2,o2,g2,g2'⟩:=hread.idx kG h4
 obtain⟨d3,o3,g3,g3'⟩:=hv'.idx kG h1
 have hun:un<=top:=by
  rcases Nat.lt_or_ge top un with g | g
  ·exfalso
   have e1:(un*BB)*BB*BB^m<=val BB lu:=by rw[hU,yap,yap,yap];omega
   have e2:val BB lv<(top+1)*BB*BB^m:=by
    have h:top*BB+v2+1<=(top+1)*BB:=by rw[yap];omega
    have:=yaj (BB^m) h
    rw[yap (top*BB+v2) 1,Nat.one_mul]at this
    omega
   have e3:BB*val BB lv<BB*((top+1)*BB*BB^m):=Nat.mul_lt_mul_of_pos_left e2 nH
   have e4:BB*((top+1)*BB*BB^m)<=un*BB*BB*BB^m:=by
    have:(top+1)*BB*BB^m<=un*BB*BB^m:=yaj _ (yaj _ g)
    have:=yaw BB this
    calc BB*((top+1)*BB*BB^m)<=BB*(un*BB*BB^m):=this
     _=un*BB*BB*BB^m:=by rw[<- yak,yai BB (un*BB)]
   omega
  ·exact g
 have hh:un*BB+u1<=top*BB+(BB-1):=by
  have:=yaj BB hun
  omega
 have hge:val BB lu / val BB lv<=(un*BB+u1) / top:=kn_ge hU hur b5 hV (by omega)
 have hdle:(un*BB+u1) / top<=BB+1:=by
  have:un*BB+u1<(BB+2)*top:=by
   rw[yap,yai BB top];generalize top*BB=P at hh ⊢
   generalize un*BB=R at hh ⊢
   omega
  have:=ybv (show un*BB+u1<top*(BB+2) by rw[yai top];exact this)
  omega
 have hrest:(un*BB+u1)%top<BB:=Nat.lt_trans (ybz _ (by omega)) b1
 refine w341 _ _ ?_
 have e1:((lv.length:Nat):Int)=((m+2:Nat):Int):=by rw[hl]
 have e2:((m+2:Nat):Int)-1=((m+1:Nat):Int):=by omega
 have e3:(un:Int)*4294967296=((un*4294967296:Nat):Int):=by omega
 simp (disch:=omega) only[t341,pA,hv'.len,xA,yB,uI,e1,g1,g1',e2,fB,g2,g2',g3,g3',bF,e3]
 have e4:oH Nat.lor .u64 ((un*4294967296:Nat):Int) (u1:Int)=some (.int .u64 ((un*4294967296+u1:Nat):Int)):=by
  rw[pO (k:=.u64) (show un*4294967296<cG .u64 by show _<18446744073709551616;omega) (show u1<cG .u64 by show _<18446744073709551616;omega)]
  have:=zcu (a:=un) (b:=u1) (n:=32) c4
  rw[show un*4294967296=un*2^32 by rfl,this]
 rw[e4];simp only[xA,yB];have e5:z02 .u64 ((un*4294967296+u1:Nat):Int) (top:Int)=some (.int .u64 (((un*4294967296+u1) / top:Nat):Int)):=zhc (by omega) (by
  have h:(un*4294967296+u1) / top<=4294967296+1:=by rw[hBB]at hdle;exact hdle
  generalize (un*4294967296+u1) / top=z at h ⊢
  exact bF (by omega) (by omega))
 rw[e5];simp only[xA,yB];rw[zby (by omega)]
 simp only[xA,yB];refine zq5 hread hv' (by omega) h5 h2 b5 b2 (by omega) b1 hU hur hV hvr hq hh (fun d q1 q2 q3=>?_) _ _ ?_ (by rw[hBB]at hge ⊢;exact hge) (by rw[hBB]at hdle ⊢;exact hdle) (by rw[hBB]at hrest ⊢;exact hrest)
 ·refine z6b _ _ _ _ ?_
  simp only[zs9,pA,hv'.len,xA,yB,uI,e1];have hms:=zl2 (t:=t) (A:=A) (Z:=Z) (lu:=lu) (lv:=lv) (v:=v) (b:=b) (cap:=cap) (d:=d) (t0:=t0) (Q:=Q) hv (by omega) hlv hbase hb q3 (by omega) hlu (by omega) ?_ lv.length 0 0 0 t' [] (by omega) ht hoff (by simpa using ho) rfl (fun x hx=>by cases hx) (by first | omega | decide) (by first | omega | decide) (by simp[val])
  ·rw[hl]at hms
   exact hms
  ·intro t2 W last bo k1 k2 k3 k4 k5 k6 k7 k8
   have hWall:val BB (W++[last])<BB^(lv.length+1):=by
    have:=uM (B:=BB) nH (tT k5 k6)
    simp only[yah,yao,yay,k4]at this;exact this
   have hVlt:val BB lv<BB^lv.length:=uM nH hlv
   have hdm:=ybi (val BB lu) (val BB lv)
   have hmod:val BB lu%val BB lv<val BB lv:=ybz _ hVpos
   have hWs:val BB (W++[last])=val BB W+BB^lv.length*last:=by rw[eL,k4]
   split
   ·rename_i hz
    subst hz;rw[Nat.mul_zero,ybu]at k8;have hd:d=val BB lu / val BB lv:=by
     refine Nat.le_antisymm ?_ q1
     rw[Nat.le_div_iff_mul_le hVpos];omega
    have hr:val BB (W++[last])=val BB lu%val BB lv:=by
     rw[hd,yai]at k8;omega
    have hlast:last=0:=by
     rcases Nat.eq_zero_or_pos last with g | g
     ·exact g
     ·exfalso
      have:=yaw (BB^lv.length) g
      rw[Nat.mul_one]at this;omega
    subst hlast;rw[hd];exact hQ t2 W k1 k2 k3 (by omega) k5 (by rw[<- hr,hWs];simp) hq
   ·rename_i hz
    have hbo:bo=1:=by omega
    subst hbo;rw[Nat.mul_one]at k8;have hd:d=val BB lu / val BB lv+1:=by
     refine Nat.le_antisymm q2 ?_
     rcases Nat.lt_or_ge (val BB lu / val BB lv) d with g | g
     ·exact g
     ·exfalso
      have:d*val BB lv<=val BB lu:=Nat.le_trans (yaj _ g) (Nat.div_mul_le_self _ _)
      omega
    have hk9:val BB (W++[last])+val BB lv=val BB lu%val BB lv+BB^(lv.length+1):=by
     rw[hd,yap,Nat.one_mul,yai (val BB lu / val BB lv)]at k8
     omega
    refine zkp (t:=t) (A:=A) (Z:=Z) (t0:=t0) hv (by omega) hlv hbase hb (by rw[hd];exact Nat.succ_pos _) (by omega) W k4 k5 last k6 (by omega) (fun t3 r up n1 n2 n3 n4 n5 n6=>?_) lv.length 0 0 t2 [] (by omega) k1 k2 (by simpa using k3) rfl (fun x hx=>by cases hx) (by first | omega | decide) (by simp[val])
    have hrlt:val BB r<BB^lv.length:=by
     have:=uM (B:=BB) nH n4;rw[n3]at this;exact this
    rw[hWs,Nat.pow_succ]at hk9;have hfin:val BB r+BB^lv.length*(up+last)=val BB lu%val BB lv+BB^lv.length*BB:=by
     rw[yan];omega
    have hsplit:up+last=BB/\val BB r=val BB lu%val BB lv:=by
     have hmlt:val BB lu%val BB lv<BB^lv.length:=by omega
     have hB:0<BB^lv.length:=by omega
     have e1:(val BB r+BB^lv.length*(up+last)) / BB^lv.length=up+last:=by rw[Nat.add_mul_div_left _ _ hB,Nat.div_eq_of_lt hrlt];simp
     have e2:(val BB lu%val BB lv+BB^lv.length*BB) / BB^lv.length=BB:=by rw[Nat.add_mul_div_left _ _ hB,Nat.div_eq_of_lt hmlt];simp
     rw[hfin,e2]at e1;refine⟨e1.symm,?_⟩
     rw[<- e1]at hfin;omega
    have hl0:(last+up)%BB=0:=by rw[Nat.add_comm,hsplit.1];exact Nat.mod_self _
    rw[hl0]at n2;have hd1:d-1=val BB lu / val BB lv:=by rw[hd];exact Nat.add_sub_cancel _ _
    rw[hd1];exact hQ t3 r (k1.off hb (fun c hc=>by
     rw[n1 c hc,<- k2 c hc])) n1 n2 (by omega) n4 hsplit.2 hq
 ·rw[yai,hBB];exact ybi _ _
end Go.Proofs
namespace Go.Am
theorem zia{B p K:Nat}(hB:B=p*K)(hp:0<p)(hK:0<K){x y:Nat}{l:List Nat}(hx:x<B) :
  val B (x::y::l) / p=(y*B+x) / p%B+B*(val B (y::l) / p):=by
 have e1:val B (x::y::l)=x+p*(K*val B (y::l)):=by
  show x+B*val B (y::l)=_
  rw[hB,yak]
 have e2:y*B+x=x+p*(K*y):=by rw[hB,Nat.add_comm,yai y,yak]
 have e3:val B (y::l)%p=y%p:=by
  show(y+B*val B l)%p=_
  rw[hB,yak,Nat.add_mul_mod_self_left]
 have e4:K*y=K*(y%p)+B*(y / p):=by
  have:=ybi y p
  calc K*y=K*(p*(y / p)+y%p):=by rw[this]
   _=_:=by rw[yan,hB,yai p K,yak,Nat.add_comm]
 have e5:K*val B (y::l)=K*(y%p)+B*(val B (y::l) / p):=by
  have:=ybi (val B (y::l)) p
  calc K*val B (y::l)=K*(p*(val B (y::l) / p)+val B (y::l)%p):=by rw[this]
   _=_:=by rw[yan,e3,hB,yai p K,yak,Nat.add_comm]
 have e6:x / p<K:=ybv (by rw[<- hB];exact hx)
 have e7:x / p+K*(y%p)<B:=by
  have h1:y%p<p:=ybz _ hp
  have h2:K*(y%p+1)<=K*p:=yaw _ h1
  rw[hB,yai p K];rw[yan,Nat.mul_one]at h2;omega
 rw[e1,Nat.add_mul_div_left _ _ hp,e2,Nat.add_mul_div_left _ _ hp,e4,<- Nat.add_assoc,Nat.add_mul_mod_self_left,Nat.mod_eq_of_lt e7,e5,<- Nat.add_assoc]
end Go.Am
namespace Go.Proofs
open Go Go.Am
variable [dC]
variable {t:Tr jA}
theorem zt6{l:List Nat}{b L lo hi:Nat}(ho:tF t b .u32 l)(h1:lo<=hi)(h2:hi<=L)(h3:lo<L) :
  yH yA 305 ⟨0,t⟩ (.slice b 0 L L) (some (.int .i64 (lo:Int))) (some (.int .i64 (hi:Int)))=some (.slice b lo (hi-lo) (L-lo)):=by
 obtain⟨c,hg,_⟩:=ho
 obtain⟨⟨y,hy1,hy2⟩,⟨z,hz1,hz2,hz3⟩⟩:=kG
 unfold yH;rw[hy1,sA];have hb:∀y (k:Nat),fR y (.int .i64 (k:Int))=sB (Nat.ble k y) (some k):=fun y k=>rfl
 unfold pK;simp only[zA.asStr,zA.asSlice];rw[hy2,sA];unfold rL;rw[hz1,sA];unfold fN zd6;simp only[hb];rw[show Nat.ble hi L=true from cE.2 h2];simp only[qF,sA]
 rw[show Nat.ble lo hi=true from cE.2 h1];simp only[qF,sA];have he2:aH ⟨0,t⟩ b z.size L lo false=false:=by
  unfold aH nD;rw[hg,sA];rfl
 rw[he2,Bool.and_false,cond_false];have hf:lH ⟨0,t⟩ b z.size L lo false=true:=by
  unfold lH nD;rw[hg,sA];rfl
 rw[show Nat.ble hi L=true from cE.2 h2,hf];simp only[Bool.and_self,qF];have hq:Nat.beq L lo=false:=by
  cases hq:Nat.beq L lo with
  | true=>have:=zC.1 hq;omega
  | false=>rfl
 rw[hq,cond_false,hz2,Nat.mul_one,yax]
theorem zib{qv:zA}{Z c:List Nat}{b n s L cn:Nat}{Q:cB}(hn:n<900000)(hc:c.length=n+1)(hcl:dB BB c)(hcn:c[n]?=some cn)(hbase:yA.base<=b)(hs:s<32)(hL:n+1<=L)
  (hexit:∀t' W,kD b t t'->tF t' b .u32 (W++[cn]++Z)->W.length=n->dB BB W->val BB W+BB^n*(cn / 2^s)=val BB c / 2^s->jp 316 6 [.int .i64 (n:Int),.int .i64 (s:Int),.slice b 0 L L,qv,.int .i64 (n:Int),.int .i64 (n:Int)] t' Q) :
  ∀(k i:Nat) (t':Tr jA) (W:List Nat),i+k=n->kD b t t'->tF t' b .u32 (W++c.drop i++Z)->W.length=i->dB BB W->val BB W+BB^i*(val BB (c.drop i) / 2^s)=val BB c / 2^s →
  jp 316 6 [.int .i64 (n:Int),.int .i64 (s:Int),.slice b 0 L L,qv,.int .i64 (n:Int),.int .i64 (i:Int)] t' Q:=by
 intro k;induction k with
 | zero=>
  intro i t' W hi hoff ho hW hWl hval;have hi':i=n:=by omega
  subst hi'
  have hd:c.drop i=[cn]:=by
   rw[gM hcn,yau (by omega)]
  rw[hd]at ho hval;refine hexit t' W hoff ho hW hWl ?_
  rw[<- hval];simp[val]
 | succ k ih=>
  intro i t' W hi hoff ho hW hWl hval;have hBB:=uL
  obtain⟨x,hx⟩:=getElem?_of_lt (l:=c) (i:=i) (by omega)
  obtain⟨y,hy⟩:=getElem?_of_lt (l:=c) (i:=i+1) (by omega)
  have hx32:x<4294967296:=by have:=bI hcl hx;omega
  have hy32:y<4294967296:=by have:=bI hcl hy;omega
  have hd1:c.drop (i+1)=y::c.drop (i+2):=gM hy
  have hd0:c.drop i=x::y::c.drop (i+2):=by rw[gM hx,hd1]
  have m0:=zau (A:=W) (w:=c.drop i) (Z:=Z) (j:=0) (x:=x) (by rw[hd0];rfl)
  have m1:=zau (A:=W) (w:=c.drop i) (Z:=Z) (j:=1) (x:=y) (by rw[hd0];rfl)
  rw[hW]at m0 m1;rw[ybu]at m0;have g0:=sU kG (b:=b) (n:=L) (cap:=L) (j:=i) (by omega)
  have g1:=sU kG (b:=b) (n:=L) (cap:=L) (j:=i+1) (by omega)
  have l0:=ho.load (C:=yA) m0 wH rfl
  have l1:=ho.load (C:=yA) m1 wH rfl
  have ei:(i:Int)+1=((i+1:Nat):Int):=by omega
  have e2:(y:Int)*4294967296=((y*4294967296:Nat):Int):=by omega
  obtain⟨t1,s1,s2,s3⟩:=ho.store (C:=yA) hbase (j:=i) (by rw[hd0];simp;omega) ((y*4294967296+x) / 2^s%4294967296) wH rfl
  have hset:=zdf (A:=W) (w:=c.drop i) (Z:=Z) (j:=0) (x:=(y*4294967296+x) / 2^s%4294967296) (by rw[hd0];simp)
  rw[ybu,hW]at hset;rw[hset]at s2;refine z3g _ _ _ _ _ _ ?_
  simp only[ztf,pA,mB];rw[if_pos (by omega)]
  simp (disch:=omega) only[ei,fB,g0,g1,xA,l0,l1,yB]
  rw[bF (n:=(y:Int)) (by omega) (by omega),e2,bF (n:=((y*4294967296:Nat):Int)) (by omega) (by omega),bF (n:=(x:Int)) (by omega) (by omega),or32 hy32 hx32,xA,yB,xA,zo4 (by omega),xA,yB,xA]
  have e3:vA .u32 (((y*4294967296+x) / 2^s:Nat):Int)=(((y*4294967296+x) / 2^s%4294967296:Nat):Int):=by
   generalize (y*4294967296+x) / 2^s=z
   rw[yN];omega
  rw[e3];intro _ _ _;rw[s1,xA];have hw:(y*4294967296+x) / 2^s%4294967296<BB:=by rw[hBB];exact ybz _ (by decide)
  refine ih (i+1) t1 (W++[(y*4294967296+x) / 2^s%4294967296]) (by omega) (hoff.trans s3) ?_ (by simp[hW]) (tT hWl hw) ?_
  ·rw[hd0]at s2
   rw[hd1];simpa using s2
  ·have hst:=zia (B:=BB) (p:=2^s) (K:=2^(32-s)) (by rw[<- Nat.pow_add,show s+(32-s)=32 by omega,hBB]) (Nat.pow_pos (by decide)) (Nat.pow_pos (by decide)) (x:=x) (y:=y) (l:=c.drop (i+2)) (by omega)
   rw[<- hval,hd0,hst,eL,hW,hd1,Nat.pow_succ,yan,hBB];simp only[yak,Nat.add_assoc]
end Go.Proofs
namespace Go.Proofs
open Go Go.Am
variable [dC]
variable {t:Tr jA}
theorem zmr{lv:List Nat}{v:zA}{b bq m s L Lq U:Nat}{t0:Tr jA}{Q:cB}(hv:oA t0 1 (oC .u32 lv) v)(hl:lv.length=m+2)(hm:m<800000)(hlv:dB BB lv)(hbase:yA.base<=b)(hbaseq:yA.base<=bq)(hb:t0.get b=none)(hbq:t0.get bq=none)(hne:b≠bq)(hL:L<1000000)
  (htop:∀top,lv[m+1]?=some top->2147483648<=top) (hVpos:0<val BB lv)
  (hexit:∀t' q r Z,cA t0 t'->tF t' b .u32 (r++[0]++Z)->tF t' bq .u32 q->r.length=m+2->dB BB r->dB BB q->q.length=Lq->m+3+Z.length=L->val BB r<val BB lv->U=val BB lv*val BB q+val BB r->jp 316 6 [.int .i64 ((m+2:Nat):Int),.int .i64 (s:Int),.slice b 0 L L,.slice bq 0 Lq Lq,.int .i64 ((m+2:Nat):Int),.int .i64 0] t' Q) :
  ∀(j:Nat) (A c Z Qd:List Nat) (t':Tr jA),A.length=j->c.length=m+3->dB BB A->dB BB c->dB BB Qd->A.length+(m+3)+Z.length=L->j+1+Qd.length=Lq->val BB c<BB*val BB lv->cA t0 t'->tF t' b .u32 (A++c++Z)->tF t' bq .u32 (List.replicate (j+1) 0++Qd)->U=val BB lv*(BB^(j+1)*val BB Qd)+val BB (A++c) →
  jp 316 2 [.int .i64 ((m+2:Nat):Int),.int .i64 (s:Int),v,.slice b 0 L L,.slice bq 0 Lq Lq,.int .i64 (j:Int)] t' Q:=by
 intro j;induction j using Nat.strongRecOn with
 | ind j ih=>
  intro A c Z Qd t' hA hc hAl hcl hQl hLen hLq hlt ht ho hoq hU;have gs:=zt6 (b:=b) (L:=L) (lo:=j) (hi:=j+(m+2)+1) ho (by omega) (by omega) (by omega)
  rw[show j+(m+2)+1-j=m+3 by omega]at gs
  have e1:(j:Int)+((m+2:Nat):Int)=((j+(m+2):Nat):Int):=by omega
  have e2:((j+(m+2):Nat):Int)+1=((j+(m+2)+1:Nat):Int):=by omega
  refine z3h _ _ _ _ _ _ ?_
  simp only[ztg,pA,xF];rw[if_pos (by omega)]
  simp (disch:=omega) only[e1,fB,e2,gs,xA,q341]
  subst hA;refine z1i (A:=A) (Z:=Z) (t:=t') (t0:=t0) hv hl hm hlv hbase hb hc hcl (by omega) htop hlt ht (kD.refl _ _) ho (fun t2 r k1 k2 k3 k4 k5 k6 k7=>?_)
  have hoq2:=hoq.off (fun e=>hne e.symm) k2
  have g1:=sU kG (b:=bq) (n:=Lq) (cap:=Lq) (j:=A.length) (by omega)
  obtain⟨t3,s1,s2,s3⟩:=hoq2.store (C:=yA) hbaseq (j:=A.length) (by simp;omega) (val BB c / val BB lv) wH rfl
  have hset:(List.replicate (A.length+1) 0++Qd).set A.length (val BB c / val BB lv)=List.replicate A.length 0++((val BB c / val BB lv)::Qd):=by
   rw[List.replicate_succ',yba];rw[List.set_append_right _ _ (by simp)]
   simp
  rw[hset]at s2;rw[yB,xA,g1,xA];intro _ _ _;rw[s1,xA];have ho3:=k3.off hne s3
  have ht3:=k1.off hbq s3
  have hr:val BB r<val BB lv:=by rw[k6];exact ybz _ hVpos
  have hdm:=ybi (val BB c) (val BB lv)
  have hU2:U=val BB lv*(BB^A.length*val BB ((val BB c / val BB lv)::Qd))+val BB (A++r):=by
   rw[hU,bU,bU];show _=val BB lv*(BB^A.length*((val BB c / val BB lv)+BB*val BB Qd))+_
   rw[k6];generalize val BB c / val BB lv=d at hdm ⊢
   generalize val BB c%val BB lv=z at hdm ⊢
   rw[<- hdm,Nat.pow_succ];generalize BB^A.length=P
   rw[yan P,yan,yan (val BB lv) (P*d),yak P BB,<- yak P (val BB lv),yai P (val BB lv),yak (val BB lv) P d]
   omega
  rcases hA:A.length with _ | j'
  ·have hnil:A=[]:=List.eq_nil_of_length_eq_zero hA
   subst hnil;refine z3h _ _ _ _ _ _ ?_
   have e3:((0:Nat):Int)-1 = -1:=by omega
   rw[e3];simp only[ztg,pA,xF];rw[if_neg (by omega)]
   refine hexit t3 _ r Z ht3 (by simpa using ho3) (by simpa using s2) k4 k5 (fun x hx=>?_) (by simp at hLq ⊢;omega) (by simp at hLen;omega) hr (by simpa using hU2)
   rcases yat.1 hx with rfl | hx
   ·exact k7
   ·exact hQl x hx
  ·obtain⟨x,hx⟩:=getElem?_of_lt (l:=A) (i:=j') (by omega)
   have hAx:A=A.take j'++[x]:=by
    rw[<- vR hx,ybb (by omega)]
   have hxB:x<BB:=bI hAl hx
   have e3:((j'+1:Nat):Int)-1=(j':Int):=by omega
   rw[e3];have hvx:val BB (x::r)=x+BB*val BB r:=rfl
   refine ih j' (by omega) (A.take j') (x::r) (0::Z) ((val BB c / val BB lv)::Qd) t3 (by simp;omega) (by simp[k4]) (bR hAl _) (fun y hy=>?_) (fun y hy=>?_) (by simp;omega) (by simp;omega) ?_ ht3 ?_ ?_ ?_
   ·rcases yat.1 hy with rfl | hy
    ·exact hxB
    ·exact k5 y hy
   ·rcases yat.1 hy with rfl | hy
    ·exact k7
    ·exact hQl y hy
   ·rw[hvx]
    have:=yaw BB hr
    rw[Nat.mul_succ]at this;omega
   ·have:A.take j'++x::r++0::Z=A++(r++[0])++Z:=by
     conv=>rhs;rw[hAx]
     simp
    rw[this];exact ho3
   ·rw[<- hA];exact s2
   ·rw[hU2,hA]
    have:A++r=A.take j'++x::r:=by
     conv=>lhs;rw[hAx]
     simp
    rw[this]
end Go.Proofs
namespace Go.Am
theorem zxl{a b q R p:Nat}(hp:0<p)(h:a*p=b*p*q+R)(hR:R<b*p):a=b*q+R / p/\R / p<b:=by
 have h1:p ∣ R:=(Nat.dvd_add_right (⟨b*q,by rw[yai b p,yak]⟩:p ∣ b*p*q)).1 (h ▸ ⟨a,yai a p⟩)
 obtain⟨R',rfl⟩:=h1
 rw[Nat.mul_div_cancel_left _ hp];refine⟨Nat.eq_of_mul_eq_mul_left hp ?_,Nat.lt_of_mul_lt_mul_left (a:=p) ?_⟩
 ·rw[yai p a,h,yan,yai b p,yak]
 ·rw[yai p b];exact hR
theorem div_v{B p K n top:Nat}{b rb:List Nat}(hB:B=p*K)(hp:0<p)(hlt:dB B b)(hl:b.length=n+1)(htop:b[n]?=some top)(ht:top*p<B)(hbig:B<=2*(top*p))(hrl:dB B rb)(hrb:rb.length=n+2)(hv:val B rb=val B b*p) :
  val B (rb.take (n+1))=val B b*p/\∀x,(rb.take (n+1))[n]?=some x->B<=2*x:=by
 have hB0:0<B:=by omega
 have hbv:val B b=val B (b.take n)+B^n*top:=by
  have:=jT B b n
  rw[this,gM htop,yau (by omega)]
  have:(b.take n).length=n:=by simp;omega
  rw[this];simp[val]
 have hlow:val B (b.take n)<B^n:=by
  have:=uM hB0 (bR hlt n)
  have h:(b.take n).length=n:=by simp;omega
  rw[h]at this;exact this
 have hK:top<K:=by
  rw[hB,yai p K]at ht;exact Nat.lt_of_mul_lt_mul_right ht
 have hup:val B b*p<B^(n+1):=by
  have h1:val B b<B^n*(top+1):=by rw[hbv,yan];omega
  have h2:B^n*(top+1)<=B^n*K:=yaw _ hK
  have h3:val B b*p<B^n*K*p:=Nat.mul_lt_mul_of_pos_right (by omega) hp
  have h4:B^n*K*p=B^(n+1):=by rw[Nat.pow_succ,yak,yai K p,<- hB]
  omega
 have hsplit:=jT B rb (n+1)
 have htl:(rb.take (n+1)).length=n+1:=by simp;omega
 rw[htl]at hsplit;have hz:val B (rb.drop (n+1))=0:=by
  rcases Nat.eq_zero_or_pos (val B (rb.drop (n+1)))with h | h
  ·exact h
  ·exfalso
   have:=yaw (B^(n+1)) h
   rw[Nat.mul_one]at this;omega
 have hval:val B (rb.take (n+1))=val B b*p:=by rw[hz]at hsplit;omega
 refine⟨hval,fun x hx=>?_⟩
 have h1:val B (rb.take (n+1))=val B ((rb.take (n+1)).take n)+B^n*x:=by
  have:=jT B (rb.take (n+1)) n
  rw[this,gM hx,yau (by omega)]
  have h:((rb.take (n+1)).take n).length=n:=by simp;omega
  rw[h];simp[val]
 have h2:val B ((rb.take (n+1)).take n)<B^n:=by
  have:=uM hB0 (bR (bR hrl (n+1)) n)
  have h:((rb.take (n+1)).take n).length=n:=by simp;omega
  rw[h]at this;exact this
 have h3:B^n*(top*p)<=val B b*p:=by
  rw[hbv,yap,yak];omega
 have h4:B^n*(top*p)<B^n*(x+1):=by rw[yan];omega
 have h5:top*p<x+1:=Nat.lt_of_mul_lt_mul_left h4
 omega
theorem div_u{B p n j:Nat}{a b ru:List Nat}(hB0:0<B)(hal:dB B a)(hb:B^n<=val B b)(hj:a.length=j+(n+1))(hru:ru.length=a.length+1)(hp:0<p)(hv:val B ru=val B a*p):val B (ru.drop j)<B*(val B b*p):=by
 have h1:=jT B ru j
 have htl:(ru.take j).length=j:=by simp;omega
 rw[htl]at h1;have h2:val B a<B^(j+(n+1)):=by rw[<- hj];exact uM hB0 hal
 have h3:val B a*p<B^(j+(n+1))*p:=Nat.mul_lt_mul_of_pos_right h2 hp
 have h4:B^(j+(n+1))*p=B^j*(B*(B^n*p)):=by
  rw[Nat.pow_add,Nat.pow_succ,yai (B^n) B,yak,yak]
 have h5:B^j*val B (ru.drop j)<B^j*(B*(B^n*p)):=by omega
 have h6:=Nat.lt_of_mul_lt_mul_left h5
 have h7:B*(B^n*p)<=B*(val B b*p):=yaw _ (yaj _ hb)
 omega
end Go.Am
namespace Go.Proofs
open Go Go.Am
variable [dC]
variable {t:Tr jA}
theorem ze7{l:List Nat}{b L hi:Nat}(ho:tF t b .u32 l)(h2:hi<=L)(h3:0<L) :
  yH yA 305 ⟨0,t⟩ (.slice b 0 L L) none (some (.int .i64 (hi:Int)))=some (.slice b 0 hi L):=by
 obtain⟨c,hg,_⟩:=ho
 obtain⟨⟨y,hy1,hy2⟩,⟨z,hz1,hz2,hz3⟩⟩:=kG
 unfold yH;rw[hy1,sA];have hb:∀y (k:Nat),fR y (.int .i64 (k:Int))=sB (Nat.ble k y) (some k):=fun y k=>rfl
 unfold pK;simp only[zA.asStr,zA.asSlice];rw[hy2,sA];unfold rL;rw[hz1,sA];unfold fN zd6;simp only[hb];rw[show Nat.ble hi L=true from cE.2 h2];simp only[qF,sA]
 have he2:aH ⟨0,t⟩ b z.size L 0 false=false:=by
  unfold aH nD;rw[hg,sA];rfl
 rw[he2,Bool.and_false,cond_false];have hf:lH ⟨0,t⟩ b z.size L 0 false=true:=by
  unfold lH nD;rw[hg,sA];rfl
 rw[show Nat.ble hi L=true from cE.2 h2,hf];simp only[Bool.and_self,qF];have hq:Nat.beq L 0=false:=by
  cases hq:Nat.beq L 0 with
  | true=>have:=zC.1 hq;omega
  | false=>rfl
 rw[hq,cond_false,Nat.zero_mul];rfl
theorem zqf{b o n c:Nat}:same 10 (.slice b o n c) (.slice b o n c)=true:=by
 simp[same]
theorem zmq{q W Z:List Nat}{b bq n s L Lq:Nat}{Q:cB}(ho:tF t b .u32 (W++[0]++Z))(hoq:tF t bq .u32 q)(hW:W.length=n)(hn:n<1000000)(hL:n+1+Z.length=L)(hq:q.length=Lq)(hLq:Lq<1000000)
  (hQ:∀qv rv,oA t 1 (oC .u32 (nF q)) qv->oA t 1 (oC .u32 (nF W)) rv->Q (.tup [qv,rv]) t) :
  jp 316 6 [.int .i64 (n:Int),.int .i64 (s:Int),.slice b 0 L L,.slice bq 0 Lq Lq,.int .i64 (n:Int),.int .i64 (n:Int)] t Q:=by
 have e1:=ze7 (L:=L) (hi:=n) ho (by omega) (by omega)
 have e2:oA t 1 (oC .u32 W) (.slice b 0 n L):=by
  have:=ho.slice (off:=0) (n:=n) (cap:=L) (by simp;omega) (by omega)
  rw[ybs,yba,List.take_left' hW]at this;exact this
 have e3:oA t 1 (oC .u32 q) (.slice bq 0 Lq Lq):=by
  have:=hoq.all (cap:=Lq) (by omega)
  rw[hq]at this;exact this
 obtain⟨qv,f1,f2⟩:=eT (by omega) e3
 obtain⟨rv,f3,f4⟩:=eT (by omega) e2
 refine z3g _ _ _ _ _ _ ?_
 simp only[ztf,pA,mB];rw[if_neg (by omega)]
 simp only[e1,xA,q313,f1,f3];rw[zqf];exact hQ qv rv f2 f4
theorem zj5{a b:List Nat}{u v:zA}{Q:cB}(hu:oA t 1 (oC .u32 a) u)(hv:oA t 1 (oC .u32 b) v)(ha:a.length<700000)(hal:dB BB a)(hbl:dB BB b)(han:norm a)(hbn:norm b)(hb0:b≠[])
  (hQ:∀t' q r qv rv,cA t t'->oA t' 1 (oC .u32 q) qv->oA t' 1 (oC .u32 r) rv->dB BB q->dB BB r->norm q->norm r->val BB a=val BB b*val BB q+val BB r->val BB r<val BB b->Q (.tup [qv,rv]) t') :
  Wc yA F 316 [u,v] t Q:=by
 have hBB:=uL
 have hB1:1<BB:=by omega
 have hlt:=zxx hB1 hal hbl han hbn
 refine w316 _ _ ?_
 simp only[t316,pA,q314,z34 (by omega) hu hv,xA,yB,mB]
 by_cases hc:vK a b<0
 ·rw[if_pos hc]
  simp only[q339];refine z1s hu (by omega) fun t' v' h1 h2=>?_
  exact hQ t' [] a _ _ h1 ⟨[],.inl ⟨rfl,rfl⟩,by simp[oC,kC]⟩ h2 (fun x hx=>by cases hx) hal (fun h=>absurd rfl h) han (by simp[val]) (hlt.1 hc)
 ·rw[if_neg hc]
  have hge:val BB b<=val BB a:=Nat.le_of_not_lt fun h=>hc (hlt.2 h)
  have hlen:b.length<=a.length:=zP hB1 hal hbn hge
  simp only[hv.len,xA,yB,uI,cD];by_cases h1:b.length=1
  ·rw[if_pos (by omega)]
   obtain⟨d,rfl⟩:∃d,b=[d]:=by
    match b,h1 with
    | [d],_=>exact⟨d,rfl⟩
   have hd:d<4294967296:=by have:=hbl d (by simp);omega
   have hd0:0<d:=by have:=hbn (by simp);simp at this;omega
   obtain⟨c,off,g1,g2⟩:=hv.idx kG (i:=0) (x:=d) rfl
   have g1':zB yA 305 v (.int .i64 0)=some (.ptr c off):=g1
   simp only[g1',g2,xA,yB,q321];refine zxk hu (by omega) (by rw[<- hBB];exact hal) hd hd0 fun t' v' q r k1 k2 k3 k4 k5 k6=>?_
   simp only[vC,zA.asTup,sA,vE,yaa,yab,xA,yB];intro b' hb' _;obtain⟨H',m1,m2,m3⟩:=z50 (k:=.u32) gO rfl wH rfl rfl r trivial hb'
   have hR:=m2.all (cap:=1) (by simp)
   obtain⟨rv,f1,f2⟩:=eT (by simp) hR
   have f1':rD yA F 313 [.slice b' 0 1 1] H'.t=some rv:=f1
   rw[m1];simp only[xA,q313,f1'];rw[<- hBB]at k3 k6;have hrl:dB BB [r]:=fun x hx=>by rw[yce.1 hx];omega
   refine hQ H'.t (nF q) (nF [r]) v' rv (k1.trans m3) (k2.mono m3) f2 (aR k3) (aR hrl) (nR _) (nR _) ?_ ?_
   ·rw[dP,dP];simp only[val];rw[k6,yai];simp
   ·rw[dP];simp only[val];omega
  ·rw[if_neg (by omega)]
   have hbpos:0<b.length:=List.length_pos_iff.2 hb0
   obtain⟨m,hm⟩:∃m,b.length=m+2:=⟨b.length-2,by omega⟩
   obtain⟨j,hj⟩:∃j,a.length=j+(m+2):=⟨a.length-(m+2),by omega⟩
   obtain⟨top,htop⟩:=getElem?_of_lt (l:=b) (i:=m+1) (by omega)
   have htlt:top<4294967296:=by have:=bI hbl htop;omega
   have ht0:0<top:=by
    have:=hbn hb0
    have hlast:b.getLast hb0=top:=by
     rw[List.getLast_eq_getElem];have:b[b.length-1]?=some top:=by rw[hm];exact htop
     exact(yad.1 this).2
    omega
   obtain⟨s,hs,hs1,hs2,hs3⟩:=zvk (t:=t) htlt ht0
   obtain⟨c,off,g1,g2⟩:=hv.idx kG htop
   have eb:((m+2:Nat):Int)-1=((m+1:Nat):Int):=by omega
   simp (disch:=omega) only[hm,eb,fB,g1,g2,xA,yB,q337,hs3,q340]
   refine zfa hv (by omega) (by rw[<- hBB];exact hbl) hs fun t1 b1 rb k1 k2 k3 k4 k5 k6 k7=>?_
   rw[<- hBB]at k6 k7;rw[hm]at k5 ⊢
   have hK:BB=2^s*2^(32-s):=by rw[<- Nat.pow_add,show s+(32-s)=32 by omega,hBB]
   have hp:0<2^s:=Nat.pow_pos (by decide)
   obtain⟨w1,w2⟩:=div_v (n:=m+1) hK hp hbl hm htop (by omega) (by omega) k6 k5 k7
   have e1:=ze7 (L:=m+2+1) (hi:=m+2) k4 (by omega) (by omega)
   have hv1:oA t1 1 (oC .u32 (rb.take (m+2))) (.slice b1 0 (m+2) (m+2+1)):=by
    have:=k4.slice (off:=0) (n:=m+2) (cap:=m+2+1) (by omega) (by omega)
    rw[ybs]at this;exact this
   simp only[e1,xA];refine zfa (hu.mono k1) (by omega) (by rw[<- hBB];exact hal) hs fun t2 b2 ra n1 n2 n3 n4 n5 n6 n7=>?_
   rw[<- hBB]at n6 n7;rw[hj]at n5 ⊢
   have ea:((j+(m+2):Nat):Int)-((m+2:Nat):Int)=(j:Int):=by omega
   have ea2:(j:Int)+1=((j+1:Nat):Int):=by omega
   simp (disch:=omega) only[hu.len,uI,hj,xA,yB,ea,ea2,fB]
   intro bq hbq hbaseq;obtain⟨t3,p1,p2,p3,p4⟩:=uU (C:=yA) (k:=.u32) gO rfl wH rfl rfl (by decide) (n:=j+1) (by omega) hbq
   rw[p1];have el:uB (.slice bq 0 (j+1) (j+1))=some (.int .i64 ((j+1:Nat):Int)):=rfl
   have el2:((j+1:Nat):Int)-1=(j:Int):=by omega
   simp (disch:=omega) only[xA,el,yB,el2,fB]
   have hne:b2≠bq:=by
    intro e;obtain⟨c,hc1,_⟩:=n4
    rw[e,hbq]at hc1
    cases hc1
   have hbq1:t1.get bq=none:=by
    cases hg:t1.get bq with
    | none=>rfl
    | some x=>rw[n1 _ _ hg]at hbq;cases hbq
   have hVpos:0<val BB (rb.take (m+2)):=by
    rw[w1];refine Nat.mul_pos ?_ hp
    have:=zse (B:=BB) hbn hb0
    have h2:0<BB^(b.length-1):=Nat.pow_pos nH
    omega
   have hbge:BB^(m+1)<=val BB b:=by
    have:=zse (B:=BB) hbn hb0
    rw[hm]at this;exact this
   have hcl:=div_u (n:=m+1) (j:=j) (p:=2^s) nH hal hbge (by omega) (by omega) hp n7
   have hta:ra.take j++ra.drop j=ra:=List.take_append_drop _ _
   refine zmr (U:=val BB ra) hv1 (by simp;omega) (by omega) (bR k6 _) n3 hbaseq n2 hbq1 hne (by omega) (fun x hx=>by have:=w2 x hx;omega) hVpos (fun t4 q r Z z1 z2 z3 z4 z5 z6 z7 z8 z9 z10=>?_) j (ra.take j) (ra.drop j) [] [] t3 (by simp;omega) (by simp;omega) (bR n6 _) (zrs n6 _) (fun x hx=>by cases hx) (by simp;omega) (by simp) ?_ (n1.trans p3) ?_ (by simpa using p2) ?_
   ·have hcl2:dB BB (r++[0]):=tT z5 nH
    refine zib (t:=t4) (Z:=Z) (c:=r++[0]) (cn:=0) (by omega) (by simp[z4]) hcl2 (by rw[<- z4];simp) n3 hs (by omega) (fun t5 W y1 y2 y3 y4 y5=>?_) (m+2) 0 t4 [] (by omega) (kD.refl _ _) (by simpa using z2) rfl (fun x hx=>by cases hx) (by rw[ybs,Nat.pow_zero,Nat.one_mul];exact yax _)
    have y6:val BB W=val BB r / 2^s:=by
     rw[eL,Nat.mul_zero,ybu,Nat.zero_div,Nat.mul_zero,ybu]at y5;exact y5
    rw[w1]at z9 z10;rw[n7]at z10;obtain⟨x1,x2⟩:=zxl hp z10 z9
    refine zmq y2 (z3.off (fun e=>hne e.symm) y1) y3 (by omega) (by omega) z7 (by omega) fun qv rv x3 x4=>?_
    have ht5:cA t t5:=k1.trans (z1.off n2 y1)
    exact hQ t5 (nF q) (nF W) qv rv ht5 x3 x4 (aR z6) (aR y4) (nR _) (nR _) (by rw[dP,dP,y6];exact x1) (by rw[dP,y6];exact x2)
   ·rw[w1];exact hcl
   ·rw[hta,ybe];exact n4.tle p3
   ·have hv0:val BB ([]:List Nat)=0:=rfl
    rw[hta,hv0,Nat.mul_zero,Nat.mul_zero,yax]
end Go.Proofs
namespace Go.Am
def wd (l:List Nat)(i:Nat):Nat:=(l[i]?).getD 0
theorem zkx{B:Nat}(hB:0<B){l:List Nat}(h:dB B l)(i:Nat):wd l i<B:=by
 unfold wd
 cases hx:l[i]? with
 | none=>exact hB
 | some x=>exact bI h hx
theorem wW(B:Nat)(l:List Nat)(i:Nat):val B (l.take (i+1))=val B (l.take i)+B^i*wd l i:=by
 unfold wd
 cases hx:l[i]? with
 | none=>
  have:=List.getElem?_eq_none_iff.1 hx
  rw[ybb (by omega),ybb (by omega)]
  simp
 | some x=>
  have hi:=(yad.1 hx).1
  rw[vR hx,eL];have:(l.take i).length=i:=by simp;omega
  rw[this];rfl
theorem zxo{B P u v Va Vb w x y bo ai bi x' y' lx ly bo' W:Nat}(h:W+P*x+v*Vb=u*Va+P*(y+bo))(hx:B*x'+lx=x+u*ai)(hy:B*y'+ly=y+v*bi)(hw:lx+B*bo'=w+ly+bo) :
  (W+P*w)+P*B*x'+v*(Vb+P*bi)=u*(Va+P*ai)+P*B*(y'+bo'):=by
 have e:P*(x+u*ai+B*y'+B*bo')=P*(w+B*x'+y+v*bi+bo):=congrArg (P * ·) (by omega)
 have e1:v*(P*bi)=P*(v*bi):=Nat.mul_left_comm _ _ _
 have e2:u*(P*ai)=P*(u*ai):=Nat.mul_left_comm _ _ _
 simp only[yan,yak]at e h ⊢
 rw[e1,e2];omega
theorem z1l{P W x z X Y:Nat}(h:W+P*x+Y=X+P*z)(hW:W<P)(hX:X<P)(hle:Y<=X):W=X-Y:=by
 rcases Nat.lt_trichotomy x z with g | g | g
 ·have:=yaw P g
  rw[Nat.mul_succ]at this;omega
 ·rw[g]at h;omega
 ·have:=yaw P g
  rw[Nat.mul_succ]at this;omega
theorem zpo{B u x a:Nat}(hx:x<=u)(ha:a<B):(x+u*a) / B<=u:=by
 have h:x+u*a<=u*B:=by
  have:=yaw u (Nat.succ_le_of_lt ha)
  rw[Nat.mul_succ]at this;omega
 exact Nat.div_le_of_le_mul (by rw[yai B];exact h)
end Go.Am
namespace Go.Proofs
open Go Go.Am
variable [dC]
variable {t:Tr jA}
theorem zoi{x u a:Nat}(hx:x<=u)(hu:u<4294967296)(ha:a<4294967296):vA .u64 ((x:Int)+vA .u64 ((u:Int)*vA .u64 (a:Int)))=((x+u*a:Nat):Int):=by
 have h:u*a<=4294967295*4294967295:=ycc (by omega) (by omega)
 rw[bF (n:=(a:Int)) (by omega) (by omega),<- Int.natCast_mul]
 generalize u*a=z at h ⊢
 rw[bF (n:=(z:Int)) (by omega) (by omega),bF (by omega) (by omega)]
 omega
theorem zrg{la lb:List Nat}{pa pb w:zA}{u v x y bo n i:Nat}{Q:cB}(ha:oA t 1 (oC .u32 la) pa)(hb:oA t 1 (oC .u32 lb) pb)(hal:dB BB la)(hbl:dB BB lb)(hu:u<4294967296)(hv:v<4294967296)(hx:x<=u)(hy:y<=v)(hi:i<n)
  (h:jp 317 21 [.int .u64 (u:Int),pa,.int .u64 (v:Int),pb,w,.int .u64 ((x+u*wd la i:Nat):Int),.int .u64 ((y+v*wd lb i:Nat):Int),.int .u32 (bo:Int),.int .i64 (i:Int),.int .i64 (n:Int),.int .i64 (i:Int)] t Q) :
  jp 317 2 [.int .u64 (u:Int),pa,.int .u64 (v:Int),pb,w,.int .u64 (x:Int),.int .u64 (y:Int),.int .u32 (bo:Int),.int .i64 (n:Int),.int .i64 (i:Int)] t Q:=by
 have hBB:=uL
 have second:jp 317 17 [.int .u64 (u:Int),pa,.int .u64 (v:Int),pb,w,.int .u64 ((x+u*wd la i:Nat):Int),.int .u64 (y:Int),.int .u32 (bo:Int),.int .i64 (i:Int),.int .i64 (n:Int),.int .i64 (i:Int)] t Q:=by
  refine z6d _ _ _ _ _ _ _ _ _ _ _ ?_
  simp only[zte,pA,hb.len,xA,yB,uI,mB];by_cases hlen:i<lb.length
  ·obtain⟨z,hz⟩:=getElem?_of_lt hlen
   have hz32:z<4294967296:=by have:=bI hbl hz;omega
   obtain⟨c,off,g1,g2⟩:=hb.idx kG hz
   rw[if_pos (by omega)]
   simp only[g1,g2,xA,yB];rw[zoi hy hv hz32];have:wd lb i=z:=by unfold wd;rw[hz];rfl
   rw[this]at h;exact h
  ·rw[if_neg (by omega)]
   have:wd lb i=0:=by unfold wd;rw[List.getElem?_eq_none (by omega)];rfl
   rw[this,Nat.mul_zero,ybu]at h;exact h
 refine z3f _ _ _ _ _ _ _ _ _ _ ?_
 simp only[ztd,pA,mB];rw[if_pos (by omega)]
 simp only[ha.len,xA,yB,uI];by_cases hlen:i<la.length
 ·obtain⟨z,hz⟩:=getElem?_of_lt hlen
  have hz32:z<4294967296:=by have:=bI hal hz;omega
  obtain⟨c,off,g1,g2⟩:=ha.idx kG hz
  rw[if_pos (by omega)]
  simp only[g1,g2,xA,yB];rw[zoi hx hu hz32];have:wd la i=z:=by unfold wd;rw[hz];rfl
  rw[this]at second;exact second
 ·rw[if_neg (by omega)]
  have:wd la i=0:=by unfold wd;rw[List.getElem?_eq_none (by omega)];rfl
  rw[this,Nat.mul_zero,ybu]at second;exact second
end Go.Proofs
