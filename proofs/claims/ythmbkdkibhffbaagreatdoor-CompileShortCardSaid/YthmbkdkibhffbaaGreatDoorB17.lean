/- The translator: an operation's instruction. -/
import Derived.Test.YthmbkdkibhffbaaGreatDoorB16
set_option linter.all false
noncomputable section
set_option maxRecDepth 100000
namespace Go.Proofs
open Go Go.Am
variable [zcg]
variable {t tf : Tr zam} {r : TR} {s : XSt}
def XSt.nt (s : XSt) : Nt := ⟨s.names, s.consts⟩
def XSt.put (s : XSt) (n : Nt) (l : List XIns) : XSt := ⟨n.names, n.consts, s.ws, s.ts, s.code ++ l⟩
theorem zzgl (s : XSt) (n : List Nat) : s.nt.name n = ⟨addN s.names n, s.consts⟩ := by
 unfold Nt.name addN XSt.nt; split <;> rfl
theorem z06 (s : XSt) (v : zc3) : s.nt.const za9 v = ⟨s.names, addC za9 s.consts v⟩ := by
 unfold Nt.const addC XSt.nt; split <;> rfl
theorem zv2 {x : zal} {a b c : zab} {Q : zav} (h : TS za9 tf t r s) (hx : x.fit) (hsh : x.op = 1 -> zc3.short x.v) (hn : s.names.length < 300000) (hc : s.consts.length < 300000) (hk : s.code.length < 300000)
  (ha : RSl tf 1 (zeb x.v.f.n.limbs) a) (hb : RSl tf 1 (zeb x.v.f.d.limbs) b) (hcc : RSl tf 9 (x.args.map zal.d) c)
  (hQ : ∀ tf' t' r', TLe tf tf' -> r'.b = r.b -> r'.kp = r.kp -> TS za9 tf' t' r' (s.put (zew za9 x.op x.name x.v x.args.length s.nt).1 [(zew za9 x.op x.name x.v x.args.length s.nt).2]) -> Q (.tup []) t') :
  Wc C19 F 170 [.ptr r.b 0, .agg (zcq x a b c)] t Q := by
 obtain ⟨op, name, v, args⟩ := x
 simp only [zal.op, zal.name, zal.v, zal.args] at ha hb hcc hQ hsh; unfold zal.fit at hx; obtain ⟨h1, h2, _, h3, h4, _⟩ := hx
 unfold zgc at h4; have w : zah .i64 (op : Int) = (op : Int) := zak (by omega) (by omega)
 have fin : ∀ {tf1 t1 : Tr zam} {r1 : TR} {s1 : XSt} {i : XIns} {Q' : zav}, TS za9 tf1 t1 r1 s1 -> r1.b = r.b -> s1.code.length < 300000 -> (∀ tf' t' r', TLe tf1 tf' -> r'.b = r1.b -> r'.kp = r1.kp -> TS za9 tf' t' r' (s1.put s1.nt [i]) -> Q' (.tup []) t') →
   Wq C19 F za3 168 [.ptr r.b 0, .int .u8 i.op, .int .i64 i.a, .int .i64 i.b] t1 fun _ t' => Q' (.tup []) t' := by
  intro tf1 t1 r1 s1 i Q' k1 k2 k3 k4; rw [zzd8, <- k2]; exact zou k1 k3 fun tf' t' r' v p1 p2 p3 p4 _ => k4 tf' t' r' p1 p2 p3 p4
 have nm : ∀ {K : Int -> Prop} {Q' : zav} {o : Nat} {y : Int}, (zew za9 op name v args.length s.nt) = (s.nt.name name, ⟨o, s.nt.nameI name, y⟩) →
   Wq C19 F za3 234 [.ptr r.b 0, .str name] t fun u t' => zee (zzci .i64 u) fun n => Wq C19 F za3 168 [.ptr r.b 0, .int .u8 o, .int .i64 n, .int .i64 y] t' fun _ t' => Q (.tup []) t' := by
  intro K Q' o y he; rw [q234]; refine zzgn h hn fun t1 r1 k1 k2 k3 => ?_
  rw [zag, zaa]; refine fin (i := ⟨o, _, y⟩) (Q' := Q) k3 k1 hk fun tf' t' r' p1 p2 p3 p4 => hQ tf' t' r' p1 (p2.trans k1) (p3.trans k2) ?_
  rw [he, zzgl]; exact p4
 refine w170 _ _ _ _ _ _ _ _ _ _ ?_
 have pos : ∀ {k : Nat} {x y : T} {Q : zav}, op = k -> wp 170 x t Q -> wp 170 (.ite (iEq (op : Int) (k : Int)) x y) t Q := fun h hx => zbn (zda.2 (by omega)) hx
 have neg : ∀ {k : Nat} {x y : T} {Q : zav}, op ≠ k -> wp 170 y t Q -> wp 170 (.ite (iEq (op : Int) (k : Int)) x y) t Q := fun h hy => zfe (fun e => absurd (zda.1 e) (by omega)) hy
 unfold t170; by_cases c1 : op = 1
 ·refine pos c1 ?_
  have he : zew za9 op name v args.length s.nt = (s.nt.const za9 v, ⟨1, s.nt.constI za9 v, 0⟩) := by unfold zew; rw [if_pos c1]
  simp only [wpT]; rw [q233]; refine zqz h hc h3 (hsh c1) ha hb fun tf1 t1 r1 k0 k1 k2 k3 => ?_
  rw [zag, zaa]; refine fin (i := ⟨1, _, 0⟩) (Q' := Q) k3 k1 hk fun tf' t' r' p1 p2 p3 p4 => hQ tf' t' r' (k0.trans p1) (p2.trans k1) (p3.trans k2) ?_
  rw [he, z06]; exact p4
 ·refine neg c1 ?_
  by_cases c2 : op = 2
  ·refine pos c2 ?_
   have he : zew za9 op name v args.length s.nt = (s.nt, ⟨2, 0, 0⟩) := by unfold zew; rw [if_neg c1, if_pos c2]
   simp only [wpT]; refine fin (i := ⟨2, 0, 0⟩) (Q' := Q) h rfl hk fun tf' t' r' p1 p2 p3 p4 => hQ tf' t' r' p1 p2 p3 ?_
   rw [he]; exact p4
  ·refine neg c2 ?_
   have h345 : ∀ (o : Nat), op = o -> (o = 3 \/ o = 4 \/ o = 5) -> zew za9 op name v args.length s.nt = (s.nt.name name, ⟨o, s.nt.nameI name, 0⟩) := by
    intro o e1 e2; unfold zew; rw [if_neg c1, if_neg c2, if_pos (by omega), e1]
   by_cases c3 : op = 3
   ·refine pos c3 ?_
    simp only [wpT]; exact nm (K := fun _ => True) (Q' := Q) (h345 3 c3 (by omega))
   ·refine neg c3 ?_
    by_cases c4 : op = 4
    ·refine pos c4 ?_
     simp only [wpT]; exact nm (K := fun _ => True) (Q' := Q) (h345 4 c4 (by omega))
    ·refine neg c4 ?_
     by_cases c5 : op = 5
     ·refine pos c5 ?_
      simp only [wpT]; exact nm (K := fun _ => True) (Q' := Q) (h345 5 c5 (by omega))
     ·refine neg c5 ?_
      by_cases c6 : op = 6
      ·refine pos c6 ?_
       have he : zew za9 op name v args.length s.nt = (s.nt.name name, ⟨6, s.nt.nameI name, args.length⟩) := by unfold zew; rw [if_neg c1, if_neg c2, if_neg (by omega), if_pos c6]
       simp only [wpT]; rw [hcc.len, zaa, yag, zag, zaa]; simp only [zaa, hcc.same, zd6, if_true]; exact nm (K := fun _ => True) (Q' := Q) he
      ·refine neg c6 ?_
       have h8 : (op = 21 \/ op = 22 \/ op = 23) -> zew za9 op name v args.length s.nt = (s.nt.name name, ⟨8, s.nt.nameI name, op⟩) := by
        intro e; unfold zew; rw [if_neg c1, if_neg c2, if_neg (by omega), if_neg c6, if_pos e]
       by_cases c21 : op = 21
       ·refine pos c21 (pos c21 ?_)
        simp only [wpT, zal.op, zal.name, zal.v, zal.args, w, zd6, if_true]; exact nm (K := fun _ => True) (Q' := Q) (h8 (by omega))
       ·refine neg c21 ?_
        by_cases c23 : op = 23
        ·refine pos c23 (pos c23 ?_)
         simp only [wpT, zal.op, zal.name, zal.v, zal.args, w, zd6, if_true]; exact nm (K := fun _ => True) (Q' := Q) (h8 (by omega))
        ·refine neg c23 ?_
         by_cases c22 : op = 22
         ·refine pos c22 ?_
          simp only [wpT, zal.op, zal.name, zal.v, zal.args, w, zd6, if_true]; exact nm (K := fun _ => True) (Q' := Q) (h8 (by omega))
         ·refine neg c22 ?_
          by_cases c19 : op = 19
          ·refine pos c19 ?_
           have he : zew za9 op name v args.length s.nt = (s.nt, ⟨7, 19, v.i⟩) := by unfold zew; rw [if_neg c1, if_neg c2, if_neg (by omega), if_neg c6, if_neg (by omega), if_pos c19]
           simp only [wpT, zal.op, zal.name, zal.v, zal.args, w]; refine fin (i := ⟨7, (op : Int), v.i⟩) (Q' := Q) h rfl hk fun tf' t' r' p1 p2 p3 p4 => hQ tf' t' r' p1 p2 p3 ?_
           rw [he]; subst c19; exact p4
          ·refine neg c19 ?_
           have he : zew za9 op name v args.length s.nt = (s.nt, ⟨7, op, 0⟩) := by unfold zew; rw [if_neg c1, if_neg c2, if_neg (by omega), if_neg c6, if_neg (by omega), if_neg c19]
           simp only [wpT, zal.op, zal.name, zal.v, zal.args, w]; refine fin (i := ⟨7, (op : Int), 0⟩) (Q' := Q) h rfl hk fun tf' t' r' p1 p2 p3 p4 => hQ tf' t' r' p1 p2 p3 ?_
           rw [he]; exact p4
end Go.Proofs
namespace Go.Am
mutual
def zbb : zal -> Nat
 | .mk _ _ _ args => 1 + zc8 args
def zc8 : List zal -> Nat
 | [] => 0
 | x :: l => zbb x + zc8 l
end
section
variable {key : zc3 -> List Nat} {valid : zc3 -> Bool}
def zrg (f : Tr1) (n : Nat) : Prop := ∀ s p, (f s p).2.length <= 4 * n /\ (f s p).1.names.length <= s.names.length + n /\ (f s p).1.consts.length <= s.consts.length + n
theorem zzb1 (s : Nt) (n : List Nat) : (s.name n).names.length <= s.names.length + 1 /\ (s.name n).consts = s.consts := by
 unfold Nt.name; split <;> simp
theorem zw2 (s : Nt) (v : zc3) : (s.const key v).consts.length <= s.consts.length + 1 /\ (s.const key v).names = s.names := by
 unfold Nt.const; split <;> simp
theorem z67 (op : Nat) (name : List Nat) (v : zc3) (n : Nat) (s : Nt) : (zew key op name v n s).1.names.length <= s.names.length + 1 /\ (zew key op name v n s).1.consts.length <= s.consts.length + 1 := by
 have h1 := zzb1 s name
 have h2 := zw2 (key := key) s v
 unfold zew; split
 ·simp only [h2.2]; omega
 ·split
  ·simp
  ·split
   ·simp only [h1.2]; omega
   ·split
    ·simp only [h1.2]; omega
    ·split
     ·simp only [h1.2]; omega
     ·split <;> simp
theorem zsa {f g : Tr1} {n m : Nat} {skip : Nat} {truth : Int} (hf : zrg f n) (hg : zrg g m) : zrg (zo1 key f g skip truth) (1 + (n + m)) := by
 intro s p; have h1 := hf s p
 have h2 := hg (f s p).1 (p + (f s p).2.length + 1)
 have h3 := zw2 (key := key) (g (f s p).1 (p + (f s p).2.length + 1)).1 (zf4 truth)
 unfold zo1; simp only [yah, yao, yay, h3.2]; omega
theorem zza8 {f g h : Tr1} {n m k : Nat} (hf : zrg f n) (hg : zrg g m) (hh : zrg h k) : zrg (ifT f g h) (1 + (n + (m + k))) := by
 intro s p; have h1 := hf s p
 have h2 := hg (f s p).1 (p + (f s p).2.length + 1)
 have h3 := hh (g (f s p).1 (p + (f s p).2.length + 1)).1 (p + (f s p).2.length + 1 + (g (f s p).1 (p + (f s p).2.length + 1)).2.length + 1)
 unfold ifT; simp only [yah, yao]; omega
theorem zpw : ∀ (l : List zal), (∀ x ∈ l, zrg (trX key valid x) (zbb x)) -> zrg (zi8 (trF key valid l)) (zc8 l)
 | [], _ => by intro s p; simp [trF, zi8, zc8]
 | x :: l, h => by
  intro s p; have h1 := h x (by simp) s p
  have h2 := zpw l (fun y hy => h y (by simp [hy])) (trX key valid x s p).1 (p + (trX key valid x s p).2.length)
  simp only [trF, zi8, zc8, yah]; omega
mutual
theorem zed : ∀ (x : zal), zrg (trX key valid x) (zbb x)
 | .mk op name v args => by
  have ih := zvh args
  intro s p; unfold trX zbb zq6; by_cases h0 : zds valid op v (trF key valid args).length = false
  ·simp only [if_pos h0, yao, yay]; omega
  ·simp only [if_neg h0]
   have h0 : zds valid op v (trF key valid args).length = true := by simpa using h0
   rw [zto] at h0; have hn := h0
   unfold zds at hn; simp only [yac, decide_eq_true_eq] at hn; by_cases h15 : op = 15
   ·simp only [if_pos h15]
    subst h15; have : args.length = 2 := by have h1 := hn.1.2; have h2 := hn.2; simp [zrc] at h1 h2; omega
    match args, this, ih with
    | [a, b], _, ih =>
     have := zsa (key := key) (skip := 10) (truth := 0) (ih a (by simp)) (ih b (by simp)) s p
     simp only [trF, zc8]; simpa using this
   ·simp only [if_neg h15]
    by_cases h16 : op = 16
    ·simp only [if_pos h16]
     subst h16; have : args.length = 2 := by have h1 := hn.1.2; have h2 := hn.2; simp [zrc] at h1 h2; omega
     match args, this, ih with
     | [a, b], _, ih =>
      have := zsa (key := key) (skip := 11) (truth := 1) (ih a (by simp)) (ih b (by simp)) s p
      simp only [trF, zc8]; simpa using this
    ·simp only [if_neg h16]
     by_cases h18 : op = 18
     ·simp only [if_pos h18]
      subst h18; have : args.length = 3 := by have h1 := hn.1.2; have h2 := hn.2; simp [zrc] at h1 h2; omega
      match args, this, ih with
      | [a, b, c], _, ih =>
       have := zza8 (ih a (by simp)) (ih b (by simp)) (ih c (by simp)) s p
       simp only [trF, zc8]; simpa using this
     ·simp only [if_neg h18]
      have h1 := zpw args ih s p
      have h2 := z67 (key := key) op name v (trF key valid args).length (zi8 (trF key valid args) s p).1
      simp only [yah, yao, yay]; omega
theorem zvh : ∀ (l : List zal), ∀ x ∈ l, zrg (trX key valid x) (zbb x)
 | [], x, h => by cases h
 | y :: l, x, h => by
  rcases yat.1 h with e | h
  ·rw [e]; exact zed y
  ·exact zvh l x h
end
end
end Go.Am
namespace Go.Proofs
open Go Go.Am
variable [zcg]
variable {t tf : Tr zam} {r : TR} {s : XSt}
mutual
theorem zn9 : ∀ (x : zal) (deep c : Nat), (zhc x deep c).1 = true -> (zhc x deep c).2 = c + zbb x
 | .mk op name v args, deep, c, h => by
  unfold zhc at h ⊢
  unfold zbb; split at h
  ·cases h
  ·rename_i h1
   rw [if_neg h1]; split at h
   ·cases h
   ·rename_i h2
    rw [if_neg h2, zoa args _ _ h]; omega
theorem zoa : ∀ (l : List zal) (deep c : Nat), (zhd l deep c).1 = true -> (zhd l deep c).2 = c + zc8 l
 | [], deep, c, h => by unfold zhd zc8; rfl
 | x :: l, deep, c, h => by
  unfold zhd at h ⊢
  unfold zc8; split at h
  ·rename_i h1
   rw [if_pos h1, zoa l _ _ h, zn9 x _ _ h1]; omega
  ·cases h
end
theorem zhb {x : zal} (h : zme x = true) : zbb x <= 200 := by
 have h1 := zn9 x 1 0 h
 have h2 := (zpy x 1 0 (by omega)).2 h
 omega
theorem zk2 {l : List zal} {v : zab} (hv : RSl tf 9 (l.map zal.d) v) (ht : TLe tf t) {i : Nat} {x : zal} (hx : l[i]? = some x) :
  ∃ b off a c d, zaf C19 48 v (.int .i64 (i : Int)) = some (.ptr b off) /\ zap C19 50 ⟨0, t⟩ (.ptr b off) = some (.agg (zcq x a c d)) /\ RD tf x.d (zcq x a c d) /\ zrd [(.int .u8 0), (.str []), (.int .u8 0), (.bool false), .nilslice, (.bool false), .nilslice, (.int .i64 0), .nilslice] (.agg (zcq x a c d)) = some (cellsOf (zcq x a c d)) ∧
   RSl tf 1 (zeb x.v.f.n.limbs) a /\ RSl tf 1 (zeb x.v.f.d.limbs) c /\ RSl tf 9 (x.args.map zal.d) d := by
 obtain ⟨b, off, a, c, d, g1, g2, g3, g4, g5, g6, g7⟩ := zun hv hx
 exact ⟨b, off, a, c, d, g1, zd0 (H := ⟨0, tf⟩) (fun _ _ h => ht _ _ h) g2, g3, g4, g5, g6, g7⟩
theorem zxy {v : zc3} (h : zao v = true) : zc3.short v := by
 have z : zro v.f = true -> zc3.short v := by
  intro h; unfold zro z6g z2u at h; simp only [yac, decide_eq_true_eq] at h; unfold zc3.short; rw [h.1.2, h.2.2]; simp
 have f : zl6 v.f = true -> zc3.short v := by
  intro h; unfold zl6 at h; simp only [yac, decide_eq_true_eq] at h; have h1 := h.1.1.1.1.1.1
  have h2 := h.1.1.1.1.1.2
  exact ⟨by omega, by omega⟩
 unfold zao at h; split at h
 ·simp only [yac] at h; exact f h.2
 ·split at h
  ·simp only [yac] at h; exact z h.1
  ·split at h
   ·simp only [yac] at h; exact z h.1
   ·split at h
    ·simp only [yac] at h; exact z h.1
    ·cases h
theorem zp2 {α : Type} {A B : List α} {x y : α} {n : Nat} (h : A.length = n) : (A ++ x :: B).set n y = A ++ y :: B := by
 subst h; rw [List.set_append_right _ _ (yal _), Nat.sub_self]; rfl
theorem zuj {α : Type} {A B : List α} {x : α} {n : Nat} (h : A.length = n) : (A ++ x :: B)[n]? = some x := by
 subst h; rw [yaq (yal _), Nat.sub_self]; rfl
def zlq (x : zal) : Prop := ∀ (cs : List zab) (t tf : Tr zam) (r : TR) (s : XSt) (Q : zav), x.fit -> z18 tf -> RD tf x.d cs -> TS za9 tf t r s -> s.code.length + 4 * zbb x < 300000 -> s.names.length + zbb x < 300000 -> s.consts.length + zbb x < 300000 →
 (∀ tf' t' r', TLe tf tf' -> r'.b = r.b -> r'.kp = r.kp -> TS za9 tf' t' r' (s.put (trX za9 zao x s.nt s.code.length).1 (trX za9 zao x s.nt s.code.length).2) -> Q (.tup []) t') -> Wc C19 F 104 [.ptr r.b 0, .agg cs] t Q
theorem zp6 {sz : Nat} : RSl t sz [] .nilslice := ⟨[], .inl ⟨rfl, rfl⟩, zbu.2 rfl⟩
theorem zm0 {a b : zal} {cs : List zab} {args : List zal} {op : Nat} {name : List Nat} {v : zc3} {u1 u2 u3 : zab} {skip : Nat} {truth : Int} {Q : zav} (hA : zlq a) (hB : zlq b) (hcs : cs = zcq (.mk op name v args) u1 u2 u3) (hargs : args = [a, b]) (hfa : a.fit) (hfb : b.fit) (hg : z18 tf) (hu : RSl tf 9 (args.map zal.d) u3) (h : TS za9 tf t r s)
  (htr : -9223372036854775808 <= truth /\ truth < 9223372036854775808) (b1 : s.code.length + 4 * (1 + (zbb a + zbb b)) < 300000) (b2 : s.names.length + (1 + (zbb a + zbb b)) < 300000) (b3 : s.consts.length + (1 + (zbb a + zbb b)) < 300000)
  (hQ : ∀ tf' t' r', TLe tf tf' -> r'.b = r.b -> r'.kp = r.kp -> TS za9 tf' t' r' (s.put (zo1 za9 (trX za9 zao a) (trX za9 zao b) skip truth s.nt s.code.length).1 (zo1 za9 (trX za9 zao a) (trX za9 zao b) skip truth s.nt s.code.length).2) -> Q (.tup []) t') :
  Wc C19 F 169 [.ptr r.b 0, .agg cs, .int .u8 (skip : Int), .agg [.int .u8 1, .bool false, .nilslice, .bool false, .nilslice, .int .i64 truth]] t Q := by
 subst hcs; refine w169 _ _ _ _ _ _ _ _ _ _ _ _ _ _ _ _ _ ?_
 simp only [t169, wpT, zal.op, zal.name, zal.v, zal.args]; obtain ⟨p, o, x1, x2, x3, g1, g2, g3, g4, _, _, _⟩ := zk2 hu h.os.tle (i := 0) (x := a) (by rw [hargs]; rfl)
 have g1 : zaf C19 48 u3 (.int .i64 0) = some (.ptr p o) := g1
 rw [g1, zaa, g2, zaa, g4, zaa]; simp only [zcq, cellsOf, zhu, zht, zc2, zet, yaa, yab]; rw [zzga]; have sa := zed (key := za9) (valid := zao) a s.nt s.code.length
 refine hA _ t tf r s _ hfa hg g3 h (by omega) (by omega) (by omega) fun tf1 t1 r1 k1 k2 k3 k4 => ?_
 generalize eR : trX za9 zao a s.nt s.code.length = R at *
 have sa1 : R.1.names.length <= s.names.length + zbb a := sa.2.1
 have sa2 : R.1.consts.length <= s.consts.length + zbb a := sa.2.2
 rw [zzd8, <- k2]; refine zou (i := ⟨skip, 0, 0⟩) k4 (by show (s.code ++ R.2).length < _; rw [yah]; omega) fun tf2 t2 r2 v2 m1 m2 m3 m4 m5 => ?_
 obtain ⟨p', o', y1, y2, y3, f1, f2, f3, f4, _, _, _⟩ := zk2 hu ((k1.trans m1).trans m4.os.tle) (i := 1) (x := b) (by rw [hargs]; rfl)
 have f1 : zaf C19 48 u3 (.int .i64 1) = some (.ptr p' o') := f1
 rw [f1, zaa, f2, zaa, f4, zaa]; simp only [zcq, cellsOf, zhu, zht, zc2, zet, yaa, yab]; rw [zzga, <- m2]; have e2 : (s.code ++ R.2 ++ [(⟨skip, 0, 0⟩ : XIns)]).length = s.code.length + R.2.length + 1 := by simp only [yah, yao, yay]
 have sb := zed (key := za9) (valid := zao) b R.1 (s.code.length + R.2.length + 1)
 refine hB _ t2 tf2 r2 _ _ hfb ((hg.mono k1).mono m1) (RD.mono (k1.trans m1) _ _ f3) m4 (by show (s.code ++ R.2 ++ [_]).length + _ < _; rw [e2]; omega) (by show R.1.names.length + _ < _; omega) (by show R.1.consts.length + _ < _; omega) fun tf3 t3 r3 n1 n2 n3 n4 => ?_
 have n4 : TS za9 tf3 t3 r3 (XSt.put ⟨R.1.names, R.1.consts, s.ws, s.ts, s.code ++ R.2 ++ [(⟨skip, 0, 0⟩ : XIns)]⟩ (trX za9 zao b R.1 (s.code ++ R.2 ++ [(⟨skip, 0, 0⟩ : XIns)]).length).1 (trX za9 zao b R.1 (s.code ++ R.2 ++ [(⟨skip, 0, 0⟩ : XIns)]).length).2) := n4
 rw [e2] at n4; generalize eG : trX za9 zao b R.1 (s.code.length + R.2.length + 1) = G at *
 unfold XSt.put at n4; simp only at n4
 have lg : G.2.length <= 4 * zbb b := sb.1
 have lr : R.2.length <= 4 * zbb a := sa.1
 have ln : G.1.names.length <= R.1.names.length + zbb b := sb.2.1
 have lc : G.1.consts.length <= R.1.consts.length + zbb b := sb.2.2
 rw [zzd8, <- n2]; refine zou (i := ⟨12, 0, 0⟩) n4 (by show (s.code ++ R.2 ++ [_] ++ G.2).length < _; rw [yah, e2]; omega) fun tf4 t4 r4 v4 p1 p2 p3 p4 _ => ?_
 have e4 : (s.code ++ R.2 ++ [(⟨skip, 0, 0⟩ : XIns)] ++ G.2 ++ [(⟨12, 0, 0⟩ : XIns)]).length = s.code.length + R.2.length + 1 + G.2.length + 1 := by simp; omega
 rw [zzd8, <- p2]; refine zou (i := ⟨9, 0, 0⟩) p4 (by show (s.code ++ R.2 ++ [_] ++ G.2 ++ [_]).length < _; rw [e4]; omega) fun tf5 t5 r5 v5 c1 c2 c3 c4 c5 => ?_
 have ecode : s.code ++ R.2 ++ [(⟨skip, 0, 0⟩ : XIns)] ++ G.2 ++ [(⟨12, 0, 0⟩ : XIns)] ++ [(⟨9, 0, 0⟩ : XIns)] = (s.code ++ R.2) ++ ⟨skip, 0, 0⟩ :: (G.2 ++ [⟨12, 0, 0⟩, ⟨9, 0, 0⟩]) := by simp
 have e5 : (s.code ++ R.2 ++ [(⟨skip, 0, 0⟩ : XIns)] ++ G.2 ++ [(⟨12, 0, 0⟩ : XIns)] ++ [(⟨9, 0, 0⟩ : XIns)]).length = s.code.length + R.2.length + 1 + G.2.length + 2 := by simp; omega
 have hb5 : r5.b = r1.b := by rw [c2, p2, n2, m2]
 have m5' : Tgt tf5 r5.b v2 (s.code ++ R.2).length := by
  rw [hb5]; exact m5.mono (n1.trans (p1.trans c1))
 have tg1 := zl9 (i := (s.code ++ R.2).length) (x := ⟨skip, 0, 0⟩) (v := v2) (Q := fun u t' => Wq C19 F za3 233 [.ptr r4.b 0, .agg [.int .u8 1, .bool false, .nilslice, .bool false, .nilslice, .int .i64 truth]] t' fun a' t' => zee (zzci .i64 a') fun n => Wq C19 F za3 168 [.ptr r4.b 0, .int .u8 1, .int .i64 n, .int .i64 0] t' fun _ t' => zee (zn3 v5 []) fun q => Wq C19 F za3 q.1 q.2 t' fun _ t' => Q (.tup []) t') c4 m5' (by show (s.code ++ R.2 ++ [_] ++ G.2 ++ [_] ++ [_])[_]? = _; rw [ecode]; exact zuj rfl) (by show (s.code ++ R.2 ++ [_] ++ G.2 ++ [_] ++ [_]).length < _; rw [e5]; omega) (fun t6 h6 => ?_)
 ·exact tg1
 ·have h6 : TS za9 tf5 t6 r5 ⟨G.1.names, G.1.consts, s.ws, s.ts, (s.code ++ R.2 ++ [(⟨skip, 0, 0⟩ : XIns)] ++ G.2 ++ [(⟨12, 0, 0⟩ : XIns)] ++ [(⟨9, 0, 0⟩ : XIns)]).set (s.code ++ R.2).length ⟨skip, ((s.code ++ R.2 ++ [(⟨skip, 0, 0⟩ : XIns)] ++ G.2 ++ [(⟨12, 0, 0⟩ : XIns)] ++ [(⟨9, 0, 0⟩ : XIns)]).length : Nat), 0⟩⟩ := h6
  rw [e5, ecode, zp2 rfl] at h6; rw [q233, <- c2]; have hfit : (zf4 truth).fit := ⟨(by show 1 < 256; decide), ⟨⟨(by show 0 < zgc; decide), (by show 0 < zgc; decide)⟩, (fun x hx => by cases hx), (fun x hx => by cases hx)⟩, htr.1, htr.2⟩
  refine zqz (v := zf4 truth) h6 (by show G.1.consts.length < _; omega) hfit ⟨(by show 0 < 400; decide), (by show 0 < 400; decide)⟩ zp6 zp6 fun tf7 t7 r7 d1 d2 d3 d4 => ?_
  rw [zag, zaa, zzd8, <- d2]; have e7 : ((s.code ++ R.2) ++ ⟨skip, ((s.code.length + R.2.length + 1 + G.2.length + 2 : Nat) : Int), 0⟩ :: (G.2 ++ [(⟨12, 0, 0⟩ : XIns), ⟨9, 0, 0⟩])).length = s.code.length + R.2.length + 1 + G.2.length + 2 := by simp; omega
  refine zou (i := ⟨1, ((zsx (za9 (zf4 truth)) (G.1.consts.map za9) : Nat) : Int), 0⟩) d4 (by show (_ ++ _ :: _).length < _; rw [e7]; omega) fun tf8 t8 r8 v8 z1 z2 z3 z4 _ => ?_
  have ecode2 : ((s.code ++ R.2) ++ ⟨skip, ((s.code.length + R.2.length + 1 + G.2.length + 2 : Nat) : Int), 0⟩ :: (G.2 ++ [(⟨12, 0, 0⟩ : XIns), ⟨9, 0, 0⟩])) ++ [(⟨1, ((zsx (za9 (zf4 truth)) (G.1.consts.map za9) : Nat) : Int), 0⟩ : XIns)] =
   ((s.code ++ R.2) ++ ⟨skip, ((s.code.length + R.2.length + 1 + G.2.length + 2 : Nat) : Int), 0⟩ :: (G.2 ++ [(⟨12, 0, 0⟩ : XIns)])) ++ ⟨9, 0, 0⟩ :: [⟨1, ((zsx (za9 (zf4 truth)) (G.1.consts.map za9) : Nat) : Int), 0⟩] := by simp
  have e8 : ((s.code ++ R.2) ++ ⟨skip, ((s.code.length + R.2.length + 1 + G.2.length + 2 : Nat) : Int), 0⟩ :: (G.2 ++ [(⟨12, 0, 0⟩ : XIns)])).length = (s.code ++ R.2 ++ [(⟨skip, 0, 0⟩ : XIns)] ++ G.2 ++ [(⟨12, 0, 0⟩ : XIns)]).length := by simp
  have e9 : (((s.code ++ R.2) ++ ⟨skip, ((s.code.length + R.2.length + 1 + G.2.length + 2 : Nat) : Int), 0⟩ :: (G.2 ++ [(⟨12, 0, 0⟩ : XIns), ⟨9, 0, 0⟩])) ++ [(⟨1, ((zsx (za9 (zf4 truth)) (G.1.consts.map za9) : Nat) : Int), 0⟩ : XIns)]).length = s.code.length + R.2.length + 1 + G.2.length + 3 := by simp; omega
  have hb8 : r8.b = r4.b := by rw [z2, d2, c2]
  have c5' : Tgt tf8 r8.b v5 (s.code ++ R.2 ++ [(⟨skip, 0, 0⟩ : XIns)] ++ G.2 ++ [(⟨12, 0, 0⟩ : XIns)]).length := by
   rw [hb8]; exact c5.mono (d1.trans z1)
  refine zl9 (x := ⟨9, 0, 0⟩) z4 c5' (by show (_ ++ [_])[_]? = _; rw [ecode2]; exact zuj e8) (by show (_ ++ [_]).length < _; rw [e9]; omega) fun t9 h9 => ?_
  refine hQ tf8 t9 r8 (k1.trans (m1.trans (n1.trans (p1.trans (c1.trans (d1.trans z1)))))) (by rw [hb8, p2, n2, m2, k2]) (by rw [z3, d3, c3, p3, n3, m3, k3]) ?_
  have h9 : TS za9 tf8 t9 r8 ⟨G.1.names, addC za9 G.1.consts (zf4 truth), s.ws, s.ts, (((s.code ++ R.2) ++ ⟨skip, ((s.code.length + R.2.length + 1 + G.2.length + 2 : Nat) : Int), 0⟩ :: (G.2 ++ [(⟨12, 0, 0⟩ : XIns), ⟨9, 0, 0⟩])) ++ [(⟨1, ((zsx (za9 (zf4 truth)) (G.1.consts.map za9) : Nat) : Int), 0⟩ : XIns)]).set (s.code ++ R.2 ++ [(⟨skip, 0, 0⟩ : XIns)] ++ G.2 ++ [(⟨12, 0, 0⟩ : XIns)]).length ⟨9, ((((s.code ++ R.2) ++ ⟨skip, ((s.code.length + R.2.length + 1 + G.2.length + 2 : Nat) : Int), 0⟩ :: (G.2 ++ [(⟨12, 0, 0⟩ : XIns), ⟨9, 0, 0⟩])) ++ [(⟨1, ((zsx (za9 (zf4 truth)) (G.1.consts.map za9) : Nat) : Int), 0⟩ : XIns)]).length : Nat), 0⟩⟩ := h9
  rw [e9, ecode2, zp2 e8] at h9; unfold XSt.put zo1; rw [eR, eG]; have en : G.1.const za9 (zf4 truth) = ⟨G.1.names, addC za9 G.1.consts (zf4 truth)⟩ := z06 ⟨G.1.names, G.1.consts, [], [], []⟩ (zf4 truth)
  rw [en]; have el : s.code ++ (R.2 ++ ⟨skip, ((s.code.length + R.2.length + 1 + G.2.length + 2 : Nat) : Int), 0⟩ :: (G.2 ++ [(⟨12, 0, 0⟩ : XIns), ⟨9, ((s.code.length + R.2.length + 1 + G.2.length + 3 : Nat) : Int), 0⟩, ⟨1, ((G.1.constI za9 (zf4 truth) : Nat) : Int), 0⟩])) =
   ((s.code ++ R.2) ++ ⟨skip, ((s.code.length + R.2.length + 1 + G.2.length + 2 : Nat) : Int), 0⟩ :: (G.2 ++ [(⟨12, 0, 0⟩ : XIns)])) ++ ⟨9, ((s.code.length + R.2.length + 1 + G.2.length + 3 : Nat) : Int), 0⟩ :: [⟨1, ((zsx (za9 (zf4 truth)) (G.1.consts.map za9) : Nat) : Int), 0⟩] := by
   simp [Nt.constI]
  rw [el]; exact h9
end Go.Proofs
namespace Go.Proofs
open Go Go.Am
variable [zcg]
variable {t tf : Tr zam} {r : TR} {s : XSt}
theorem if_ok {a b d : zal} {args : List zal} {u3 : zab} {Q : zav} (hA : zlq a) (hB : zlq b) (hD : zlq d) (hargs : args = [a, b, d]) (hfa : a.fit) (hfb : b.fit) (hfd : d.fit) (hg : z18 tf) (hu : RSl tf 9 (args.map zal.d) u3) (h : TS za9 tf t r s)
  (b1 : s.code.length + 4 * (1 + (zbb a + (zbb b + zbb d))) < 300000) (b2 : s.names.length + (1 + (zbb a + (zbb b + zbb d))) < 300000) (b3 : s.consts.length + (1 + (zbb a + (zbb b + zbb d))) < 300000)
  (hQ : ∀ tf' t' r', TLe tf tf' -> r'.b = r.b -> r'.kp = r.kp -> TS za9 tf' t' r' (s.put (ifT (trX za9 zao a) (trX za9 zao b) (trX za9 zao d) s.nt s.code.length).1 (ifT (trX za9 zao a) (trX za9 zao b) (trX za9 zao d) s.nt s.code.length).2) -> Q (.tup []) t') :
  wp 104 (.opt (zaf C19 48 u3 (.int .i64 0)) fun a5 => .light (fun m => zap C19 50 ⟨0, m⟩ a5) fun a6 => .asG [(.int .u8 0), (.str []), (.int .u8 0), (.bool false), .nilslice, (.bool false), .nilslice, (.int .i64 0), .nilslice] a6 fun X7 =>
 .call 104 [.ptr r.b 0, (.agg [(.int .u8 (X7.i 0)), (.str (X7.s 1)), (.int .u8 (X7.i 2)), (.bool (X7.b 3)), (X7.v 4), (.bool (X7.b 5)), (X7.v 6), (.int .i64 (X7.i 7)), (X7.v 8)])] fun a8 =>
 .call 168 [.ptr r.b 0, (.int .u8 10), (.int .i64 0), (.int .i64 0)] fun a9 =>
 .opt (zaf C19 48 u3 (.int .i64 1)) fun a10 => .light (fun m => zap C19 50 ⟨0, m⟩ a10) fun a11 => .asG [(.int .u8 0), (.str []), (.int .u8 0), (.bool false), .nilslice, (.bool false), .nilslice, (.int .i64 0), .nilslice] a11 fun X12 =>
 .call 104 [.ptr r.b 0, (.agg [(.int .u8 (X12.i 0)), (.str (X12.s 1)), (.int .u8 (X12.i 2)), (.bool (X12.b 3)), (X12.v 4), (.bool (X12.b 5)), (X12.v 6), (.int .i64 (X12.i 7)), (X12.v 8)])] fun a13 =>
 .call 168 [.ptr r.b 0, (.int .u8 9), (.int .i64 0), (.int .i64 0)] fun a14 =>
 .callv a9 [] fun a15 =>
 .opt (zaf C19 48 u3 (.int .i64 2)) fun a16 => .light (fun m => zap C19 50 ⟨0, m⟩ a16) fun a17 => .asG [(.int .u8 0), (.str []), (.int .u8 0), (.bool false), .nilslice, (.bool false), .nilslice, (.int .i64 0), .nilslice] a17 fun X18 =>
 .call 104 [.ptr r.b 0, (.agg [(.int .u8 (X18.i 0)), (.str (X18.s 1)), (.int .u8 (X18.i 2)), (.bool (X18.b 3)), (X18.v 4), (.bool (X18.b 5)), (X18.v 6), (.int .i64 (X18.i 7)), (X18.v 8)])] fun a19 =>
 .callv a14 [] fun a20 =>
 .ret (.tup [])) t Q := by
 simp only [wpT]; obtain ⟨p, o, x1, x2, x3, g1, g2, g3, g4, _, _, _⟩ := zk2 hu h.os.tle (i := 0) (x := a) (by rw [hargs]; rfl)
 have g1 : zaf C19 48 u3 (.int .i64 0) = some (.ptr p o) := g1
 rw [g1, zaa, g2, zaa, g4, zaa]; simp only [zcq, cellsOf, zhu, zht, zc2, zet, yaa, yab]; rw [zzga]; have sa := zed (key := za9) (valid := zao) a s.nt s.code.length
 refine hA _ t tf r s _ hfa hg g3 h (by omega) (by omega) (by omega) fun tf1 t1 r1 k1 k2 k3 k4 => ?_
 generalize eR : trX za9 zao a s.nt s.code.length = R at *
 have sa1 : R.1.names.length <= s.names.length + zbb a := sa.2.1
 have sa2 : R.1.consts.length <= s.consts.length + zbb a := sa.2.2
 rw [zzd8, <- k2]; refine zou (i := ⟨10, 0, 0⟩) k4 (by show (s.code ++ R.2).length < _; rw [yah]; omega) fun tf2 t2 r2 v2 m1 m2 m3 m4 m5 => ?_
 obtain ⟨p', o', y1, y2, y3, f1, f2, f3, f4, _, _, _⟩ := zk2 hu ((k1.trans m1).trans m4.os.tle) (i := 1) (x := b) (by rw [hargs]; rfl)
 have f1 : zaf C19 48 u3 (.int .i64 1) = some (.ptr p' o') := f1
 rw [f1, zaa, f2, zaa, f4, zaa]; simp only [zcq, cellsOf, zhu, zht, zc2, zet, yaa, yab]; rw [zzga, <- m2]; have e2 : (s.code ++ R.2 ++ [(⟨10, 0, 0⟩ : XIns)]).length = s.code.length + R.2.length + 1 := by simp only [yah, yao, yay]
 have sb := zed (key := za9) (valid := zao) b R.1 (s.code.length + R.2.length + 1)
 refine hB _ t2 tf2 r2 _ _ hfb ((hg.mono k1).mono m1) (RD.mono (k1.trans m1) _ _ f3) m4 (by show (s.code ++ R.2 ++ [_]).length + _ < _; rw [e2]; omega) (by show R.1.names.length + _ < _; omega) (by show R.1.consts.length + _ < _; omega) fun tf3 t3 r3 n1 n2 n3 n4 => ?_
 have n4 : TS za9 tf3 t3 r3 (XSt.put ⟨R.1.names, R.1.consts, s.ws, s.ts, s.code ++ R.2 ++ [(⟨10, 0, 0⟩ : XIns)]⟩ (trX za9 zao b R.1 (s.code ++ R.2 ++ [(⟨10, 0, 0⟩ : XIns)]).length).1 (trX za9 zao b R.1 (s.code ++ R.2 ++ [(⟨10, 0, 0⟩ : XIns)]).length).2) := n4
 rw [e2] at n4; generalize eG : trX za9 zao b R.1 (s.code.length + R.2.length + 1) = G at *
 unfold XSt.put at n4; simp only at n4
 have lg : G.2.length <= 4 * zbb b := sb.1
 have lr : R.2.length <= 4 * zbb a := sa.1
 have ln : G.1.names.length <= R.1.names.length + zbb b := sb.2.1
 have lc : G.1.consts.length <= R.1.consts.length + zbb b := sb.2.2
 rw [zzd8, <- n2]; have e3 : (s.code ++ R.2 ++ [(⟨10, 0, 0⟩ : XIns)] ++ G.2).length = s.code.length + R.2.length + 1 + G.2.length := by simp only [yah, yao, yay]
 refine zou (i := ⟨9, 0, 0⟩) n4 (by show (s.code ++ R.2 ++ [_] ++ G.2).length < _; rw [e3]; omega) fun tf5 t5 r5 v5 c1 c2 c3 c4 c5 => ?_
 have ecode : s.code ++ R.2 ++ [(⟨10, 0, 0⟩ : XIns)] ++ G.2 ++ [(⟨9, 0, 0⟩ : XIns)] = (s.code ++ R.2) ++ ⟨10, 0, 0⟩ :: (G.2 ++ [⟨9, 0, 0⟩]) := by simp
 have e5 : (s.code ++ R.2 ++ [(⟨10, 0, 0⟩ : XIns)] ++ G.2 ++ [(⟨9, 0, 0⟩ : XIns)]).length = s.code.length + R.2.length + 1 + G.2.length + 1 := by simp only [yah, yao, yay]
 have hb5 : r5.b = r1.b := by rw [c2, n2, m2]
 have m5' : Tgt tf5 r5.b v2 (s.code ++ R.2).length := by
  rw [hb5]; exact m5.mono (n1.trans c1)
 refine zl9 (i := (s.code ++ R.2).length) (x := ⟨10, 0, 0⟩) (v := v2) c4 m5' (by show (s.code ++ R.2 ++ [_] ++ G.2 ++ [_])[_]? = _; rw [ecode]; exact zuj rfl) (by show (s.code ++ R.2 ++ [_] ++ G.2 ++ [_]).length < _; rw [e5]; omega) (fun t6 h6 => ?_)
 have h6 : TS za9 tf5 t6 r5 ⟨G.1.names, G.1.consts, s.ws, s.ts, (s.code ++ R.2 ++ [(⟨10, 0, 0⟩ : XIns)] ++ G.2 ++ [(⟨9, 0, 0⟩ : XIns)]).set (s.code ++ R.2).length ⟨10, ((s.code ++ R.2 ++ [(⟨10, 0, 0⟩ : XIns)] ++ G.2 ++ [(⟨9, 0, 0⟩ : XIns)]).length : Nat), 0⟩⟩ := h6
 rw [e5, ecode, zp2 rfl] at h6; obtain ⟨p6, o6, w1, w2, w3, l1, l2, l3, l4, _, _, _⟩ := zk2 hu ((((k1.trans m1).trans n1).trans c1).trans h6.os.tle) (i := 2) (x := d) (by rw [hargs]; rfl)
 have l1 : zaf C19 48 u3 (.int .i64 2) = some (.ptr p6 o6) := l1
 rw [l1, zaa, l2, zaa, l4, zaa]; simp only [zcq, cellsOf, zhu, zht, zc2, zet, yaa, yab]; have e6 : ((s.code ++ R.2) ++ ⟨10, ((s.code.length + R.2.length + 1 + G.2.length + 1 : Nat) : Int), 0⟩ :: (G.2 ++ [(⟨9, 0, 0⟩ : XIns)])).length = s.code.length + R.2.length + 1 + G.2.length + 1 := by simp only [yah, yao, yay]; omega
 have sd := zed (key := za9) (valid := zao) d G.1 (s.code.length + R.2.length + 1 + G.2.length + 1)
 rw [zzga, <- c2]; refine hD _ t6 tf5 r5 _ _ hfd (((hg.mono k1).mono m1).mono (n1.trans c1)) (RD.mono ((k1.trans m1).trans (n1.trans c1)) _ _ l3) h6 (by show ((s.code ++ R.2) ++ _ :: _).length + _ < _; rw [e6]; omega) (by show G.1.names.length + _ < _; omega) (by show G.1.consts.length + _ < _; omega) fun tf7 t7 r7 d1 d2 d3 d4 => ?_
 have d4 : TS za9 tf7 t7 r7 (XSt.put ⟨G.1.names, G.1.consts, s.ws, s.ts, (s.code ++ R.2) ++ ⟨10, ((s.code.length + R.2.length + 1 + G.2.length + 1 : Nat) : Int), 0⟩ :: (G.2 ++ [(⟨9, 0, 0⟩ : XIns)])⟩ (trX za9 zao d G.1 ((s.code ++ R.2) ++ ⟨10, ((s.code.length + R.2.length + 1 + G.2.length + 1 : Nat) : Int), 0⟩ :: (G.2 ++ [(⟨9, 0, 0⟩ : XIns)])).length).1 (trX za9 zao d G.1 ((s.code ++ R.2) ++ ⟨10, ((s.code.length + R.2.length + 1 + G.2.length + 1 : Nat) : Int), 0⟩ :: (G.2 ++ [(⟨9, 0, 0⟩ : XIns)])).length).2) := d4
 rw [e6] at d4; generalize eW : trX za9 zao d G.1 (s.code.length + R.2.length + 1 + G.2.length + 1) = W at *
 unfold XSt.put at d4; simp only at d4
 have lw : W.2.length <= 4 * zbb d := sd.1
 have hb7 : r7.b = r3.b := by rw [d2, c2]
 have c5' : Tgt tf7 r7.b v5 (s.code ++ R.2 ++ [(⟨10, 0, 0⟩ : XIns)] ++ G.2).length := by
  rw [hb7]; exact c5.mono d1
 have ecode2 : ((s.code ++ R.2) ++ ⟨10, ((s.code.length + R.2.length + 1 + G.2.length + 1 : Nat) : Int), 0⟩ :: (G.2 ++ [(⟨9, 0, 0⟩ : XIns)])) ++ W.2 = ((s.code ++ R.2) ++ ⟨10, ((s.code.length + R.2.length + 1 + G.2.length + 1 : Nat) : Int), 0⟩ :: G.2) ++ ⟨9, 0, 0⟩ :: W.2 := by simp
 have e8 : ((s.code ++ R.2) ++ ⟨10, ((s.code.length + R.2.length + 1 + G.2.length + 1 : Nat) : Int), 0⟩ :: G.2).length = (s.code ++ R.2 ++ [(⟨10, 0, 0⟩ : XIns)] ++ G.2).length := by simp
 have e9 : (((s.code ++ R.2) ++ ⟨10, ((s.code.length + R.2.length + 1 + G.2.length + 1 : Nat) : Int), 0⟩ :: (G.2 ++ [(⟨9, 0, 0⟩ : XIns)])) ++ W.2).length = s.code.length + R.2.length + 1 + G.2.length + 1 + W.2.length := by simp only [yah, yao, yay]; omega
 refine zl9 (x := ⟨9, 0, 0⟩) d4 c5' (by show (_ ++ W.2)[_]? = _; rw [ecode2]; exact zuj e8) (by show (_ ++ W.2).length < _; rw [e9]; omega) fun t9 h9 => ?_
 refine hQ tf7 t9 r7 (k1.trans (m1.trans (n1.trans (c1.trans d1)))) (by rw [hb7, n2, m2, k2]) (by rw [d3, c3, n3, m3, k3]) ?_
 have h9 : TS za9 tf7 t9 r7 ⟨W.1.names, W.1.consts, s.ws, s.ts, (((s.code ++ R.2) ++ ⟨10, ((s.code.length + R.2.length + 1 + G.2.length + 1 : Nat) : Int), 0⟩ :: (G.2 ++ [(⟨9, 0, 0⟩ : XIns)])) ++ W.2).set (s.code ++ R.2 ++ [(⟨10, 0, 0⟩ : XIns)] ++ G.2).length ⟨9, ((((s.code ++ R.2) ++ ⟨10, ((s.code.length + R.2.length + 1 + G.2.length + 1 : Nat) : Int), 0⟩ :: (G.2 ++ [(⟨9, 0, 0⟩ : XIns)])) ++ W.2).length : Nat), 0⟩⟩ := h9
 rw [e9, ecode2, zp2 e8] at h9; unfold XSt.put ifT; rw [eR, eG, eW]; have el : s.code ++ (R.2 ++ ⟨10, ((s.code.length + R.2.length + 1 + G.2.length + 1 : Nat) : Int), 0⟩ :: (G.2 ++ ⟨9, ((s.code.length + R.2.length + 1 + G.2.length + 1 + W.2.length : Nat) : Int), 0⟩ :: W.2)) =
  ((s.code ++ R.2) ++ ⟨10, ((s.code.length + R.2.length + 1 + G.2.length + 1 : Nat) : Int), 0⟩ :: G.2) ++ ⟨9, ((s.code.length + R.2.length + 1 + G.2.length + 1 + W.2.length : Nat) : Int), 0⟩ :: W.2 := by simp
 rw [el]; exact h9
theorem z90 {op : Nat} {name : List Nat} {v : zc3} {args : List zal} {a b c : zab} {Q : zav} (ih : ∀ x ∈ args, zlq x) (hfit : ∀ x ∈ args, x.fit) (hlen : args.length < zgc) : ∀ (l : List zal) (i : Nat) (t tf : Tr zam) (r : TR) (s : XSt), args.drop i = l -> z18 tf -> RSl tf 9 (args.map zal.d) c -> TS za9 tf t r s -> s.code.length + 4 * zc8 l < 300000 -> s.names.length + zc8 l < 300000 -> s.consts.length + zc8 l < 300000 →
  (∀ tf' t' r', TLe tf tf' -> r'.b = r.b -> r'.kp = r.kp -> TS za9 tf' t' r' (s.put (zi8 (trF za9 zao l) s.nt s.code.length).1 (zi8 (trF za9 zao l) s.nt s.code.length).2) -> Wc C19 F 170 [.ptr r.b 0, .agg (zcq (.mk op name v args) a b c)] t' fun _ t'' => Q (.tup []) t'') →
  jp 104 4 [.ptr r.b 0, c, .int .i64 (args.length : Int), .int .i64 (i : Int), .int .u8 (op : Int), .str name, .int .u8 (v.kind : Int), .bool v.f.n.neg, a, .bool v.f.d.neg, b, .int .i64 v.i, c] t Q := by
 unfold zgc at hlen; intro l; induction l with
 | nil =>
  intro i t tf r s hl hg hc h _ _ _ hQ; have := zkj hl
  refine zze5 _ _ _ _ _ _ _ _ _ _ _ _ _ ?_
  simp only [z56, wpT, zaw]; rw [if_neg (by omega), q170]
  refine hQ tf t r (TLe.refl _) rfl rfl ?_
  have : s.put (zi8 (trF za9 zao []) s.nt s.code.length).1 (zi8 (trF za9 zao []) s.nt s.code.length).2 = s := by
   simp [trF, zi8, XSt.put, XSt.nt]
  rw [this]; exact h
 | cons x l ihl =>
  intro i t tf r s hl hg hc h b1 b2 b3 hQ; obtain ⟨h1, h2, h3⟩ := zi2 hl
  have hx := List.mem_of_getElem? h1
  obtain ⟨p, o, x1, x2, x3, g1, g2, g3, g4, g5, g6, g7⟩ := zk2 hc h.os.tle h1
  refine zze5 _ _ _ _ _ _ _ _ _ _ _ _ _ ?_
  simp only [z56, wpT, zaw]; rw [if_pos (by omega), g1, zaa, g2, zaa, g4, zaa]
  simp only [zcq, cellsOf, zhu, zht, zc2, zet, yaa, yab]; refine zbn (zo6 g5.one g6.one g7.one) ?_
  unfold zc8 at b1 b2 b3; have sx := zed (key := za9) (valid := zao) x s.nt s.code.length
  rw [zzga]; refine ih x hx _ t tf r s _ (hfit x hx) hg g3 h (by omega) (by omega) (by omega) fun tf1 t1 r1 k1 k2 k3 k4 => ?_
  rw [zak (by omega) (by omega), show (i : Int) + 1 = ((i + 1 : Nat) : Int) by omega, <- k2]
  have sx1 : (trX za9 zao x s.nt s.code.length).1.names.length <= s.names.length + zbb x := sx.2.1
  have sx2 : (trX za9 zao x s.nt s.code.length).1.consts.length <= s.consts.length + zbb x := sx.2.2
  have sx3 := sx.1
  refine ihl (i + 1) t1 tf1 r1 _ h2 (hg.mono k1) (hc.mono k1) k4 (by show (s.code ++ _).length + _ < _; rw [yah]; omega) (by show (trX za9 zao x s.nt s.code.length).1.names.length + _ < _; omega) (by show (trX za9 zao x s.nt s.code.length).1.consts.length + _ < _; omega) fun tf2 t2 r2 m1 m2 m3 m4 => ?_
  rw [k2]; refine hQ tf2 t2 r2 (k1.trans m1) (m2.trans k2) (m3.trans k3) ?_
  have e : s.put (zi8 (trF za9 zao (x :: l)) s.nt s.code.length).1 (zi8 (trF za9 zao (x :: l)) s.nt s.code.length).2 =
    (s.put (trX za9 zao x s.nt s.code.length).1 (trX za9 zao x s.nt s.code.length).2).put (zi8 (trF za9 zao l) (s.put (trX za9 zao x s.nt s.code.length).1 (trX za9 zao x s.nt s.code.length).2).nt (s.put (trX za9 zao x s.nt s.code.length).1 (trX za9 zao x s.nt s.code.length).2).code.length).1
     (zi8 (trF za9 zao l) (s.put (trX za9 zao x s.nt s.code.length).1 (trX za9 zao x s.nt s.code.length).2).nt (s.put (trX za9 zao x s.nt s.code.length).1 (trX za9 zao x s.nt s.code.length).2).code.length).2 := by
   simp [trF, zi8, XSt.put, XSt.nt]
  rw [e]; exact m4
theorem zzho {op : Nat} {name : List Nat} {v : zc3} {args : List zal} (ih : ∀ x ∈ args, zlq x) : zlq (.mk op name v args) := by
 intro cs t tf r s Q hfit hg hrd h b1 b2 b3 hQ; obtain ⟨a, b, c, rfl, ha, hb, hc⟩ := zfa hrd
 simp only [zal.op, zal.name, zal.v, zal.args] at ha hb hc; have hfit' := hfit
 unfold zal.fit at hfit'; obtain ⟨f1, f2, _, f3, f4, f5⟩ := hfit'
 have ffit := zal.fits_mem f5
 have hform := z8z hfit (hg.mono h.os.tle) (ha.mono h.os.tle) (hb.mono h.os.tle) (hc.mono h.os.tle)
 unfold zbb at b1 b2 b3; have etr : trX za9 zao (.mk op name v args) s.nt s.code.length = zq6 za9 zao op name v (trF za9 zao args) s.nt s.code.length := by rw [trX]
 rw [etr] at hQ; unfold zq6 at hQ; rw [zto] at hQ; refine w104 _ _ _ _ _ _ _ _ _ _ ?_
 have hform' : pvC C19 F 167 [.agg [.int .u8 (op : Int), .str name, .int .u8 (v.kind : Int), .bool v.f.n.neg, a, .bool v.f.d.neg, b, .int .i64 v.i, c]] t = some (.bool (zds zao op v args.length)) := hform
 have pos : ∀ {k : Nat} {x y : T} {Q : zav}, op = k -> wp 104 x t Q -> wp 104 (.ite (iEq (op : Int) (k : Int)) x y) t Q := fun h hx => zbn (zda.2 (by omega)) hx
 have neg : ∀ {k : Nat} {x y : T} {Q : zav}, op ≠ k -> wp 104 y t Q -> wp 104 (.ite (iEq (op : Int) (k : Int)) x y) t Q := fun h hy => zfe (fun e => absurd (zda.1 e) (by omega)) hy
 unfold t104; simp only [zal.op, zal.name, zal.v, zal.args]; show Wq C19 F za3 167 _ t _
 rw [q167, hform', zaa]; show zee (zab.asBool (.bool (zds zao op v args.length))) _
 rw [zaz, zaa]
 cases hf : zds zao op v args.length with
 | false =>
  rw [if_pos hf] at hQ; refine zbn rfl ?_
  show Wq C19 F za3 168 _ t _
  rw [zzd8]; exact zou (i := ⟨13, 0, 0⟩) h (by omega) fun tf' t' r' v' k1 k2 k3 k4 _ => hQ tf' t' r' k1 k2 k3 k4
 | true =>
  rw [if_neg (by rw [hf]; simp)] at hQ
  refine zfe (by simp) ?_
  have hn := hf
  unfold zds at hn; simp only [yac, decide_eq_true_eq] at hn; by_cases c15 : op = 15
  ·refine pos c15 ?_
   rw [if_pos c15] at hQ; subst c15; have h2 : args.length = 2 := by have h1 := hn.1.2; have h2 := hn.2; simp [zrc] at h1 h2; omega
   match args, h2 with
   | [x, y], _ =>
    simp only [zc8] at b1 b2 b3; refine zbn rfl ?_
    show Wq C19 F za3 169 _ t _
    rw [q169]; exact zm0 (skip := 10) (truth := 0) (op := 15) (name := name) (v := v) (ih x (by simp)) (ih y (by simp)) rfl rfl (ffit x (by simp)) (ffit y (by simp)) hg hc h ⟨by decide, by decide⟩ (by omega) (by omega) (by omega) hQ
  ·refine neg c15 ?_
   rw [if_neg c15] at hQ; by_cases c16 : op = 16
   ·refine pos c16 ?_
    rw [if_pos c16] at hQ; subst c16; have h2 : args.length = 2 := by have h1 := hn.1.2; have h2 := hn.2; simp [zrc] at h1 h2; omega
    match args, h2 with
    | [x, y], _ =>
     simp only [zc8] at b1 b2 b3; refine zbn rfl ?_
     show Wq C19 F za3 169 _ t _
     rw [q169]; exact zm0 (skip := 11) (truth := 1) (op := 16) (name := name) (v := v) (ih x (by simp)) (ih y (by simp)) rfl rfl (ffit x (by simp)) (ffit y (by simp)) hg hc h ⟨by decide, by decide⟩ (by omega) (by omega) (by omega) hQ
   ·refine neg c16 ?_
    rw [if_neg c16] at hQ; by_cases c18 : op = 18
    ·refine pos c18 ?_
     rw [if_pos c18] at hQ; subst c18; have h2 : args.length = 3 := by have h1 := hn.1.2; have h2 := hn.2; simp [zrc] at h1 h2; omega
     match args, h2 with
     | [x, y, z], _ =>
      simp only [zc8] at b1 b2 b3; exact if_ok (ih x (by simp)) (ih y (by simp)) (ih z (by simp)) rfl (ffit x (by simp)) (ffit y (by simp)) (ffit z (by simp)) hg hc h (by omega) (by omega) (by omega) hQ
    ·refine neg c18 ?_
     rw [if_neg c18] at hQ; have hl : za8 c = some (.int .i64 (args.length : Int)) := by rw [hc.len, yag]
     show zee (za8 c) _
     rw [hl, zaa]; show zee (zzci .i64 (.int .i64 (args.length : Int))) _
     rw [zag, zaa]; refine z90 (op := op) (name := name) (v := v) (a := a) (b := b) ih ffit f4 args 0 t tf r s (List.drop_zero) hg hc h (by omega) (by omega) (by omega) fun tf1 t1 r1 k1 k2 k3 k4 => ?_
     have sq := zpw (key := za9) (valid := zao) args (fun x _ => zed x) s.nt s.code.length
     have sq1 : (zi8 (trF za9 zao args) s.nt s.code.length).1.names.length <= s.names.length + zc8 args := sq.2.1
     have sq2 : (zi8 (trF za9 zao args) s.nt s.code.length).1.consts.length <= s.consts.length + zc8 args := sq.2.2
     rw [<- k2]; refine zv2 (x := .mk op name v args) k4 hfit (fun e => ?_) (by show (zi8 (trF za9 zao args) s.nt s.code.length).1.names.length < _; omega) (by show (zi8 (trF za9 zao args) s.nt s.code.length).1.consts.length < _; omega) (by show (s.code ++ _).length < _; rw [yah]; have := sq.1; omega) (ha.mono k1) (hb.mono k1) (hc.mono k1) fun tf2 t2 r2 m1 m2 m3 m4 => ?_
     ·have e : op = 1 := e
      have := hn.1.1
      rw [e] at this; simp at this; exact zxy this
     ·refine hQ tf2 t2 r2 (k1.trans m1) (m2.trans k2) (m3.trans k3) ?_
      have e : s.put (zew za9 op name v args.length (zi8 (trF za9 zao args) s.nt s.code.length).1).1 ((zi8 (trF za9 zao args) s.nt s.code.length).2 ++ [(zew za9 op name v args.length (zi8 (trF za9 zao args) s.nt s.code.length).1).2]) =
        (s.put (zi8 (trF za9 zao args) s.nt s.code.length).1 (zi8 (trF za9 zao args) s.nt s.code.length).2).put (zew za9 op name v args.length (s.put (zi8 (trF za9 zao args) s.nt s.code.length).1 (zi8 (trF za9 zao args) s.nt s.code.length).2).nt).1 [(zew za9 op name v args.length (s.put (zi8 (trF za9 zao args) s.nt s.code.length).1 (zi8 (trF za9 zao args) s.nt s.code.length).2).nt).2] := by
       simp [XSt.put, XSt.nt]
      show TS za9 tf2 t2 r2 (s.put _ _)
      rw [e]; exact m4
mutual
theorem z1t : ∀ x : zal, zlq x
 | .mk _ _ _ args => zzho (zwx args)
theorem zwx : ∀ l : List zal, ∀ x ∈ l, zlq x
 | [], x, h => by cases h
 | y :: l, x, h => by
  rcases yat.1 h with e | h
  ·rw [e]; exact z1t y
  ·exact zwx l x h
end
end Go.Proofs
namespace Go.Am
open Go Go.RowKit
section
variable {t tf : Tr zam} {C : Ctx} {base : Nat}
def oS (base sz : Nat) (l : List D) (v : zab) : Thg where
 blks := if l = [] then [] else zjx v
 ok := fun tf t => if l = [] then RSl tf sz [] v else ∃ n, v = .slice n 0 l.length l.length /\ OwnD base tf t sz l n (some sz)
 keep := fun {tf t tf' t'} h hf k => by
  by_cases hl : l = []
  ·rw [if_pos hl] at h ⊢; exact h.mono hf
  ·rw [if_neg hl] at h k ⊢
   obtain ⟨n, rfl, h⟩ := h
   have := k n (by simp [zjx])
   exact ⟨n, rfl, h.grow hf this.2 this.1⟩
 live := fun {tf t} h k hk => by
  by_cases hl : l = []
  ·rw [if_pos hl] at hk; cases hk
  ·rw [if_neg hl] at h hk
   obtain ⟨n, rfl, _, _, _, ⟨c, hc, _⟩, _⟩ := h
   have : k = n := by simpa [zjx] using hk
   subst this; exact ⟨_, hc⟩
theorem zzeb {sz : Nat} {v : zab} (h : RSl tf sz [] v) : (oS base sz [] v).ok tf t := h
theorem z7d {sz n : Nat} {l : List D} (hl : l ≠ []) (h : OwnD base tf t sz l n (some sz)) : (oS base sz l (.slice n 0 l.length l.length)).ok tf t := by
 have e : (oS base sz l (.slice n 0 l.length l.length)).ok tf t = ∃ m, zab.slice n 0 l.length l.length = .slice m 0 l.length l.length /\ OwnD base tf t sz l m (some sz) := if_neg hl
 rw [e]; exact ⟨n, rfl, h⟩
theorem zv5 {sz : Nat} {l : List D} {v : zab} (hl : l ≠ []) (h : (oS base sz l v).ok tf t) : ∃ n, v = .slice n 0 l.length l.length /\ OwnD base tf t sz l n (some sz) := by
 have e : (oS base sz l v).ok tf t = ∃ m, v = .slice m 0 l.length l.length /\ OwnD base tf t sz l m (some sz) := if_neg hl
 rw [e] at h; exact h
theorem zzec {sz : Nat} {v : zab} (h : (oS base sz [] v).ok tf t) : RSl tf sz [] v := h
theorem zzgk {sz : Nat} {l : List D} {v : zab} (h : (oS base sz l v).ok tf t) (ht : TLe tf t) : RSl t sz l v := by
 by_cases hl : l = []
 ·subst hl; exact (zzec h).mono ht
 ·obtain ⟨n, hv, ho⟩ := zv5 hl h
  subst hv; exact ho.read (.inr rfl) ht rfl (yal _)
theorem Objs.freezeS {A B : List Thg} {sz : Nat} {l : List D} {v : zab} (h : Objs base tf t (A ++ oS base sz l v :: B)) : ∃ tf', TLe tf tf' /\ Objs base tf' t (A ++ B) /\ RSl tf' sz l v := by
 have ho : (oS base sz l v).ok tf t := h.ok (oS base sz l v) (by simp)
 by_cases hl : l = []
 ·subst hl
  exact ⟨tf, TLe.refl _, h.drop, zzec ho⟩
 ·obtain ⟨n, rfl, h1, h2, cl, ⟨c, h3, h4⟩, h5, h6⟩ := zv5 hl ho
  have hn : n ∉ (A ++ B).flatMap Thg.blks := h.notin (o := oS base sz l _) (by simp [oS, hl, zjx])
  obtain ⟨k1, k2⟩ := h.drop.froze hn h3 h2
  refine ⟨_, k2, k1, ?_⟩
  have hlen := h6.length
  have := (⟨h1, h2, cl, ⟨c, h3, h4⟩, h5, h6⟩ : OwnD base tf t sz l n (some sz))
  refine ⟨cl, .inr ⟨n, 0, l.length, by rw [hlen], by omega, ⟨c, _, _, by rw [Tr.get_set, if_pos rfl], .inr rfl⟩, fun i cs hi => ⟨h5 i cs hi, c, _, _, (by rw [Tr.get_set, if_pos rfl]), fun j a hj => ?_⟩⟩, RDs.mono k2 _ _ h6⟩
  rw [yax]; exact h4 _ _ (zfz h5 i j cs a hi hj)
theorem Objs.storeS {A B : List Thg} {sz : Nat} {l : List D} {v w : zab} (h : Objs C.base tf t (A ++ oS C.base sz l v :: B)) {i o S T el : Nat} {agg : Bool} {d d' : D} {y : ATy} (hi : l[i]? = some d) (hT : zj2 C T el sz agg) (hS : C.tys.get S = some y) (hl : w.cells.length = y.size) (ho : o + w.cells.length <= sz) (hone : zd1 zab.one w.cells = true)
  (hd : ∀ cs, cs.length = sz -> RD tf d cs -> RD tf d' (zif cs o w.cells)) :
  ∃ p, zaf C T v (.int .i64 (i : Int)) = some (.ptr p (0 + i * sz)) /\ ∃ t', (∀ n, zbz C S (.ptr p (0 + i * sz + o)) w ⟨n, t⟩ = some (zbr, ⟨n, t'⟩)) /\ Objs C.base tf t' (A ++ oS C.base sz (l.set i d') v :: B) := by
 have hlt : i < l.length := (yad.1 hi).1
 have hne : l ≠ [] := by intro e; subst e; simp at hlt
 have hne' : l.set i d' ≠ [] := by intro e; have := congrArg List.length e; rw [List.length_set] at this; simp at this; exact hne (ybd.1 (by simpa using this))
 obtain ⟨n, rfl, ho'⟩ := zv5 hne (h.ok (oS C.base sz l v) (by simp))
 refine ⟨n, zb6 hT hlt, ?_⟩
 obtain ⟨t', g1, g2, g3⟩ := ho'.store hi hS hl ho hone hd
 rw [yax]; refine ⟨t', g1, ?_⟩
 refine Objs.upd (o := oS C.base sz l (.slice n 0 l.length l.length)) h (fun k k1 _ => g3 k (fun e => k1 (by simp [oS, hne, zjx, e]))) (fun k hk => .inl ?_) ?_ ?_ (h.tle.off ho'.2.1 g3)
 ·have : k = n := by simpa [oS, hne', zjx] using hk
  subst this; simp [oS, hne, zjx]
 ·have := z7d hne' g2
  rw [List.length_set] at this; exact this
 ·simp [oS, hne', zjx]
theorem zk5 {T el sz : Nat} (hT : zxs C T el sz) {L : List Thg} {l : List D} {x : zab} {W J : zhy} {Q : zav} (heq : (zxg .eql).f C T (.tmp 3) (.const (.slice none 0 0)) x .nilslice = some (.bool (Nat.beq x.tag 5))) (hx : RSl tf sz l x) (h : Objs C.base tf t L) (hl : l.length < 1000000)
  (hQ : ∀ tf' t' v, TLe tf tf' -> Objs C.base tf' t' (oS C.base sz l v :: L) -> Q v t') :
  wpT C.base W J (.opt ((zxg .eql).f C T (.tmp 3) (.const (.slice none 0 0)) x .nilslice) fun a0 => .asB a0 fun b1 => .ite b1 (.ret .nilslice) (.heavy (za0 C T 0 []) fun a2 => .heavy (zbm C T T a2 x) fun a3 => .ret a3)) t Q := by
 obtain ⟨⟨y, hy1, hy2, hy3⟩, ⟨z, hz1, hz2, hz3, hz4, hz5⟩⟩ := hT
 obtain ⟨cl, he, hd⟩ := hx
 have hcl := hd.length
 simp only [wpT, heq, zaa, zaz]; rcases he with ⟨rfl, rfl⟩ | ⟨bx, off, cap, rfl, hcap, hblk, he'⟩
 ·have : l = [] := ybd.1 hcl.symm
  subst this; have e : (Nat.beq zab.nilslice.tag 5) = true := rfl
  rw [if_pos e]; refine hQ tf t .nilslice (TLe.refl _) ?_
  exact Objs.add (A := []) (o' := oS C.base sz [] .nilslice) h (fun _ _ => rfl) (fun k hk => by simp [oS] at hk) (zzeb ⟨[], .inl ⟨rfl, rfl⟩, zbu.2 rfl⟩) (by simp [oS]) h.tle
 ·have e : (Nat.beq (zab.slice bx off cl.length cap).tag 5) = false := rfl
  rw [e, if_neg (by simp)]
  intro b hb hbb; have g1 : za0 C T 0 [] ⟨b, t⟩ = some (.slice b 0 0 0, za7 ⟨b, t⟩ [] none) := by
   unfold za0; rw [hy1, zac, hy2, zac, hz1, zac]; have : (Nat.blt (0 * z.size) 1000000 && Nat.beq (zbv z.zero) z.size) = true := by rw [Nat.zero_mul, hz3, hz2, zcz.2 rfl]; rfl
   rw [this]; rfl
  obtain ⟨t1, k1, k2, k3, k4⟩ := zqi hb ([] : List zab) none
  rw [k1] at g1; have h1 := h.junk hb k4
  rw [g1, zaa]; intro n hn hnb; have he1 : zhp t1 sz (.slice bx off cl.length cap) cl := (zhp.mono (h.tle.trans k3) (.inr ⟨bx, off, cap, rfl, hcap, hblk, he'⟩))
  obtain ⟨hf, hlen⟩ := he1.first (n := n)
  have hall := he1.len
  have hfl : zbv cl.flatten = cl.length * sz := by rw [zbc]; exact zfy hall
  have base1 : zbm C T T (.slice b 0 0 0) (.slice bx off cl.length cap) ⟨n, t1⟩ = (bif Nat.ble (0 + cl.length) 0 then zfx C ⟨n, t1⟩ z cl.length cl.flatten (b, 0, 0, 0) else zhn C ⟨n, t1⟩ z cl.length cl.flatten (b, 0, 0, 0)) := by
   unfold zbm zgh; rw [hy1, zac, zac, hy3]; simp only [Bool.not_false, zay]; rw [hy2, zac, hz1, zac, hlen, zac, hz2, hf, zac]; rfl
  have ok : ziy z 0 0 cl.length cl.flatten = true := by
   unfold ziy; have h1 : Nat.blt (0 + cl.length + 0) 1000000000 = true := zdi.2 (by omega)
   have h2 : Nat.blt ((0 + cl.length + 0) * z.bytes) 1000000000 = true := zdi.2 (by
    have := Nat.mul_le_mul (show 0 + cl.length + 0 <= 1000000 by omega) hz4
    omega)
   have h3 : Nat.blt z.bytes 1000000000 = true := zdi.2 (by omega)
   have h4 : (!Nat.beq z.size 0) = true := by
    cases hq : Nat.beq z.size 0 with
    | true => have := zcz.1 hq; omega
    | false => rfl
   have h5 : Nat.beq (zbv cl.flatten) (cl.length * z.size) = true := by rw [hfl, hz2]; exact zcz.2 rfl
   have h6 : Nat.beq (zbv z.zero) z.size = true := by rw [hz3, hz2]; exact zcz.2 rfl
   rw [h1, h2, h3, h4, h5, h6]; rfl
  obtain ⟨cb, hcb, _⟩ := k2
  by_cases h0 : cl.length = 0
  ·have : cl = [] := ybd.1 h0
   subst this; have : l = [] := ybd.1 hcl.symm
   subst this; have e2 : zbm C T T (.slice b 0 0 0) (.slice bx off 0 cap) ⟨n, t1⟩ = some (.slice b 0 0 0, ⟨n, t1⟩) := by
    have := base1
    simp only [yay] at this; rw [this]; rfl
   have e3 : zbm C T T (.slice b 0 0 0) (.slice bx off ([] : List (List zab)).length cap) ⟨n, t1⟩ = some (.slice b 0 0 0, ⟨n, t1⟩) := e2
   rw [e3, zaa]; obtain ⟨m1, m2⟩ := h1.froze (h.fresh hb) hcb (h.tfn hb)
   refine hQ _ t1 (.slice b 0 0 0) m2 ?_
   refine Objs.add (A := []) (o' := oS C.base sz [] (.slice b 0 0 0)) m1 (fun _ _ => rfl) (fun k hk => by simp [oS] at hk) ?_ (by simp [oS]) m1.tle
   exact zzeb ⟨[], .inr ⟨b, 0, 0, rfl, yal _, ⟨cb, 0, none, by rw [Tr.get_set, if_pos rfl]; rfl, .inl rfl⟩, fun i cs hi => by simp at hi⟩, zbu.2 rfl⟩
  ·have hl0 : l ≠ [] := by intro e; subst e; simp at hcl; exact h0 (by rw [hcl]; rfl)
   have ebl : Nat.ble (0 + cl.length) 0 = false := by
    cases hq : Nat.ble (0 + cl.length) 0 with
    | true => have := zj1.1 hq; omega
    | false => rfl
   have e2 : zbm C T T (.slice b 0 0 0) (.slice bx off cl.length cap) ⟨n, t1⟩ = some (.slice n 0 l.length l.length, za7 ⟨n, t1⟩ cl.flatten (some sz)) := by
    rw [base1, ebl, cond_false]; unfold zhn; simp only []; rw [ok, zay]; unfold za1; rw [hcb, zac]; simp only [zam.asCells, zac]; unfold zhm; simp only [Nat.zero_mul]
    show ob (cb.many 0 0) _ = _
    rw [show cb.many 0 0 = some [] from rfl, zac, zcj, List.nil_append, yax, hz2, hcl]
   obtain ⟨t2, m1, m2, m3, m4⟩ := zqi hn cl.flatten (some sz)
   rw [m1] at e2; rw [e2, zaa]; refine hQ tf t2 _ (TLe.refl _) ?_
   refine Objs.add (A := []) (o' := oS C.base sz l (.slice n 0 l.length l.length)) h1 (fun k hk => m4 k (fun e => hk (by simp [oS, hl0, zjx, e]))) (fun k hk => ?_) ?_ (by simp [oS, hl0, zjx]) (h1.tle.off (h1.tfn hn) m4)
   ·have : k = n := by simpa [oS, hl0, zjx] using hk
    subst this; exact ⟨hn, hnb⟩
   ·exact z7d hl0 ⟨hnb, h1.tfn hn, cl, m2, hall, hd⟩
end
end Go.Am
namespace Go.Proofs
open Go Go.Am
variable [zcg]
variable {t tf : Tr zam}
def zu4 : zal := .mk 0 [] ⟨0, ⟨⟨false, []⟩, ⟨false, []⟩⟩, 0⟩ []
def zm4 (c : za2) : za2 := ⟨c.name, c.label, c.from_, c.to, c.known, c.off, zu4, zu4⟩
theorem el22 : zxs C19 22 79 3 := ⟨⟨_, ty22, rfl, rfl⟩, ⟨_, ty79, rfl, rfl, by decide, by decide⟩⟩
theorem el23 : zxs C19 23 82 3 := ⟨⟨_, ty23, rfl, rfl⟩, ⟨_, ty82, rfl, rfl, by decide, by decide⟩⟩
theorem el24 : zxs C19 24 52 24 := ⟨⟨_, ty24, rfl, rfl⟩, ⟨_, ty52, rfl, rfl, by decide, by decide⟩⟩
theorem el80 : zxs C19 80 85 7 := ⟨⟨_, ty80, rfl, rfl⟩, ⟨_, ty85, rfl, rfl, by decide, by decide⟩⟩
theorem z07 {T sz : Nat} {l : List D} {v : zab} (hv : RSl t sz l v) (h1 : (zxg .eql).f C19 T (.tmp 3) (.const (.slice none 0 0)) .nilslice .nilslice = some (.bool true)) (h2 : ∀ b o n c, (zxg .eql).f C19 T (.tmp 3) (.const (.slice none 0 0)) (.slice b o n c) .nilslice = some (.bool false)) : (zxg .eql).f C19 T (.tmp 3) (.const (.slice none 0 0)) v .nilslice = some (.bool (Nat.beq v.tag 5)) := by
 obtain ⟨cl, h, _⟩ := hv
 rcases h with ⟨rfl, _⟩ | ⟨b, off, cap, rfl, _⟩
 ·exact h1
 ·exact h2 _ _ _ _
theorem zzh0 {L : List Thg} {l : List D} {x : zab} {Q : zav} (hx : RSl tf 3 l x) (h : Objs C19.base tf t L) (hl : l.length < 1000000) (hQ : ∀ tf' t' v, TLe tf tf' -> Objs C19.base tf' t' (oS C19.base 3 l v :: L) -> Q v t') : Wc C19 F 99 [x] t Q :=
 w99 _ (zk5 el22 (z07 hx (by kernel_rfl) fun b o n c => by kernel_rfl) hx h hl hQ)
theorem zzde {L : List Thg} {l : List D} {x : zab} {Q : zav} (hx : RSl tf 3 l x) (h : Objs C19.base tf t L) (hl : l.length < 1000000) (hQ : ∀ tf' t' v, TLe tf tf' -> Objs C19.base tf' t' (oS C19.base 3 l v :: L) -> Q v t') : Wc C19 F 100 [x] t Q :=
 w100 _ (zk5 el23 (z07 hx (by kernel_rfl) fun b o n c => by kernel_rfl) hx h hl hQ)
theorem zzdd {L : List Thg} {l : List D} {x : zab} {Q : zav} (hx : RSl tf 7 l x) (h : Objs C19.base tf t L) (hl : l.length < 1000000) (hQ : ∀ tf' t' v, TLe tf tf' -> Objs C19.base tf' t' (oS C19.base 7 l v :: L) -> Q v t') : Wc C19 F 101 [x] t Q :=
 w101 _ (zk5 el80 (z07 hx (by kernel_rfl) fun b o n c => by kernel_rfl) hx h hl hQ)
theorem zzdc {L : List Thg} {l : List D} {x : zab} {Q : zav} (hx : RSl tf 24 l x) (h : Objs C19.base tf t L) (hl : l.length < 1000000) (hQ : ∀ tf' t' v, TLe tf tf' -> Objs C19.base tf' t' (oS C19.base 24 l v :: L) -> Q v t') : Wc C19 F 103 [x] t Q :=
 w103 _ (zk5 el24 (z07 hx (by kernel_rfl) fun b o n c => by kernel_rfl) hx h hl hQ)
theorem zqg {A B : List Thg} {sz : Nat} {l : List D} {v : zab} (h : Objs C19.base tf t (A ++ oS C19.base sz l v :: B)) : RSl t sz l v := zzgk (h.ok (oS C19.base sz l v) (by simp)) h.tle
theorem z0n {α : Type} {l : List α} {i : Nat} {d : α} (h : l[i]? = some d) : l.set i d = l := by
 apply List.ext_getElem?
 intro k; rw [List.getElem?_set]; split
 ·rename_i e; subst e
  rw [if_pos (yad.1 h).1]; exact h.symm
 ·rfl
theorem mk_row {x : zhw} {u v : zab} (hu : RSl t 1 (zeb x.f.n.limbs) u) (hv : RSl t 1 (zeb x.f.d.limbs) v) : RD t x.d [.int .i64 x.a, .int .i64 x.b, .int .i64 x.known, .bool x.f.n.neg, u, .bool x.f.d.neg, v] := by
 unfold zhw.d; rw [zij]; refine ⟨[[.int .i64 x.a], [.int .i64 x.b], [.int .i64 x.known], [.bool x.f.n.neg, u, .bool x.f.d.neg, v]], rfl, ?_⟩
 simp only [zbd, zbu, zgn]; exact ⟨_, _, rfl, rfl, _, _, rfl, rfl, _, _, rfl, rfl, _, _, rfl, z7g hu hv, rfl⟩
theorem zzb2 {x : zb8} {v : zab} (hv : RSl t 7 (x.rows.map zhw.d) v) : RD t x.d [.str x.name, .bool x.two, v] := by
 unfold zb8.d; rw [zij]; refine ⟨[[.str x.name], [.bool x.two], [v]], rfl, ?_⟩
 simp only [zbd, zbu, zlp, zik, zk9]; exact ⟨_, _, rfl, rfl, _, _, rfl, rfl, _, _, rfl, ⟨v, rfl, hv⟩, rfl⟩
def zu5 : List zab := [.int .u8 0, .str [], .int .u8 0, .bool false, .nilslice, .bool false, .nilslice, .int .i64 0, .nilslice]
theorem z7f : RD t zu4.d zu5 := by
 unfold zu4 zal.d zu5; rw [zij]; refine ⟨[[.int .u8 0], [.str []], [.int .u8 0, .bool false, .nilslice, .bool false, .nilslice, .int .i64 0], [.nilslice]], rfl, ?_⟩
 rw [zbd]; refine ⟨_, _, rfl, zgn.2 rfl, ?_⟩
 rw [zbd]; refine ⟨_, _, rfl, zlp.2 rfl, ?_⟩
 rw [zbd]; refine ⟨_, _, rfl, zzef (x := ⟨0, ⟨⟨false, []⟩, ⟨false, []⟩⟩, 0⟩) zp6 zp6, ?_⟩
 rw [zbd]; refine ⟨_, _, rfl, ?_, zbu.2 rfl⟩
 rw [zk9]; exact ⟨.nilslice, rfl, zp6⟩
theorem zv7 {x : za2} {cs ds : List zab} (h1 : RD t x.when_.d cs) (h2 : RD t x.then_.d ds) : RD t x.d ([.str x.name, .str x.label, .int .i64 x.from_, .int .i64 x.to, .int .i64 x.known, .bool x.off] ++ (cs ++ ds)) := by
 unfold za2.d; rw [zij]; refine ⟨[[.str x.name], [.str x.label], [.int .i64 x.from_], [.int .i64 x.to], [.int .i64 x.known], [.bool x.off], cs, ds], by simp, ?_⟩
 simp only [zbd, zbu, zlp, zgn, zik]; exact ⟨_, _, rfl, rfl, _, _, rfl, rfl, _, _, rfl, rfl, _, _, rfl, rfl, _, _, rfl, rfl, _, _, rfl, rfl, _, _, rfl, h1, _, _, rfl, h2, rfl⟩
theorem z6i {r : zhw} {two : Bool} (h : zjr two r = true) : r.f.n.limbs.length < 400 /\ r.f.d.limbs.length < 400 := by
 unfold zjr at h; simp only [yac] at h; have h := h.2
 unfold zl6 at h; simp only [yac, decide_eq_true_eq] at h; have h1 := h.1.1.1.1.1.1
 have h2 := h.1.1.1.1.1.2
 exact ⟨by omega, by omega⟩
theorem z0c {x : zb8} (h : zld x = true) : x.rows.length <= 400 /\ ∀ r ∈ x.rows, r.f.n.limbs.length < 400 /\ r.f.d.limbs.length < 400 := by
 unfold zld at h; simp only [yac, decide_eq_true_eq, Bool.not_eq_true', List.any_eq_false] at h; exact ⟨h.1.1.2, fun r hr => z6i (two := x.two) (by have := h.2 r hr; simpa using this)⟩
section
variable {L : List Thg} {p : zi7} {a c : zab}
theorem z9y {i : Nat} {x : zb8} {vt vr : zab} {Q : zav} (hx : p.tables[i]? = some x) (hv : zld x = true) :
  ∀ (m j : Nat) (t tf : Tr zam), j + m = x.rows.length -> Objs C19.base tf t (oS C19.base 7 (x.rows.map zhw.d) vr :: oS C19.base 3 (p.tables.map zb8.d) vt :: L) →
  (∀ tf' t', TLe tf tf' -> Objs C19.base tf' t' (oS C19.base 3 (p.tables.map zb8.d) vt :: L) -> jp 51 2 [vt, .int .i64 (p.tables.length : Int), .int .i64 ((i + 1 : Nat) : Int), .str p.name, a, vt, c, .str [], .nilslice, .nilslice, .nilslice] t' Q) -> i < 1000000 →
  jp 51 6 [.int .i64 (i : Int), vr, vt, .int .i64 (p.tables.length : Int), .int .i64 (i : Int), vr, .int .i64 (x.rows.length : Int), .int .i64 (j : Int), .str p.name, a, vt, c, .str [], .nilslice, .nilslice, .nilslice] t Q := by
 obtain ⟨hr1, hr2⟩ := z0c hv
 intro m; induction m with
 | zero =>
  intro j t tf hj h hQ hi; refine j51_6 _ _ _ _ _ _ _ _ _ _ _ _ _ _ _ _ ?_
  simp only [zzfv, wpT, zaw]; rw [if_neg (by omega)]
  obtain ⟨tf1, k1, k2, k3⟩ := Objs.freezeS (A := []) h
  have hix : (p.tables.map zb8.d)[i]? = some x.d := by rw [yav, hx]; rfl
  obtain ⟨q, g1, t1, g2, g3⟩ := Objs.storeS (A := []) (w := vr) (o := 2) (S := 80) k2 hix sl23 (d' := x.d) ty80 (by
   obtain ⟨cl, hh, _⟩ := k3
   rcases hh with ⟨rfl, _⟩ | ⟨_, _, _, rfl, _⟩ <;> rfl) (by
   obtain ⟨cl, hh, _⟩ := k3
   rcases hh with ⟨rfl, _⟩ | ⟨_, _, _, rfl, _⟩ <;> (show 2 + 1 <= 3; decide)) (by
   have := k3.one
   obtain ⟨cl, hh, _⟩ := k3
   rcases hh with ⟨rfl, _⟩ | ⟨_, _, _, rfl, _⟩ <;> rfl) (fun cs hc hrd => by
   obtain ⟨w, rfl, _⟩ := zo4 hrd
   have e : zif [.str x.name, .bool x.two, w] 2 vr.cells = [.str x.name, .bool x.two, vr] := by
    obtain ⟨cl, hh, _⟩ := k3
    rcases hh with ⟨rfl, _⟩ | ⟨_, _, _, rfl, _⟩ <;> rfl
   rw [e]; exact zzb2 k3)
  rw [z0n hix] at g3; have fa : zaj C19 82 2 (.ptr q (0 + i * 3)) = some (.ptr q (0 + i * 3 + 2)) := by
   unfold zaj zf5; rw [ty82, zac]; rfl
  rw [g1, zaa, fa, zaa]; intro n _ _; rw [g2, zaa, zak (by omega) (by omega), show (i : Int) + 1 = ((i + 1 : Nat) : Int) by omega]
  exact hQ tf1 t1 k1 g3
 | succ m ih =>
  intro j t tf hj h hQ hi; have hlt : j < x.rows.length := by omega
  have hjr : x.rows[j]? = some x.rows[j] := yae hlt
  have hsl : RSl t 7 (x.rows.map zhw.d) vr := zqg (A := []) h
  obtain ⟨b, off, u, w, g1, g2, gx, gy, g5⟩ := z0s hsl hlt
  have hown : (oS C19.base 7 (x.rows.map zhw.d) vr).ok tf t := h.ok (oS C19.base 7 (x.rows.map zhw.d) vr) (by simp)
  have hne : x.rows.map zhw.d ≠ [] := by intro e; have := congrArg List.length e; simp at this; simp [this] at hlt
  obtain ⟨nb, hvr, ho⟩ := zv5 hne hown
  obtain ⟨cs, _, hrd, hat⟩ := ho.cells (i := j) (d := x.rows[j].d) (by simp [hjr])
  obtain ⟨u', w', rfl, hu', hw'⟩ := z0w hrd
  have g1' : zaf C19 80 vr (.int .i64 (j : Int)) = some (.ptr nb (0 + j * 7)) := by rw [hvr]; exact zb6 sl80 (by simpa using hlt)
  rw [g1'] at g1; have hEq : b = nb /\ off = 0 + j * 7 := by cases g1; exact ⟨rfl, rfl⟩
  rw [hEq.1, hEq.2] at g2; have ld2 : zap C19 85 ⟨0, t⟩ (.ptr nb (0 + j * 7)) = some (.agg [.int .i64 x.rows[j].a, .int .i64 x.rows[j].b, .int .i64 x.rows[j].known, .bool x.rows[j].f.n.neg, u', .bool x.rows[j].f.d.neg, w']) := by
   have := hat.load (C := C19) (j := 0) ty85 rfl rfl (by simp)
   rw [yax]; exact this
  rw [ld2] at g2; have e3 : u' = u /\ w' = w := by cases g2; exact ⟨rfl, rfl⟩
  rw [e3.1] at hu'
  rw [e3.2] at hw'
  rw [e3.1, e3.2] at ld2; have hs := hr2 _ (List.getElem_mem hlt)
  refine j51_6 _ _ _ _ _ _ _ _ _ _ _ _ _ _ _ _ ?_
  simp only [zzfv, wpT, zaw]; rw [if_pos (by omega), g1', zaa, ld2, zaa, g5, zaa]
  simp only [cellsOf, zhu, zc2, zet, yaa, yab]; have hone : zd1 zab.one [.int .i64 x.rows[j].a, .int .i64 x.rows[j].b, .int .i64 x.rows[j].known, .bool x.rows[j].f.n.neg, u, .bool x.rows[j].f.d.neg, w] = true := by
   rw [zca]; simp only [ybh, List.all_nil, gx.one, gy.one]; rfl
  refine zbn hone ?_
  rw [if_pos trivial, q102]; refine z9k (v := ⟨0, x.rows[j].f, 0⟩) h ⟨hs.1, hs.2⟩ hu' hw' fun tf1 t1 a' b' k1 k2 k3 k4 => ?_
  have hz : zrd [(.int .u8 0), (.bool false), .nilslice, (.bool false), .nilslice, (.int .i64 0)] (.agg [.int .u8 ((0 : Nat) : Int), .bool x.rows[j].f.n.neg, a', .bool x.rows[j].f.d.neg, b', .int .i64 0]) = some (cellsOf [.int .u8 ((0 : Nat) : Int), .bool x.rows[j].f.n.neg, a', .bool x.rows[j].f.d.neg, b', .int .i64 0]) := zhs (by
   show (true && (true && (zj0 .nilslice a' && (true && (zj0 .nilslice b' && true))))) = true
   rw [zbi k3, zbi k4]; rfl)
  rw [hz, zaa]; simp only [cellsOf, zc2, zet, yaa, yab]; have hix : (x.rows.map zhw.d)[j]? = some x.rows[j].d := by simp [hjr]
  obtain ⟨q, f1, t2, f2, f3⟩ := Objs.storeS (A := []) (w := .agg [.bool x.rows[j].f.n.neg, a', .bool x.rows[j].f.d.neg, b']) (o := 3) (S := 45) k2 hix sl80 (d' := x.rows[j].d) ty45 rfl (by show 3 + 4 <= 7; decide) (by
   show zd1 zab.one [.bool x.rows[j].f.n.neg, a', .bool x.rows[j].f.d.neg, b'] = true
   rw [zca]; simp only [ybh, List.all_nil, k3.one, k4.one]; rfl) (fun cs hc hrd => by
   obtain ⟨u1, w1, rfl, _, _⟩ := z0w hrd
   exact mk_row k3 k4)
  rw [z0n hix] at f3; have fa : zaj C19 85 3 (.ptr nb (0 + j * 7)) = some (.ptr nb (0 + j * 7 + 3)) := by
   unfold zaj zf5; rw [ty85, zac]; rfl
  have eq : q = nb := by rw [g1'] at f1; cases f1; rfl
  rw [eq] at f2; rw [zaa, fa, zaa]; intro n _ _; rw [f2, zaa, zak (by omega) (by omega), show (j : Int) + 1 = ((j + 1 : Nat) : Int) by omega]
  exact ih (j + 1) t2 tf1 (by omega) f3 (fun tf' t' m1 m2 => hQ tf' t' (k1.trans m1) m2) hi
theorem zxh {vc vt : zab} {Q : zav} (hn : p.clauses.length < 1000000) :
  ∀ (m i : Nat) (t tf : Tr zam), i + m = p.clauses.length -> Objs C19.base tf t (oS C19.base 24 ((((p.clauses.take i).map zm4) ++ p.clauses.drop i).map za2.d) vc :: L) →
  (∀ t', Objs C19.base tf t' (oS C19.base 24 ((p.clauses.map zm4).map za2.d) vc :: L) -> Q (.agg [.str p.name, a, vt, vc]) t') -> zab.one a = true -> zab.one vt = true →
  jp 51 10 [.int .i64 (p.clauses.length : Int), .int .i64 (i : Int), .str p.name, a, vt, vc, .str [], .nilslice, .nilslice, .nilslice] t Q := by
 intro m; induction m with
 | zero =>
  intro i t tf hi h hQ ha ht; refine zzek _ _ _ _ _ _ _ _ _ _ ?_
  simp only [z5e, wpT, zaw]; rw [if_neg (by omega)]
  have hsl : RSl t 24 _ vc := zqg (A := []) h
  have hone : zd1 zab.one [.str p.name, a, vt, vc] = true := by rw [zca]; simp only [ybh, List.all_nil, ha, ht, hsl.one]; rfl
  rw [if_pos hone]; rw [ybb (by omega), yau (by omega), ybe] at h
  exact hQ t h
 | succ m ih =>
  intro i t tf hi h hQ ha ht; have hlt : i < p.clauses.length := by omega
  have hx : p.clauses[i]? = some p.clauses[i] := yae hlt
  have hlen : ((p.clauses.take i).map zm4).length = i := by simp; omega
  have hget : ((((p.clauses.take i).map zm4) ++ p.clauses.drop i).map za2.d)[i]? = some p.clauses[i].d := by
   rw [yav, yaq (by omega), hlen, Nat.sub_self, List.getElem?_drop, Nat.add_zero, hx]; rfl
  have hsl : RSl t 24 _ vc := zqg (A := []) h
  refine zzek _ _ _ _ _ _ _ _ _ _ ?_
  simp only [z5e, wpT, zaw]; rw [if_pos (by omega), if_pos trivial, if_pos trivial]
  obtain ⟨q, g1, t1, g2, g3⟩ := Objs.storeS (A := []) (w := .agg zu5) (o := 6) (S := 50) h hget sl24 (d' := (⟨p.clauses[i].name, p.clauses[i].label, p.clauses[i].from_, p.clauses[i].to, p.clauses[i].known, p.clauses[i].off, zu4, p.clauses[i].then_⟩ : za2).d) zzap rfl (by show 6 + 9 <= 24; decide) rfl (fun cs hc hrd => by
   obtain ⟨u1, u2, u3, w1, w2, w3, rfl, h1, h2⟩ := zmj hrd
   exact zv7 (x := ⟨p.clauses[i].name, p.clauses[i].label, p.clauses[i].from_, p.clauses[i].to, p.clauses[i].known, p.clauses[i].off, zu4, p.clauses[i].then_⟩) z7f h2)
  have fa : zaj C19 52 6 (.ptr q (0 + i * 24)) = some (.ptr q (0 + i * 24 + 6)) := by
   unfold zaj zf5; rw [ty52, zac]; rfl
  rw [g1, zaa, fa, zaa]; intro n _ _; rw [show (zab.agg [.int .u8 0, .str [], .int .u8 0, .bool false, .nilslice, .bool false, .nilslice, .int .i64 0, .nilslice]) = .agg zu5 from rfl, g2, zaa, if_pos hsl.same]
  have hget2 : (((((p.clauses.take i).map zm4) ++ p.clauses.drop i).map za2.d).set i (⟨p.clauses[i].name, p.clauses[i].label, p.clauses[i].from_, p.clauses[i].to, p.clauses[i].known, p.clauses[i].off, zu4, p.clauses[i].then_⟩ : za2).d)[i]? = some (⟨p.clauses[i].name, p.clauses[i].label, p.clauses[i].from_, p.clauses[i].to, p.clauses[i].known, p.clauses[i].off, zu4, p.clauses[i].then_⟩ : za2).d := by
   rw [List.getElem?_set, if_pos rfl, if_pos (by simp; omega)]
  obtain ⟨q2, f1, t2, f2, f3⟩ := Objs.storeS (A := []) (w := .agg zu5) (o := 15) (S := 50) g3 hget2 sl24 (d' := (zm4 p.clauses[i]).d) zzap rfl (by show 15 + 9 <= 24; decide) rfl (fun cs hc hrd => by
   obtain ⟨u1, u2, u3, w1, w2, w3, rfl, h1, h2⟩ := zmj hrd
   exact zv7 (x := zm4 p.clauses[i]) h1 z7f)
  rw [List.set_set] at f3; have fb : zaj C19 52 7 (.ptr q2 (0 + i * 24)) = some (.ptr q2 (0 + i * 24 + 15)) := by
   unfold zaj zf5; rw [ty52, zac]; rfl
  rw [f1] at g1
  cases g1
  simp only [zaa, fb]; intro n2 _ _; rw [f2, zaa, zak (by omega) (by omega), show (i : Int) + 1 = ((i + 1 : Nat) : Int) by omega]
  have hset : ((((p.clauses.take i).map zm4) ++ p.clauses.drop i).map za2.d).set i (zm4 p.clauses[i]).d = (((p.clauses.take (i + 1)).map zm4) ++ p.clauses.drop (i + 1)).map za2.d := by
   have e1 : p.clauses.drop i = p.clauses[i] :: p.clauses.drop (i + 1) := yam hlt
   have e2 : p.clauses.take (i + 1) = p.clauses.take i ++ [p.clauses[i]] := by rw [List.take_add_one, hx]; rfl
   rw [e1, e2, List.map_append (f := za2.d), List.map_cons (f := za2.d), zp2 (by simp; omega), List.map_append (f := zm4)]
   simp only [List.map_append, List.map_cons, List.map_nil, yba, List.singleton_append]
  rw [hset] at f3; exact ih (i + 1) t2 tf (by omega) f3 hQ ha ht
end
end Go.Proofs
namespace Go.Proofs
open Go Go.Am
variable [zcg]
variable {t tf : Tr zam}
section
variable {L : List Thg} {p : zi7} {a c : zab}
theorem zzu {vt : zab} {Q : zav} (hp : p.fit) (hb : zfk p = true) (ha : zab.one a = true) :
  ∀ (m i : Nat) (t tf : Tr zam), i + m = p.tables.length -> Objs C19.base tf t (oS C19.base 3 (p.tables.map zb8.d) vt :: L) -> RSl tf 24 (p.clauses.map za2.d) c →
  (∀ tf' t' vc, TLe tf tf' -> Objs C19.base tf' t' (oS C19.base 24 ((p.clauses.map zm4).map za2.d) vc :: oS C19.base 3 (p.tables.map zb8.d) vt :: L) -> Q (.agg [.str p.name, a, vt, vc]) t') →
  jp 51 2 [vt, .int .i64 (p.tables.length : Int), .int .i64 (i : Int), .str p.name, a, vt, c, .str [], .nilslice, .nilslice, .nilslice] t Q := by
 unfold zfk at hb; simp only [yac, decide_eq_true_eq] at hb; obtain ⟨⟨⟨⟨hb1, hb2⟩, hb3⟩, hb4⟩, hb5⟩ := hb
 intro m; induction m with
 | zero =>
  intro i t tf hi h hc hQ; refine j51_2 _ _ _ _ _ _ _ _ _ _ _ ?_
  simp only [zzfw, wpT, zaw]; rw [if_neg (by omega), q103]
  refine zzdc hc h (by rw [yag]; omega) fun tf1 t1 vc k1 k2 => ?_
  have hsl : RSl t1 24 _ vc := zqg (A := []) k2
  have hone : zd1 zab.one [vc] = true := by rw [zca]; simp only [ybh, List.all_nil, hsl.one]; rfl
  rw [if_pos hone, hsl.len, zaa, yag, zag, zaa]; have hvt : RSl t1 3 _ vt := zqg (A := [oS C19.base 24 (p.clauses.map za2.d) vc]) k2
  exact zxh (p := p) (vt := vt) (by omega) p.clauses.length 0 t1 tf1 (by omega) (by simpa using k2) (fun t' h' => hQ tf1 t' vc k1 h') ha hvt.one
 | succ m ih =>
  intro i t tf hi h hc hQ; have hlt : i < p.tables.length := by omega
  have hx : p.tables[i]? = some p.tables[i] := yae hlt
  have hv : zld p.tables[i] = true := ybc.1 hb5 _ (List.getElem_mem hlt)
  have hr := (z0c hv).1
  have hown : (oS C19.base 3 (p.tables.map zb8.d) vt).ok tf t := h.ok (oS C19.base 3 (p.tables.map zb8.d) vt) (by simp)
  have hne : p.tables.map zb8.d ≠ [] := by intro e; have := congrArg List.length e; simp at this; simp [this] at hlt
  obtain ⟨nb, hvt, ho⟩ := zv5 hne hown
  obtain ⟨cs, _, hrd, hat⟩ := ho.cells (i := i) (d := p.tables[i].d) (by simp [hx])
  have hz := zko hrd (zb8.zs _)
  obtain ⟨w, rfl, hw⟩ := zo4 hrd
  have g1 : zaf C19 23 vt (.int .i64 (i : Int)) = some (.ptr nb (0 + i * 3)) := by rw [hvt]; exact zb6 sl23 (by simpa using hlt)
  have ld : zap C19 82 ⟨0, t⟩ (.ptr nb (0 + i * 3)) = some (.agg [.str p.tables[i].name, .bool p.tables[i].two, w]) := by
   have := hat.load (C := C19) (j := 0) ty82 rfl rfl (by simp)
   rw [yax]; exact this
  have hone : zd1 zab.one [.str p.tables[i].name, .bool p.tables[i].two, w] = true := by rw [zca]; simp only [ybh, List.all_nil, hw.one]; rfl
  refine j51_2 _ _ _ _ _ _ _ _ _ _ _ ?_
  simp only [zzfw, wpT, zaw]; rw [if_pos (by omega), g1, zaa, ld, zaa, hz, zaa]
  simp only [cellsOf, zht, zc2, zet, yaa, yab]; refine zbn hone ?_
  rw [q101]; refine zzdd hw h (by rw [yag]; omega) fun tf1 t1 vr k1 k2 => ?_
  have hsl : RSl t1 7 _ vr := zqg (A := []) k2
  rw [hsl.len, zaa, yag, zag, zaa]; refine z9y (a := a) (c := c) hx hv p.tables[i].rows.length 0 t1 tf1 (by omega) k2 (fun tf2 t2 m1 m2 => ?_) (by omega)
  exact ih (i + 1) t2 tf2 (by omega) m2 (hc.mono (k1.trans m1)) fun tf3 t3 vc n1 n2 => hQ tf3 t3 vc (k1.trans (m1.trans n1)) n2
theorem zzh5 {cs : List zab} {Q : zav} (hp : p.fit) (hb : zfk p = true) (hrd : RD tf p.d cs) (h : Objs C19.base tf t L)
  (hQ : ∀ tf' t' a' b' c', TLe tf tf' -> Objs C19.base tf' t' L -> RSl tf' 3 (p.defs.map zxr.d) a' -> RSl tf' 3 (p.tables.map zb8.d) b' -> RSl tf' 24 ((p.clauses.map zm4).map za2.d) c' -> Q (.agg [.str p.name, a', b', c']) t') : Wc C19 F 51 [.agg cs] t Q := by
 obtain ⟨a, b, c, rfl, ha, hbb, hc⟩ := zp8 hrd
 have hb' := hb
 unfold zfk at hb'; simp only [yac, decide_eq_true_eq] at hb'
 obtain ⟨⟨⟨⟨hb1, hb2⟩, hb3⟩, hb4⟩, hb5⟩ := hb'
 refine w51 _ _ _ _ ?_
 simp only [t51, wpT, q99]; refine zzh0 ha h (by rw [yag]; omega) fun tf1 t1 va k1 k2 => ?_
 obtain ⟨tf2, m1, m2, m3⟩ := Objs.freezeS (A := []) k2
 have hone : zd1 zab.one [va] = true := by rw [zca]; simp only [ybh, List.all_nil, m3.one]; rfl
 rw [if_pos hone, q100]; refine zzde (hbb.mono (k1.trans m1)) m2 (by rw [yag]; omega) fun tf3 t3 vt n1 n2 => ?_
 have hsl : RSl t3 3 _ vt := zqg (A := []) n2
 have hone2 : zd1 zab.one [vt] = true := by rw [zca]; simp only [ybh, List.all_nil, hsl.one]; rfl
 rw [if_pos hone2, hsl.len, zaa, yag, zag, zaa]; refine zzu hp hb m3.one p.tables.length 0 t3 tf3 (by omega) n2 (hc.mono (k1.trans (m1.trans n1))) fun tf4 t4 vc q1 q2 => ?_
 obtain ⟨tf5, r1, r2, r3⟩ := Objs.freezeS (A := []) q2
 obtain ⟨tf6, s1, s2, s3⟩ := Objs.freezeS (A := []) r2
 exact hQ tf6 t4 va vt vc (k1.trans (m1.trans (n1.trans (q1.trans (r1.trans s1))))) s2 (m3.mono (n1.trans (q1.trans (r1.trans s1)))) s3 (r3.mono s1)
end
def tsW (r : TR) (s : XSt) : List Thg :=
 [zfm r.b none r.cells, zfv r.m1 (zax 0 s.names), zfv r.m2 (zax 0 (s.consts.map za9)), zat C19.base 1 (s.names.map D.str) r.vn, zat C19.base 6 (s.consts.map zc3.d) r.vc, zat C19.base 1 s.ws r.vw, zat C19.base 1 s.ts r.vt]
structure TW (tf t : Tr zam) (r : TR) (s : XSt) : Prop where
 pl : r.pl.length = 4
 os : Objs C19.base tf t (tsW r s)
variable {r : TR} {s : XSt}
theorem TW.cel (h : TW tf t r s) : Cel t r.b none r.cells := h.os.ok (zfm r.b none r.cells) (by simp [tsW])
theorem TW.baseB (h : TW tf t r s) : C19.base <= r.b /\ tf.get r.b = none := h.os.low r.b (by simp [tsW, zfm])
theorem zlf {x : zal} {cs : List zab} {Q : zav} (h : TW tf t r s) (hx : x.fit) (hg : z18 tf) (hrd : RD tf x.d cs) (hp : zbb x <= 200) (b2 : s.names.length + zbb x < 300000) (b3 : s.consts.length + zbb x < 300000)
  (hQ : ∀ tf' t' r' v, TLe tf tf' -> r'.b = r.b -> r'.kp = r.kp -> TW tf' t' r' (s.put (trX za9 zao x s.nt 0).1 []) -> RSl tf' 3 ((trX za9 zao x s.nt 0).2.map XIns.d) v -> Q v t') : Wc C19 F 52 [.ptr r.b 0, .agg cs] t Q := by
 obtain ⟨a, b, d, rfl, ha, hb, hd⟩ := zfa hrd
 refine w52 _ _ _ _ _ _ _ _ _ _ ?_
 simp only [t52, wpT]; rw [zc5, zaa, znx, zaa]; intro n _ _; have hlen : r.cells.length = 11 := by simp [TR.cells, h.pl]
 obtain ⟨t1, g1, g2, g3⟩ := h.cel.store1 (C := C19) h.baseB.1 (j := 10) (v := .nilslice) zzaq rfl rfl rfl (by omega)
 have es : r.cells.set 10 .nilslice = TR.cells ⟨r.b, r.pl, r.vn, r.vc, r.vw, r.vt, .nilslice, r.m1, r.m2⟩ := zof (k := 6) h.pl
 rw [es] at g2; have o1 : Objs C19.base tf t1 (tsW ⟨r.b, r.pl, r.vn, r.vc, r.vw, r.vt, .nilslice, r.m1, r.m2⟩ s) :=
  Objs.upd (A := []) (o := zfm r.b none r.cells) h.os (fun k k1 _ => g3 k (fun e => k1 (by simp [zfm, e]))) (fun k hk => .inl hk) g2 (by simp [zfm]) (h.os.tle.off h.baseB.2 g3)
 have o2 : Objs C19.base tf t1 (tsL za9 ⟨r.b, r.pl, r.vn, r.vc, r.vw, r.vt, .nilslice, r.m1, r.m2⟩ ⟨s.names, s.consts, s.ws, s.ts, []⟩) := by
  have e : tsW ⟨r.b, r.pl, r.vn, r.vc, r.vw, r.vt, .nilslice, r.m1, r.m2⟩ s = tsW ⟨r.b, r.pl, r.vn, r.vc, r.vw, r.vt, .nilslice, r.m1, r.m2⟩ s ++ [] := by simp
  rw [e] at o1; exact Objs.add (o' := zat C19.base 3 ([] : List D) .nilslice) o1 (fun _ _ => rfl) (fun k hk => by simp [zat, zjx] at hk) (.inl ⟨rfl, rfl⟩) (by simp [zat, zjx]) o1.tle
 rw [g1, zaa, zzga]; refine z1t x (zcq x a b d) t1 tf ⟨r.b, r.pl, r.vn, r.vc, r.vw, r.vt, .nilslice, r.m1, r.m2⟩ ⟨s.names, s.consts, s.ws, s.ts, []⟩ _ hx hg hrd ⟨h.pl, o2⟩ (by show 0 + 4 * zbb x < _; omega) b2 b3 fun tf2 t2 r2 k1 k2 k3 k4 => ?_
 have hb2 : r2.b = r.b := k2
 rw [zaa, znx, zaa, <- hb2, k4.ldK, zaa]; have e3 : tsL za9 r2 (XSt.put ⟨s.names, s.consts, s.ws, s.ts, []⟩ (trX za9 zao x s.nt 0).1 (trX za9 zao x s.nt 0).2) = tsW r2 (s.put (trX za9 zao x s.nt 0).1 []) ++ zat C19.base 3 (((trX za9 zao x s.nt 0).2).map XIns.d) r2.vk :: [] := by
  simp [tsL, tsW, XSt.put]
 have o4 : Objs C19.base tf2 t2 (tsL za9 r2 (XSt.put ⟨s.names, s.consts, s.ws, s.ts, []⟩ (trX za9 zao x s.nt 0).1 (trX za9 zao x s.nt 0).2)) := k4.os
 rw [e3] at o4; obtain ⟨tf3, m1, m2, m3⟩ := Objs.freezeL o4
 rw [ybe] at m2; exact hQ tf3 t2 r2 r2.vk (k1.trans m1) hb2 (k3.trans rfl) ⟨k4.pl, m2⟩ m3
end Go.Proofs
namespace Go.Proofs
open Go Go.Am
variable [zcg]
variable {t tf : Tr zam} {r : TR} {s : XSt}
def zc1 (l : List XIns) : D := .sl 3 (l.map XIns.d)
theorem z1b {n : Nat} {v : zab} {l : List D} (hv : RSl tf 3 l v) (hn : t.get n = none) : ∃ t', za0 C19 32 1 [(0, v)] ⟨n, t⟩ = some (.slice n 0 1 1, ⟨n + 1, t'⟩) /\ zhp t' 1 (.slice n 0 1 1) [[v]] /\ TLe t t' /\ Off n t t' :=
 zhh (C := C19) (T := 32) (el := 37) (sz := 1) (n := 1) (cl := [[v]]) zzfq rfl zzaq rfl rfl (by decide) (by
  obtain ⟨cl, hh, _⟩ := hv
  rcases hh with ⟨rfl, _⟩ | ⟨_, _, _, rfl, _⟩ <;> rfl) (fun k cs hk => by
  cases k with
  | zero => simp at hk; subst hk; rfl
  | succ k => simp at hk) rfl hn
theorem TW.junk (h : TW tf t r s) {n : Nat} {t' : Tr zam} (hn : t.get n = none) (ho : Off n t t') : TW tf t' r s := ⟨h.pl, h.os.junk hn ho⟩
theorem TW.ldW (h : TW tf t r s) : zap C19 32 ⟨0, t⟩ (.ptr r.b 6) = some r.vw := h.cel.load1 zzfq rfl (zp9 (k := 2) h.pl)
theorem TW.ldT (h : TW tf t r s) : zap C19 32 ⟨0, t⟩ (.ptr r.b 7) = some r.vt := h.cel.load1 zzfq rfl (zp9 (k := 3) h.pl)
theorem pushW {l : List XIns} {v x : zab} {n : Nat} (h : TW tf t r s) (hv : RSl tf 3 (l.map XIns.d) v) (hx : zhp t 1 x [[v]]) (hl : s.ws.length < 300000) (hn : t.get n = none) (hnb : C19.base <= n) :
  ∃ v2 k t2, zbm C19 32 32 r.vw x ⟨n, t⟩ = some (v2, ⟨k, t2⟩) /\ ∃ t3, (∀ m, zbz C19 32 (.ptr r.b 6) v2 ⟨m, t2⟩ = some (zbr, ⟨m, t3⟩)) /\ TW tf t3 ⟨r.b, r.pl, r.vn, r.vc, v2, r.vt, r.vk, r.m1, r.m2⟩ ⟨s.names, s.consts, s.ws ++ [zc1 l], s.ts, s.code⟩ := by
 have ln : Loose C19.base tf t 1 s.ws r.vw := h.os.ok (zat C19.base 1 s.ws r.vw) (by simp [tsW])
 obtain ⟨t2, c1, c2, c3, c4⟩ := zf9 (C := C19) el32 (m := [zc1 l]) ln hx (by
  rw [zbd]; refine ⟨_, _, rfl, ?_, zbu.2 rfl⟩
  unfold zc1; rw [zk9]; exact ⟨v, rfl, hv⟩) (by intro a ha; simp at ha; subst ha; exact hv.one) (by simp) (by simp; omega) hn hnb h.os.tle
 have o3 : Objs C19.base tf t2 ([zfm r.b none r.cells, zfv r.m1 (zax 0 s.names), zfv r.m2 (zax 0 (s.consts.map za9)), zat C19.base 1 (s.names.map D.str) r.vn, zat C19.base 6 (s.consts.map zc3.d) r.vc] ++ zat C19.base 1 (s.ws ++ [zc1 l]) (.slice n 0 (s.ws.length + [zc1 l].length) (s.ws.length + [zc1 l].length)) :: [zat C19.base 1 s.ts r.vt]) := by
  refine Objs.upd (o := zat C19.base 1 s.ws r.vw) h.os (fun k k1 k2 => c4 k ?_ (fun e => k1 (zgx.2 e))) (fun k hk => ?_) c2 (by simp [zat, zjx]) c3
  ·intro e; subst e; exact k2 (by simp [zat, zjx])
  ·have : k = n := by simpa [zat, zjx] using hk
   subst this; exact .inr ⟨hn, hnb⟩
 have hlen : r.cells.length = 11 := by simp [TR.cells, h.pl]
 have cel3 : Cel t2 r.b none r.cells := o3.ok (zfm r.b none r.cells) (by simp)
 obtain ⟨t4, g1, g2, g3⟩ := cel3.store1 (C := C19) h.baseB.1 (j := 6) (v := .slice n 0 (s.ws.length + [zc1 l].length) (s.ws.length + [zc1 l].length)) zzfq rfl rfl rfl (by omega)
 have es : r.cells.set 6 (.slice n 0 (s.ws.length + [zc1 l].length) (s.ws.length + [zc1 l].length)) = TR.cells ⟨r.b, r.pl, r.vn, r.vc, .slice n 0 (s.ws.length + [zc1 l].length) (s.ws.length + [zc1 l].length), r.vt, r.vk, r.m1, r.m2⟩ := zof (k := 2) h.pl
 rw [es] at g2; refine ⟨_, _, t2, c1, t4, g1, h.pl, ?_⟩
 exact Objs.upd (A := []) (o := zfm r.b none r.cells) o3 (fun k k1 _ => g3 k (fun e => k1 (by simp [zfm, e]))) (fun k hk => .inl hk) g2 (by simp [zfm]) (c3.off h.baseB.2 g3)
theorem pushT {l : List XIns} {v x : zab} {n : Nat} (h : TW tf t r s) (hv : RSl tf 3 (l.map XIns.d) v) (hx : zhp t 1 x [[v]]) (hl : s.ts.length < 300000) (hn : t.get n = none) (hnb : C19.base <= n) :
  ∃ v2 k t2, zbm C19 32 32 r.vt x ⟨n, t⟩ = some (v2, ⟨k, t2⟩) /\ ∃ t3, (∀ m, zbz C19 32 (.ptr r.b 7) v2 ⟨m, t2⟩ = some (zbr, ⟨m, t3⟩)) /\ TW tf t3 ⟨r.b, r.pl, r.vn, r.vc, r.vw, v2, r.vk, r.m1, r.m2⟩ ⟨s.names, s.consts, s.ws, s.ts ++ [zc1 l], s.code⟩ := by
 have ln : Loose C19.base tf t 1 s.ts r.vt := h.os.ok (zat C19.base 1 s.ts r.vt) (by simp [tsW])
 obtain ⟨t2, c1, c2, c3, c4⟩ := zf9 (C := C19) el32 (m := [zc1 l]) ln hx (by
  rw [zbd]; refine ⟨_, _, rfl, ?_, zbu.2 rfl⟩
  unfold zc1; rw [zk9]; exact ⟨v, rfl, hv⟩) (by intro a ha; simp at ha; subst ha; exact hv.one) (by simp) (by simp; omega) hn hnb h.os.tle
 have o3 : Objs C19.base tf t2 ([zfm r.b none r.cells, zfv r.m1 (zax 0 s.names), zfv r.m2 (zax 0 (s.consts.map za9)), zat C19.base 1 (s.names.map D.str) r.vn, zat C19.base 6 (s.consts.map zc3.d) r.vc, zat C19.base 1 s.ws r.vw] ++ zat C19.base 1 (s.ts ++ [zc1 l]) (.slice n 0 (s.ts.length + [zc1 l].length) (s.ts.length + [zc1 l].length)) :: []) := by
  refine Objs.upd (o := zat C19.base 1 s.ts r.vt) h.os (fun k k1 k2 => c4 k ?_ (fun e => k1 (zgx.2 e))) (fun k hk => ?_) c2 (by simp [zat, zjx]) c3
  ·intro e; subst e; exact k2 (by simp [zat, zjx])
  ·have : k = n := by simpa [zat, zjx] using hk
   subst this; exact .inr ⟨hn, hnb⟩
 have hlen : r.cells.length = 11 := by simp [TR.cells, h.pl]
 have cel3 : Cel t2 r.b none r.cells := o3.ok (zfm r.b none r.cells) (by simp)
 obtain ⟨t4, g1, g2, g3⟩ := cel3.store1 (C := C19) h.baseB.1 (j := 7) (v := .slice n 0 (s.ts.length + [zc1 l].length) (s.ts.length + [zc1 l].length)) zzfq rfl rfl rfl (by omega)
 have es : r.cells.set 7 (.slice n 0 (s.ts.length + [zc1 l].length) (s.ts.length + [zc1 l].length)) = TR.cells ⟨r.b, r.pl, r.vn, r.vc, r.vw, .slice n 0 (s.ts.length + [zc1 l].length) (s.ts.length + [zc1 l].length), r.vk, r.m1, r.m2⟩ := zof (k := 3) h.pl
 rw [es] at g2; refine ⟨_, _, t2, c1, t4, g1, h.pl, ?_⟩
 exact Objs.upd (A := []) (o := zfm r.b none r.cells) o3 (fun k k1 _ => g3 k (fun e => k1 (by simp [zfm, e]))) (fun k hk => .inl hk) g2 (by simp [zfm]) (c3.off h.baseB.2 g3)
def zqa : List za2 -> Nat
 | [] => 0
 | c :: l => zbb c.when_ + zbb c.then_ + zqa l
def zzfh : List zab := [.str [], .nilslice, .nilslice, .nilslice, .nilslice, .nilslice, .nilslice, .nilslice]
theorem z9m {cl : List za2} {c : zab} {Q : zav} (hn : cl.length <= 400) (hfit : ∀ x ∈ cl, x.fit) (hb : ∀ x ∈ cl, zf1 x = true) : ∀ (l : List za2) (i : Nat) (t tf : Tr zam) (r : TR) (s : XSt), cl.drop i = l -> TW tf t r s -> z18 tf -> RSl tf 24 (cl.map za2.d) c -> s.names.length + zqa l < 200000 -> s.consts.length + zqa l < 200000 -> s.ws.length + l.length < 200000 -> s.ts.length + l.length < 200000 →
  (∀ tf' t' r', TLe tf tf' -> r'.b = r.b -> r'.pl = r.pl -> TW tf' t' r' ⟨(trC za9 zao l s.nt).1.names, (trC za9 zao l s.nt).1.consts, s.ws ++ (trC za9 zao l s.nt).2.map (fun p => zc1 p.1), s.ts ++ (trC za9 zao l s.nt).2.map (fun p => zc1 p.2), s.code⟩ -> Q (.tup [.agg (r'.pl ++ [r'.vn, r'.vc, r'.vw, r'.vt]), .int .i64 0]) t') →
  (∃ nm a b d, r.pl = [.str nm, a, b, d] /\ zab.one a = true /\ zab.one b = true /\ zab.one d = true /\ zj0 .nilslice a = true /\ zj0 .nilslice b = true /\ zj0 .nilslice d = true) →
  jp 22 2 [.ptr r.b 0, c, .int .i64 (cl.length : Int), .int .i64 (i : Int), .str [], .nilslice, .nilslice, .nilslice, .nilslice, .nilslice, .nilslice, .nilslice] t Q := by
 intro l; induction l with
 | nil =>
  intro i t tf r s hl h hg hc b1 b2 b3 b4 hQ hpl; have := zkj hl
  refine j22_2 _ _ _ _ _ _ _ _ _ _ _ _ ?_
  simp only [zzf1, wpT, zaw]; obtain ⟨nm, a, b, d, epl, o1, o2, o3, f1, f2, f3⟩ := hpl
  have ld : zap C19 34 ⟨0, t⟩ (.ptr r.b 0) = some (.agg (r.pl ++ [r.vn, r.vc, r.vw, r.vt])) := by
   have := h.cel.at.load (C := C19) (j := 0) ty34 rfl rfl (by simp [TR.cells, h.pl])
   rw [yax] at this; rw [this, epl]; unfold TR.cells; rw [epl]; rfl
  have ln : Loose C19.base tf t 1 (s.names.map D.str) r.vn := h.os.ok (zat C19.base 1 (s.names.map D.str) r.vn) (by simp [tsW])
  have lc : Loose C19.base tf t 6 (s.consts.map zc3.d) r.vc := h.os.ok (zat C19.base 6 (s.consts.map zc3.d) r.vc) (by simp [tsW])
  have lw : Loose C19.base tf t 1 s.ws r.vw := h.os.ok (zat C19.base 1 s.ws r.vw) (by simp [tsW])
  have lt : Loose C19.base tf t 1 s.ts r.vt := h.os.ok (zat C19.base 1 s.ts r.vt) (by simp [tsW])
  have r1 := ln.read h.os.tle
  have r2 := lc.read h.os.tle
  have r3 := lw.read h.os.tle
  have r4 := lt.read h.os.tle
  rw [if_neg (by omega), zc5, zaa, zgf, zaa, ld, zaa]
  have hq := hQ tf t r (TLe.refl _) rfl rfl (by
   simp only [trC, List.map_nil, ybe]; exact h)
  rw [epl] at hq ⊢
  have hz : zrd [(.str []), .nilslice, .nilslice, .nilslice, .nilslice, .nilslice, .nilslice, .nilslice] (.agg ([.str nm, a, b, d] ++ [r.vn, r.vc, r.vw, r.vt])) = some (cellsOf [.str nm, a, b, d, r.vn, r.vc, r.vw, r.vt]) := zhs (by
   show (true && (zj0 .nilslice a && (zj0 .nilslice b && (zj0 .nilslice d && (zj0 .nilslice r.vn && (zj0 .nilslice r.vc && (zj0 .nilslice r.vw && (zj0 .nilslice r.vt && true)))))))) = true
   rw [f1, f2, f3, zbi r1, zbi r2, zbi r3, zbi r4]; rfl)
  rw [hz, zaa]; simp only [cellsOf, zht, zet, yaa, yab]; have hone : zd1 zab.one [.str nm, a, b, d, r.vn, r.vc, r.vw, r.vt] = true := by
   rw [zca]; simp only [ybh, List.all_nil, o1, o2, o3, r1.one, r2.one, r3.one, r4.one]; rfl
  exact zbn hone hq
 | cons x l ih =>
  intro i t tf r s hl h hg hc b1 b2 b3 b4 hQ hpl; obtain ⟨h1, h2, h3⟩ := zi2 hl
  have hx := List.mem_of_getElem? h1
  have hxf := hfit x hx
  have hxb := hb x hx
  unfold zf1 at hxb; rw [yac] at hxb; have p1 := zhb hxb.1
  have p2 := zhb hxb.2
  unfold zqa at b1 b2; rw [yao] at b3 b4; obtain ⟨q, off, u1, u2, u3, w1, w2, w3, g1, g2, g3, g4, g5, g6⟩ := zq1 hc h1
  have g2 : zap C19 52 ⟨0, t⟩ (.ptr q off) = some (.agg (zfs x u1 u2 u3 w1 w2 w3)) := zd0 (H := ⟨0, tf⟩) (fun _ _ k => h.os.tle _ _ k) g2
  refine j22_2 _ _ _ _ _ _ _ _ _ _ _ _ ?_
  simp only [zzf1, wpT, zaw]; unfold zte at g3; rw [if_pos (by omega), g1, zaa, g2, zaa, g3, zaa]
  unfold zfs at g6; simp only [zfs, cellsOf, zhu, zht, zc2, zet, yaa, yab]; refine zbn g6 ?_
  rw [zc5, zaa, zgf, zaa, zze9, zaa, h.ldW, zaa, q52]; have s1 := zed (key := za9) (valid := zao) x.when_ s.nt 0
  refine zlf (x := x.when_) h hxf.2.2.2.2.2.1 hg g4 p1 (by omega) (by omega) fun tf1 t1 r1 v1 k1 k2 k3 k4 k5 => ?_
  have kw : r1.vw = r.vw := congrArg (fun z => z.2.1) k3
  have kt : r1.vt = r.vt := congrArg (fun z => z.2.2) k3
  have kp : r1.pl = r.pl := congrArg (fun z => z.1) k3
  have n1 : (trX za9 zao x.when_ s.nt 0).1.names.length <= s.names.length + zbb x.when_ := s1.2.1
  have n2 : (trX za9 zao x.when_ s.nt 0).1.consts.length <= s.consts.length + zbb x.when_ := s1.2.2
  rw [<- k2, k4.ldW, zaa, kw, if_pos (by rw [<- kw]; exact (k4.os.ok (zat C19.base 1 s.ws r1.vw) (by simp [tsW, XSt.put]) : Loose C19.base tf1 t1 1 s.ws r1.vw).same)]
  intro m1 hm1 hm1b; obtain ⟨t2, a1, a2, a3, a4⟩ := z1b (t := t1) k5 hm1
  have j2 := k4.junk hm1 a4
  rw [a1, zaa, j2.ldW, zaa, kw, if_pos (by rw [<- kw]; exact (k4.os.ok (zat C19.base 1 s.ws r1.vw) (by simp [tsW, XSt.put]) : Loose C19.base tf1 t1 1 s.ws r1.vw).same)]
  intro m2 hm2 hm2b; obtain ⟨vw2, kk, t3, c1, t4, c2, c3⟩ := pushW j2 k5 a2 (by show s.ws.length < _; omega) hm2 hm2b
  rw [kw] at c1; rw [c1, zaa]; simp only [zc5, zaa, zgf, zze9, z85]; intro m3 _ _; rw [c2, zaa]; simp only [zc5, zaa, zgf, z85]; have ld7 := c3.ldT
  rw [ld7, zaa, q52]; have s2 := zed (key := za9) (valid := zao) x.then_ (trX za9 zao x.when_ s.nt 0).1 0
  refine zlf (r := ⟨r1.b, r1.pl, r1.vn, r1.vc, vw2, r1.vt, r1.vk, r1.m1, r1.m2⟩) (x := x.then_) c3 hxf.2.2.2.2.2.2 (hg.mono k1) (RD.mono k1 _ _ g5) p2 (by show (trX za9 zao x.when_ s.nt 0).1.names.length + _ < _; omega) (by show (trX za9 zao x.when_ s.nt 0).1.consts.length + _ < _; omega) fun tf5 t5 r5 v5 d1 d2 d3 d4 d5 => ?_
  have dw : r5.vw = vw2 := congrArg (fun z => z.2.1) d3
  have dt : r5.vt = r1.vt := congrArg (fun z => z.2.2) d3
  have dp : r5.pl = r1.pl := congrArg (fun z => z.1) d3
  have d2 : r5.b = r1.b := d2
  have n3 : (trX za9 zao x.then_ (trX za9 zao x.when_ s.nt 0).1 0).1.names.length <= (trX za9 zao x.when_ s.nt 0).1.names.length + zbb x.then_ := s2.2.1
  have n4 : (trX za9 zao x.then_ (trX za9 zao x.when_ s.nt 0).1 0).1.consts.length <= (trX za9 zao x.when_ s.nt 0).1.consts.length + zbb x.then_ := s2.2.2
  have sameT : same 10 r5.vt r5.vt = true := (d4.os.ok (zat C19.base 1 s.ts r5.vt) (by simp [tsW, XSt.put]) : Loose C19.base tf5 t5 1 s.ts r5.vt).same
  rw [<- d2, d4.ldT, zaa, <- dt, if_pos sameT]; intro m5 hm5 hm5b; obtain ⟨t6, e1, e2, e3, e4⟩ := z1b (t := t5) d5 hm5
  have j6 := d4.junk hm5 e4
  rw [e1, zaa, j6.ldT, zaa, if_pos sameT]; intro m6 hm6 hm6b; obtain ⟨vt2, kk2, t7, f1, t8, f2, f3⟩ := pushT j6 d5 e2 (by show s.ts.length < _; omega) hm6 hm6b
  rw [f1, zaa]; simp only [zc5, zaa, zgf, z85]; intro m7 _ _; rw [f2, zaa, zak (by omega) (by omega), show (i : Int) + 1 = ((i + 1 : Nat) : Int) by omega]
  refine ih (i + 1) t8 tf5 ⟨r5.b, r5.pl, r5.vn, r5.vc, r5.vw, vt2, r5.vk, r5.m1, r5.m2⟩ _ h2 f3 ((hg.mono k1).mono d1) (hc.mono (k1.trans d1)) (by show (trX za9 zao x.then_ (trX za9 zao x.when_ s.nt 0).1 0).1.names.length + _ < _; omega) (by show (trX za9 zao x.then_ (trX za9 zao x.when_ s.nt 0).1 0).1.consts.length + _ < _; omega) (by show (s.ws ++ [_]).length + _ < _; simp; omega) (by show (s.ts ++ [_]).length + _ < _; simp; omega) (fun tf9 t9 r9 z1 z2 z3 z4 => ?_) (by
    obtain ⟨nm, a, b, d, epl, rest⟩ := hpl
    exact ⟨nm, a, b, d, (dp.trans kp).trans epl, rest⟩)
  refine hQ tf9 t9 r9 (k1.trans (d1.trans z1)) (z2.trans (d2.trans k2)) (z3.trans (dp.trans kp)) ?_
  have e : (⟨(trC za9 zao (x :: l) s.nt).1.names, (trC za9 zao (x :: l) s.nt).1.consts, s.ws ++ (trC za9 zao (x :: l) s.nt).2.map (fun p => zc1 p.1), s.ts ++ (trC za9 zao (x :: l) s.nt).2.map (fun p => zc1 p.2), s.code⟩ : XSt) =
    ⟨(trC za9 zao l (trX za9 zao x.then_ (trX za9 zao x.when_ s.nt 0).1 0).1).1.names, (trC za9 zao l (trX za9 zao x.then_ (trX za9 zao x.when_ s.nt 0).1 0).1).1.consts, s.ws ++ [zc1 (trX za9 zao x.when_ s.nt 0).2] ++ (trC za9 zao l (trX za9 zao x.then_ (trX za9 zao x.when_ s.nt 0).1 0).1).2.map (fun p => zc1 p.1), s.ts ++ [zc1 (trX za9 zao x.then_ (trX za9 zao x.when_ s.nt 0).1 0).2] ++ (trC za9 zao l (trX za9 zao x.then_ (trX za9 zao x.when_ s.nt 0).1 0).1).2.map (fun p => zc1 p.2), s.code⟩ := by
   simp [trC]
  rw [e]; have z4 := z4
  simp only [XSt.put, XSt.nt, ybe] at z4; exact z4
end Go.Proofs
namespace Go.Proofs
open Go Go.Am
variable [zcg]
variable {t tf : Tr zam}
theorem zv0 : ∀ (l : List za2), (∀ x ∈ l, zf1 x = true) -> zqa l <= 400 * l.length
 | [], _ => by simp [zqa]
 | x :: l, h => by
  have hx := h x (by simp)
  unfold zf1 at hx; rw [yac] at hx; have p1 := zhb hx.1
  have p2 := zhb hx.2
  have := zv0 l fun y hy => h y (by simp [hy])
  unfold zqa; rw [yao]; omega
theorem zzby (h : TLe tf t) : Objs C19.base tf t [] := ⟨h, by simp, fun o ho => (by cases ho), fun k hk => (by simp at hk)⟩
def zdz (p : zi7) : Nt × List (List XIns × List XIns) := trC za9 zao p.clauses ⟨[], []⟩
theorem z3w {p : zi7} {cs : List zab} {Q : zav} (hp : p.fit) (ht : TLe tf t) (hg : z18 tf) (hrd : RD tf p.d cs)
  (h0 : zfk p = false -> Q (.tup [.agg zzfh, .int .i64 2]) t)
  (h1 : zfk p = true -> ∀ tf' t' a b c vn vc vw vt, TLe tf tf' -> TLe tf' t' -> RSl tf' 3 (p.defs.map zxr.d) a -> RSl tf' 3 (p.tables.map zb8.d) b -> RSl tf' 24 ((p.clauses.map zm4).map za2.d) c -> RSl tf' 1 ((zdz p).1.names.map D.str) vn -> RSl tf' 6 ((zdz p).1.consts.map zc3.d) vc →
   RSl tf' 1 ((zdz p).2.map fun q => zc1 q.1) vw -> RSl tf' 1 ((zdz p).2.map fun q => zc1 q.2) vt -> Q (.tup [.agg [.str p.name, a, b, c, vn, vc, vw, vt], .int .i64 0]) t') : Wc C19 F 22 [.agg cs] t Q := by
 have hbd := z31 hp (RD.mono ht _ _ hrd)
 obtain ⟨ca, cb, cc, rfl, ha, hb, hc⟩ := zp8 hrd
 refine w22 _ _ _ _ ?_
 simp only [t22, wpT, q33, hbd, zaa, zaz]
 cases hbp : zfk p with
 | false =>
  simp only [Bool.not_false, if_true]; exact h0 hbp
 | true =>
  have h1 := h1 hbp
  simp only [Bool.not_true, yar, if_false]; rw [q51]; refine zzh5 hp hbp hrd (zzby ht) fun tf1 t1 a b c k1 k2 k3 k4 k5 => ?_
  have hz : zrd [(.str []), .nilslice, .nilslice, .nilslice] (.agg [.str p.name, a, b, c]) = some (cellsOf [.str p.name, a, b, c]) := zhs (by
   show (true && (zj0 .nilslice a && (zj0 .nilslice b && (zj0 .nilslice c && true)))) = true
   rw [zbi k3, zbi k4, zbi k5]; rfl)
  rw [hz, zaa]; simp only [cellsOf, zht, zet, yaa, yab, if_true]; intro m1 hm1 hb1; have e1 : zkt ⟨m1, t1⟩ = some (.map m1, ⟨m1 + 1, t1.set m1 (.map [])⟩) := rfl
  have o1 : Objs C19.base tf1 (t1.set m1 (.map [])) ([] ++ zfv m1 (zax 0 []) :: []) :=
   Objs.add (A := []) (B := []) (o' := zfv m1 (zax 0 [])) k2 (fun k hk => (zdb hm1 _).2 k (fun e => hk (by simp [zfv, e]))) (fun k hk => by
    have : k = m1 := by simpa [zfv] using hk
    subst this; exact ⟨hm1, hb1⟩) (by show (t1.set m1 _).get m1 = _; rw [Tr.get_set, if_pos rfl]; rfl) (by simp [zfv]) (k2.tle.trans (zdb hm1 _).1)
  rw [e1, zaa]; intro m2 hm2 hb2; have e2 : zkt ⟨m2, t1.set m1 (.map [])⟩ = some (.map m2, ⟨m2 + 1, (t1.set m1 (.map [])).set m2 (.map [])⟩) := rfl
  have o2 : Objs C19.base tf1 ((t1.set m1 (.map [])).set m2 (.map [])) ([zfv m1 (zax 0 [])] ++ zfv m2 (zax 0 []) :: []) :=
   Objs.add (A := [zfv m1 (zax 0 [])]) (B := []) (o' := zfv m2 (zax 0 [])) o1 (fun k hk => (zdb hm2 _).2 k (fun e => hk (by simp [zfv, e]))) (fun k hk => by
    have : k = m2 := by simpa [zfv] using hk
    subst this; exact ⟨hm2, hb2⟩) (by show ((t1.set m1 _).set m2 _).get m2 = _; rw [Tr.get_set, if_pos rfl]; rfl) (by simp [zfv]) (o1.tle.trans (zdb hm2 _).1)
  rw [e2, zaa]; have hone2 : zd1 zab.one [.map m1, .map m2] = true := rfl
  rw [if_pos hone2]; intro nb hnb hbb; obtain ⟨t3, f1, f2, f3, f4⟩ := z9s (v := .agg [.str p.name, a, b, c, .nilslice, .nilslice, .nilslice, .nilslice, .map m1, .map m2, .nilslice]) hnb
  have o3 : Objs C19.base tf1 t3 ([] ++ zfm nb none [.str p.name, a, b, c, .nilslice, .nilslice, .nilslice, .nilslice, .map m1, .map m2, .nilslice] :: [zfv m1 (zax 0 []), zfv m2 (zax 0 [])]) :=
   Objs.add (A := []) (o' := zfm nb none [.str p.name, a, b, c, .nilslice, .nilslice, .nilslice, .nilslice, .map m1, .map m2, .nilslice]) o2 (fun k hk => f4 k (fun e => hk (by simp [zfm, e]))) (fun k hk => by
    have : k = nb := by simpa [zfm] using hk
    subst this; exact ⟨hnb, hbb⟩) f2 (by simp [zfm]) (o2.tle.trans f3)
  have addL : ∀ {A : List Thg} {sz : Nat}, Objs C19.base tf1 t3 A -> Objs C19.base tf1 t3 (A ++ [zat C19.base sz [] .nilslice]) := fun {A sz} h => by
   have h' : Objs C19.base tf1 t3 (A ++ []) := by rw [ybe]; exact h
   exact Objs.add (o' := zat C19.base sz ([] : List D) .nilslice) h' (fun _ _ => rfl) (fun k hk => by simp [zat, zjx] at hk) (.inl ⟨rfl, rfl⟩) (by simp [zat, zjx]) h'.tle
  have o4 : TW tf1 t3 ⟨nb, [.str p.name, a, b, c], .nilslice, .nilslice, .nilslice, .nilslice, .nilslice, m1, m2⟩ ⟨[], [], [], [], []⟩ := ⟨rfl, addL (sz := 1) (addL (sz := 1) (addL (sz := 6) (addL (sz := 1) o3)))⟩
  have hbp' := hbp
  unfold zfk at hbp'; simp only [yac, decide_eq_true_eq] at hbp'
  obtain ⟨⟨⟨⟨hb1', hb2'⟩, hb3'⟩, hb4'⟩, hb5'⟩ := hbp'
  have hbc : ∀ x ∈ p.clauses, zf1 x = true := fun x hx => ybc.1 hb4' x hx
  have hpc := zv0 p.clauses hbc
  rw [f1, zaa, hc.len, zaa, yag, zag, zaa]; refine z9m hb2' hp.clauses hbc p.clauses 0 t3 tf1 ⟨nb, [.str p.name, a, b, c], .nilslice, .nilslice, .nilslice, .nilslice, .nilslice, m1, m2⟩ ⟨[], [], [], [], []⟩ (List.drop_zero) o4 (hg.mono k1) (hc.mono k1) (by simp; omega) (by simp; omega) (by simp; omega) (by simp; omega) (fun tf5 t5 r5 n1 n2 n3 n4 => ?_) ⟨_, _, _, _, rfl, k3.one, k4.one, k5.one, zbi k3, zbi k4, zbi k5⟩
  have n3' : r5.pl = [.str p.name, a, b, c] := n3
  rw [n3']; have q4 : Objs C19.base tf5 t5 ([zfm r5.b none r5.cells, zfv r5.m1 (zax 0 (zdz p).1.names), zfv r5.m2 (zax 0 ((zdz p).1.consts.map za9))] ++ zat C19.base 1 ((zdz p).1.names.map D.str) r5.vn :: [zat C19.base 6 ((zdz p).1.consts.map zc3.d) r5.vc, zat C19.base 1 ((zdz p).2.map fun q => zc1 q.1) r5.vw, zat C19.base 1 ((zdz p).2.map fun q => zc1 q.2) r5.vt]) := n4.os
  obtain ⟨tf6, x1, x2, x3⟩ := Objs.freezeL q4
  obtain ⟨tf7, y1, y2, y3⟩ := Objs.freezeL (A := [zfm r5.b none r5.cells, zfv r5.m1 (zax 0 (zdz p).1.names), zfv r5.m2 (zax 0 ((zdz p).1.consts.map za9))]) (B := [zat C19.base 1 ((zdz p).2.map fun q => zc1 q.1) r5.vw, zat C19.base 1 ((zdz p).2.map fun q => zc1 q.2) r5.vt]) x2
  obtain ⟨tf8, z1, z2, z3⟩ := Objs.freezeL (A := [zfm r5.b none r5.cells, zfv r5.m1 (zax 0 (zdz p).1.names), zfv r5.m2 (zax 0 ((zdz p).1.consts.map za9))]) (B := [zat C19.base 1 ((zdz p).2.map fun q => zc1 q.2) r5.vt]) y2
  obtain ⟨tf9, w1, w2, w3⟩ := Objs.freezeL (A := [zfm r5.b none r5.cells, zfv r5.m1 (zax 0 (zdz p).1.names), zfv r5.m2 (zax 0 ((zdz p).1.consts.map za9))]) (B := []) z2
  have T : TLe tf1 tf9 := n1.trans (x1.trans (y1.trans (z1.trans w1)))
  exact h1 tf9 t5 a b c r5.vn r5.vc r5.vw r5.vt (k1.trans T) w2.tle (k3.mono T) (k4.mono T) (k5.mono T) (x3.mono (y1.trans (z1.trans w1))) (y3.mono (z1.trans w1)) (z3.mono w1) w3
end Go.Proofs
namespace Go.Am
def FineI (i : XIns) : Prop := i.op < 255 /\ 0 <= zf6 i /\ zf6 i <= 3
section
variable {key : zc3 -> List Nat} {valid : zc3 -> Bool}
def zn6 (f : Tr1) : Prop := ∀ s p, ∀ i ∈ (f s p).2, FineI i
theorem zzhi {op n : Nat} {name : List Nat} {v : zc3} {s : Nt} (h : zds valid op v n = true) (h15 : op ≠ 15) (h16 : op ≠ 16) (h18 : op ≠ 18) (hop : op < 256) : FineI (zew key op name v n s).2 := by
 obtain ⟨h1, h2⟩ := zzgb (key := key) (name := name) (s := s) h h15 h16 h18 hop
 refine ⟨by omega, by omega, ?_⟩
 rw [h1]; unfold zds at h; simp only [yac, decide_eq_true_eq] at h; have h3 := h.2
 have h4 := h.1.2
 unfold zrc at h3 h4; repeat' split at h3
 all_goals simp_all
 all_goals omega
theorem zwu {f g : Tr1} {skip : Nat} {truth : Int} (hf : zn6 f) (hg : zn6 g) (hs : skip = 10 \/ skip = 11) : zn6 (zo1 key f g skip truth) := by
 intro s p i hi; simp only [zo1, List.mem_append, yat, List.not_mem_nil, or_false] at hi; rcases hi with h | rfl | h | rfl | rfl | rfl
 ·exact hf _ _ i h
 ·rcases hs with e | e <;> subst e <;> exact ⟨by simp, by simp [zf6], by simp [zf6]⟩
 ·exact hg _ _ i h
 ·exact ⟨by simp, by simp [zf6], by simp [zf6]⟩
 ·exact ⟨by simp, by simp [zf6], by simp [zf6]⟩
 ·exact ⟨by simp, by simp [zf6], by simp [zf6]⟩
theorem zzhj {f g h : Tr1} (hf : zn6 f) (hg : zn6 g) (hh : zn6 h) : zn6 (ifT f g h) := by
 intro s p i hi; simp only [ifT, List.mem_append, yat] at hi; rcases hi with h' | rfl | h' | rfl | h'
 ·exact hf _ _ i h'
 ·exact ⟨by simp, by simp [zf6], by simp [zf6]⟩
 ·exact hg _ _ i h'
 ·exact ⟨by simp, by simp [zf6], by simp [zf6]⟩
 ·exact hh _ _ i h'
theorem z1s : ∀ {fs : List Tr1}, (∀ f ∈ fs, zn6 f) -> zn6 (zi8 fs)
 | [], _ => by intro s p i hi; simp [zi8] at hi
 | f :: l, h => by
  intro s p i hi; simp only [zi8, List.mem_append] at hi; rcases hi with h' | h'
  ·exact h f (by simp) _ _ i h'
  ·exact z1s (fun g hg => h g (by simp [hg])) _ _ i h'
theorem z3o {op : Nat} {name : List Nat} {v : zc3} {fs : List Tr1} (hop : op < 256) (hf : ∀ f ∈ fs, zn6 f) : zn6 (zq6 key valid op name v fs) := by
 intro s p i hi; unfold zq6 at hi; by_cases h0 : zds valid op v fs.length = false
 ·simp only [if_pos h0, List.mem_singleton] at hi
  subst hi; exact ⟨by simp, by simp [zf6], by simp [zf6]⟩
 ·simp only [if_neg h0] at hi
  have h0 : zds valid op v fs.length = true := by simpa using h0
  by_cases h15 : op = 15
  ·simp only [if_pos h15] at hi
   match fs, hf, hi with
   | f :: g :: r, hf, hi => exact zwu (hf f (by simp)) (hf g (by simp)) (.inl rfl) s p i hi
   | [], _, hi => cases hi
   | [_], _, hi => cases hi
  ·simp only [if_neg h15] at hi
   by_cases h16 : op = 16
   ·simp only [if_pos h16] at hi
    match fs, hf, hi with
    | f :: g :: r, hf, hi => exact zwu (hf f (by simp)) (hf g (by simp)) (.inr rfl) s p i hi
    | [], _, hi => cases hi
    | [_], _, hi => cases hi
   ·simp only [if_neg h16] at hi
    by_cases h18 : op = 18
    ·simp only [if_pos h18] at hi
     match fs, hf, hi with
     | f :: g :: k :: r, hf, hi => exact zzhj (hf f (by simp)) (hf g (by simp)) (hf k (by simp)) s p i hi
     | [], _, hi => cases hi
     | [_], _, hi => cases hi
     | [_, _], _, hi => cases hi
    ·simp only [if_neg h18, List.mem_append, List.mem_singleton] at hi
     rcases hi with h | h
     ·exact z1s hf _ _ i h
     ·subst h; exact zzhi h0 h15 h16 h18 hop
mutual
theorem zz8 : ∀ (x : zal), x.fit -> zn6 (trX key valid x)
 | .mk op name v args, h => by
  unfold zal.fit at h; unfold trX; exact z3o h.1 (zz9 args h.2.2.2.2.2)
theorem zz9 : ∀ (l : List zal), zal.fits l -> ∀ f ∈ trF key valid l, zn6 f
 | [], _, f, hf => by unfold trF at hf; cases hf
 | x :: l, h, f, hf => by
  unfold zal.fits at h; unfold trF at hf; rcases yat.1 hf with rfl | hf
  ·exact zz8 x h.1
  ·exact zz9 l h.2 f hf
end
end
end Go.Am
namespace Go.Proofs
open Go Go.Am
variable [zcg]
variable {t tf : Tr zam}
theorem ins_at {l : List XIns} {v : zab} (hv : RSl t 3 (l.map XIns.d) v) {i : Nat} {x : XIns} (hx : l[i]? = some x) :
  ∃ b off, zaf C19 37 v (.int .i64 (i : Int)) = some (.ptr b off) /\ zap C19 54 ⟨0, t⟩ (.ptr b off) = some (.agg x.cells) /\ zaj C19 54 0 (.ptr b off) = some (.ptr b (off + 0)) /\ zaj C19 54 1 (.ptr b off) = some (.ptr b (off + 1)) /\ zaj C19 54 2 (.ptr b off) = some (.ptr b (off + 2)) ∧
   zap C19 5 ⟨0, t⟩ (.ptr b (off + 0)) = some (.int .u8 x.op) /\ zap C19 3 ⟨0, t⟩ (.ptr b (off + 1)) = some (.int .i64 x.a) /\ zap C19 3 ⟨0, t⟩ (.ptr b (off + 2)) = some (.int .i64 x.b) := by
 obtain ⟨b, off, cs, g1, g2, g3, _, g5⟩ := zj2.at sl37 (by simp) hv (i := i) (d := x.d) (by simp [hx])
 rw [z6o] at g5; subst g5; exact ⟨b, off, g1, g2, by kernel_rfl, by kernel_rfl, by kernel_rfl, g3.load1 ty5 rfl rfl, g3.load1 ty3 rfl rfl, g3.load1 ty3 rfl rfl⟩
end Go.Proofs
namespace Go.Proofs
open Go Go.Am
variable [zcg]
variable {t tf : Tr zam}
theorem zq0 {l : List (List XIns)} {v : zab} (hv : RSl tf 1 (l.map zc1) v) (ht : TLe tf t) {i : Nat} {x : List XIns} (hx : l[i]? = some x) :
  ∃ b off u, zaf C19 32 v (.int .i64 (i : Int)) = some (.ptr b off) /\ zap C19 37 ⟨0, t⟩ (.ptr b off) = some u /\ RSl tf 3 (x.map XIns.d) u := by
 obtain ⟨b, off, cs, g1, g2, g3, _, g5⟩ := zj2.at sl32 (fun _ => rfl) hv (i := i) (d := zc1 x) (by simp [hx])
 unfold zc1 at g5; rw [zk9] at g5; obtain ⟨u, rfl, hu⟩ := g5
 exact ⟨b, off, u, g1, zd0 (H := ⟨0, tf⟩) (fun _ _ k => ht _ _ k) g2, hu⟩
theorem zzdi : pvC C19 F 14 [] t = some (.bool true) := zt2 (g := zzgd) (by kernel_rfl) fun _ => rfl
end Go.Proofs
namespace Go.Am
open Go Go.RowKit
def zv4 {α : Type} (f : Nat -> Option α) : Nat -> Tr α
 | 0 => .leaf
 | n + 1 => match f n with
  | some v => (zv4 f n).set n v
  | none => zv4 f n
theorem zfg {α : Type} (f : Nat -> Option α) : ∀ (n a : Nat), (zv4 f n).get a = if a < n then f a else none := by
 intro n; induction n with
 | zero => intro a; rw [if_neg (by omega)]; exact Tr.get_leaf _
 | succ n ih =>
  intro a; unfold zv4
  cases hf : f n with
  | some v =>
   simp only []; rw [Tr.get_set, ih]; by_cases h : a = n
   ·subst h; rw [if_pos rfl, if_pos (by omega), hf]
   ·rw [if_neg h]
    by_cases h2 : a < n
    ·rw [if_pos h2, if_pos (by omega)]
    ·rw [if_neg h2, if_neg (by omega)]
  | none =>
   simp only []; rw [ih]; by_cases h : a = n
   ·subst h; rw [if_neg (by omega), if_pos (by omega), hf]
   ·by_cases h2 : a < n
    ·rw [if_pos h2, if_pos (by omega)]
    ·rw [if_neg h2, if_neg (by omega)]
def z98 (N : Nat) : Value -> Option zab
 | .bool b => some (.bool b)
 | .int k n => some (.int k n)
 | .string s => some (.str (zbl s))
 | .slice none 0 0 => some .nilslice
 | .slice (some _) 0 0 => some (.slice 0 0 0 0)
 | .slice (some ⟨b, off, none⟩) len cap => if b < N then some (.slice (256 + b) off len cap) else none
 | _ => none
def absB (N : Nat) : Obj -> Option zam
 | .cells cs _ _ => some (.cells (zv4 (fun j => (cs[j]?).bind (z98 N)) cs.size) cs.size none)
 | _ => none
def zrf (w : World) : Tr zam := zv4 (fun a => if a < 256 then (w.heap[a]?).bind (absB w.heap.size) else (w.heap[a - 256]?).bind (absB w.heap.size)) (256 + w.heap.size)
def muW (w : World) : Mu := ⟨fun a => if a < 256 then some ⟨a, true, 0, 0, true⟩ else if a < 256 + w.heap.size then some ⟨a - 256, true, 0, 0, true⟩ else none, fun _ => none⟩
section
variable {w : World}
theorem z14 {v : Value} {a : zab} (h : z98 w.heap.size v = some a) : zaq (muW w) a v := by
 unfold z98 at h; split at h
 ·cases h; rw [zaq]
 ·cases h; rw [zaq]
 ·cases h; rw [zaq]; exact ⟨_, rfl, rfl⟩
 ·cases h; rw [zaq]
 ·cases h; rw [zaq]; exact .inr ⟨rfl, rfl, rfl, rfl, _, rfl⟩
 ·split at h
  ·rename_i hb
   cases h; rename_i b off len cap _; rw [zaq]; refine .inl ⟨⟨b, true, 0, 0, true⟩, cap, ?_, rfl, yal _, fun _ => rfl, fun h => by cases h⟩
   show (if 256 + b < 256 then some (⟨256 + b, true, 0, 0, true⟩ : BI) else if 256 + b < 256 + w.heap.size then some ⟨256 + b - 256, true, 0, 0, true⟩ else none) = _
   rw [if_neg (by omega), if_pos (by omega), show 256 + b - 256 = b by omega]
  ·cases h
 ·cases h
theorem z16 {o : Obj} {x : zam} (h : absB w.heap.size o = some x) (b : Nat) : zna (muW w) ⟨b, true, 0, 0, true⟩ x o /\ x.asLoop = none /\ x.asDeferred = none := by
 cases o <;> first | (cases h; done) | skip
 rename_i cs elem fr
 cases h; refine ⟨⟨cs, elem, fr, rfl, yal _, .inl rfl, fun j v hv => ?_, rfl⟩, rfl, rfl⟩
 rw [zfg] at hv; split at hv
 case isFalse => cases hv
 rename_i hj
 cases hc : cs[j]? with
 | none => rw [hc] at hv; cases hv
 | some u =>
  rw [hc] at hv; exact ⟨hj, u, rfl, z14 hv⟩
theorem hrelW : zb1 (256 + w.heap.size) w.heap.size (muW w) ⟨256 + w.heap.size, zrf w⟩ w := by
 have hget : ∀ a x, (zrf w).get a = some x -> ∃ b o, b < w.heap.size /\ w.heap[b]? = some o /\ absB w.heap.size o = some x /\ a < 256 + w.heap.size /\ b = (if a < 256 then a else a - 256) := by
  intro a x hx; unfold zrf at hx; rw [zfg] at hx; split at hx
  case isFalse => cases hx
  rename_i hlt; split at hx
  ·rename_i h
   cases ho : w.heap[a]? with
   | none => rw [ho] at hx; cases hx
   | some o => rw [ho] at hx; exact ⟨a, o, (yaf.1 ho).1, ho, hx, hlt, by rw [if_pos h]⟩
  ·rename_i h
   cases ho : w.heap[a - 256]? with
   | none => rw [ho] at hx; cases hx
   | some o => rw [ho] at hx; exact ⟨a - 256, o, (yaf.1 ho).1, ho, hx, hlt, by rw [if_neg h]⟩
 have hmu : ∀ a, (muW w) a = if a < 256 then some ⟨a, true, 0, 0, true⟩ else if a < 256 + w.heap.size then some ⟨a - 256, true, 0, 0, true⟩ else none := fun _ => rfl
 have big : ∀ a, 256 + w.heap.size <= a -> (muW w) a = none := fun a h => by rw [hmu, if_neg (by omega), if_neg (by omega)]
 have same : ∀ a x i, (zrf w).get a = some x -> (muW w) a = some i -> ∃ o, w.heap[i.b]? = some o /\ i.b < w.heap.size /\ absB w.heap.size o = some x /\ i = ⟨i.b, true, 0, 0, true⟩ := by
  intro a x i hx hi; obtain ⟨b, o, h1, h2, h3, h4, h5⟩ := hget a x hx
  rw [hmu] at hi; split at hi
  ·rename_i h
   cases hi; rw [if_pos h] at h5; subst h5; exact ⟨o, h2, h1, h3, rfl⟩
  ·rename_i h
   rw [if_neg h] at h5; have hi := Option.some.inj hi
   have hb : i.b = b := by rw [<- hi, h5]
   refine ⟨o, by rw [hb]; exact h2, by rw [hb]; exact h1, h3, by rw [<- hi]⟩
 refine ⟨by omega, fun g hg => by rw [hmu, if_pos hg], fun a x i _ hx hi => ?_, yal _, yal _, fun a ha => ⟨big a ha, ?_⟩, fun a x i hx hi => ?_, fun a i ha hi => ?_, fun a b x y i j hx _ hi _ ha _ _ => ?_, fun a x t h => by cases h⟩
 ·obtain ⟨o, _, h2, h3, _⟩ := same a x i hx hi
  exact ⟨h2, (z16 h3 0).2⟩
 ·show (zrf w).get a = none
  unfold zrf; have ha : 256 + w.heap.size <= a := ha
  rw [zfg, if_neg (by omega)]
 ·obtain ⟨o, h1, _, h3, h4⟩ := same a x i hx hi
  exact ⟨o, h1, by rw [h4]; exact (z16 h3 _).1⟩
 ·rw [big a ha] at hi; cases hi
 ·rw [big a ha] at hi; cases hi
end
end Go.Am
