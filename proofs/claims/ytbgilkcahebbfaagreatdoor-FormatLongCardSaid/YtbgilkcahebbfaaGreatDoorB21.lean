/- Several things in memory, each with blocks of its own; one of them changes. -/
import Derived.Test.YtbgilkcahebbfaaGreatDoorB20
set_option linter.all false
noncomputable section
namespace Go.Am
open Go Go.RowKit
structure Thg where
 blks : List Nat
 ok : Tr zak -> Tr zak -> Prop
 keep : ∀ {tf t tf' t' : Tr zak}, ok tf t -> TLe tf tf' -> (∀ k ∈ blks, t'.get k = t.get k /\ tf'.get k = none) -> ok tf' t'
 live : ∀ {tf t : Tr zak}, ok tf t -> ∀ k ∈ blks, ∃ y, t.get k = some y
structure zln (base : Nat) (tf t : Tr zak) (l : List Thg) : Prop where
 tle : TLe tf t
 nodup : (l.flatMap Thg.blks).Nodup
 ok : ∀ o ∈ l, o.ok tf t
 low : ∀ k ∈ l.flatMap Thg.blks, base <= k /\ tf.get k = none
def zzh7 (v : zab) : List Nat := match v with | .slice b _ _ _ => [b] | _ => []
theorem zp2 {v : zab} {k : Nat} : k ∈ zzh7 v ↔ zid v k := by
 unfold zzh7 zid; split
 ·rename_i b o n c
  constructor
  ·intro h; rw [yce] at h; subst h; exact ⟨_, _, _, rfl⟩
  ·rintro ⟨o', n', c', e⟩; cases e; simp
 ·rename_i h
  constructor
  ·intro h; cases h
  ·rintro ⟨o, n, c, e⟩; exact absurd e (h _ _ _ _)
def z3r (b : Nat) (lo : Option Lo) (cs : List zab) : Thg where
 blks := [b]
 ok := fun _ t => Cel t b lo cs
 keep := fun h _ k => h.off (k b (by simp)).1
 live := fun h k hk => by rw [yce] at hk; subst hk; obtain ⟨c, hc, _⟩ := h; exact ⟨_, hc⟩
def zgk (base sz : Nat) (l : List D) (v : zab) : Thg where
 blks := zzh7 v
 ok := fun tf t => znp base tf t sz l v
 keep := fun h hf k => h.keep hf fun b hb => k b (zp2.2 hb)
 live := fun h k hk => (h.none (zp2.1 hk)).2.2
section
variable {base : Nat} {tf t : Tr zak} {l A B : List Thg} {o o' : Thg}
theorem zln.live (h : zln base tf t l) {k : Nat} (hk : k ∈ l.flatMap Thg.blks) : ∃ y, t.get k = some y := by
 obtain ⟨o, ho, hk⟩ := List.mem_flatMap.1 hk
 exact o.live (h.ok o ho) k hk
theorem zln.fresh (h : zln base tf t l) {n : Nat} (hn : t.get n = none) : n ∉ l.flatMap Thg.blks := by
 intro hm; obtain ⟨y, hy⟩ := h.live hm
 rw [hn] at hy; cases hy
theorem zln.tfn (h : zln base tf t l) {n : Nat} (hn : t.get n = none) : tf.get n = none := by
 cases hq : tf.get n with
 | none => rfl
 | some y => have := h.tle _ _ hq; rw [hn] at this; cases this
theorem zln.keep (h : zln base tf t l) {tf' t' : Tr zak} (hf : TLe tf tf') (ht : TLe tf' t') (hk : ∀ k ∈ l.flatMap Thg.blks, t'.get k = t.get k /\ tf'.get k = none) : zln base tf' t' l :=
 ⟨ht, h.nodup, fun o ho => o.keep (h.ok o ho) hf fun k hk' => hk k (List.mem_flatMap.2 ⟨o, ho, hk'⟩), fun k hk' => ⟨(h.low k hk').1, (hk k hk').2⟩⟩
theorem zln.junk (h : zln base tf t l) {n : Nat} {t' : Tr zak} (hn : t.get n = none) (ho : Off n t t') : zln base tf t' l :=
 h.keep (TLe.refl _) (h.tle.off (h.tfn hn) ho) fun k hk => ⟨ho k (fun e : k = n => h.fresh hn (e ▸ hk)), (h.low k hk).2⟩
theorem zh0 : (A ++ o :: B).flatMap Thg.blks = A.flatMap Thg.blks ++ (o.blks ++ B.flatMap Thg.blks) := by simp
theorem zln.upd (h : zln base tf t (A ++ o :: B)) {t' : Tr zak} (hk : ∀ k, k ∉ o.blks -> k ∉ o'.blks -> t'.get k = t.get k) (hn : ∀ k ∈ o'.blks, k ∈ o.blks \/ (t.get k = none /\ base <= k)) (hok : o'.ok tf t') (hnd : o'.blks.Nodup) (ht : TLe tf t') : zln base tf t' (A ++ o' :: B) := by
 have hd := h.nodup
 rw [zh0] at hd; rw [List.nodup_append] at hd; obtain ⟨d1, d2, d3⟩ := hd
 rw [List.nodup_append] at d2; obtain ⟨d4, d5, d6⟩ := d2
 have oth : ∀ k, k ∈ A.flatMap Thg.blks \/ k ∈ B.flatMap Thg.blks -> k ∉ o.blks /\ k ∉ o'.blks /\ t'.get k = t.get k /\ base <= k /\ tf.get k = none := by
  intro k hk'; have hm : k ∈ (A ++ o :: B).flatMap Thg.blks := by rw [zh0]; simp only [List.mem_append]; rcases hk' with h | h <;> simp [h]
  have h1 : k ∉ o.blks := fun hc => by
   rcases hk' with h' | h'
   ·exact d3 k h' k (by simp [hc]) rfl
   ·exact d6 k hc k h' rfl
  have h2 : k ∉ o'.blks := fun hc => by
   rcases hn k hc with h' | h'
   ·exact h1 h'
   ·obtain ⟨y, hy⟩ := h.live hm
    rw [h'.1] at hy; cases hy
  exact ⟨h1, h2, hk k h1 h2, h.low k hm⟩
 have mem : ∀ k, k ∈ (A ++ o' :: B).flatMap Thg.blks -> (k ∈ A.flatMap Thg.blks \/ k ∈ B.flatMap Thg.blks) \/ k ∈ o'.blks := by
  intro k hk'; rw [zh0] at hk'
  simp only [List.mem_append] at hk'
  rcases hk' with h | h | h
  ·exact .inl (.inl h)
  ·exact .inr h
  ·exact .inl (.inr h)
 refine ⟨ht, ?_, fun p hp => ?_, fun k hk' => ?_⟩
 ·rw [zh0, List.nodup_append]
  refine ⟨d1, ?_, fun x hx y hy e => ?_⟩
  ·rw [List.nodup_append]
   exact ⟨hnd, d5, fun x hx y hy e => (oth y (.inr hy)).2.1 (e ▸ hx)⟩
  ·subst e
   rcases List.mem_append.1 hy with h' | h'
   ·exact (oth x (.inl hx)).2.1 h'
   ·exact d3 x hx x (by simp [h']) rfl
 ·have hp' : p ∈ A \/ p = o' \/ p ∈ B := by simpa using hp
  rcases hp' with h' | h' | h'
  ·exact p.keep (h.ok p (by simp [h'])) (TLe.refl _) fun k hk' => by
    obtain ⟨_, _, e, _, f⟩ := oth k (.inl (List.mem_flatMap.2 ⟨p, h', hk'⟩)); exact ⟨e, f⟩
  ·subst h'; exact hok
  ·exact p.keep (h.ok p (by simp [h'])) (TLe.refl _) fun k hk' => by
    obtain ⟨_, _, e, _, f⟩ := oth k (.inr (List.mem_flatMap.2 ⟨p, h', hk'⟩)); exact ⟨e, f⟩
 ·rcases mem k hk' with h' | h'
  ·obtain ⟨_, _, _, e, f⟩ := oth k h'; exact ⟨e, f⟩
  ·rcases hn k h' with h'' | h''
   ·exact h.low k (by rw [zh0]; simp [h''])
   ·exact ⟨h''.2, h.tfn h''.1⟩
theorem zln.drop (h : zln base tf t (A ++ o :: B)) : zln base tf t (A ++ B) := by
 have hd := h.nodup
 rw [zh0] at hd; refine ⟨h.tle, ?_, fun p hp => h.ok p (by rcases List.mem_append.1 hp with h | h <;> simp [h]), fun k hk => h.low k (by rw [zh0]; rw [List.flatMap_append] at hk; rcases List.mem_append.1 hk with h | h <;> simp [h])⟩
 rw [List.flatMap_append]; rw [List.nodup_append] at hd ⊢
 obtain ⟨d1, d2, d3⟩ := hd
 rw [List.nodup_append] at d2; exact ⟨d1, d2.2.1, fun x hx y hy e => d3 x hx y (by simp [hy]) e⟩
theorem zln.notin (h : zln base tf t (A ++ o :: B)) {k : Nat} (hk : k ∈ o.blks) : k ∉ (A ++ B).flatMap Thg.blks := by
 have hd := h.nodup
 rw [zh0, List.nodup_append] at hd; obtain ⟨d1, d2, d3⟩ := hd
 rw [List.nodup_append] at d2; rw [List.flatMap_append]; intro hm; rcases List.mem_append.1 hm with h' | h'
 ·exact d3 k h' k (by simp [hk]) rfl
 ·exact d2.2.2 k hk k h' rfl
theorem zln.freezeL {sz : Nat} {m : List D} {v : zab} (h : zln base tf t (A ++ zgk base sz m v :: B)) : ∃ tf', TLe tf tf' /\ zln base tf' t (A ++ B) /\ RSl tf' sz m v := by
 have hl : znp base tf t sz m v := h.ok (zgk base sz m v) (by simp)
 obtain ⟨tf', h1, h2, h3, h4⟩ := hl.freeze h.tle
 refine ⟨tf', h1, h.drop.keep h1 h2 fun k hk => ⟨rfl, ?_⟩, h3⟩
 have hb : ¬ zid v k := fun hb => h.notin (o := zgk base sz m v) (zp2.2 hb) hk
 rw [h4 k hb]; exact (h.drop.low k hk).2
end
end Go.Am
namespace Go.Am
open Go Go.RowKit
section
variable {t tf : Tr zak} {C : Ctx}
def zu1 (l : List Nat) : List zab := l.map fun (n : Nat) => zab.int .u8 (n : Int)
theorem z6y {S Dt b k cap el : Nat} {cs : List zab} {lo : Option Lo} {l : List Nat} {yS yD yE : ATy} (hS : C.tys.get S = some yS) (hD : C.tys.get Dt = some yD) (h1 : yD.desc.asInt = none) (h2 : yD.desc.isString = true) (h3 : yS.desc.asSlice = some el) (h4 : C.tys.get el = some yE) (h5 : yE.desc.asInt = some .u8)
  (hc : Cel t b lo cs) (hk : l.length = k) (hl : ∀ (j : Nat) x, l[j]? = some x -> cs[j]? = some (.int .u8 (x : Int))) (hlt : zax 256 l) : zk1 C S Dt ⟨0, t⟩ (.slice b 0 k cap) = some (.str l) := by
 obtain ⟨c, g1, g2⟩ := hc
 unfold zk1 zna; rw [hS, zac, hD, zac, h1]; simp only []; rw [h2, zam]; have e1 : Nat.beq (zab.slice b 0 k cap).tag 2 = false := rfl
 rw [e1, cond_false, h3, zac, h4, zac, h5, zac, zev.2 rfl, zam]; unfold zhh; simp only [zab.asSlice]; unfold zaq; rw [g1, zac]; simp only [zak.asCells, zac]
 have hm : ∀ (l : List Nat) (off : Nat), (∀ (j : Nat) x, l[j]? = some x -> c.get (off + j) = some (.int .u8 (x : Int))) -> c.many l.length off = some (zu1 l) := by
  intro l; induction l with
  | nil => intro off _; rfl
  | cons x l ih =>
   intro off h; rw [yao, Tr.many_succ]; have := h 0 x rfl
   rw [ybu] at this; rw [this, zac, ih (off + 1) (fun j y hj => by rw [show off + 1 + j = off + (j + 1) by omega]; exact h (j + 1) y (by simpa using hj)), zac]
   rfl
 subst hk; rw [hm l 0 (fun j x hj => by rw [yax]; exact g2 _ _ (hl j x hj)), zac]
 have hb : ∀ (l : List Nat), zax 256 l -> zd4 zgi (zu1 l) = some l := by
  intro l; induction l with
  | nil => intro _; rfl
  | cons x l ih =>
   intro h; have e : zgi (.int .u8 (x : Int)) = some x := by
    unfold zgi; have e1 : ziq (x : Int) = some x := rfl
    simp only [zab.asIntK, zac]; rw [zev.2 rfl, zam, e1, zac, zc8.2 (h x (by simp))]; rfl
   show zd4 zgi (.int .u8 (x : Int) :: zu1 l) = _
   rw [zch, e, zac, ih fun y hy => h y (by simp [hy]), zac]
 rw [hb l hlt, zac]
end
end Go.Am
namespace Go.Am
open Go
section
variable {C : Ctx} {t tf : Tr zak}
def zh1 (k : IntKind) (l : List Nat) : List (List zab) := l.map fun (x : Nat) => [zab.int k (x : Int)]
theorem zgu {k : IntKind} : ∀ {l : List Nat} {cl : List (List zab)}, RDs t (za2 k l) cl ↔ cl = zh1 k l
 | [], cl => by
  show RDs t [] cl ↔ cl = []
  exact zcr
 | x :: l, cl => by
  show RDs t (.int k (x : Int) :: za2 k l) cl ↔ cl = [.int k (x : Int)] :: zh1 k l
  rw [zba]; constructor
  ·rintro ⟨c, r, rfl, h1, h2⟩
   rw [zkd] at h1; rw [h1, zgu.1 h2]
  ·rintro rfl
   exact ⟨_, _, rfl, zkd.2 rfl, zgu.2 rfl⟩
theorem zjh {k : IntKind} : ∀ (l : List Nat), (zh1 k l).flatten = l.map fun (x : Nat) => zab.int k (x : Int)
 | [] => rfl
 | x :: l => by
  show [zab.int k (x : Int)] ++ (zh1 k l).flatten = _
  rw [zjh l]; rfl
theorem zuy {k : IntKind} {l : List Nat} : (zh1 k l).length = l.length := by simp [zh1]
theorem z60 {k : IntKind} {l : List Nat} (i : Nat) (cs : List zab) (h : (zh1 k l)[i]? = some cs) : cs.length = 1 := by
 unfold zh1 at h; rw [yav] at h
 cases hx : l[i]? with
 | none => rw [hx] at h; cases h
 | some x => rw [hx] at h; cases h; rfl
theorem z2c (l : List Nat) (h : zax 256 l) : zd4 zgi (zu1 l) = some l := by
 induction l with
 | nil => rfl
 | cons x l ih =>
  have e : zgi (.int .u8 (x : Int)) = some x := by
   unfold zgi; have e1 : ziq (x : Int) = some x := rfl
   simp only [zab.asIntK, zac]; rw [zev.2 rfl, zam, e1, zac, zc8.2 (h x (by simp))]; rfl
  show zd4 zgi (.int .u8 (x : Int) :: zu1 l) = _
  rw [zch, e, zac, ih fun y hy => h y (by simp [hy]), zac]
theorem zzf7 {S Dt el : Nat} {l : List Nat} {v : zab} {yS yD yE : ATy} (hS : C.tys.get S = some yS) (hD : C.tys.get Dt = some yD) (h1 : yD.desc.asInt = none) (h2 : yD.desc.isString = true) (h3 : yS.desc.asSlice = some el) (h4 : C.tys.get el = some yE) (h5 : yE.desc.asInt = some .u8)
  (hv : RSl t 1 (za2 .u8 l) v) (hlt : zax 256 l) : zk1 C S Dt ⟨0, t⟩ v = some (.str l) := by
 obtain ⟨cl, g1, g2⟩ := hv
 rw [zgu] at g2; subst g2; have hf := (g1.first (n := 0)).1
 have htag : Nat.beq v.tag 2 = false := by
  rcases g1 with ⟨rfl, _⟩ | ⟨b, off, cap, rfl, _⟩ <;> rfl
 unfold zk1 zna; rw [hS, zac, hD, zac, h1]; simp only []; rw [h2, zam, htag, cond_false, h3, zac, h4, zac, h5, zac, zev.2 rfl, zam]; unfold zhh; rcases g1 with ⟨rfl, hn⟩ | ⟨b, off, cap, rfl, _⟩
 ·have : l = [] := by
   have := congrArg List.length hn
   rw [zuy] at this; exact ybd.1 this
  subst this; rfl
 ·unfold zjx at hf
  simp only [zab.asSlice, Nat.mul_one] at hf ⊢
  rw [zad] at hf; obtain ⟨c, hc, hf⟩ := hf
  rw [hc, zac, hf, zac, zjh]; have := z2c l hlt
  unfold zu1 at this; rw [this, zac]
theorem z6j {n k : Nat} {l : List Nat} (h : l.length = k) : zjx ⟨n, t⟩ 1 k (.str l) = some (zh1 .u8 l).flatten /\ zo2 (.str l) = some k := by
 subst h; constructor
 ·unfold zjx
  simp only [zab.asSlice, zab.asStr]; rw [zjh, zff, List.take_length]; rfl
 ·unfold zo2
  simp only [zab.asSlice, zab.asStr, za1]
theorem z3n {k : IntKind} {l : List Nat} : ∀ a ∈ (zh1 k l).flatten, zab.one a = true := by
 intro a ha; rw [zjh] at ha; obtain ⟨x, _, rfl⟩ := List.mem_map.1 ha
 rfl
theorem zy9 {k : IntKind} {l m : List Nat} : za2 k (l ++ m) = za2 k l ++ za2 k m := by simp [za2]
theorem zu4 {T U el : Nat} {cd : Lo} (hT : z7h C T el 1) (hU : ∃ u, C.tys.get U = some u /\ Nat.beq u.desc.tag 1 = false) (hcd : ∀ z, C.tys.get el = some z -> zep el z = cd) {l m : List Nat} {v : zab} (hv : zcn cd C.base tf t 1 (za2 .u8 l) v) (hpos : m ≠ []) (hl : l.length + m.length < 400000) {n : Nat} (hn : t.get n = none) (hbase : C.base <= n) (ht : TLe tf t) :
  ∃ t', zci C T U v (.str m) ⟨n, t⟩ = some (.slice n 0 (l.length + m.length) (l.length + m.length), ⟨n + 1, t'⟩) /\ zcn cd C.base tf t' 1 (za2 .u8 (l ++ m)) (.slice n 0 (l.length + m.length) (l.length + m.length)) /\ TLe tf t' /\ (∀ c, c ≠ n -> ¬ zid v c -> t'.get c = t.get c) := by
 have h0 : 0 < m.length := List.length_pos_iff.2 hpos
 obtain ⟨t', h1, h2, h3, h4⟩ := znk hT hU hcd (l := za2 .u8 l) (m := za2 .u8 m) (x := .str m) (cm := zh1 .u8 m) hv z60 (fun n => by rw [zuy]; exact z6j rfl) (zgu.2 rfl) z3n (by rw [zav]; exact h0) (by rw [zav, zav]; exact hl) hn hbase ht
 rw [zav, zav] at h1 h2; rw [<- zy9] at h2; exact ⟨t', h1, h2, h3, h4⟩
theorem zsr {T el : Nat} {cd : Lo} {k : IntKind} (hT : z7h C T el 1) (hcd : ∀ z, C.tys.get el = some z -> zep el z = cd) {l m : List Nat} {v x : zab} (hv : zcn cd C.base tf t 1 (za2 k l) v) (hx : RSl t 1 (za2 k m) x) (hpos : m ≠ []) (hl : l.length + m.length < 400000) {n : Nat} (hn : t.get n = none) (hbase : C.base <= n) (ht : TLe tf t) :
  ∃ t', zci C T T v x ⟨n, t⟩ = some (.slice n 0 (l.length + m.length) (l.length + m.length), ⟨n + 1, t'⟩) /\ zcn cd C.base tf t' 1 (za2 k (l ++ m)) (.slice n 0 (l.length + m.length) (l.length + m.length)) /\ TLe tf t' /\ (∀ c, c ≠ n -> ¬ zid v c -> t'.get c = t.get c) := by
 have h0 : 0 < m.length := List.length_pos_iff.2 hpos
 obtain ⟨cl, g1, g2⟩ := hx
 rw [zgu] at g2; subst g2; obtain ⟨t', h1, h2, h3, h4⟩ := znl hT hcd (l := za2 k l) (m := za2 k m) (x := x) (cm := zh1 k m) hv g1 (zgu.2 rfl) z3n (by rw [zav]; exact h0) (by rw [zav, zav]; exact hl) hn hbase ht
 rw [zav, zav] at h1 h2; rw [<- zy9] at h2; exact ⟨t', h1, h2, h3, h4⟩
theorem zyj {cd : Lo} {base sz : Nat} : zcn cd base tf t sz [] .nilslice := .inl ⟨rfl, rfl⟩
theorem zcn.keep' {cd : Lo} {base sz : Nat} {l : List D} {v : zab} {t' : Tr zak} (h : zcn cd base tf t sz l v) (hk : ∀ b, zid v b -> t'.get b = t.get b) : zcn cd base tf t' sz l v := by
 rcases h with ⟨rfl, rfl⟩ | ⟨b, cl, c, rfl, h0, h1, h2, h3, h4⟩
 ·exact .inl ⟨rfl, rfl⟩
 ·exact .inr ⟨b, cl, c, rfl, h0, h1, by rw [hk b (zc4.2 rfl)]; exact h2, h3, h4⟩
end
end Go.Am
namespace Go.Am
theorem kn_ge {B m U V head top u2 v2 ur vr : Nat} (hU : U = (head * B + u2) * B ^ m + ur) (hur : ur < B ^ m) (hu2 : u2 < B) (hV : V = (top * B + v2) * B ^ m + vr) (htop : 0 < top) : U / V <= head / top := by
 have hBm : 0 < B ^ m := by omega
 rw [Nat.le_div_iff_mul_le htop]; have h1 : U / V * V <= U := Nat.div_mul_le_self U V
 have h2 : top * B * B ^ m <= V := by
  rw [hV, yap]; omega
 have h3 : U < (head + 1) * B * B ^ m := by
  have : head * B + u2 + 1 <= (head + 1) * B := by rw [yap]; omega
  have := yaj (B ^ m) this
  rw [hU]; rw [yap (head * B + u2) 1, Nat.one_mul] at this
  omega
 have h4 : U / V * top * (B * B ^ m) < (head + 1) * (B * B ^ m) := by
  calc U / V * top * (B * B ^ m) = U / V * (top * B * B ^ m) := by rw [yak, yak]
   _ <= U / V * V := yaw _ h2
   _ <= U := h1
   _ < (head + 1) * B * B ^ m := h3
   _ = (head + 1) * (B * B ^ m) := by rw [yak]
 exact Nat.lt_succ_iff.1 (Nat.lt_of_mul_lt_mul_right h4)
theorem kn_gt {B m U V head top u2 v2 ur vr d : Nat} (hU : U = (head * B + u2) * B ^ m + ur) (hur : ur < B ^ m) (hV : V = (top * B + v2) * B ^ m + vr) (h : head * B + u2 < d * (top * B + v2)) : U / V < d := by
 rcases Nat.lt_or_ge (U / V) d with g | g
 ·exact g
 ·exfalso
  have h1 : U / V * V <= U := Nat.div_mul_le_self U V
  have h2 : d * V <= U := Nat.le_trans (yaj _ g) h1
  have h3 : d * (top * B + v2) * B ^ m <= d * V := by rw [hV, yak]; exact yaw _ (Nat.le_add_right _ _)
  have h4 := yaj (B ^ m) (show head * B + u2 + 1 <= d * (top * B + v2) from h)
  rw [yap (head * B + u2) 1, Nat.one_mul] at h4
  omega
theorem kn_le {B m U V head top u2 v2 ur vr d : Nat} (hB : 0 < B) (hU : U = (head * B + u2) * B ^ m + ur) (hV : V = (top * B + v2) * B ^ m + vr) (hvr : vr < B ^ m) (htop : 0 < top) (hd : d <= B) (h : d * (top * B + v2) <= head * B + u2) : d <= U / V + 1 := by
 have hVpos : 0 < V := by
  rw [hV]; have : 0 < top * B + v2 := by have := Nat.mul_pos htop hB; omega
  have := Nat.mul_pos this (show 0 < B ^ m by omega)
  omega
 rcases Nat.lt_or_ge (U / V + 1) d with g | g
 ·exfalso
  have h1 : (d - 1) * V <= U := by
   have e1 : d * V <= d * ((top * B + v2) * B ^ m) + d * B ^ m := by
    rw [hV, yan]; exact Nat.add_le_add_left (yaw _ (Nat.le_of_lt hvr)) _
   have e2 : d * ((top * B + v2) * B ^ m) <= (head * B + u2) * B ^ m := by rw [<- yak]; exact yaj _ h
   have e3 : d * B ^ m <= V := by
    have : d * B ^ m <= top * B * B ^ m := by
     refine yaj _ (Nat.le_trans hd ?_)
     exact Nat.le_mul_of_pos_left _ htop
    rw [hV, yap]; omega
   rw [Nat.sub_mul, Nat.one_mul]; omega
  have := (Nat.le_div_iff_mul_le hVpos).2 h1
  omega
 ·exact g
theorem top2 {B : Nat} (hB : 0 < B) {l : List Nat} {m a b : Nat} (hlt : zax B l) (hl : l.length = m + 2) (ha : l[m + 1]? = some a) (hb : l[m]? = some b) : val B l = (a * B + b) * B ^ m + val B (l.take m) /\ val B (l.take m) < B ^ m := by
 have e1 := zdr B l m
 have hlen : (l.take m).length = m := by simp; omega
 rw [hlen] at e1; have e2 : l.drop m = [b, a] := by
  rw [zcv hb, zcv ha, List.drop_of_length_le (by omega)]
 rw [e2] at e1; refine ⟨?_, ?_⟩
 ·rw [e1]
  simp only [val]; rw [yai (B ^ m), Nat.mul_zero, ybu, yai B a]
  rw [Nat.add_comm b]; omega
 ·have := zgj hB (zel hlt m); rw [hlen] at this; exact this
theorem top3 {B : Nat} (hB : 0 < B) {l : List Nat} {m a b c : Nat} (hlt : zax B l) (hl : l.length = m + 3) (ha : l[m + 2]? = some a) (hb : l[m + 1]? = some b) (hc : l[m]? = some c) : val B l = ((a * B + b) * B + c) * B ^ m + val B (l.take m) /\ val B (l.take m) < B ^ m := by
 have e1 := zdr B l m
 have hlen : (l.take m).length = m := by simp; omega
 rw [hlen] at e1; have e2 : l.drop m = [c, b, a] := by
  rw [zcv hc, zcv hb, zcv ha, List.drop_of_length_le (by omega)]
 rw [e2] at e1; refine ⟨?_, ?_⟩
 ·rw [e1]
  simp only [val]; rw [yai (B ^ m), Nat.mul_zero, ybu]
  have e3 : c + B * (b + B * a) = (a * B + b) * B + c := by
   rw [yan, yap, yai B b, yai B (B * a), yai B a]
   omega
  rw [e3]; omega
 ·have := zgj hB (zel hlt m); rw [hlen] at this; exact this
end Go.Am
set_option maxRecDepth 100000
namespace Go.Proofs
open Go Go.Am
variable [zcb]
variable {t : Tr zak}
def BB : Nat := 4294967296
theorem zkg : BB = 4294967296 := rfl
theorem zc7 : 0 < BB := by decide
theorem zwg {T el : Nat} (h : zpi C13 T el 1 false) {b off n cap j : Nat} (hj : j < n) : zah C13 T (.slice b off n cap) (.int .i64 (j : Int)) = some (.ptr b (off + j)) := by
 have := zdb (b := b) (off := off) (cap := cap) h hj
 rw [Nat.mul_one] at this; exact this
theorem zn8 {A w Z : List Nat} {j x : Nat} (h : w[j]? = some x) : (A ++ w ++ Z)[A.length + j]? = some x := by
 rw [yba, yaq (by omega), Nat.add_sub_cancel_left, ybp (yad.1 h).1]; exact h
theorem zri {A w Z : List Nat} {j x : Nat} (h : j < w.length) : (A ++ w ++ Z).set (A.length + j) x = A ++ w.set j x ++ Z := by
 rw [yba, List.set_append_right _ _ (by omega), Nat.add_sub_cancel_left, List.set_append_left _ _ h, yba]
theorem zzs {A Z lv : List Nat} {v : zab} {b cap d : Nat} {t0 : Tr zak} {Q : zao} (hv : RSl t0 1 (za2 .u32 lv) v) (hl : lv.length < 900000) (hlv : zax BB lv) (hbase : C13.base <= b) (hb : t0.get b = none) (hd : 0 < d) (hd2 : d <= BB) (W : List Nat) (hWl : W.length = lv.length) (hWlt : zax BB W) (last : Nat) (hlast : last < BB) (hcap : lv.length + 1 <= cap)
  (hQ : ∀ t' r up, Off b t t' -> Own t' b .u32 (A ++ (r ++ [(last + up) % BB]) ++ Z) -> r.length = lv.length -> zax BB r -> up < 2 -> val BB r + BB ^ lv.length * up = val BB W + val BB lv -> Q (.int .u32 ((d - 1 : Nat) : Int)) t') :
  ∀ (k i up : Nat) (t' : Tr zak) (r : List Nat), i + k = lv.length -> TLe t0 t' -> Off b t t' -> Own t' b .u32 (A ++ (r ++ (W ++ [last]).drop i) ++ Z) -> r.length = i -> zax BB r -> up < 2 -> val BB r + BB ^ i * up = val BB (W.take i) + val BB (lv.take i) →
  jp 216 10 [.slice b A.length (lv.length + 1) cap, .int .i64 lv.length, .int .u64 d, .int .u32 up, v, .int .i64 lv.length, .int .i64 i] t' Q := by
 intro k; induction k with
 | zero =>
  intro i up t' r hi ht hoff ho hr hrl hup hval; have hi' : i = lv.length := by omega
  subst hi'
  have hdrop : (W ++ [last]).drop lv.length = [last] := by rw [<- hWl]; simp
  rw [hdrop] at ho; refine zza9 _ _ _ _ _ _ _ ?_
  have g1 := zwg zd0 (b := b) (off := A.length) (n := lv.length + 1) (cap := cap) (j := lv.length) (by omega)
  have hget : (r ++ [last])[lv.length]? = some last := by rw [<- hr]; simp
  have g2 := ho.load (zn8 (A := A) (Z := Z) hget) zeq rfl
  obtain ⟨t1, s1, s2, s3⟩ := ho.store (C := C13) hbase (j := A.length + lv.length) (by simp; omega) ((last + up) % BB) zeq rfl
  rw [zri (by simp; omega)] at s2
  have hset : (r ++ [last]).set lv.length ((last + up) % BB) = r ++ [(last + up) % BB] := by rw [<- hr, List.set_append_right _ _ (yal _)]; simp
  rw [hset] at s2; have e1 : zag .u32 ((last : Int) + (up : Int)) = (((last + up) % BB : Nat) : Int) := by rw [zdk]; show _ = (((last + up) % 4294967296 : Nat) : Int); omega
  simp only [z0j, wpT, zbo, g1, g2, zaa, zai, e1]; rw [if_neg (by omega)]
  intro _ _ _; rw [s1]; simp only [zaa]; rw [ybb (by omega), ybb (by omega)] at hval
  have e2 : zag .u32 (zag .u64 ((d : Int) - 1)) = ((d - 1 : Nat) : Int) := by
   have : d <= 4294967296 := hd2
   rw [za3 (by omega) (by omega), zgm (by omega) (by omega)]; omega
  rw [e2]; exact hQ t1 r up (hoff.trans s3) s2 hr hrl hup hval
 | succ k ih =>
  intro i up t' r hi ht hoff ho hr hrl hup hval; obtain ⟨x, hx⟩ := getElem?_of_lt (l := lv) (i := i) (by omega)
  obtain ⟨y, hy⟩ := getElem?_of_lt (l := W) (i := i) (by omega)
  have hxlt : x < BB := zbu hlv hx
  have hylt : y < BB := zbu hWlt hy
  obtain ⟨c, off, g1, g2⟩ := (hv.mono ht).idx zd0 hx
  have hy' : (W ++ [last])[i]? = some y := by rw [ybp (by omega)]; exact hy
  have hdrop : (W ++ [last]).drop i = y :: (W ++ [last]).drop (i + 1) := zcv hy'
  have g3 := zwg zd0 (b := b) (off := A.length) (n := lv.length + 1) (cap := cap) (j := i) (by omega)
  have hget : (r ++ (W ++ [last]).drop i)[i]? = some y := by rw [yaq (by omega), hr, Nat.sub_self, hdrop]; rfl
  have g4 := ho.load (zn8 (A := A) (Z := Z) hget) zeq rfl
  have hlen : i < (r ++ (W ++ [last]).drop i).length := by rw [hdrop]; simp; omega
  obtain ⟨t1, s1, s2, s3⟩ := ho.store (C := C13) hbase (j := A.length + i) (by rw [yah, yah]; omega) ((y + x + up) % BB) zeq rfl
  rw [zri hlen] at s2; have hset : (r ++ (W ++ [last]).drop i).set i ((y + x + up) % BB) = (r ++ [(y + x + up) % BB]) ++ (W ++ [last]).drop (i + 1) := by
   rw [hdrop, set_append_right hr]; simp
  rw [hset] at s2; have hadd := zzgk (t := t') (x := y) (y := x) (c := up) hylt hxlt hup
  refine zza9 _ _ _ _ _ _ _ ?_
  simp (disch := omega) only [z0j, wpT, zbo, g1, g2, g3, g4, zaa, zai, q221, hadd, zar, zab.asTup, zac, zbn, yaa, yab, wrap_i64]
  rw [if_pos (by omega)]
  intro _ _ _; have s1' : ∀ n, zbl C13 202 (.ptr b (A.length + i)) (.int .u32 (((y + x + up) % 4294967296 : Nat) : Int)) ⟨n, t'⟩ = some (zbh, ⟨n, t1⟩) := s1
  rw [s1']; simp only [zaa]; refine ih (i + 1) ((y + x + up) / BB) t1 _ (by omega) (ht.off hb s3) (hoff.trans s3) s2 (by simp [hr]) (ze4 hrl (ybz _ (by decide))) ?_ ?_
  ·have h1 : y < 4294967296 := hylt
   have h2 : x < 4294967296 := hxlt
   show (y + x + up) / 4294967296 < 2
   omega
  ·rw [zds, hr, zgb hx, zgb hy, zds, zds]
   have l1 : (W.take i).length = i := by simp; omega
   have l2 : (lv.take i).length = i := by simp; omega
   rw [l1, l2, Nat.pow_succ]; have hd := ybi (y + x + up) BB
   have e4 : BB ^ i * y + BB ^ i * x + BB ^ i * up = BB ^ i * (BB * ((y + x + up) / BB) + (y + x + up) % BB) := by rw [hd, yan, yan]
   rw [yan, <- yak] at e4; omega
theorem z25 {u low bo : Nat} (hu : u < BB) (hl : low < BB) (hb : bo < 2) : ∃ w b', w < BB /\ b' < 2 /\ u + BB * b' = w + low + bo ∧
  zag .u32 (zag .u64 (zag .u64 ((u : Int) - (low : Int)) - (bo : Int))) = (w : Int) /\ Int.fdiv (zag .u64 (zag .u64 ((u : Int) - (low : Int)) - (bo : Int))) 9223372036854775808 = (b' : Int) := by
 have hu : u < 4294967296 := hu
 have hl : low < 4294967296 := hl
 rcases Nat.lt_or_ge u (low + bo) with g | g
 ·refine ⟨u + BB - low - bo, 1, by show u + 4294967296 - low - bo < 4294967296; omega, by omega, by show u + 4294967296 * 1 = u + 4294967296 - low - bo + low + bo; omega, ?_, ?_⟩
  ·rw [zdk, zf7, zf7]; show _ = ((u + 4294967296 - low - bo : Nat) : Int); omega
  ·rw [zf7, zf7, Int.fdiv_eq_ediv_of_nonneg _ (by omega)]; omega
 ·refine ⟨u - low - bo, 0, by show u - low - bo < 4294967296; omega, by omega, by omega, ?_, ?_⟩
  ·rw [zdk, zf7, zf7]; omega
  ·rw [zf7, zf7, Int.fdiv_eq_ediv_of_nonneg _ (by omega)]; omega
theorem z1e {A Z lu lv : List Nat} {v : zab} {b cap d : Nat} {t0 : Tr zak} {Q : zao} (hv : RSl t0 1 (za2 .u32 lv) v) (hl : lv.length < 900000) (hlv : zax BB lv) (hbase : C13.base <= b) (hb : t0.get b = none) (hd : d < BB) (hlul : lu.length = lv.length + 1) (hlu : zax BB lu) (hcap : lv.length + 1 <= cap)
  (hQ : ∀ t' (W : List Nat) last bo, TLe t0 t' -> Off b t t' -> Own t' b .u32 (A ++ (W ++ [last]) ++ Z) -> W.length = lv.length -> zax BB W -> last < BB -> bo < 2 -> val BB (W ++ [last]) + d * val BB lv = val BB lu + BB ^ (lv.length + 1) * bo →
   if bo = 0 then Q (.int .u32 (d : Int)) t' else jp 216 10 [.slice b A.length (lv.length + 1) cap, .int .i64 lv.length, .int .u64 d, .int .u32 0, v, .int .i64 lv.length, .int .i64 (0 : Nat)] t' Q) :
  ∀ (k i carry borrow : Nat) (t' : Tr zak) (W : List Nat), i + k = lv.length -> TLe t0 t' -> Off b t t' -> Own t' b .u32 (A ++ (W ++ lu.drop i) ++ Z) -> W.length = i -> zax BB W -> carry < BB -> borrow < 2 -> val BB W + d * val BB (lv.take i) = val BB (lu.take i) + BB ^ i * (carry + borrow) →
  jp 216 6 [.slice b A.length (lv.length + 1) cap, v, .int .i64 lv.length, .int .u64 d, .int .u64 carry, .int .u64 borrow, v, .int .i64 lv.length, .int .i64 i] t' Q := by
 intro k; induction k with
 | zero =>
  intro i carry borrow t' W hi ht hoff ho hW hWl hc hbo hval; have hi' : i = lv.length := by omega
  subst hi'
  obtain ⟨x, hx⟩ := getElem?_of_lt (l := lu) (i := lv.length) (by omega)
  have hxlt : x < BB := zbu hlu hx
  have hdrop : lu.drop lv.length = [x] := by rw [zcv hx, List.drop_of_length_le (by omega)]
  rw [hdrop] at ho; obtain ⟨w, bo, hw, hbo', hsum, e1, e2⟩ := z25 hxlt hc hbo
  have g1 := zwg zd0 (b := b) (off := A.length) (n := lv.length + 1) (cap := cap) (j := lv.length) (by omega)
  have hget : (W ++ [x])[lv.length]? = some x := by rw [<- hW]; simp
  have g2 := ho.load (zn8 (A := A) (Z := Z) hget) zeq rfl
  obtain ⟨t1, s1, s2, s3⟩ := ho.store (C := C13) hbase (j := A.length + lv.length) (by simp; omega) w zeq rfl
  rw [zri (by simp; omega)] at s2
  have hset : (W ++ [x]).set lv.length w = W ++ [w] := by rw [<- hW, List.set_append_right _ _ (yal _)]; simp
  rw [hset] at s2; have hx32 : x < 4294967296 := hxlt
  have e0 : zag .u64 (x : Int) = (x : Int) := za3 (by omega) (by omega)
  refine zzhn _ _ _ _ _ _ _ _ _ ?_
  simp only [z8q, wpT, zbo, g1, g2, zaa, zai, e0, e1, e2, zen]; rw [if_neg (by omega)]
  intro _ _ _; rw [s1]; simp only [zaa]; have hfin := hQ t1 W w bo (ht.off hb s3) (hoff.trans s3) s2 hW hWl hw hbo' (by
   rw [zds, hW]; rw [ybb (by omega)] at hval
   have e5 : val BB lu = val BB (lu.take lv.length) + BB ^ lv.length * x := by
    have := zdr BB lu lv.length
    rw [hdrop] at this; rw [this]; have : (lu.take lv.length).length = lv.length := by simp; omega
    rw [this]; simp [val]
   rw [e5, Nat.pow_succ]; have e6 : BB ^ lv.length * (x + BB * bo) = BB ^ lv.length * (w + carry + borrow) := by rw [hsum]
   rw [yan, yan, yan, <- yak] at e6; rw [yan] at hval; omega)
  by_cases hz : bo = 0
  ·rw [if_pos (by omega)]
   rw [if_pos hz] at hfin; have hd32 : d < 4294967296 := hd
   rw [zgm (by omega) (by omega)]
   exact hfin
  ·rw [if_neg (by omega)]
   rw [if_neg hz] at hfin; simp only [(hv.mono (ht.off hb s3)).len, zaa, zai, zav]
   exact hfin
 | succ k ih =>
  intro i carry borrow t' W hi ht hoff ho hW hWl hc hbo hval; obtain ⟨x, hx⟩ := getElem?_of_lt (l := lu) (i := i) (by omega)
  obtain ⟨y, hy⟩ := getElem?_of_lt (l := lv) (i := i) (by omega)
  have hxlt : x < BB := zbu hlu hx
  have hylt : y < BB := zbu hlv hy
  have hd32 : d < 4294967296 := hd
  have hx32 : x < 4294967296 := hxlt
  have hy32 : y < 4294967296 := hylt
  have hc32 : carry < 4294967296 := hc
  have hdrop : lu.drop i = x :: lu.drop (i + 1) := zcv hx
  obtain ⟨c, off, g1, g2⟩ := (hv.mono ht).idx zd0 hy
  have g3 := zwg zd0 (b := b) (off := A.length) (n := lv.length + 1) (cap := cap) (j := i) (by omega)
  have hget : (W ++ lu.drop i)[i]? = some x := by rw [yaq (by omega), hW, Nat.sub_self, hdrop]; rfl
  have g4 := ho.load (zn8 (A := A) (Z := Z) hget) zeq rfl
  have hprod : d * y <= 4294967295 * 4294967295 := ycc (by omega) (by omega)
  obtain ⟨P, hP⟩ : ∃ P, P = d * y + carry := ⟨_, rfl⟩
  have hPlt : P < 18446744073709551616 := by omega
  have hPhi : P / 4294967296 < 4294967296 := by omega
  obtain ⟨w, bo, hw, hbo', hsum, e1, e2⟩ := z25 (u := x) (low := P % 4294967296) (bo := borrow) hxlt (ybz _ (by decide)) hbo
  obtain ⟨t1, s1, s2, s3⟩ := ho.store (C := C13) hbase (j := A.length + i) (by rw [yah, yah, yah, hdrop]; simp; omega) w zeq rfl
  rw [zri (by rw [hdrop]; simp; omega)] at s2
  have hset : (W ++ lu.drop i).set i w = (W ++ [w]) ++ lu.drop (i + 1) := by rw [hdrop, set_append_right hW]; simp
  rw [hset] at s2; have e0 : zag .u64 (x : Int) = (x : Int) := za3 (by omega) (by omega)
  have e0' : zag .u64 (y : Int) = (y : Int) := za3 (by omega) (by omega)
  have e3 : (d : Int) * (y : Int) = ((d * y : Nat) : Int) := (Int.natCast_mul d y).symm
  have e4 : zag .u64 ((d * y : Nat) : Int) = ((d * y : Nat) : Int) := by
   generalize d * y = z at hprod ⊢
   exact za3 (by omega) (by omega)
  have e5 : zag .u64 (((d * y : Nat) : Int) + (carry : Int)) = (P : Int) := by
   rw [hP, <- Int.natCast_add]; generalize d * y = z at hprod ⊢
   exact za3 (by omega) (by omega)
  have e6 : zag .u64 (zag .u32 (P : Int)) = ((P % 4294967296 : Nat) : Int) := by
   rw [zdk, za3 (by omega) (by omega)]; omega
  have e7 : Int.fdiv (P : Int) 4294967296 = ((P / 4294967296 : Nat) : Int) := zfk P 4294967296
  refine zzhn _ _ _ _ _ _ _ _ _ ?_
  simp only [z8q, wpT, zbo, g1, g2, g3, g4, zaa, zai, e0, e0', e3, e4, e5, e6, e7, e1, e2]; rw [if_pos (by omega)]
  intro _ _ _; rw [s1]; simp (disch := omega) only [zaa, wrap_i64]
  refine ih (i + 1) (P / 4294967296) bo t1 _ (by omega) (ht.off hb s3) (hoff.trans s3) s2 (by simp [hW]) (ze4 hWl hw) hPhi hbo' ?_
  rw [zds, hW, zgb hx, zgb hy, zds, zds]; have l1 : (lu.take i).length = i := by simp; omega
  have l2 : (lv.take i).length = i := by simp; omega
  rw [l1, l2, Nat.pow_succ]; have hd := ybi P BB
  have e8 : BB ^ i * (x + BB * bo) = BB ^ i * (w + P % BB + borrow) := congrArg (fun z => BB ^ i * z) hsum
  have e9 : BB ^ i * (d * y + carry) = BB ^ i * (BB * (P / BB) + P % BB) := by rw [hd, hP]
  rw [yan, yan, yan, <- yak] at e8; rw [yan, yan, <- yak (BB ^ i) BB] at e9
  rw [yan] at hval ⊢
  have e10 : d * (BB ^ i * y) = BB ^ i * (d * y) := by rw [<- yak, yai d, yak]
  rw [e10, yan (BB ^ i * BB)]
  show _ = val BB (lu.take i) + BB ^ i * x + (BB ^ i * BB * (P / BB) + BB ^ i * BB * bo)
  omega
attribute [irreducible] BB
end Go.Proofs
namespace Go.Proofs
open Go Go.Am
variable [zcb]
variable {t : Tr zak}
theorem or32 {x y : Nat} (hx : x < 4294967296) (hy : y < 4294967296) : zfz Nat.lor .u64 ((x * 4294967296 : Nat) : Int) (y : Int) = some (.int .u64 ((x * 4294967296 + y : Nat) : Int)) := by
 have h := zt1 (a := x) (b := y) (n := 32) hy
 have e : (2 : Nat) ^ 32 = 4294967296 := by decide
 rw [e] at h; rw [zea (k := .u64) (show x * 4294967296 < kHi .u64 by show _ < 18446744073709551616; omega) (show y < kHi .u64 by show _ < 18446744073709551616; omega), h]
theorem z6f {lu lv : List Nat} {u v : zab} {Q : zao} {m head top u2 v2 U V ur vr : Nat} (hu : RSl t 1 (za2 .u32 lu) u) (hv : RSl t 1 (za2 .u32 lv) v) (hl : m < 900000) (hu2 : lu[m]? = some u2) (hv2 : lv[m]? = some v2) (hu2lt : u2 < BB) (hv2lt : v2 < BB) (htop : 0 < top) (htoplt : top < BB)
  (hU : U = (head * BB + u2) * BB ^ m + ur) (hur : ur < BB ^ m) (hV : V = (top * BB + v2) * BB ^ m + vr) (hvr : vr < BB ^ m) (hq : U / V < BB) (hhead : head <= top * BB + (BB - 1))
  (hexit : ∀ d, U / V <= d -> d <= U / V + 1 -> d < BB -> jp 216 19 [u, v, .int .i64 (m + 2 : Nat), .int .u64 d] t Q) :
  ∀ (d rest : Nat), d * top + rest = head -> U / V <= d -> d <= BB + 1 -> rest < BB -> jp 216 2 [u, v, .int .i64 (m + 2 : Nat), .int .u64 top, .int .u64 d, .int .u64 rest] t Q := by
 intro d; induction d with
 | zero =>
  intro rest hsum hge _ hrest; have hBB := zkg
  have hr32 : rest < 4294967296 := by omega
  obtain ⟨b, off, g1, g2⟩ := hv.idx zd0 hv2
  obtain ⟨c, off', g3, g4⟩ := hu.idx zd0 hu2
  have hu32 : u2 < 4294967296 := by omega
  have hv32 : v2 < 4294967296 := by omega
  obtain ⟨D, hD⟩ : ∃ D : Int, ((0 : Nat) : Int) = D := ⟨_, rfl⟩
  rw [hD]; refine zzho _ _ _ _ _ _ ?_
  unfold z8r; generalize hC : (4294967296 : Int) = C
  generalize hG : zfz Nat.lor .u64 (zag .u64 ((rest : Int) * C)) = G
  have e4 : D * (v2 : Int) = 0 := by rw [<- hD]; simp
  have e1 : ((m + 2 : Nat) : Int) - 2 = (m : Int) := by omega
  have e2 : (rest : Int) * C = ((rest * 4294967296 : Nat) : Int) := by rw [<- hC]; omega
  have e3 : G (u2 : Int) = some (.int .u64 ((rest * 4294967296 + u2 : Nat) : Int)) := by rw [<- hG, e2, za3 (by omega) (by omega)]; exact or32 hr32 hu32
  simp only [wpT, zdc]; rw [if_neg (by omega)]
  simp (disch := omega) only [e1, wrap_i64, g1, zaa]
  rw [g2]; simp only [zaa, zai, g3]; rw [g4, zaa, zai, zaa, za3 (n := (u2 : Int)) (by omega) (by omega), e3, zaa, zai, zaa, za3 (n := (v2 : Int)) (by omega) (by omega), e4, za3 (n := 0) (by decide) (by decide)]
  rw [if_neg (fun h => absurd (zbo.1 h) (by omega)), <- hD]
  exact hexit 0 hge (Nat.zero_le _) zc7
 | succ d ih =>
  intro rest hsum hge hle hrest; have hBB := zkg
  have hr32 : rest < 4294967296 := by omega
  have ht32 : top < 4294967296 := by omega
  have hle32 : d + 1 <= 4294967296 + 1 := by omega
  have hsum' : d * top + (rest + top) = head := by rw [yap] at hsum; omega
  obtain ⟨D, hD⟩ : ∃ D : Int, ((d + 1 : Nat) : Int) = D := ⟨_, rfl⟩
  rw [hD]; have e1 : D - 1 = (d : Int) := by omega
  have e0 : (rest : Int) + (top : Int) = ((rest + top : Nat) : Int) := by omega
  have less : U / V <= d -> (if (4294967296 : Int) <= ((rest + top : Nat) : Int) then jp 216 19 [u, v, .int .i64 (m + 2 : Nat), .int .u64 d] t Q else jp 216 2 [u, v, .int .i64 (m + 2 : Nat), .int .u64 top, .int .u64 d, .int .u64 ((rest + top : Nat) : Int)] t Q) := by
   intro hge'; split
   ·rename_i hb
    have hb' : BB <= rest + top := by omega
    have hdlt : d < BB := by
     rcases Nat.lt_or_ge d BB with g | g
     ·exact g
     ·exfalso
      have := yaj top g
      rw [yai BB top] at this; omega
    refine hexit d hge' ?_ hdlt
    refine kn_le zc7 hU hV hvr htop (Nat.le_of_lt hdlt) ?_
    have h1 : d * v2 <= BB * BB := ycc (Nat.le_of_lt hdlt) (Nat.le_of_lt hv2lt)
    have h2 : BB * BB <= (rest + top) * BB := yaj _ hb'
    have h3 : head * BB = d * top * BB + (rest + top) * BB := by rw [<- hsum', yap]
    rw [yan, <- yak, h3]; omega
   ·rename_i hb
    exact ih (rest + top) hsum' hge' (by omega) (by omega)
  refine zzho _ _ _ _ _ _ ?_
  unfold z8r; generalize hC : (4294967296 : Int) = C
  generalize hG : zfz Nat.lor .u64 (zag .u64 ((rest : Int) * C)) = G
  by_cases hbig : 4294967296 <= d + 1
  ·simp (disch := omega) only [wpT, zdc, e0, e1, za3]
   rw [if_pos (by omega)]
   subst hC; exact less (by omega)
  ·obtain ⟨b, off, g1, g2⟩ := hv.idx zd0 hv2
   obtain ⟨c, off', g3, g4⟩ := hu.idx zd0 hu2
   have hu32 : u2 < 4294967296 := by omega
   have hv32 : v2 < 4294967296 := by omega
   have e5 : ((m + 2 : Nat) : Int) - 2 = (m : Int) := by omega
   have e2 : (rest : Int) * C = ((rest * 4294967296 : Nat) : Int) := by rw [<- hC]; omega
   have e6 : zag .u64 (D * (v2 : Int)) = (((d + 1) * v2 : Nat) : Int) := by
    rw [<- hD, <- Int.natCast_mul]; have : (d + 1) * v2 <= 4294967295 * 4294967295 := ycc (by omega) (by omega)
    generalize (d + 1) * v2 = z at this ⊢
    exact za3 (by omega) (by omega)
   have e3 : G (u2 : Int) = some (.int .u64 ((rest * 4294967296 + u2 : Nat) : Int)) := by rw [<- hG, e2, za3 (by omega) (by omega)]; exact or32 hr32 hu32
   simp only [wpT, zdc]; rw [if_neg (by omega)]
   simp (disch := omega) only [e5, wrap_i64, g1, zaa]
   rw [g2]; simp only [zaa, zai, g3]; rw [g4, zaa, zai, zaa, za3 (n := (u2 : Int)) (by omega) (by omega), e3, zaa, zai, zaa, za3 (n := (v2 : Int)) (by omega) (by omega), e6]
   have e7 : zag .u64 ((rest : Int) + (top : Int)) = ((rest + top : Nat) : Int) := by rw [e0]; exact za3 (by omega) (by omega)
   have e8 : zag .u64 (D - 1) = (d : Int) := by rw [e1]; exact za3 (by omega) (by omega)
   rw [e7, e8]; have key : (d + 1) * (top * BB + v2) = (d + 1) * top * BB + (d + 1) * v2 := by rw [yan, <- yak]
   have key2 : head * BB = (d + 1) * top * BB + rest * BB := by rw [<- hsum, yap]
   by_cases htest : rest * 4294967296 + u2 < (d + 1) * v2
   ·rw [if_pos (zbo.2 (by omega))]
    subst hC; refine less (Nat.lt_succ_iff.1 (kn_gt hU hur hV ?_))
    rw [key, key2]; have : rest * BB = rest * 4294967296 := by rw [hBB]
    generalize (d + 1) * top * BB = P at this ⊢
    generalize (d + 1) * v2 = R at htest ⊢
    omega
   ·rw [if_neg (fun h => absurd (zbo.1 h) (by omega))]
    rw [<- hD]; refine hexit (d + 1) hge (kn_le zc7 hU hV hvr htop (by omega) ?_) (by omega)
    rw [key, key2]; have : rest * BB = rest * 4294967296 := by rw [hBB]
    generalize (d + 1) * top * BB = P at this ⊢
    generalize (d + 1) * v2 = R at htest ⊢
    omega
end Go.Proofs
namespace Go.Proofs
open Go Go.Am
variable [zcb]
variable {t tf : Tr zak}
theorem zvp {n : Nat} {y : zak} (hn : t.get n = none) (h : TLe tf t) : TLe (tf.set n y) (t.set n y) := by
 intro c u hc; rw [Tr.get_set] at hc ⊢
 split at hc
 ·rename_i e; rw [if_pos e]; exact hc
 ·rename_i e; rw [if_neg e]; exact h _ _ hc
theorem zj5 (h : TLe tf t) {n : Nat} (hn : t.get n = none) : tf.get n = none := by
 cases hx : tf.get n with
 | none => rfl
 | some y => rw [h _ _ hx] at hn; cases hn
structure zzdd (S : Tr zak -> Tr zak -> Prop) : Prop where
 le : ∀ {tf t : Tr zak}, S tf t -> TLe tf t
 both : ∀ {tf t : Tr zak} {n : Nat}, S tf t -> t.get n = none -> ∀ y, S (tf.set n y) (t.set n y)
 out : ∀ {tf t : Tr zak} {n : Nat} {y : zak}, tf.get n = none -> S (tf.set n y) t -> S tf (t.del n)
theorem zuc {f i : Nat} {v8 v4 : zab} {K R : T} {ps : List Nat} {Q : zao} {S : Nat -> Tr zak -> Tr zak -> Prop} (hS : ∀ k, zzdd (S k)) (hp : RSl tf 1 (za2 .u32 ps) v4) (hl : ps.length < 30000) (h : S ps.length tf t)
  (body : ∀ (k x : Nat) (tf t : Tr zak) (Q1 : zao), ps[k]? = some x -> S (k + 1) tf t -> (∀ t', S k tf t' -> Q1 (.bool true) t') -> Jq C13 F f i [v8, .int .u32 (x : Int)] t Q1)
  (fin : ∀ tf' t', TLe tf tf' -> S 0 tf' t' -> wpT C13.base (Wq C13 F zay) (Jq C13 F f) K t' Q) :
  wpT C13.base (Wq C13 F zay) (Jq C13 F f) (.call 153 [v4] fun a0 => .range (npC C13) a0 i 1 [v8] K R) t Q := by
 simp only [wpT]; rw [q153]; refine w153 _ ?_
 simp only [t153, wpT]; intro bb hbb hbase; have hc4 : v4.cells = [v4] := by
  obtain ⟨cl, h1, _⟩ := hp
  rcases h1 with ⟨rfl, _⟩ | ⟨_, _, _, rfl, _⟩ <;> rfl
 have hone : z0e v4 ⟨bb, t⟩ = some (.ptr bb 0, ⟨bb + 1, t.set bb (.cells (Tr.ofList [v4]) 1 none)⟩) := by
  unfold z0e; rw [hc4]; rfl
 rw [hone, zaa]; simp only []; have h1 := (hS _).both h hbb (.cells (Tr.ofList [v4]) 1 none)
 have hfb := zj5 ((hS _).le h) hbb
 have htf1 : TLe tf (tf.set bb (.cells (Tr.ofList [v4]) 1 none)) := (zer hfb _).1
 generalize htf : tf.set bb (.cells (Tr.ofList [v4]) 1 none) = tf1 at h1 htf1
 have hg1 : tf1.get bb = some (.cells (Tr.ofList [v4]) 1 none) := by rw [<- htf, Tr.get_set, if_pos rfl]
 generalize t.set bb (.cells (Tr.ofList [v4]) 1 none) = t1 at h1
 refine ⟨Nat.le_add_right _ _, fun l r hl0 hlb hr1 hr2 hy => ?_⟩
 have hra : zik (npC C13) (.func (.func 175) [] [.ptr bb 0]) l = some (175, [.func (.yld l) [] [], .ptr bb 0]) := by
  unfold zik; simp only [zab.asFunc, zac]; have : npC C13 175 = true := by kernel_rfl
  rw [this]; rfl
 rw [hra, zaa]; have h2 := (hS _).both h1 hl0 (.loop r)
 have hfl := zj5 ((hS _).le h1) hl0
 have hlr : zro true r = r := by
  obtain ⟨a, b, c, d, e, f, g, h, i⟩ := r
  have hr1 : a = .ready := hr1
  have hr2 : b = none := hr2
  subst hr1; subst hr2; rfl
 have hle2 : TLe tf1 (tf1.set l (.loop r)) := (zer hfl _).1
 rw [show Wq C13 F zay 175 = Wc C13 F 175 by funext a m R; exact q175]
 refine zzkj (l := ps) (v := v4) (I := fun k t' => S k (tf1.set l (.loop r)) t') (by omega) ?_ ?_ ?_ h2
 ·intro k t' hI
  have hle := (hS _).le hI
  have hg : t'.get bb = some (.cells (Tr.ofList [v4]) 1 none) := hle _ _ (hle2 _ _ hg1)
  refine ⟨?_, hp.mono (htf1.trans (hle2.trans hle))⟩
  exact (Cel.load1 (cs := [v4]) (lo := none) ⟨Tr.ofList [v4], hg, fun j a hj => by rw [Tr.get_ofList]; exact hj⟩ zmc rfl (j := 0) rfl)
 ·intro k x t' hx hI R hR
  show zcf (some (yo + l, [zab.int .u32 (x : Int)])) _
  rw [zaa]; refine hy [.int .u32 (x : Int)] t' R rfl ((hS _).le hI _ _ (by rw [Tr.get_set, if_pos rfl])) ?_
  refine body k x tf1 _ _ hx ((hS _).out hfl hI) fun t2 h3 hn2 => ⟨true, rfl, ?_⟩
  rw [hlr]; exact hR _ ((hS _).both h3 hn2 (.loop r))
 ·intro t' hI
  exact .inl ⟨(hS _).le hI _ _ (by rw [Tr.get_set, if_pos rfl]), fin tf1 _ htf1 ((hS _).out hfl hI)⟩
def zzk0 (bx : Nat) (v : zab) (tf t : Tr zak) : Prop := C13.base <= bx /\ tf.get bx = none /\ TLe tf t /\ Cel t bx none [v]
theorem zzk0.framed {bx : Nat} {v : zab} : zzdd (zzk0 bx v) where
 le := fun h => h.2.2.1
 both := fun {tf t n} h hn y => by
  obtain ⟨h1, h2, h3, h4⟩ := h
  have hbx : bx ≠ n := by intro e; obtain ⟨c, h, _⟩ := h4; rw [e, hn] at h; cases h
  exact ⟨h1, by rw [Tr.get_set, if_neg hbx]; exact h2, zvp hn h3, h4.off (by rw [Tr.get_set, if_neg hbx])⟩
 out := fun {tf t n y} hn h => by
  obtain ⟨h1, h2, h3, h4⟩ := h
  have hbx : bx ≠ n := by intro e; rw [e, Tr.get_set, if_pos rfl] at h2; cases h2
  have hle : TLe tf (tf.set n y) := (zer hn y).1
  rw [Tr.get_set, if_neg hbx] at h2; refine ⟨h1, h2, fun c u hc => ?_, h4.off (by rw [Tr.get_del, if_neg hbx])⟩
  have : c ≠ n := fun e => by rw [e, hn] at hc; cases hc
  rw [Tr.get_del, if_neg this]; exact h3 _ _ (hle _ _ hc)
theorem zzaj {bx x y : Nat} {Q1 : zao} (h : zzk0 bx (.int .u64 (y : Int)) tf t) (hy : y < 4294967296) (hx : x < 4294967296) (hQ : ∀ t', zzk0 bx (.int .u64 ((y * 4294967296 + x : Nat) : Int)) tf t' -> Q1 (.bool true) t') : jp 207 2 [.ptr bx 0, .int .u32 (x : Int)] t Q1 := by
 obtain ⟨i1, i2, i3, i4⟩ := h
 have e5 : (y : Int) * 4294967296 = ((y * 4294967296 : Nat) : Int) := by omega
 have e6 : zfz Nat.lor .u64 (zag .u64 ((y : Int) * 4294967296)) (zag .u64 (x : Int)) = some (.int .u64 ((y * 4294967296 + x : Nat) : Int)) := by
  rw [e5, za3 (by omega) (by omega), za3 (by omega) (by omega), or32 hy hx]
 generalize y * 4294967296 + x = z at e6 hQ
 refine j207_2 _ _ ?_
 simp only [zzg1, wpT]; rw [i4.load1 z8b rfl (j := 0) rfl, zaa, zai, zaa, e6, zaa, zai, zaa]
 intro b3 _ _; obtain ⟨t3, k1, k2, k3⟩ := i4.store1 (v := .int .u64 (z : Int)) i1 z8b rfl rfl rfl (j := 0) (by simp)
 rw [k1, zaa]; exact hQ _ ⟨i1, i2, i3.off i2 k3, k2⟩
theorem z54 {l : List Nat} {k x : Nat} (hl : l.length <= 2) (hlt : zax 4294967296 l) (hx : l[k]? = some x) : x < 4294967296 /\ val 4294967296 (l.drop (k + 1)) < 4294967296 /\ val 4294967296 (l.drop k) = val 4294967296 (l.drop (k + 1)) * 4294967296 + x := by
 have hk : k < l.length := (yad.1 hx).1
 have hdrop : l.drop k = x :: l.drop (k + 1) := by
  rw [yam hk]; congr 1
  rw [yae hk] at hx; exact ybj hx
 refine ⟨hlt x (ybw hx), ?_, ?_⟩
 ·have h1 := zu6 hlt (k + 1)
  have h2 : (l.drop (k + 1)).length <= 1 := by rw [yck]; omega
  generalize l.drop (k + 1) = m at h1 h2 ⊢
  match m, h1, h2 with
  | [], _, _ => exact Nat.zero_lt_succ _
  | [a], h1, _ => rw [val, val, Nat.mul_zero, ybu]; exact h1 a (.head _)
 ·rw [hdrop, val, yai, Nat.add_comm]
theorem zzjk {l : List Nat} {v : zab} (hv : RSl t 1 (za2 .u32 l) v) (hl : l.length <= 2) (hlt : zax 4294967296 l) : pvC C13 F 207 [v] t = some (.int .u64 ((val 4294967296 l : Nat) : Int)) := by
 refine ztc (w207 _ ?_)
 have hlen0 : l.length < 30000 := by omega
 have hst : ∀ k x, l[k]? = some x -> _ := fun k x => z54 (k := k) (x := x) hl hlt
 have h0 : val 4294967296 (l.drop l.length) = 0 := by rw [List.drop_length, val]
 generalize hg : (fun k => val 4294967296 (l.drop k)) = g
 have hst' : ∀ k x, l[k]? = some x -> x < 4294967296 /\ g (k + 1) < 4294967296 /\ g k = g (k + 1) * 4294967296 + x := fun k x hx => by rw [<- hg]; exact hst k x hx
 have h0' : g l.length = 0 := by rw [<- hg]; exact h0
 have hend : val 4294967296 l = g 0 := by rw [<- hg]; rfl
 rw [hend]; clear hg hst h0 hend
 unfold t207; show ∀ b, t.get b = none -> C13.base <= b -> zcf (zjq C13 195 ⟨b, t⟩) _
 intro bx hbx hbase; obtain ⟨t1, e1, e2, e3, e4⟩ := zi1 (C := C13) z8b hbx
 rw [e1, zaa]; show ∀ b, t1.get b = none -> C13.base <= b -> zcf (zbl C13 195 (.ptr bx 0) (.int .u64 0) ⟨b, t1⟩) _
 intro b2 _ _; obtain ⟨t2, g1, g2, g3⟩ := e2.store1 (v := .int .u64 0) hbase z8b rfl rfl rfl (j := 0) (by simp)
 rw [g1, zaa]; have hS0 : zzk0 bx (.int .u64 ((g l.length : Nat) : Int)) t t2 := by
  rw [h0']; exact ⟨hbase, hbx, (TLe.refl t).off hbx e4 |>.off hbx g3, g2⟩
 refine zuc (S := fun k tf t => zzk0 bx (.int .u64 ((g k : Nat) : Int)) tf t) (fun k => zzk0.framed) hv hlen0 hS0 ?_ ?_
 ·intro k x tf t' Q1 hx hI hQ1
  obtain ⟨s1, s2, s3⟩ := hst' k x hx
  refine zzaj hI s2 s1 fun t2 h2 => hQ1 t2 ?_
  rw [s3]; exact h2
 ·intro tf' t' hle hI
  obtain ⟨i1, i2, i3, i4⟩ := hI
  simp only [wpT]; rw [i4.load1 z8b rfl (j := 0) rfl, zaa]
  simp only [zai, zaa]; exact ⟨trivial, hle.trans i3⟩
end Go.Proofs
namespace Go.Am
open Go
def zkw (u : Nat) : List Nat := (Lib.decDigits u).map UInt8.toNat
theorem zgx {u : Nat} (h : u < 10) : zkw u = [48 + u] := by
 unfold zkw; rw [Lib.decDigits_one h]; simp [UInt8.toNat_ofNat']
 omega
theorem zp9 {u : Nat} (h : ¬ u < 10) : zkw u = zkw (u / 10) ++ [48 + u % 10] := by
 unfold zkw; rw [Lib.decDigits, dif_neg h, List.map_append]; simp [UInt8.toNat_ofNat']
 omega
theorem zr2 (u : Nat) : zpo (u : Int) = zkw u := by
 unfold zpo Lib.itoa zkw; rw [if_neg (by omega)]; rfl
theorem zzbe {u : Nat} (h : 0 < u) : zpo (-(u : Int)) = 45 :: zkw u := by
 unfold zpo Lib.itoa zkw; rw [if_pos (by omega)]
 simp
theorem zzf3 (u : Nat) : (zkw u).length = Lib.nDigits u := by unfold zkw; rw [yag, Lib.decDigits_length]
theorem z4o (u : Nat) : 0 < (zkw u).length := by rw [zzf3]; exact Lib.nDigits_pos u
theorem z6w (u : Nat) : ∀ x ∈ zkw u, 48 <= x /\ x < 58 := by
 induction u using Nat.strongRecOn with
 | _ u ih =>
  by_cases h : u < 10
  ·rw [zgx h]; intro x hx; simp at hx; omega
  ·rw [zp9 h]
   intro x hx; rcases List.mem_append.1 hx with hx | hx
   ·exact ih (u / 10) (by omega) x hx
   ·simp at hx; omega
theorem zsi {u k : Nat} (hk : 0 < k) (h : u < 10 ^ k) : (zkw u).length <= k := by
 induction k generalizing u with
 | zero => omega
 | succ k ih =>
  by_cases h10 : u < 10
  ·rw [zgx h10]; simp
  ·rw [zp9 h10, yah]
   have : u / 10 < 10 ^ k := by rw [Nat.pow_succ] at h; omega
   by_cases hk0 : k = 0
   ·subst hk0; simp at this; omega
   ·have := ih (by omega) this
    simp; omega
def z3m : Nat -> Nat -> List Nat
 | 0, _ => []
 | k + 1, r => z3m k (r / 10) ++ [48 + r % 10]
theorem zv3 : ∀ (k r : Nat), (z3m k r).length = k
 | 0, _ => rfl
 | k + 1, r => by rw [z3m, yah, zv3 k]; rfl
theorem zya : ∀ k, z3m k 0 = List.replicate k 48
 | 0 => rfl
 | k + 1 => by rw [z3m, zya k, List.replicate_succ']
theorem zzja {k r : Nat} (hk : 0 < k) (h : r < 10 ^ k) : z3m k r = List.replicate (k - (zkw r).length) 48 ++ zkw r := by
 induction k generalizing r with
 | zero => omega
 | succ k ih =>
  rw [z3m]; by_cases h10 : r < 10
  ·rw [zgx h10, Nat.div_eq_of_lt h10, zya, Nat.mod_eq_of_lt h10]
   simp
  ·have h1 : r / 10 < 10 ^ k := by rw [Nat.pow_succ] at h; omega
   have hk0 : 0 < k := by
    rcases Nat.eq_zero_or_pos k with e | e
    ·subst e; simp at h1; omega
    ·exact e
   rw [ih hk0 h1, zp9 h10, yba]; congr 2
   simp
theorem zzf2 {q : Nat} (hq : 0 < q) : ∀ {k r : Nat}, r < 10 ^ k -> zkw (q * 10 ^ k + r) = zkw q ++ z3m k r := by
 intro k; induction k with
 | zero => intro r h; simp at h; subst h; simp [z3m]
 | succ k ih =>
  intro r h; have hp : 0 < 10 ^ k := Nat.pow_pos (by decide)
  have hb : ¬ q * 10 ^ (k + 1) + r < 10 := by
   have : 10 ^ (k + 1) = 10 ^ k * 10 := Nat.pow_succ ..
   have h2 : 10 <= q * 10 ^ (k + 1) := by
    rw [this]; calc 10 = 1 * (1 * 10) := by omega
     _ <= q * (10 ^ k * 10) := ycc hq (ycc hp (yal _))
   omega
  have e1 : (q * 10 ^ (k + 1) + r) / 10 = q * 10 ^ k + r / 10 := by
   rw [Nat.pow_succ, <- yak, Nat.add_comm, Nat.add_mul_div_right _ _ (by decide), Nat.add_comm]
  have e2 : (q * 10 ^ (k + 1) + r) % 10 = r % 10 := by
   rw [Nat.pow_succ, <- yak, Nat.add_comm, Nat.add_mul_mod_self_right]
  rw [zp9 hb, e1, e2, ih (by rw [Nat.pow_succ] at h; omega), z3m, yba]
theorem zuh : ∀ (k r : Nat), ∀ x ∈ z3m k r, 48 <= x /\ x < 58
 | 0, _, x, hx => by cases hx
 | k + 1, r, x, hx => by
  rw [z3m] at hx; rcases List.mem_append.1 hx with hx | hx
  ·exact zuh k _ x hx
  ·simp at hx; omega
def zga : List Nat -> List Nat
 | [] => []
 | [p] => zkw p
 | p :: q :: l => zga (q :: l) ++ z3m 9 p
theorem z2y : ∀ {l : List Nat}, l ≠ [] -> (∀ x ∈ l, x < 1000000000) -> l.getLast? ≠ some 0 -> zga l = zkw (val 1000000000 l) /\ 0 < val 1000000000 l
 | [], h, _, _ => absurd rfl h
 | [p], _, _, h => by
  have hp : p ≠ 0 := fun e => h (by simp [e])
  simp [zga, val]
  omega
 | p :: q :: l, _, h1, h2 => by
  obtain ⟨g1, g2⟩ := z2y (l := q :: l) (by simp) (fun x hx => h1 x (.tail _ hx)) (by rw [List.getLast?_cons_cons] at h2; exact h2)
  have hp := h1 p (.head _)
  have e : val 1000000000 (p :: q :: l) = val 1000000000 (q :: l) * 10 ^ 9 + p := by
   rw [val]; omega
  rw [e, zzf2 g2 (by simpa using hp), zga, g1]
  exact ⟨rfl, by omega⟩
theorem zls : ∀ (l : List Nat), ∀ x ∈ zga l, 48 <= x /\ x < 58
 | [], x, hx => by cases hx
 | [p], x, hx => z6w p x hx
 | p :: q :: l, x, hx => by
  rw [zga] at hx; rcases List.mem_append.1 hx with hx | hx
  ·exact zls _ x hx
  ·exact zuh _ _ x hx
def intN (neg : Bool) (n : Nat) : List Nat := (if neg then [45] else []) ++ zkw n
end Go.Am
namespace Go.Am
open Go Go.RowKit
section
variable {base : Nat} {t t0 : Tr zak} {X X0 : Xt} {HA : zaf} {n : Nat} {y : zak} {C : Ctx} {F : Tr zb5} {Q : zao}
def Xt.put (X : Xt) (n : Nat) (y : zak) : Xt := fun b => if b = n then some y else X b
theorem Xt.put_self {X : Xt} : X.put n y n = some y := if_pos rfl
theorem Xt.put_ne {X : Xt} {b : Nat} (h : b ≠ n) : X.put n y b = X b := if_neg h
theorem Ov.hide (h : Ov base t X HA) (hy : t.get n = some y) (h0 : t0.get n = none) (ho : Off n t0 t) : Ov base t0 (X.put n y) HA := by
 refine ⟨h.base, fun b hb => ?_, fun b z hb => ?_, fun b z hb => ?_⟩
 ·by_cases e : b = n
  ·subst e; rw [Xt.put_self] at hb; cases hb
  ·rw [Xt.put_ne e] at hb
   rw [h.same b hb, ho b e]
 ·by_cases e : b = n
  ·subst e
   rw [Xt.put_self] at hb; cases hb; exact ⟨h.up hy, h0, h.lt _ _ hy⟩
  ·rw [Xt.put_ne e] at hb
   obtain ⟨h1, h2, h3⟩ := h.ext b z hb
   exact ⟨h1, by rw [<- ho b e]; exact h2, h3⟩
 ·by_cases e : b = n
  ·subst e; rw [h0] at hb; cases hb
  ·exact h.lt b z (by rw [ho b e]; exact hb)
theorem Res.unhide {Q : zao} {d : zbs} (hX : X.put n y = X0) (hn : X n = none) (h : Res base X0 Q d) : Res base X (fun v t' => ∃ t0', Q v t0' /\ t0'.get n = none /\ t'.get n = some y /\ Off n t0' t') d := by
 obtain ⟨v, t', HA', X', h1, h2, h3, h4⟩ := h
 subst hX; have hy : X' n = some y := h3 n y Xt.put_self
 obtain ⟨e1, e2, e3⟩ := h2.ext n y hy
 obtain ⟨_, ho⟩ := zer (t := t') e2 y
 have hs : (t'.set n y).get n = some y := by rw [Tr.get_set, if_pos rfl]
 refine ⟨v, t'.set n y, HA', fun b => if b = n then none else X' b, h1, ⟨h2.base, fun b hb => ?_, fun b z hb => ?_, fun b z hb => ?_⟩, fun b z hb => ?_, t', h4, e2, hs, ho⟩
 ·by_cases e : b = n
  ·subst e; rw [e1, hs]
  ·have hb : (if b = n then none else X' b) = none := hb
   rw [if_neg e] at hb; rw [h2.same b hb, ho b e]
 ·by_cases e : b = n
  ·have hb : (if b = n then none else X' b) = some z := hb
   rw [if_pos e] at hb; cases hb
  ·have hb : (if b = n then none else X' b) = some z := hb
   rw [if_neg e] at hb; obtain ⟨k1, k2, k3⟩ := h2.ext b z hb
   exact ⟨k1, by rw [ho b e]; exact k2, k3⟩
 ·by_cases e : b = n
  ·subst e; exact e3
  ·rw [ho b e] at hb; exact h2.lt b z hb
 ·show (if b = n then none else X' b) = some z
  have e : b ≠ n := fun e => by subst e; rw [hn] at hb; cases hb
  rw [if_neg e]; exact h3 b z (by rw [Xt.put_ne e]; exact hb)
theorem Wc.frame {f : Nat} {args : List zab} (h : Wc C F f args t0 Q) (hy : t.get n = some y) (h0 : t0.get n = none) (ho : Off n t0 t) :
  Wc C F f args t (fun v t' => ∃ t0', Q v t0' /\ t0'.get n = none /\ t'.get n = some y /\ Off n t0' t') :=
 fun X HA hv => (h _ HA (hv.hide hy h0 ho)).unhide rfl (hv.notX hy)
end
theorem Tr.without (t : Tr zak) : ∀ n : Nat, ∃ t0 : Tr zak, t0.get n = none /\ Off n t0 t := by
 induction t with
 | leaf => exact fun n => ⟨.leaf, Tr.get_leaf n, fun _ _ => rfl⟩
 | node l v r ihl ihr =>
  intro n; by_cases h0 : n = 0
  ·subst h0
   refine ⟨.node l none r, by rw [Tr.get_node]; rfl, fun k hk => ?_⟩
   rw [Tr.get_node, Tr.get_node, if_neg hk, if_neg hk]
  ·by_cases h1 : n % 2 = 1
   ·obtain ⟨l0, g1, g2⟩ := ihl (n / 2)
    refine ⟨.node l0 v r, by rw [Tr.get_node, if_neg h0, if_pos h1]; exact g1, fun k hk => ?_⟩
    rw [Tr.get_node, Tr.get_node]; split
    ·rfl
    ·split
     ·exact g2 _ (by omega)
     ·rfl
   ·obtain ⟨r0, g1, g2⟩ := ihr (n / 2 - 1)
    refine ⟨.node l v r0, by rw [Tr.get_node, if_neg h0, if_neg h1]; exact g1, fun k hk => ?_⟩
    rw [Tr.get_node, Tr.get_node]; split
    ·rfl
    ·split
     ·rfl
     ·exact g2 _ (by omega)
end Go.Am
namespace Go.Proofs
open Go Go.Am
variable [zcb]
variable {t tf : Tr zak}
theorem zcn.call {cd : Lo} {base sz : Nat} {l : List D} {v : zab} (h : zcn cd base tf t sz l v) (ht : TLe tf t) : ∃ t0, TLe tf t0 /\ ∀ {f : Nat} {args : List zab} {Q : zao}, Wc C13 F f args t0 Q -> Wc C13 F f args t (fun u t' => ∃ t1, Q u t1 /\ (TLe tf t1 -> TLe t1 t' /\ zcn cd base t1 t' sz l v)) := by
 rcases h with ⟨rfl, rfl⟩ | ⟨b, cl, c, rfl, h0, h1, h2, h3, h4⟩
 ·exact ⟨t, ht, fun h => h.mono fun u t' hq => ⟨t', hq, fun _ => ⟨TLe.refl _, .inl ⟨rfl, rfl⟩⟩⟩⟩
 ·obtain ⟨t0, g1, g2⟩ := Tr.without t b
  refine ⟨t0, fun k u hk => ?_, fun h => (h.frame h2 g1 g2).mono fun u t' ⟨t1, k1, k2, k3, k4⟩ => ⟨t1, k1, fun hle => ⟨fun k u hk => ?_, .inr ⟨b, cl, c, rfl, h0, k2, k3, h3, RDs.mono hle _ _ h4⟩⟩⟩⟩
  ·have hkb : k ≠ b := by intro e; rw [e, h1] at hk; cases hk
   rw [<- g2 k hkb]; exact ht _ _ hk
  ·have hkb : k ≠ b := by intro e; rw [e, k2] at hk; cases hk
   rw [k4 k hkb]; exact hk
theorem el200 : z7h C13 200 202 1 := ⟨⟨_, zmc, rfl, rfl⟩, ⟨_, zeq, rfl, rfl, by decide, by decide⟩⟩
theorem el32 : z7h C13 32 5 1 := ⟨⟨_, z8a, rfl, rfl⟩, ⟨_, ty5, rfl, rfl, by decide, by decide⟩⟩
theorem co202 : ∀ z, C13.tys.get 202 = some z -> zep 202 z = .sz 1 := fun z h => by rw [zeq] at h; cases h; rfl
theorem co5 : ∀ z, C13.tys.get 5 = some z -> zep 5 z = .ty 5 := fun z h => by rw [ty5] at h; cases h; rfl
theorem zuq {cd : Lo} {base sz : Nat} {l : List D} {v : zab} {b : Nat} (h : zcn cd base tf t sz l v) (hb : zid v b) (hn : t.get b = none) : False := by
 obtain ⟨_, _, y, hy⟩ := h.none hb
 rw [hn] at hy; cases hy
theorem z5t {v2 : List Nat} {v3 : Int} {neg : Bool} {c1 : zab} {N M : Nat} {Q : zao} {t0 : Tr zak} (hM : M < 400000)
  (hR : ∀ (tf t' : Tr zak) (ps : List Nat) (v4 v5 : zab), TLe t0 tf -> TLe tf t' -> zcn (.sz 1) C13.base tf t' 1 (za2 .u32 ps) v4 -> RSl tf 1 (za2 .u32 []) v5 -> zax 1000000000 ps -> ps ≠ [] -> ps.getLast? ≠ some 0 -> val 1000000000 ps = N -> ps.length <= M -> jp 117 2 [.str v2, .int .i64 v3, v4, v5, .bool neg, c1] t' Q) :
  ∀ (k : Nat) (l ps : List Nat) (v4 v5 : zab) (tf t' : Tr zak), val 4294967296 l < 1000000000 ^ k -> k + ps.length <= M -> norm l -> zax 4294967296 l -> l.length < 900000 -> zax 1000000000 ps -> (l = [] -> ps ≠ [] /\ ps.getLast? ≠ some 0) →
   val 4294967296 l * 1000000000 ^ ps.length + val 1000000000 ps = N -> TLe t0 tf -> TLe tf t' -> zcn (.sz 1) C13.base tf t' 1 (za2 .u32 ps) v4 -> RSl tf 1 (za2 .u32 l) v5 -> jp 117 2 [.str v2, .int .i64 v3, v4, v5, .bool neg, c1] t' Q := by
 intro k; induction k with
 | zero =>
  intro l ps v4 v5 tf t' h1 h2 h3 h4 h5 h6 h7 h8 h9 h10 h11 h12; have hl : l = [] := zi7 (B := 4294967296) (by decide) h3 (by simpa using h1)
  subst hl; exact hR tf t' ps v4 v5 h9 h10 h11 h12 h6 (h7 rfl).1 (h7 rfl).2 (by simpa [val] using h8) (by omega)
 | succ k ih =>
  intro l ps v4 v5 tf t' h1 h2 h3 h4 h5 h6 h7 h8 h9 h10 h11 h12; by_cases hl : l = []
  ·subst hl
   exact hR tf t' ps v4 v5 h9 h10 h11 h12 h6 (h7 rfl).1 (h7 rfl).2 (by simpa [val] using h8) (by omega)
  have hpos : 0 < l.length := List.length_pos_iff.2 hl
  have hv0 : 0 < val 4294967296 l := by
   rcases Nat.eq_zero_or_pos (val 4294967296 l) with e | e
   ·exact absurd (zi7 (B := 4294967296) (by decide) h3 e) hl
   ·exact e
  refine zzhz _ _ _ _ _ _ ?_
  simp only [z87, wpT, (h12.mono h10).len, zaa, zai, zav, zbo]
  rw [if_pos (by omega), q152]
  obtain ⟨t1, g1, g2⟩ := zcn.call h11 h10
  refine (g2 (zy6 (h12.mono g1) h5 h4 (d := 1000000000) (by decide) (by decide) (Q := fun u t' => ∃ v' q r, u = .tup [v', .int .u32 (r : Nat)] /\ TLe t1 t' /\ RSl t' 1 (za2 .u32 (zc9 q)) v' /\ zax 4294967296 q /\ q.length = l.length /\ r < 1000000000 /\ val 4294967296 l = val 4294967296 q * 1000000000 + r) fun t' v' q r a b c d e f => ⟨v', q, r, rfl, a, b, c, d, e, f⟩)).mono ?_
  rintro u t2 ⟨tf2, ⟨v', q, r, rfl, a1, a2, a3, a4, a5, a6⟩, hk⟩
  obtain ⟨b1, b2⟩ := hk (g1.trans a1)
  have x0 : zar 0 (.tup [v', .int .u32 (r : Nat)]) = some v' := rfl
  have x1 : zar 1 (.tup [v', .int .u32 (r : Nat)]) = some (.int .u32 (r : Nat)) := rfl
  simp only [x0, x1, zaa, zai]; intro n hn hbase; obtain ⟨H1, c1', c2, c3⟩ := zwb (k := .u32) zmc rfl zeq rfl rfl r trivial hn
  rw [c1', zaa]; intro n2 hn2 hbase2; have b3 : zcn (.sz 1) C13.base tf2 H1.t 1 (za2 .u32 ps) v4 := b2.keep' fun b hb => by
   obtain ⟨_, _, y, hy⟩ := b2.none hb
   rw [c3 _ _ hy, hy]
  obtain ⟨t4, d1, d2, d3, d4⟩ := zsr el200 co202 b3 (c2.all (cap := 1) (yal _)) (by simp) (by simp; omega) hn2 hbase2 (b1.trans c3)
  simp only [List.length_singleton] at d1 d2; simp only []; rw [d1, zaa]; refine ih (zc9 q) (ps ++ [r]) _ _ tf2 t4 ?_ ?_ (zdz _) (zdf a3) ?_ ?_ ?_ ?_ (h9.trans (g1.trans a1)) d3 ?_ a2
  ·rw [zdl]
   rw [Nat.pow_succ] at h1; exact Nat.lt_of_mul_lt_mul_right (a := 1000000000) (by omega)
  ·simp; omega
  ·have := zqt q; omega
  ·exact zzq h6 fun x hx => by simp at hx; omega
  ·intro hs
   refine ⟨by simp, ?_⟩
   have hq : val 4294967296 q = 0 := by rw [<- zdl, hs]; rfl
   have e0 : (ps ++ [r]).getLast? = some r := by simp
   rw [e0]; intro e
   cases e
   omega
  ·rw [zdl, zfq, yah]
   simp only [val, yao, yay, yax, Nat.mul_zero, ybu]; rw [<- h8, a6, Nat.pow_succ, yap, yak, yai (1000000000 ^ ps.length) 1000000000, yai (1000000000 ^ ps.length) r]
   omega
  ·simpa using d2
end Go.Proofs
namespace Go.Proofs
open Go Go.Am
variable [zcb]
variable {t tf : Tr zak} {bx : Nat} {s m : List Nat}
def TX (tf t : Tr zak) (bx : Nat) (s : List Nat) : Prop := C13.base <= bx /\ tf.get bx = none /\ TLe tf t /\ ∃ tv, Cel t bx none [tv] /\ zcn (.ty 5) C13.base tf t 1 (za2 .u8 s) tv /\ ¬ zid tv bx
theorem TX.both (h : TX tf t bx s) {n : Nat} (hn : t.get n = none) (y : zak) : TX (tf.set n y) (t.set n y) bx s := by
 obtain ⟨h1, h2, h3, tv, h4, h5, h6⟩ := h
 have hbx : bx ≠ n := by intro e; obtain ⟨c, h, _⟩ := h4; rw [e, hn] at h; cases h
 refine ⟨h1, by rw [Tr.get_set, if_neg hbx]; exact h2, zvp hn h3, tv, h4.off (by rw [Tr.get_set, if_neg hbx]), ?_, h6⟩
 have hb : ∀ b, zid tv b -> b ≠ n := fun b hb e => zuq h5 hb (e ▸ hn)
 rcases h5 with ⟨rfl, h5⟩ | ⟨b, cl, c, rfl, k0, k1, k2, k3, k4⟩
 ·exact .inl ⟨rfl, h5⟩
 ·have hbn := hb b (zc4.2 rfl)
  exact .inr ⟨b, cl, c, rfl, k0, by rw [Tr.get_set, if_neg hbn]; exact k1, by rw [Tr.get_set, if_neg hbn]; exact k2, k3, RDs.mono (fun c u hc => by
   have : c ≠ n := fun e => by rw [e, zj5 h3 hn] at hc; cases hc
   rw [Tr.get_set, if_neg this]; exact hc) _ _ k4⟩
theorem TX.out {n : Nat} {y : zak} (hn : tf.get n = none) (h : TX (tf.set n y) t bx s) : TX tf (t.del n) bx s := by
 obtain ⟨h1, h2, h3, tv, h4, h5, h6⟩ := h
 have hbx : bx ≠ n := by intro e; rw [e, Tr.get_set, if_pos rfl] at h2; cases h2
 have hle : TLe tf (tf.set n y) := (zer hn y).1
 rw [Tr.get_set, if_neg hbx] at h2; refine ⟨h1, h2, fun c u hc => ?_, tv, h4.off (by rw [Tr.get_del, if_neg hbx]), ?_, h6⟩
 ·have : c ≠ n := fun e => by rw [e, hn] at hc; cases hc
  rw [Tr.get_del, if_neg this]; exact h3 _ _ (hle _ _ hc)
 ·rcases h5 with ⟨rfl, h5⟩ | ⟨b, cl, c, rfl, k0, k1, k2, k3, k4⟩
  ·exact .inl ⟨rfl, h5⟩
  ·have hbn : b ≠ n := by intro e; rw [e, Tr.get_set, if_pos rfl] at k1; cases k1
   refine .inr ⟨b, cl, c, rfl, k0, by rw [Tr.get_set, if_neg hbn] at k1; exact k1, by rw [Tr.get_del, if_neg hbn]; exact k2, k3, ?_⟩
   rw [zgu] at k4 ⊢; exact k4
theorem TX.load (h : TX tf t bx s) : ∃ tv, zau C13 32 ⟨0, t⟩ (.ptr bx 0) = some tv /\ Cel t bx none [tv] /\ zcn (.ty 5) C13.base tf t 1 (za2 .u8 s) tv /\ ¬ zid tv bx := by
 obtain ⟨h1, h2, h3, tv, h4, h5, h6⟩ := h
 exact ⟨tv, h4.load1 z8a rfl rfl, h4, h5, h6⟩
theorem TX.put {t1 : Tr zak} {n k : Nat} {tv : zab} (hb : C13.base <= bx) (hf : tf.get bx = none) (hc : Cel t1 bx none [tv]) (hl : zcn (.ty 5) C13.base tf t1 1 (za2 .u8 s) (.slice n 0 k k)) (hle : TLe tf t1) (hn : n ≠ bx) :
  ∃ t2, (∀ n', zbl C13 32 (.ptr bx 0) (.slice n 0 k k) ⟨n', t1⟩ = some (zbh, ⟨n', t2⟩)) /\ TX tf t2 bx s := by
 obtain ⟨t2, g1, g2, g3⟩ := hc.store1 (v := .slice n 0 k k) hb z8a rfl rfl rfl (j := 0) (by simp)
 refine ⟨t2, g1, hb, hf, hle.off hf g3, _, g2, hl.keep' fun b hb' => g3 b fun e => ?_, fun e => ?_⟩
 ·rw [zc4] at hb'; exact hn (hb'.symm.trans e)
 ·rw [zc4] at e; exact hn e.symm
theorem TX.add (h : TX tf t bx s) (hm : m ≠ []) (hl : s.length + m.length < 400000) : ∃ tv, zau C13 32 ⟨0, t⟩ (.ptr bx 0) = some tv /\ ∀ n, t.get n = none -> C13.base <= n →
  ∃ w t1 t2, zci C13 32 9 tv (.str m) ⟨n, t⟩ = some (w, ⟨n + 1, t1⟩) /\ (∀ n', zbl C13 32 (.ptr bx 0) w ⟨n', t1⟩ = some (zbh, ⟨n', t2⟩)) /\ TX tf t2 bx (s ++ m) := by
 obtain ⟨tv, h1, h2, h3, h4⟩ := h.load
 refine ⟨tv, h1, fun n hn hbase => ?_⟩
 have hbn : n ≠ bx := by intro e; obtain ⟨c, hh, _⟩ := h2; rw [<- e, hn] at hh; cases hh
 obtain ⟨t1, g1, g2, g3, g4⟩ := zu4 el32 ⟨_, ty9, rfl⟩ co5 h3 hm hl hn hbase h.2.2.1
 obtain ⟨t2, g5, g6⟩ := TX.put h.1 h.2.1 (h2.off (g4 bx hbn.symm h4)) g2 g3 hbn
 exact ⟨_, t1, t2, g1, g5, g6⟩
theorem TX.byte (h : TX tf t bx s) (x : Nat) (hl : s.length + 1 < 400000) : ∃ tv, zau C13 32 ⟨0, t⟩ (.ptr bx 0) = some tv /\ ∀ n, t.get n = none -> C13.base <= n →
  ∃ H1, za5 C13 32 1 [(0, .int .u8 (x : Int))] ⟨n, t⟩ = some (.slice n 0 1 1, H1) /\ ∀ n2, H1.t.get n2 = none -> C13.base <= n2 →
   ∃ w t1 t2, zci C13 32 32 tv (.slice n 0 1 1) ⟨n2, H1.t⟩ = some (w, ⟨n2 + 1, t1⟩) /\ (∀ n', zbl C13 32 (.ptr bx 0) w ⟨n', t1⟩ = some (zbh, ⟨n', t2⟩)) /\ TX tf t2 bx (s ++ [x]) := by
 obtain ⟨tv, h1, h2, h3, h4⟩ := h.load
 refine ⟨tv, h1, fun n hn hbase => ?_⟩
 obtain ⟨H1, c1, c2, c3⟩ := zwb (k := .u8) z8a rfl ty5 rfl rfl x trivial hn
 refine ⟨H1, c1, fun n2 hn2 hbase2 => ?_⟩
 have hcel : Cel H1.t bx none [tv] := h2.off (by
  obtain ⟨c, hh, _⟩ := h2
  rw [c3 _ _ hh, hh])
 have hbn : n2 ≠ bx := by intro e; obtain ⟨c, hh, _⟩ := hcel; rw [<- e, hn2] at hh; cases hh
 have h3' : zcn (.ty 5) C13.base tf H1.t 1 (za2 .u8 s) tv := h3.keep' fun b hb => by
  obtain ⟨_, _, y, hy⟩ := h3.none hb
  rw [c3 _ _ hy, hy]
 obtain ⟨t1, g1, g2, g3, g4⟩ := zsr el32 co5 h3' (c2.all (cap := 1) (yal _)) (by simp) (by simpa using hl) hn2 hbase2 (h.2.2.1.trans c3)
 simp only [List.length_singleton] at g1 g2; obtain ⟨t2, g5, g6⟩ := TX.put h.1 h.2.1 (hcel.off (g4 bx hbn.symm h4)) g2 g3 hbn
 exact ⟨_, t1, t2, g1, g5, g6⟩
theorem zzei {Q : zao} {c : Nat} (hm : m ≠ []) (hc : c < 100) (hml : m.length < 100) : ∀ (k i : Nat) (s : List Nat) (t : Tr zak), i + k = c -> s.length + k + m.length < 400000 -> TX tf t bx s -> (∀ t', TX tf t' bx (s ++ (List.replicate k 48 ++ m)) -> Q (.bool true) t') →
  jp 117 10 [.ptr bx 0, .str m, .int .i64 (c : Int), .int .i64 (i : Int)] t Q := by
 intro k; induction k with
 | zero =>
  intro i s t hi hl h hQ; refine zzbd _ _ _ _ ?_
  simp only [z0k, wpT, zbo]; rw [if_neg (by omega)]
  obtain ⟨tv, g1, g2⟩ := h.add hm (by omega)
  rw [g1, zaa]; intro n hn hbase; obtain ⟨w, t1, t2, g3, g4, g5⟩ := g2 n hn hbase
  rw [g3, zaa]; intro n2 _ _; rw [g4, zaa]; exact hQ _ (by simpa using g5)
 | succ k ih =>
  intro i s t hi hl h hQ; refine zzbd _ _ _ _ ?_
  simp only [z0k, wpT, zbo]; rw [if_pos (by omega)]
  obtain ⟨tv, g1, g2⟩ := h.byte 48 (by omega)
  rw [g1, zaa]; intro n hn hbase; obtain ⟨H1, g3, g4⟩ := g2 n hn hbase
  rw [show ((48 : Nat) : Int) = 48 from rfl] at g3
  rw [g3, zaa]; intro n2 hn2 hbase2; obtain ⟨w, t1, t2, g5, g6, g7⟩ := g4 n2 hn2 hbase2
  simp only []; rw [g5, zaa]; intro n3 _ _; rw [g6, zaa]; rw [wrap_i64 (by omega) (by omega), show (i : Int) + 1 = ((i + 1 : Nat) : Int) by omega]
  refine ih (i + 1) (s ++ [48]) t2 (by omega) (by simp; omega) g7 fun t' h' => hQ t' ?_
  rw [yba] at h'
  rw [List.replicate_succ]; exact h'
theorem zzin {u : Nat} (h : u < 18446744073709551616) : pvC C13 F 154 [.int .u64 (u : Int), .int .i64 10] t = some (.str (zkw u)) := by
 have hg : C13.prims.get 154 = some (zk2 z9y) := by kernel_rfl
 refine zv0 hg fun H => ?_
 show zaj (iLe 0 (u : Int) && iLt (u : Int) 18446744073709551616 && iEq 10 10) (some (zab.str (zpo (u : Int)))) = _
 rw [zr2, zdc.2 (by omega), zbo.2 (by omega)]
 rfl
def zsx (s : List Nat) (x : Nat) : List Nat := if s = [] \/ s = [45] then s ++ zkw x else s ++ z3m 9 x
theorem zzks {Q : zao} {x : Nat} (h : TX tf t bx s) (hx : x < 1000000000) (hs : s.length < 300000) (hlt : zax 256 s) (hQ : ∀ t', TX tf t' bx (zsx s x) -> Q (.bool true) t') : jp 117 6 [.ptr bx 0, .int .u32 (x : Int)] t Q := by
 have hd := z4o x
 have hd9 : (zkw x).length <= 9 := zsi (by decide) (by omega)
 have hne : zkw x ≠ [] := fun e => by rw [e] at hd; simp at hd
 have hpad : s ≠ [] -> s ≠ [45] -> jp 117 10 [.ptr bx 0, .str (zkw x), .int .i64 (zag .i64 (9 - Int.ofNat (zbw (zkw x)))), .int .i64 0] t Q := by
  intro h1 h2; have e : zag .i64 (9 - Int.ofNat (zbw (zkw x))) = ((9 - (zkw x).length : Nat) : Int) := by
   rw [za1, wrap_i64 (by simp; omega) (by simp; omega)]
   show 9 - ((zkw x).length : Int) = _
   omega
  rw [e]; refine zzei hne (by omega) (by omega) _ 0 s t (yax _) (by omega) h fun t' h' => hQ t' ?_
  unfold zsx; rw [if_neg (by rintro (h | h); exact h1 h; exact h2 h), zzja (by decide) (by simpa using hx)]
  exact h'
 have hadd : s = [] \/ s = [45] -> ∃ tv, zau C13 32 ⟨0, t⟩ (.ptr bx 0) = some tv /\ ∀ b, t.get b = none -> C13.base <= b -> zcf (zci C13 32 9 tv (.str (zkw x)) ⟨b, t⟩) fun p => ∀ b, p.2.t.get b = none -> C13.base <= b -> zcf (zbl C13 32 (.ptr bx 0) p.1 ⟨b, p.2.t⟩) fun p => Q (.bool true) p.2.t := by
  intro hs'; obtain ⟨tv, g1, g2⟩ := h.add hne (by omega)
  refine ⟨tv, g1, fun n hn hbase => ?_⟩
  obtain ⟨w, t1, t2, g3, g4, g5⟩ := g2 n hn hbase
  rw [g3, zaa]; intro n2 _ _; rw [g4, zaa]; refine hQ _ ?_
  unfold zsx; rw [if_pos hs']; exact g5
 obtain ⟨tv, l1, l2, l3, l4⟩ := h.load
 refine j117_6 _ _ ?_
 simp only [zzg7, wpT, q154]; rw [za3 (by omega) (by omega), zzin (by omega), zaa]
 simp only [zab.asStr, zaa, l1, l3.len, zai, zav, zbo, zen]; by_cases h1 : 1 < s.length
 ·rw [if_pos (by omega)]
  exact hpad (by intro e; rw [e] at h1; simp at h1) (by intro e; rw [e] at h1; simp at h1)
 ·rw [if_neg (by omega)]
  by_cases h2 : s.length = 1
  ·rw [if_pos (by omega)]
   obtain ⟨y, rfl⟩ := List.length_eq_one_iff.1 h2
   have hr := l3.read (by rfl) h.2.2.1
   obtain ⟨b, off, k1, k2⟩ := hr.idx sl32 (i := 0) (x := y) rfl
   rw [show ((0 : Nat) : Int) = 0 from rfl] at k1
   simp only [k1, zaa, k2, zai]; by_cases h3 : y = 45
   ·subst h3
    rw [if_neg (by simp [zlg])]
    obtain ⟨tv', g1, g2⟩ := hadd (.inr rfl)
    rw [l1] at g1; cases g1
    exact g2
   ·rw [if_pos (by simp [zlg]; omega)]
    exact hpad (by simp) (by simpa using h3)
  ·rw [if_neg (by omega)]
   have hs0 : s = [] := ybd.1 (by omega)
   obtain ⟨tv', g1, g2⟩ := hadd (.inl hs0)
   rw [l1] at g1; cases g1
   exact g2
end Go.Proofs
namespace Go.Proofs
open Go Go.Am
variable [zcb]
variable {t tf : Tr zak} {bx : Nat} {s m : List Nat}
theorem zzt {sg : List Nat} (hsg : sg = [] \/ sg = [45]) {x : Nat} {l : List Nat} : zsx (sg ++ zga l) x = sg ++ zga (x :: l) := by
 unfold zsx
 cases l with
 | nil =>
  rw [if_pos (by simpa [zga] using hsg)]
  simp [zga]
 | cons p l =>
  have hne : zga (p :: l) ≠ [] := by
   cases l with
   | nil => intro e; have := z4o p; rw [show zga [p] = zkw p from rfl] at e; rw [e] at this; simp at this
   | cons q l =>
    intro e; have := congrArg List.length e
    rw [zga, yah, zv3] at this; simp at this
  rw [if_neg, zga, yba]; rintro (h | h)
  ·rw [List.append_eq_nil_iff] at h; exact hne h.2
  ·rcases hsg with rfl | rfl
   ·rw [List.nil_append] at h
    have := zls (p :: l) 45 (by rw [h]; exact .head _)
    omega
   ·rw [List.append_eq_cons_iff] at h
    rcases h with ⟨h, _⟩ | ⟨a, h, h2⟩
    ·cases h
    ·cases h
     have : zga (p :: l) = [] := by
      cases hx : zga (p :: l) with
      | nil => rfl
      | cons a b => rw [hx] at h2; simp at h2
     exact hne this
theorem zxn : ∀ (l : List Nat), (∀ x ∈ l, x < 1000000000) -> (zga l).length <= 9 * l.length
 | [], _ => by simp [zga]
 | [p], h => by
  have := zsi (u := p) (k := 9) (by decide) (by simpa using h p (.head _))
  simp [zga]; omega
 | p :: q :: l, h => by
  have := zxn (q :: l) fun x hx => h x (.tail _ hx)
  rw [zga, yah, zv3]; simp at this ⊢; omega
theorem zu5 {sg l : List Nat} (hsg : sg = [] \/ sg = [45]) : zax 256 (sg ++ zga l) := by
 intro x hx; rcases List.mem_append.1 hx with hx | hx
 ·rcases hsg with rfl | rfl
  ·cases hx
  ·simp at hx; omega
 ·have := zls _ x hx; omega
theorem TX.framed {bx : Nat} {s : List Nat} : zzdd (fun tf t => TX tf t bx s) where
 le := fun h => h.2.2.1
 both := fun h hn y => h.both hn y
 out := fun hn h => TX.out hn h
theorem zzgt {Q : zao} {t0 : Tr zak} {ps : List Nat} {v4 : zab} {sg : List Nat} (hsg : sg = [] \/ sg = [45]) (h0 : TLe t0 tf) (hp : RSl tf 1 (za2 .u32 ps) v4) (hlt : zax 1000000000 ps) (hl : ps.length < 30000) (h : TX tf t bx sg)
  (hQ : ∀ t', TLe t0 t' -> Q (.tup [.str (sg ++ zga ps), .int .i64 0]) t') : jp 117 29 [.str [], .int .i64 0, v4, .ptr bx 0] t Q := by
 refine zzju _ _ _ _ ?_
 unfold z86; refine zuc (S := fun k tf t => TX tf t bx (sg ++ zga (ps.drop k))) (fun k => TX.framed) hp hl (by rw [List.drop_length]; simpa [zga] using h) ?_ ?_
 ·intro k x tf t' Q1 hx hI hQ1
  have hk : k < ps.length := (yad.1 hx).1
  have hxl : x < 1000000000 := hlt x (ybw hx)
  have hdrop : ps.drop k = x :: ps.drop (k + 1) := by
   rw [yam hk]; congr 1
   rw [yae hk] at hx; exact ybj hx
  have hlen : (sg ++ zga (ps.drop (k + 1))).length < 300000 := by
   have := zxn (ps.drop (k + 1)) fun y hy => hlt y (List.mem_of_mem_drop hy)
   rw [yah]; rw [yck] at this; have : sg.length <= 1 := by rcases hsg with rfl | rfl <;> simp
   omega
  refine zzks hI hxl hlen (zu5 hsg) fun t2 h3 => hQ1 _ ?_
  rw [zzt hsg, <- hdrop] at h3; exact h3
 ·intro tf' t' hle h3
  rw [ybs] at h3; obtain ⟨tv, g1, _, g3, _⟩ := h3.load
  show zcf (zau C13 32 ⟨0, t'⟩ (.ptr bx 0)) _
  rw [g1, zaa]; show zcf (zk1 C13 32 9 ⟨0, t'⟩ tv) _
  rw [zzf7 z8a ty9 rfl rfl rfl ty5 rfl (g3.read (by rfl) h3.2.2.1) (zu5 hsg), zaa]
  exact hQ _ (h0.trans (hle.trans h3.2.2.1))
def zqj (neg : Bool) (l : List Nat) : List Nat := intN neg (val 65536 l)
set_option exponentiation.threshold 2000 in
theorem z8j {neg : Bool} {l : List Nat} {v : zab} (hv : RSl t 1 (za2 .u16 l) v) (hlt : zax 65536 l) (hval : ze8 neg l = true) : pvC C13 F 117 [.agg [.bool neg, v]] t = some (.tup [.str (zqj neg l), .int .i64 0]) := by
 have hlen : l.length <= 1024 := by
  unfold ze8 at hval; split at hval
  ·rename_i e; rw [e]; simp
  ·simp at hval; exact hval.1
 refine ztc (w117 _ _ ?_)
 simp only [t117, wpT, q148]; rw [zpt (by omega) hv, hval]
 simp only [zab.asBool, zaa, Bool.not_true, yar, if_false, hv.len, zav, zai, zen]; by_cases h0 : l = []
 ·subst h0
  rw [if_pos (by simp)]
  have hn : neg = false := by unfold ze8 at hval; simpa using hval
  subst hn; refine ⟨?_, fun _ _ h => h⟩
  unfold zqj intN; simp [val, zgx]
 ·have hpos : 0 < l.length := List.length_pos_iff.2 h0
  rw [if_neg (by omega), q151]
  refine z03 hv (by omega) hlt fun t1 v1 hle hv1 => ?_
  have hlast : l.getLast? ≠ some 0 := by
   unfold ze8 at hval; rw [if_neg h0] at hval; simp at hval; exact hval.2
  have hnorm : norm l := fun hne e2 => hlast (by rw [List.getLast?_eq_some_getLast hne, e2])
  have hN : val 4294967296 (zdy l) = val 65536 l := zqm l
  have hvpos : 0 < val 65536 l := by
   rcases Nat.eq_zero_or_pos (val 65536 l) with e | e
   ·exfalso
    exact h0 (zi7 (B := 65536) (by decide) hnorm e)
   ·exact e
  have hple : (zdy l).length <= 512 := by rw [zdx]; omega
  have hbnd : val 4294967296 (zdy l) < 1000000000 ^ 1100 := by
   have g1 := zgj (B := 4294967296) (by decide) (zhl hlt)
   have g2 : 4294967296 ^ (zdy l).length <= 4294967296 ^ 512 := Nat.pow_le_pow_right (by decide) hple
   have g3 : (4294967296 : Nat) ^ 512 <= 1000000000 ^ 1100 := by
    have : (4294967296 : Nat) <= 1000000000 ^ 2 := by decide
    calc (4294967296 : Nat) ^ 512 <= (1000000000 ^ 2) ^ 512 := Nat.pow_le_pow_left this 512
     _ = 1000000000 ^ 1024 := by rw [<- Nat.pow_mul]
     _ <= 1000000000 ^ 1100 := Nat.pow_le_pow_right (by decide) (by decide)
   omega
  refine z5t (t0 := t1) (N := val 65536 l) (M := 1100) (by decide) ?_ 1100 (zdy l) [] .nilslice v1 t1 t1 hbnd (by simp) (zkm hnorm) (zhl hlt) (by omega) (fun x hx => by cases hx) ?_ (by simp [val, hN]) (TLe.refl _) (TLe.refl _) zyj hv1
  ·intro tf t' ps v4 v5 k1 k2 k3 k4 k5 k6 k7 k8 k9
   refine zzhz _ _ _ _ _ _ ?_
   simp only [z87, wpT, (k4.mono k2).len, zaa, zai, zav, zbo, yay]
   rw [if_neg (by simp)]
   obtain ⟨tf', f1, f2, f3, f4⟩ := k3.freeze rfl k2
   have hpl : ps.length < 30000 := by omega
   intro bx hbx hbase; obtain ⟨t2, e1, e2, e3, e4⟩ := zi1 (C := C13) z8a hbx
   rw [e1, zaa]; have hTX : TX tf' t2 bx [] := ⟨hbase, zj5 f2 hbx, f2.trans e3, .nilslice, e2, zyj, zr4⟩
   have ht : TLe t tf' := hle.trans (k1.trans f1)
   have htext : zga ps = zkw (val 65536 l) := by rw [<- k8]; exact (z2y k6 k5 k7).1
   cases neg with
   | false =>
    simp only [yar, if_false]; refine zzgt (.inl rfl) ht f3 k5 hpl hTX fun t' ht' => ⟨?_, ht'⟩
    rw [htext]; rfl
   | true =>
    simp only [if_true]; obtain ⟨tv, g1, g2⟩ := hTX.byte 45 (by simp)
    rw [g1, zaa]; intro n hn hbn; obtain ⟨H1, g3, g4⟩ := g2 n hn hbn
    rw [show ((45 : Nat) : Int) = 45 from rfl] at g3
    rw [g3, zaa]; intro n2 hn2 hbn2; obtain ⟨w, t3, t4, g5, g6, g7⟩ := g4 n2 hn2 hbn2
    simp only []; rw [g5, zaa]; intro n3 _ _; rw [g6, zaa]; refine zzgt (.inr rfl) ht f3 k5 hpl g7 fun t' ht' => ⟨?_, ht'⟩
    rw [htext]; rfl
  ·intro e
   exfalso
   have := congrArg List.length e
   rw [zdx] at this; simp at this; omega
end Go.Proofs
namespace Go.Proofs
open Go Go.Am
variable [zcb]
variable {t : Tr zak}
theorem zzfz {A lu lv Z : List Nat} {v : zab} {b cap m : Nat} {t0 t' : Tr zak} {Q : zao} (hv : RSl t0 1 (za2 .u32 lv) v) (hl : lv.length = m + 2) (hm : m < 800000) (hlv : zax BB lv) (hbase : C13.base <= b) (hb : t0.get b = none) (hlul : lu.length = m + 3) (hlu : zax BB lu) (hcap : m + 3 <= cap)
  (htop : ∀ top, lv[m + 1]? = some top -> 2147483648 <= top) (hlt : val BB lu < BB * val BB lv) (ht : TLe t0 t') (hoff : Off b t t') (ho : Own t' b .u32 (A ++ lu ++ Z))
  (hQ : ∀ t2 r, TLe t0 t2 -> Off b t t2 -> Own t2 b .u32 (A ++ (r ++ [0]) ++ Z) -> r.length = m + 2 -> zax BB r -> val BB r = val BB lu % val BB lv -> val BB lu / val BB lv < BB -> Q (.int .u32 ((val BB lu / val BB lv : Nat) : Int)) t2) :
  Wc C13 F 216 [.slice b A.length (m + 3) cap, v] t' Q := by
 obtain ⟨top, h1⟩ := getElem?_of_lt (l := lv) (i := m + 1) (by omega)
 obtain ⟨v2, h2⟩ := getElem?_of_lt (l := lv) (i := m) (by omega)
 obtain ⟨un, h3⟩ := getElem?_of_lt (l := lu) (i := m + 2) (by omega)
 obtain ⟨u1, h4⟩ := getElem?_of_lt (l := lu) (i := m + 1) (by omega)
 obtain ⟨u2, h5⟩ := getElem?_of_lt (l := lu) (i := m) (by omega)
 have b1 : top < BB := zbu hlv h1
 have b2 : v2 < BB := zbu hlv h2
 have b3 : un < BB := zbu hlu h3
 have b4 : u1 < BB := zbu hlu h4
 have b5 : u2 < BB := zbu hlu h5
 have hBB := zkg
 have c1 : top < 4294967296 := by omega
 have c3 : un < 4294967296 := by omega
 have c4 : u1 < 4294967296 := by omega
 have htop2 := htop top h1
 obtain ⟨hV, hvr⟩ := top2 (B := BB) zc7 hlv hl h1 h2
 obtain ⟨hU, hur⟩ := top3 (B := BB) zc7 hlu hlul h3 h4 h5
 have hVpos : 0 < val BB lv := by
  have : 0 < (top * BB + v2) * BB ^ m := Nat.mul_pos (by have : 0 < top * BB := Nat.mul_pos (by omega) zc7; omega) (Nat.pow_pos zc7)
  omega
 have hq : val BB lu / val BB lv < BB := ybv (by rw [yai]; exact hlt)
 have hread : RSl t' 1 (za2 .u32 lu) (.slice b A.length (m + 3) cap) := by
  have := ho.slice (off := A.length) (n := m + 3) (cap := cap) (by simp; omega) hcap
  rw [yba, List.drop_left, List.take_left' hlul] at this; exact this
 have hv' := hv.mono ht
 obtain ⟨d1, o1, g1, g1'⟩ := hread.idx zd0 h3
 obtain ⟨d2, o2, g2, g2'⟩ := hread.idx zd0 h4
 obtain ⟨d3, o3, g3, g3'⟩ := hv'.idx zd0 h1
 have hun : un <= top := by
  rcases Nat.lt_or_ge top un with g | g
  ·exfalso
   have e1 : (un * BB) * BB * BB ^ m <= val BB lu := by rw [hU, yap, yap, yap]; omega
   have e2 : val BB lv < (top + 1) * BB * BB ^ m := by
    have h : top * BB + v2 + 1 <= (top + 1) * BB := by rw [yap]; omega
    have := yaj (BB ^ m) h
    rw [yap (top * BB + v2) 1, Nat.one_mul] at this
    omega
   have e3 : BB * val BB lv < BB * ((top + 1) * BB * BB ^ m) := Nat.mul_lt_mul_of_pos_left e2 zc7
   have e4 : BB * ((top + 1) * BB * BB ^ m) <= un * BB * BB * BB ^ m := by
    have : (top + 1) * BB * BB ^ m <= un * BB * BB ^ m := yaj _ (yaj _ g)
    have := yaw BB this
    calc BB * ((top + 1) * BB * BB ^ m) <= BB * (un * BB * BB ^ m) := this
     _ = un * BB * BB * BB ^ m := by rw [<- yak, yai BB (un * BB)]
   omega
  ·exact g
 have hh : un * BB + u1 <= top * BB + (BB - 1) := by
  have := yaj BB hun
  omega
 have hge : val BB lu / val BB lv <= (un * BB + u1) / top := kn_ge hU hur b5 hV (by omega)
 have hdle : (un * BB + u1) / top <= BB + 1 := by
  have : un * BB + u1 < (BB + 2) * top := by
   rw [yap, yai BB top]; generalize top * BB = P at hh ⊢
   generalize un * BB = R at hh ⊢
   omega
  have := ybv (show un * BB + u1 < top * (BB + 2) by rw [yai top]; exact this)
  omega
 have hrest : (un * BB + u1) % top < BB := Nat.lt_trans (ybz _ (by omega)) b1
 refine w216 _ _ ?_
 have e1 : ((lv.length : Nat) : Int) = ((m + 2 : Nat) : Int) := by rw [hl]
 have e2 : ((m + 2 : Nat) : Int) - 1 = ((m + 1 : Nat) : Int) := by omega
 have e3 : (un : Int) * 4294967296 = ((un * 4294967296 : Nat) : Int) := by omega
 simp (disch := omega) only [t216, wpT, hv'.len, zaa, zai, zav, e1, g1, g1', e2, wrap_i64, g2, g2', g3, g3', za3, e3]
 have e4 : zfz Nat.lor .u64 ((un * 4294967296 : Nat) : Int) (u1 : Int) = some (.int .u64 ((un * 4294967296 + u1 : Nat) : Int)) := by
  rw [zea (k := .u64) (show un * 4294967296 < kHi .u64 by show _ < 18446744073709551616; omega) (show u1 < kHi .u64 by show _ < 18446744073709551616; omega)]
  have := zt1 (a := un) (b := u1) (n := 32) c4
  rw [show un * 4294967296 = un * 2 ^ 32 by rfl, this]
 rw [e4]; simp only [zaa, zai]; have e5 : zzfi .u64 ((un * 4294967296 + u1 : Nat) : Int) (top : Int) = some (.int .u64 (((un * 4294967296 + u1) / top : Nat) : Int)) := zwh (by omega) (by
  have h : (un * 4294967296 + u1) / top <= 4294967296 + 1 := by rw [hBB] at hdle; exact hdle
  generalize (un * 4294967296 + u1) / top = z at h ⊢
  exact za3 (by omega) (by omega))
 rw [e5]; simp only [zaa, zai]; rw [zp5 (by omega)]
 simp only [zaa, zai]; refine z6f hread hv' (by omega) h5 h2 b5 b2 (by omega) b1 hU hur hV hvr hq hh (fun d q1 q2 q3 => ?_) _ _ ?_ (by rw [hBB] at hge ⊢; exact hge) (by rw [hBB] at hdle ⊢; exact hdle) (by rw [hBB] at hrest ⊢; exact hrest)
 ·refine zzjq _ _ _ _ ?_
  simp only [z8s, wpT, hv'.len, zaa, zai, zav, e1]; have hms := z1e (t := t) (A := A) (Z := Z) (lu := lu) (lv := lv) (v := v) (b := b) (cap := cap) (d := d) (t0 := t0) (Q := Q) hv (by omega) hlv hbase hb q3 (by omega) hlu (by omega) ?_ lv.length 0 0 0 t' [] (by omega) ht hoff (by simpa using ho) rfl (fun x hx => by cases hx) (by first | omega | decide) (by first | omega | decide) (by simp [val])
  ·rw [hl] at hms
   exact hms
  ·intro t2 W last bo k1 k2 k3 k4 k5 k6 k7 k8
   have hWall : val BB (W ++ [last]) < BB ^ (lv.length + 1) := by
    have := zgj (B := BB) zc7 (ze4 k5 k6)
    simp only [yah, yao, yay, k4] at this; exact this
   have hVlt : val BB lv < BB ^ lv.length := zgj zc7 hlv
   have hdm := ybi (val BB lu) (val BB lv)
   have hmod : val BB lu % val BB lv < val BB lv := ybz _ hVpos
   have hWs : val BB (W ++ [last]) = val BB W + BB ^ lv.length * last := by rw [zds, k4]
   split
   ·rename_i hz
    subst hz; rw [Nat.mul_zero, ybu] at k8; have hd : d = val BB lu / val BB lv := by
     refine Nat.le_antisymm ?_ q1
     rw [Nat.le_div_iff_mul_le hVpos]; omega
    have hr : val BB (W ++ [last]) = val BB lu % val BB lv := by
     rw [hd, yai] at k8; omega
    have hlast : last = 0 := by
     rcases Nat.eq_zero_or_pos last with g | g
     ·exact g
     ·exfalso
      have := yaw (BB ^ lv.length) g
      rw [Nat.mul_one] at this; omega
    subst hlast; rw [hd]; exact hQ t2 W k1 k2 k3 (by omega) k5 (by rw [<- hr, hWs]; simp) hq
   ·rename_i hz
    have hbo : bo = 1 := by omega
    subst hbo; rw [Nat.mul_one] at k8; have hd : d = val BB lu / val BB lv + 1 := by
     refine Nat.le_antisymm q2 ?_
     rcases Nat.lt_or_ge (val BB lu / val BB lv) d with g | g
     ·exact g
     ·exfalso
      have : d * val BB lv <= val BB lu := Nat.le_trans (yaj _ g) (Nat.div_mul_le_self _ _)
      omega
    have hk9 : val BB (W ++ [last]) + val BB lv = val BB lu % val BB lv + BB ^ (lv.length + 1) := by
     rw [hd, yap, Nat.one_mul, yai (val BB lu / val BB lv)] at k8
     omega
    refine zzs (t := t) (A := A) (Z := Z) (t0 := t0) hv (by omega) hlv hbase hb (by rw [hd]; exact Nat.succ_pos _) (by omega) W k4 k5 last k6 (by omega) (fun t3 r up n1 n2 n3 n4 n5 n6 => ?_) lv.length 0 0 t2 [] (by omega) k1 k2 (by simpa using k3) rfl (fun x hx => by cases hx) (by first | omega | decide) (by simp [val])
    have hrlt : val BB r < BB ^ lv.length := by
     have := zgj (B := BB) zc7 n4; rw [n3] at this; exact this
    rw [hWs, Nat.pow_succ] at hk9; have hfin : val BB r + BB ^ lv.length * (up + last) = val BB lu % val BB lv + BB ^ lv.length * BB := by
     rw [yan]; omega
    have hsplit : up + last = BB /\ val BB r = val BB lu % val BB lv := by
     have hmlt : val BB lu % val BB lv < BB ^ lv.length := by omega
     have hB : 0 < BB ^ lv.length := by omega
     have e1 : (val BB r + BB ^ lv.length * (up + last)) / BB ^ lv.length = up + last := by rw [Nat.add_mul_div_left _ _ hB, Nat.div_eq_of_lt hrlt]; simp
     have e2 : (val BB lu % val BB lv + BB ^ lv.length * BB) / BB ^ lv.length = BB := by rw [Nat.add_mul_div_left _ _ hB, Nat.div_eq_of_lt hmlt]; simp
     rw [hfin, e2] at e1; refine ⟨e1.symm, ?_⟩
     rw [<- e1] at hfin; omega
    have hl0 : (last + up) % BB = 0 := by rw [Nat.add_comm, hsplit.1]; exact Nat.mod_self _
    rw [hl0] at n2; have hd1 : d - 1 = val BB lu / val BB lv := by rw [hd]; exact Nat.add_sub_cancel _ _
    rw [hd1]; exact hQ t3 r (k1.off hb (fun c hc => by
     rw [n1 c hc, <- k2 c hc])) n1 n2 (by omega) n4 hsplit.2 hq
 ·rw [yai, hBB]; exact ybi _ _
end Go.Proofs
namespace Go.Am
theorem zxg {B p K : Nat} (hB : B = p * K) (hp : 0 < p) (hK : 0 < K) {x y : Nat} {l : List Nat} (hx : x < B) :
  val B (x :: y :: l) / p = (y * B + x) / p % B + B * (val B (y :: l) / p) := by
 have e1 : val B (x :: y :: l) = x + p * (K * val B (y :: l)) := by
  show x + B * val B (y :: l) = _
  rw [hB, yak]
 have e2 : y * B + x = x + p * (K * y) := by rw [hB, Nat.add_comm, yai y, yak]
 have e3 : val B (y :: l) % p = y % p := by
  show (y + B * val B l) % p = _
  rw [hB, yak, Nat.add_mul_mod_self_left]
 have e4 : K * y = K * (y % p) + B * (y / p) := by
  have := ybi y p
  calc K * y = K * (p * (y / p) + y % p) := by rw [this]
   _ = _ := by rw [yan, hB, yai p K, yak, Nat.add_comm]
 have e5 : K * val B (y :: l) = K * (y % p) + B * (val B (y :: l) / p) := by
  have := ybi (val B (y :: l)) p
  calc K * val B (y :: l) = K * (p * (val B (y :: l) / p) + val B (y :: l) % p) := by rw [this]
   _ = _ := by rw [yan, e3, hB, yai p K, yak, Nat.add_comm]
 have e6 : x / p < K := ybv (by rw [<- hB]; exact hx)
 have e7 : x / p + K * (y % p) < B := by
  have h1 : y % p < p := ybz _ hp
  have h2 : K * (y % p + 1) <= K * p := yaw _ h1
  rw [hB, yai p K]; rw [yan, Nat.mul_one] at h2; omega
 rw [e1, Nat.add_mul_div_left _ _ hp, e2, Nat.add_mul_div_left _ _ hp, e4, <- Nat.add_assoc, Nat.add_mul_mod_self_left, Nat.mod_eq_of_lt e7, e5, <- Nat.add_assoc]
end Go.Am
namespace Go.Proofs
open Go Go.Am
variable [zcb]
variable {t : Tr zak}
theorem z9a {l : List Nat} {b L lo hi : Nat} (ho : Own t b .u32 l) (h1 : lo <= hi) (h2 : hi <= L) (h3 : lo < L) :
  zcu C13 200 ⟨0, t⟩ (.slice b 0 L L) (some (.int .i64 (lo : Int))) (some (.int .i64 (hi : Int))) = some (.slice b lo (hi - lo) (L - lo)) := by
 obtain ⟨c, hg, _⟩ := ho
 obtain ⟨⟨y, hy1, hy2⟩, ⟨z, hz1, hz2, hz3⟩⟩ := zd0
 unfold zcu; rw [hy1, zac]; have hb : ∀ y (k : Nat), zne y (.int .i64 (k : Int)) = zaj (Nat.ble k y) (some k) := fun y k => rfl
 unfold zgd; simp only [zab.asStr, zab.asSlice]; rw [hy2, zac]; unfold zdt; rw [hz1, zac]; unfold zfn zsm; simp only [hb]; rw [show Nat.ble hi L = true from zh2.2 h2]; simp only [zam, zac]
 rw [show Nat.ble lo hi = true from zh2.2 h1]; simp only [zam, zac]; have he2 : zcp ⟨0, t⟩ b z.size L lo false = false := by
  unfold zcp zaq; rw [hg, zac]; rfl
 rw [he2, Bool.and_false, cond_false]; have hf : zbi ⟨0, t⟩ b z.size L lo false = true := by
  unfold zbi zaq; rw [hg, zac]; rfl
 rw [show Nat.ble hi L = true from zh2.2 h2, hf]; simp only [Bool.and_self, zam]; have hq : Nat.beq L lo = false := by
  cases hq : Nat.beq L lo with
  | true => have := zcy.1 hq; omega
  | false => rfl
 rw [hq, cond_false, hz2, Nat.mul_one, yax]
theorem zxh {qv : zab} {Z c : List Nat} {b n s L cn : Nat} {Q : zao} (hn : n < 900000) (hc : c.length = n + 1) (hcl : zax BB c) (hcn : c[n]? = some cn) (hbase : C13.base <= b) (hs : s < 32) (hL : n + 1 <= L)
  (hexit : ∀ t' W, Off b t t' -> Own t' b .u32 (W ++ [cn] ++ Z) -> W.length = n -> zax BB W -> val BB W + BB ^ n * (cn / 2 ^ s) = val BB c / 2 ^ s -> jp 205 6 [.int .i64 (n : Int), .int .i64 (s : Int), .slice b 0 L L, qv, .int .i64 (n : Int), .int .i64 (n : Int)] t' Q) :
  ∀ (k i : Nat) (t' : Tr zak) (W : List Nat), i + k = n -> Off b t t' -> Own t' b .u32 (W ++ c.drop i ++ Z) -> W.length = i -> zax BB W -> val BB W + BB ^ i * (val BB (c.drop i) / 2 ^ s) = val BB c / 2 ^ s →
  jp 205 6 [.int .i64 (n : Int), .int .i64 (s : Int), .slice b 0 L L, qv, .int .i64 (n : Int), .int .i64 (i : Int)] t' Q := by
 intro k; induction k with
 | zero =>
  intro i t' W hi hoff ho hW hWl hval; have hi' : i = n := by omega
  subst hi'
  have hd : c.drop i = [cn] := by
   rw [zcv hcn, yau (by omega)]
  rw [hd] at ho hval; refine hexit t' W hoff ho hW hWl ?_
  rw [<- hval]; simp [val]
 | succ k ih =>
  intro i t' W hi hoff ho hW hWl hval; have hBB := zkg
  obtain ⟨x, hx⟩ := getElem?_of_lt (l := c) (i := i) (by omega)
  obtain ⟨y, hy⟩ := getElem?_of_lt (l := c) (i := i + 1) (by omega)
  have hx32 : x < 4294967296 := by have := zbu hcl hx; omega
  have hy32 : y < 4294967296 := by have := zbu hcl hy; omega
  have hd1 : c.drop (i + 1) = y :: c.drop (i + 2) := zcv hy
  have hd0 : c.drop i = x :: y :: c.drop (i + 2) := by rw [zcv hx, hd1]
  have m0 := zn8 (A := W) (w := c.drop i) (Z := Z) (j := 0) (x := x) (by rw [hd0]; rfl)
  have m1 := zn8 (A := W) (w := c.drop i) (Z := Z) (j := 1) (x := y) (by rw [hd0]; rfl)
  rw [hW] at m0 m1; rw [ybu] at m0; have g0 := zl2 zd0 (b := b) (n := L) (cap := L) (j := i) (by omega)
  have g1 := zl2 zd0 (b := b) (n := L) (cap := L) (j := i + 1) (by omega)
  have l0 := ho.load (C := C13) m0 zeq rfl
  have l1 := ho.load (C := C13) m1 zeq rfl
  have ei : (i : Int) + 1 = ((i + 1 : Nat) : Int) := by omega
  have e2 : (y : Int) * 4294967296 = ((y * 4294967296 : Nat) : Int) := by omega
  obtain ⟨t1, s1, s2, s3⟩ := ho.store (C := C13) hbase (j := i) (by rw [hd0]; simp; omega) ((y * 4294967296 + x) / 2 ^ s % 4294967296) zeq rfl
  have hset := zri (A := W) (w := c.drop i) (Z := Z) (j := 0) (x := (y * 4294967296 + x) / 2 ^ s % 4294967296) (by rw [hd0]; simp)
  rw [ybu, hW] at hset; rw [hset] at s2; refine zzhr _ _ _ _ _ _ ?_
  simp only [z8x, wpT, zbo]; rw [if_pos (by omega)]
  simp (disch := omega) only [ei, wrap_i64, g0, g1, zaa, l0, l1, zai]
  rw [za3 (n := (y : Int)) (by omega) (by omega), e2, za3 (n := ((y * 4294967296 : Nat) : Int)) (by omega) (by omega), za3 (n := (x : Int)) (by omega) (by omega), or32 hy32 hx32, zaa, zai, zaa, z4a (by omega), zaa, zai, zaa]
  have e3 : zag .u32 (((y * 4294967296 + x) / 2 ^ s : Nat) : Int) = (((y * 4294967296 + x) / 2 ^ s % 4294967296 : Nat) : Int) := by
   generalize (y * 4294967296 + x) / 2 ^ s = z
   rw [zdk]; omega
  rw [e3]; intro _ _ _; rw [s1, zaa]; have hw : (y * 4294967296 + x) / 2 ^ s % 4294967296 < BB := by rw [hBB]; exact ybz _ (by decide)
  refine ih (i + 1) t1 (W ++ [(y * 4294967296 + x) / 2 ^ s % 4294967296]) (by omega) (hoff.trans s3) ?_ (by simp [hW]) (ze4 hWl hw) ?_
  ·rw [hd0] at s2
   rw [hd1]; simpa using s2
  ·have hst := zxg (B := BB) (p := 2 ^ s) (K := 2 ^ (32 - s)) (by rw [<- Nat.pow_add, show s + (32 - s) = 32 by omega, hBB]) (Nat.pow_pos (by decide)) (Nat.pow_pos (by decide)) (x := x) (y := y) (l := c.drop (i + 2)) (by omega)
   rw [<- hval, hd0, hst, zds, hW, hd1, Nat.pow_succ, yan, hBB]; simp only [yak, Nat.add_assoc]
end Go.Proofs
namespace Go.Proofs
open Go Go.Am
variable [zcb]
variable {t : Tr zak}
theorem z14 {lv : List Nat} {v : zab} {b bq m s L Lq U : Nat} {t0 : Tr zak} {Q : zao} (hv : RSl t0 1 (za2 .u32 lv) v) (hl : lv.length = m + 2) (hm : m < 800000) (hlv : zax BB lv) (hbase : C13.base <= b) (hbaseq : C13.base <= bq) (hb : t0.get b = none) (hbq : t0.get bq = none) (hne : b ≠ bq) (hL : L < 1000000)
  (htop : ∀ top, lv[m + 1]? = some top -> 2147483648 <= top) (hVpos : 0 < val BB lv)
  (hexit : ∀ t' q r Z, TLe t0 t' -> Own t' b .u32 (r ++ [0] ++ Z) -> Own t' bq .u32 q -> r.length = m + 2 -> zax BB r -> zax BB q -> q.length = Lq -> m + 3 + Z.length = L -> val BB r < val BB lv -> U = val BB lv * val BB q + val BB r -> jp 205 6 [.int .i64 ((m + 2 : Nat) : Int), .int .i64 (s : Int), .slice b 0 L L, .slice bq 0 Lq Lq, .int .i64 ((m + 2 : Nat) : Int), .int .i64 0] t' Q) :
  ∀ (j : Nat) (A c Z Qd : List Nat) (t' : Tr zak), A.length = j -> c.length = m + 3 -> zax BB A -> zax BB c -> zax BB Qd -> A.length + (m + 3) + Z.length = L -> j + 1 + Qd.length = Lq -> val BB c < BB * val BB lv -> TLe t0 t' -> Own t' b .u32 (A ++ c ++ Z) -> Own t' bq .u32 (List.replicate (j + 1) 0 ++ Qd) -> U = val BB lv * (BB ^ (j + 1) * val BB Qd) + val BB (A ++ c) →
  jp 205 2 [.int .i64 ((m + 2 : Nat) : Int), .int .i64 (s : Int), v, .slice b 0 L L, .slice bq 0 Lq Lq, .int .i64 (j : Int)] t' Q := by
 intro j; induction j using Nat.strongRecOn with
 | ind j ih =>
  intro A c Z Qd t' hA hc hAl hcl hQl hLen hLq hlt ht ho hoq hU; have gs := z9a (b := b) (L := L) (lo := j) (hi := j + (m + 2) + 1) ho (by omega) (by omega) (by omega)
  rw [show j + (m + 2) + 1 - j = m + 3 by omega] at gs
  have e1 : (j : Int) + ((m + 2 : Nat) : Int) = ((j + (m + 2) : Nat) : Int) := by omega
  have e2 : ((j + (m + 2) : Nat) : Int) + 1 = ((j + (m + 2) + 1 : Nat) : Int) := by omega
  refine zzhs _ _ _ _ _ _ ?_
  simp only [z8y, wpT, zdc]; rw [if_pos (by omega)]
  simp (disch := omega) only [e1, wrap_i64, e2, gs, zaa, q216]
  subst hA; refine zzfz (A := A) (Z := Z) (t := t') (t0 := t0) hv hl hm hlv hbase hb hc hcl (by omega) htop hlt ht (Off.refl _ _) ho (fun t2 r k1 k2 k3 k4 k5 k6 k7 => ?_)
  have hoq2 := hoq.off (fun e => hne e.symm) k2
  have g1 := zl2 zd0 (b := bq) (n := Lq) (cap := Lq) (j := A.length) (by omega)
  obtain ⟨t3, s1, s2, s3⟩ := hoq2.store (C := C13) hbaseq (j := A.length) (by simp; omega) (val BB c / val BB lv) zeq rfl
  have hset : (List.replicate (A.length + 1) 0 ++ Qd).set A.length (val BB c / val BB lv) = List.replicate A.length 0 ++ ((val BB c / val BB lv) :: Qd) := by
   rw [List.replicate_succ', yba]; rw [List.set_append_right _ _ (by simp)]
   simp
  rw [hset] at s2; rw [zai, zaa, g1, zaa]; intro _ _ _; rw [s1, zaa]; have ho3 := k3.off hne s3
  have ht3 := k1.off hbq s3
  have hr : val BB r < val BB lv := by rw [k6]; exact ybz _ hVpos
  have hdm := ybi (val BB c) (val BB lv)
  have hU2 : U = val BB lv * (BB ^ A.length * val BB ((val BB c / val BB lv) :: Qd)) + val BB (A ++ r) := by
   rw [hU, zfq, zfq]; show _ = val BB lv * (BB ^ A.length * ((val BB c / val BB lv) + BB * val BB Qd)) + _
   rw [k6]; generalize val BB c / val BB lv = d at hdm ⊢
   generalize val BB c % val BB lv = z at hdm ⊢
   rw [<- hdm, Nat.pow_succ]; generalize BB ^ A.length = P
   rw [yan P, yan, yan (val BB lv) (P * d), yak P BB, <- yak P (val BB lv), yai P (val BB lv), yak (val BB lv) P d]
   omega
  rcases hA : A.length with _ | j'
  ·have hnil : A = [] := List.eq_nil_of_length_eq_zero hA
   subst hnil; refine zzhs _ _ _ _ _ _ ?_
   have e3 : ((0 : Nat) : Int) - 1 = -1 := by omega
   rw [e3]; simp only [z8y, wpT, zdc]; rw [if_neg (by omega)]
   refine hexit t3 _ r Z ht3 (by simpa using ho3) (by simpa using s2) k4 k5 (fun x hx => ?_) (by simp at hLq ⊢; omega) (by simp at hLen; omega) hr (by simpa using hU2)
   rcases yat.1 hx with rfl | hx
   ·exact k7
   ·exact hQl x hx
  ·obtain ⟨x, hx⟩ := getElem?_of_lt (l := A) (i := j') (by omega)
   have hAx : A = A.take j' ++ [x] := by
    rw [<- zgb hx, ybb (by omega)]
   have hxB : x < BB := zbu hAl hx
   have e3 : ((j' + 1 : Nat) : Int) - 1 = (j' : Int) := by omega
   rw [e3]; have hvx : val BB (x :: r) = x + BB * val BB r := rfl
   refine ih j' (by omega) (A.take j') (x :: r) (0 :: Z) ((val BB c / val BB lv) :: Qd) t3 (by simp; omega) (by simp [k4]) (zel hAl _) (fun y hy => ?_) (fun y hy => ?_) (by simp; omega) (by simp; omega) ?_ ht3 ?_ ?_ ?_
   ·rcases yat.1 hy with rfl | hy
    ·exact hxB
    ·exact k5 y hy
   ·rcases yat.1 hy with rfl | hy
    ·exact k7
    ·exact hQl y hy
   ·rw [hvx]
    have := yaw BB hr
    rw [Nat.mul_succ] at this; omega
   ·have : A.take j' ++ x :: r ++ 0 :: Z = A ++ (r ++ [0]) ++ Z := by
     conv => rhs; rw [hAx]
     simp
    rw [this]; exact ho3
   ·rw [<- hA]; exact s2
   ·rw [hU2, hA]
    have : A ++ r = A.take j' ++ x :: r := by
     conv => lhs; rw [hAx]
     simp
    rw [this]
end Go.Proofs
namespace Go.Am
theorem zzcd {a b q R p : Nat} (hp : 0 < p) (h : a * p = b * p * q + R) (hR : R < b * p) : a = b * q + R / p /\ R / p < b := by
 have h1 : p ∣ R := (Nat.dvd_add_right (⟨b * q, by rw [yai b p, yak]⟩ : p ∣ b * p * q)).1 (h ▸ ⟨a, yai a p⟩)
 obtain ⟨R', rfl⟩ := h1
 rw [Nat.mul_div_cancel_left _ hp]; refine ⟨Nat.eq_of_mul_eq_mul_left hp ?_, Nat.lt_of_mul_lt_mul_left (a := p) ?_⟩
 ·rw [yai p a, h, yan, yai b p, yak]
 ·rw [yai p b]; exact hR
theorem div_v {B p K n top : Nat} {b rb : List Nat} (hB : B = p * K) (hp : 0 < p) (hlt : zax B b) (hl : b.length = n + 1) (htop : b[n]? = some top) (ht : top * p < B) (hbig : B <= 2 * (top * p)) (hrl : zax B rb) (hrb : rb.length = n + 2) (hv : val B rb = val B b * p) :
  val B (rb.take (n + 1)) = val B b * p /\ ∀ x, (rb.take (n + 1))[n]? = some x -> B <= 2 * x := by
 have hB0 : 0 < B := by omega
 have hbv : val B b = val B (b.take n) + B ^ n * top := by
  have := zdr B b n
  rw [this, zcv htop, yau (by omega)]
  have : (b.take n).length = n := by simp; omega
  rw [this]; simp [val]
 have hlow : val B (b.take n) < B ^ n := by
  have := zgj hB0 (zel hlt n)
  have h : (b.take n).length = n := by simp; omega
  rw [h] at this; exact this
 have hK : top < K := by
  rw [hB, yai p K] at ht; exact Nat.lt_of_mul_lt_mul_right ht
 have hup : val B b * p < B ^ (n + 1) := by
  have h1 : val B b < B ^ n * (top + 1) := by rw [hbv, yan]; omega
  have h2 : B ^ n * (top + 1) <= B ^ n * K := yaw _ hK
  have h3 : val B b * p < B ^ n * K * p := Nat.mul_lt_mul_of_pos_right (by omega) hp
  have h4 : B ^ n * K * p = B ^ (n + 1) := by rw [Nat.pow_succ, yak, yai K p, <- hB]
  omega
 have hsplit := zdr B rb (n + 1)
 have htl : (rb.take (n + 1)).length = n + 1 := by simp; omega
 rw [htl] at hsplit; have hz : val B (rb.drop (n + 1)) = 0 := by
  rcases Nat.eq_zero_or_pos (val B (rb.drop (n + 1))) with h | h
  ·exact h
  ·exfalso
   have := yaw (B ^ (n + 1)) h
   rw [Nat.mul_one] at this; omega
 have hval : val B (rb.take (n + 1)) = val B b * p := by rw [hz] at hsplit; omega
 refine ⟨hval, fun x hx => ?_⟩
 have h1 : val B (rb.take (n + 1)) = val B ((rb.take (n + 1)).take n) + B ^ n * x := by
  have := zdr B (rb.take (n + 1)) n
  rw [this, zcv hx, yau (by omega)]
  have h : ((rb.take (n + 1)).take n).length = n := by simp; omega
  rw [h]; simp [val]
 have h2 : val B ((rb.take (n + 1)).take n) < B ^ n := by
  have := zgj hB0 (zel (zel hrl (n + 1)) n)
  have h : ((rb.take (n + 1)).take n).length = n := by simp; omega
  rw [h] at this; exact this
 have h3 : B ^ n * (top * p) <= val B b * p := by
  rw [hbv, yap, yak]; omega
 have h4 : B ^ n * (top * p) < B ^ n * (x + 1) := by rw [yan]; omega
 have h5 : top * p < x + 1 := Nat.lt_of_mul_lt_mul_left h4
 omega
theorem div_u {B p n j : Nat} {a b ru : List Nat} (hB0 : 0 < B) (hal : zax B a) (hb : B ^ n <= val B b) (hj : a.length = j + (n + 1)) (hru : ru.length = a.length + 1) (hp : 0 < p) (hv : val B ru = val B a * p) : val B (ru.drop j) < B * (val B b * p) := by
 have h1 := zdr B ru j
 have htl : (ru.take j).length = j := by simp; omega
 rw [htl] at h1; have h2 : val B a < B ^ (j + (n + 1)) := by rw [<- hj]; exact zgj hB0 hal
 have h3 : val B a * p < B ^ (j + (n + 1)) * p := Nat.mul_lt_mul_of_pos_right h2 hp
 have h4 : B ^ (j + (n + 1)) * p = B ^ j * (B * (B ^ n * p)) := by
  rw [Nat.pow_add, Nat.pow_succ, yai (B ^ n) B, yak, yak]
 have h5 : B ^ j * val B (ru.drop j) < B ^ j * (B * (B ^ n * p)) := by omega
 have h6 := Nat.lt_of_mul_lt_mul_left h5
 have h7 : B * (B ^ n * p) <= B * (val B b * p) := yaw _ (yaj _ hb)
 omega
end Go.Am
namespace Go.Proofs
open Go Go.Am
variable [zcb]
variable {t : Tr zak}
theorem zty {l : List Nat} {b L hi : Nat} (ho : Own t b .u32 l) (h2 : hi <= L) (h3 : 0 < L) :
  zcu C13 200 ⟨0, t⟩ (.slice b 0 L L) none (some (.int .i64 (hi : Int))) = some (.slice b 0 hi L) := by
 obtain ⟨c, hg, _⟩ := ho
 obtain ⟨⟨y, hy1, hy2⟩, ⟨z, hz1, hz2, hz3⟩⟩ := zd0
 unfold zcu; rw [hy1, zac]; have hb : ∀ y (k : Nat), zne y (.int .i64 (k : Int)) = zaj (Nat.ble k y) (some k) := fun y k => rfl
 unfold zgd; simp only [zab.asStr, zab.asSlice]; rw [hy2, zac]; unfold zdt; rw [hz1, zac]; unfold zfn zsm; simp only [hb]; rw [show Nat.ble hi L = true from zh2.2 h2]; simp only [zam, zac]
 have he2 : zcp ⟨0, t⟩ b z.size L 0 false = false := by
  unfold zcp zaq; rw [hg, zac]; rfl
 rw [he2, Bool.and_false, cond_false]; have hf : zbi ⟨0, t⟩ b z.size L 0 false = true := by
  unfold zbi zaq; rw [hg, zac]; rfl
 rw [show Nat.ble hi L = true from zh2.2 h2, hf]; simp only [Bool.and_self, zam]; have hq : Nat.beq L 0 = false := by
  cases hq : Nat.beq L 0 with
  | true => have := zcy.1 hq; omega
  | false => rfl
 rw [hq, cond_false, Nat.zero_mul]; rfl
theorem zt4 {b o n c : Nat} : same 10 (.slice b o n c) (.slice b o n c) = true := by
 simp [same]
theorem z13 {q W Z : List Nat} {b bq n s L Lq : Nat} {Q : zao} (ho : Own t b .u32 (W ++ [0] ++ Z)) (hoq : Own t bq .u32 q) (hW : W.length = n) (hn : n < 1000000) (hL : n + 1 + Z.length = L) (hq : q.length = Lq) (hLq : Lq < 1000000)
  (hQ : ∀ qv rv, RSl t 1 (za2 .u32 (zc9 q)) qv -> RSl t 1 (za2 .u32 (zc9 W)) rv -> Q (.tup [qv, rv]) t) :
  jp 205 6 [.int .i64 (n : Int), .int .i64 (s : Int), .slice b 0 L L, .slice bq 0 Lq Lq, .int .i64 (n : Int), .int .i64 (n : Int)] t Q := by
 have e1 := zty (L := L) (hi := n) ho (by omega) (by omega)
 have e2 : RSl t 1 (za2 .u32 W) (.slice b 0 n L) := by
  have := ho.slice (off := 0) (n := n) (cap := L) (by simp; omega) (by omega)
  rw [ybs, yba, List.take_left' hW] at this; exact this
 have e3 : RSl t 1 (za2 .u32 q) (.slice bq 0 Lq Lq) := by
  have := hoq.all (cap := Lq) (by omega)
  rw [hq] at this; exact this
 obtain ⟨qv, f1, f2⟩ := zlr (by omega) e3
 obtain ⟨rv, f3, f4⟩ := zlr (by omega) e2
 refine zzhr _ _ _ _ _ _ ?_
 simp only [z8x, wpT, zbo]; rw [if_neg (by omega)]
 simp only [e1, zaa, q174, f1, f3]; rw [zt4]; exact hQ qv rv f2 f4
theorem zy7 {a b : List Nat} {u v : zab} {Q : zao} (hu : RSl t 1 (za2 .u32 a) u) (hv : RSl t 1 (za2 .u32 b) v) (ha : a.length < 700000) (hal : zax BB a) (hbl : zax BB b) (han : norm a) (hbn : norm b) (hb0 : b ≠ [])
  (hQ : ∀ t' q r qv rv, TLe t t' -> RSl t' 1 (za2 .u32 q) qv -> RSl t' 1 (za2 .u32 r) rv -> zax BB q -> zax BB r -> norm q -> norm r -> val BB a = val BB b * val BB q + val BB r -> val BB r < val BB b -> Q (.tup [qv, rv]) t') :
  Wc C13 F 205 [u, v] t Q := by
 have hBB := zkg
 have hB1 : 1 < BB := by omega
 have hlt := zzcm hB1 hal hbl han hbn
 refine w205 _ _ ?_
 simp only [t205, wpT, q203, zzh5 (by omega) hu hv, zaa, zai, zbo]
 by_cases hc : zwv a b < 0
 ·rw [if_pos hc]
  simp only [q214]; refine zzga hu (by omega) fun t' v' h1 h2 => ?_
  exact hQ t' [] a _ _ h1 ⟨[], .inl ⟨rfl, rfl⟩, by simp [za2, RDs]⟩ h2 (fun x hx => by cases hx) hal (fun h => absurd rfl h) han (by simp [val]) (hlt.1 hc)
 ·rw [if_neg hc]
  have hge : val BB b <= val BB a := Nat.le_of_not_lt fun h => hc (hlt.2 h)
  have hlen : b.length <= a.length := zfe hB1 hal hbn hge
  simp only [hv.len, zaa, zai, zav, zen]; by_cases h1 : b.length = 1
  ·rw [if_pos (by omega)]
   obtain ⟨d, rfl⟩ : ∃ d, b = [d] := by
    match b, h1 with
    | [d], _ => exact ⟨d, rfl⟩
   have hd : d < 4294967296 := by have := hbl d (by simp); omega
   have hd0 : 0 < d := by have := hbn (by simp); simp at this; omega
   obtain ⟨c, off, g1, g2⟩ := hv.idx zd0 (i := 0) (x := d) rfl
   have g1' : zah C13 200 v (.int .i64 0) = some (.ptr c off) := g1
   simp only [g1', g2, zaa, zai, q152]; refine zy6 hu (by omega) (by rw [<- hBB]; exact hal) hd hd0 fun t' v' q r k1 k2 k3 k4 k5 k6 => ?_
   simp only [zar, zab.asTup, zac, zbn, yaa, yab, zaa, zai]; intro b' hb' _; obtain ⟨H', m1, m2, m3⟩ := zwb (k := .u32) zmc rfl zeq rfl rfl r trivial hb'
   have hR := m2.all (cap := 1) (by simp)
   obtain ⟨rv, f1, f2⟩ := zlr (by simp) hR
   have f1' : pvC C13 F 174 [.slice b' 0 1 1] H'.t = some rv := f1
   rw [m1]; simp only [zaa, q174, f1']; rw [<- hBB] at k3 k6; have hrl : zax BB [r] := fun x hx => by rw [yce.1 hx]; omega
   refine hQ H'.t (zc9 q) (zc9 [r]) v' rv (k1.trans m3) (k2.mono m3) f2 (zdf k3) (zdf hrl) (zdz _) (zdz _) ?_ ?_
   ·rw [zdl, zdl]; simp only [val]; rw [k6, yai]; simp
   ·rw [zdl]; simp only [val]; omega
  ·rw [if_neg (by omega)]
   have hbpos : 0 < b.length := List.length_pos_iff.2 hb0
   obtain ⟨m, hm⟩ : ∃ m, b.length = m + 2 := ⟨b.length - 2, by omega⟩
   obtain ⟨j, hj⟩ : ∃ j, a.length = j + (m + 2) := ⟨a.length - (m + 2), by omega⟩
   obtain ⟨top, htop⟩ := getElem?_of_lt (l := b) (i := m + 1) (by omega)
   have htlt : top < 4294967296 := by have := zbu hbl htop; omega
   have ht0 : 0 < top := by
    have := hbn hb0
    have hlast : b.getLast hb0 = top := by
     rw [List.getLast_eq_getElem]; have : b[b.length - 1]? = some top := by rw [hm]; exact htop
     exact (yad.1 this).2
    omega
   obtain ⟨s, hs, hs1, hs2, hs3⟩ := zzag (t := t) htlt ht0
   obtain ⟨c, off, g1, g2⟩ := hv.idx zd0 htop
   have eb : ((m + 2 : Nat) : Int) - 1 = ((m + 1 : Nat) : Int) := by omega
   simp (disch := omega) only [hm, eb, wrap_i64, g1, g2, zaa, zai, q212, hs3, q215]
   refine zt2 hv (by omega) (by rw [<- hBB]; exact hbl) hs fun t1 b1 rb k1 k2 k3 k4 k5 k6 k7 => ?_
   rw [<- hBB] at k6 k7; rw [hm] at k5 ⊢
   have hK : BB = 2 ^ s * 2 ^ (32 - s) := by rw [<- Nat.pow_add, show s + (32 - s) = 32 by omega, hBB]
   have hp : 0 < 2 ^ s := Nat.pow_pos (by decide)
   obtain ⟨w1, w2⟩ := div_v (n := m + 1) hK hp hbl hm htop (by omega) (by omega) k6 k5 k7
   have e1 := zty (L := m + 2 + 1) (hi := m + 2) k4 (by omega) (by omega)
   have hv1 : RSl t1 1 (za2 .u32 (rb.take (m + 2))) (.slice b1 0 (m + 2) (m + 2 + 1)) := by
    have := k4.slice (off := 0) (n := m + 2) (cap := m + 2 + 1) (by omega) (by omega)
    rw [ybs] at this; exact this
   simp only [e1, zaa]; refine zt2 (hu.mono k1) (by omega) (by rw [<- hBB]; exact hal) hs fun t2 b2 ra n1 n2 n3 n4 n5 n6 n7 => ?_
   rw [<- hBB] at n6 n7; rw [hj] at n5 ⊢
   have ea : ((j + (m + 2) : Nat) : Int) - ((m + 2 : Nat) : Int) = (j : Int) := by omega
   have ea2 : (j : Int) + 1 = ((j + 1 : Nat) : Int) := by omega
   simp (disch := omega) only [hu.len, zav, hj, zaa, zai, ea, ea2, wrap_i64]
   intro bq hbq hbaseq; obtain ⟨t3, p1, p2, p3, p4⟩ := zkn (C := C13) (k := .u32) zmc rfl zeq rfl rfl (by decide) (n := j + 1) (by omega) hbq
   rw [p1]; have el : zbm (.slice bq 0 (j + 1) (j + 1)) = some (.int .i64 ((j + 1 : Nat) : Int)) := rfl
   have el2 : ((j + 1 : Nat) : Int) - 1 = (j : Int) := by omega
   simp (disch := omega) only [zaa, el, zai, el2, wrap_i64]
   have hne : b2 ≠ bq := by
    intro e; obtain ⟨c, hc1, _⟩ := n4
    rw [e, hbq] at hc1
    cases hc1
   have hbq1 : t1.get bq = none := by
    cases hg : t1.get bq with
    | none => rfl
    | some x => rw [n1 _ _ hg] at hbq; cases hbq
   have hVpos : 0 < val BB (rb.take (m + 2)) := by
    rw [w1]; refine Nat.mul_pos ?_ hp
    have := z7v (B := BB) hbn hb0
    have h2 : 0 < BB ^ (b.length - 1) := Nat.pow_pos zc7
    omega
   have hbge : BB ^ (m + 1) <= val BB b := by
    have := z7v (B := BB) hbn hb0
    rw [hm] at this; exact this
   have hcl := div_u (n := m + 1) (j := j) (p := 2 ^ s) zc7 hal hbge (by omega) (by omega) hp n7
   have hta : ra.take j ++ ra.drop j = ra := List.take_append_drop _ _
   refine z14 (U := val BB ra) hv1 (by simp; omega) (by omega) (zel k6 _) n3 hbaseq n2 hbq1 hne (by omega) (fun x hx => by have := w2 x hx; omega) hVpos (fun t4 q r Z z1 z2 z3 z4 z5 z6 z7 z8 z9 z10 => ?_) j (ra.take j) (ra.drop j) [] [] t3 (by simp; omega) (by simp; omega) (zel n6 _) (zu6 n6 _) (fun x hx => by cases hx) (by simp; omega) (by simp) ?_ (n1.trans p3) ?_ (by simpa using p2) ?_
   ·have hcl2 : zax BB (r ++ [0]) := ze4 z5 zc7
    refine zxh (t := t4) (Z := Z) (c := r ++ [0]) (cn := 0) (by omega) (by simp [z4]) hcl2 (by rw [<- z4]; simp) n3 hs (by omega) (fun t5 W y1 y2 y3 y4 y5 => ?_) (m + 2) 0 t4 [] (by omega) (Off.refl _ _) (by simpa using z2) rfl (fun x hx => by cases hx) (by rw [ybs, Nat.pow_zero, Nat.one_mul]; exact yax _)
    have y6 : val BB W = val BB r / 2 ^ s := by
     rw [zds, Nat.mul_zero, ybu, Nat.zero_div, Nat.mul_zero, ybu] at y5; exact y5
    rw [w1] at z9 z10; rw [n7] at z10; obtain ⟨x1, x2⟩ := zzcd hp z10 z9
    refine z13 y2 (z3.off (fun e => hne e.symm) y1) y3 (by omega) (by omega) z7 (by omega) fun qv rv x3 x4 => ?_
    have ht5 : TLe t t5 := k1.trans (z1.off n2 y1)
    exact hQ t5 (zc9 q) (zc9 W) qv rv ht5 x3 x4 (zdf z6) (zdf y4) (zdz _) (zdz _) (by rw [zdl, zdl, y6]; exact x1) (by rw [zdl, y6]; exact x2)
   ·rw [w1]; exact hcl
   ·rw [hta, ybe]; exact n4.tle p3
   ·have hv0 : val BB ([] : List Nat) = 0 := rfl
    rw [hta, hv0, Nat.mul_zero, Nat.mul_zero, yax]
end Go.Proofs
namespace Go.Am
def wd (l : List Nat) (i : Nat) : Nat := (l[i]?).getD 0
theorem z0a {B : Nat} (hB : 0 < B) {l : List Nat} (h : zax B l) (i : Nat) : wd l i < B := by
 unfold wd
 cases hx : l[i]? with
 | none => exact hB
 | some x => exact zbu h hx
theorem zg1 (B : Nat) (l : List Nat) (i : Nat) : val B (l.take (i + 1)) = val B (l.take i) + B ^ i * wd l i := by
 unfold wd
 cases hx : l[i]? with
 | none =>
  have := List.getElem?_eq_none_iff.1 hx
  rw [ybb (by omega), ybb (by omega)]
  simp
 | some x =>
  have hi := (yad.1 hx).1
  rw [zgb hx, zds]; have : (l.take i).length = i := by simp; omega
  rw [this]; rfl
theorem zzcf {B P u v Va Vb w x y bo ai bi x' y' lx ly bo' W : Nat} (h : W + P * x + v * Vb = u * Va + P * (y + bo)) (hx : B * x' + lx = x + u * ai) (hy : B * y' + ly = y + v * bi) (hw : lx + B * bo' = w + ly + bo) :
  (W + P * w) + P * B * x' + v * (Vb + P * bi) = u * (Va + P * ai) + P * B * (y' + bo') := by
 have e : P * (x + u * ai + B * y' + B * bo') = P * (w + B * x' + y + v * bi + bo) := congrArg (P * ·) (by omega)
 have e1 : v * (P * bi) = P * (v * bi) := Nat.mul_left_comm _ _ _
 have e2 : u * (P * ai) = P * (u * ai) := Nat.mul_left_comm _ _ _
 simp only [yan, yak] at e h ⊢
 rw [e1, e2]; omega
theorem zzf4 {P W x z X Y : Nat} (h : W + P * x + Y = X + P * z) (hW : W < P) (hX : X < P) (hle : Y <= X) : W = X - Y := by
 rcases Nat.lt_trichotomy x z with g | g | g
 ·have := yaw P g
  rw [Nat.mul_succ] at this; omega
 ·rw [g] at h; omega
 ·have := yaw P g
  rw [Nat.mul_succ] at this; omega
theorem z4t {B u x a : Nat} (hx : x <= u) (ha : a < B) : (x + u * a) / B <= u := by
 have h : x + u * a <= u * B := by
  have := yaw u (Nat.succ_le_of_lt ha)
  rw [Nat.mul_succ] at this; omega
 exact Nat.div_le_of_le_mul (by rw [yai B]; exact h)
end Go.Am
