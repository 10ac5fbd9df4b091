import Derived.Test.YtlfikhblmbidmaaGreatDoorCmpQ
set_option linter.all false
namespace Go.Proofs.YtlfikhblmbidmaaGreatDoor
open Go.RowKit Go.Maps
def szG {β : Type} (f : β → Nat) (L : List (Int × β)) : Nat := (L.map fun p => f p.2).sum
theorem szG_cons {β : Type} (f : β → Nat) (x : Int × β) (L : List (Int × β)) : szG f (x :: L) = f x.2 + szG f L := by simp [szG]
theorem szG_filter {β : Type} (f : β → Nat) (c : Int × β → Bool) : ∀ L : List (Int × β), szG f (L.filter c) ≤ szG f L
 | [] => by simp [szG]
 | x :: L => by
  have ih := szG_filter f c L
  rw [List.filter_cons, szG_cons]
  split
  ·rw [szG_cons]; omega
  ·omega
theorem szG_ins {β : Type} (f : β → Nat) (x : Int × β) : ∀ L : List (Int × β), szG f (insS x L) = f x.2 + szG f L
 | [] => by simp [insS, szG]
 | y :: L => by
  have ih := szG_ins f x L
  rw [insS]
  split
  ·rw [szG_cons, szG_cons]
  ·rw [szG_cons, szG_cons, ih]; omega
theorem szG_put {β : Type} (f : β → Nat) (k : Int) (v : β) (L : List (Int × β)) : szG f (put k v L) ≤ szG f L + f v := by
 unfold put del
 rw [szG_ins]
 have := szG_filter f (fun p => p.1 != k) L
 show f v + _ ≤ _
 omega
def fE (e : Ent) : Nat := e.2.2.size
def fV (v : ByteArray) : Nat := v.size
def sz (t : NSt) : Nat := szG fE t.a.L + szG fV t.l.L
structure Vi (n : Int) (t : NSt) (B : Nat) : Prop where
 n : t.a.n = n
 v : ∀ x ∈ t.a.L, x.2.2.2.size ≤ 65536
 s : sz t ≤ B
namespace Vi
variable {n : Int} {t : NSt} {B C : Nat}
theorem mono (h : Vi n t B) (k : B ≤ C) : Vi n t C := ⟨h.n, h.v, Nat.le_trans h.s k⟩
theorem prom (h : Vi n t B) (r d k : Int) : Vi n ⟨prS t.a r d k, t.l⟩ B := by
 unfold prS
 split
 ·exact ⟨h.n, h.v, h.s⟩
 ·exact h
theorem acc (h : Vi n t B) (r d k : Int) (v : ByteArray) : Vi n ⟨acS t.a r d k v, t.l⟩ (B + v.size) := by
 unfold acS
 split
 ·rename_i he
  have hv := (accE_zero.1 he).2.2.2.1
  refine ⟨h.n, fun x hx => ?_, ?_⟩
  ·rcases mem_put.1 hx with rfl | ⟨hx, _⟩
   ·exact hv
   ·exact h.v x hx
  ·have h1 := h.s
   have h2 := szG_put fE k (r, d, v) t.a.L
   unfold sz at h1 ⊢
   simp only [fE] at h1 h2 ⊢
   omega
 ·exact h.mono (Nat.le_add_right _ _)
theorem putL (h : Vi n t B) (k : Int) (v : ByteArray) : Vi n ⟨t.a, lputS t.l k v⟩ (B + v.size) := by
 unfold lputS
 split
 ·refine ⟨h.n, h.v, ?_⟩
  have h1 := h.s
  have h2 := szG_put fV k v t.l.L
  unfold sz at h1 ⊢
  unfold lfill
  simp only [fV] at h1 h2 ⊢
  omega
 ·exact h.mono (Nat.le_add_right _ _)
theorem forA (h : Vi n t B) (k : Int) : Vi n ⟨foS t.a k, t.l⟩ B := by
 unfold foS
 split
 ·refine ⟨h.n, fun x hx => h.v x (List.mem_filter.1 hx).1, ?_⟩
  have h1 := h.s
  have h2 := szG_filter fE (fun p => !decide (p.1 < k)) t.a.L
  unfold sz at h1 ⊢
  unfold forL
  simp only at h1 ⊢
  omega
 ·exact h
theorem forL (h : Vi n t B) (k : Int) : Vi n ⟨t.a, lforS t.l k⟩ B := by
 unfold lforS
 split
 ·refine ⟨h.n, h.v, ?_⟩
  have h1 := h.s
  have h2 := szG_filter fV (fun p => !decide (p.1 < k)) t.l.L
  unfold sz at h1 ⊢
  unfold lcut lfill
  simp only at h1 ⊢
  omega
 ·exact h
theorem doS (h : Vi n t B) (x : Rec) : Vi n (doS t x) (B + x.v.length) := by
 unfold Go.Proofs.YtlfikhblmbidmaaGreatDoor.doS
 have e : (sB x.v).size = x.v.length := sB_size x.v
 split
 ·exact (h.prom _ _ _).mono (Nat.le_add_right _ _)
 ·split
  ·have := h.acc x.ro x.no x.sl (sB x.v)
   rwa [e] at this
  ·have := h.putL x.sl (sB x.v)
   rwa [e] at this
end Vi
theorem rec_v_le {b : List UInt8} {x : Rec} (h : parseP b = some x) : x.v.length ≤ b.length := by
 obtain ⟨hok, _, rfl, _⟩ := parseP_some h
 by_cases h1 : x.k = 1
 ·rw [(hok.s0 h1).2]; simp
 ·have := textB_ge x.v
  simp only [Rec.bytes, if_neg h1, List.length_append]
  omega
def sumL (l : List (List UInt8)) : Nat := (l.map List.length).sum
theorem recR_vi {n : Int} : ∀ (l : List (List UInt8)) {s t : NSt} {B : Nat}, recR s l = some t → Vi n s B → Vi n t (B + sumL l)
 | [], s, t, B, h, k => by
  cases h
  exact k.mono (Nat.le_add_right _ _)
 | b :: l, s, t, B, h, k => by
  cases hp : parseP b with
  | none => rw [recR_none hp] at h; cases h
  | some x =>
   by_cases hd : doE s x = 0
   ·rw [recR_step hp hd] at h
    have := recR_vi l h (k.doS x)
    have hv := rec_v_le hp
    refine this.mono ?_
    simp only [sumL, List.map_cons, List.sum_cons]
    omega
   ·rw [recR_bad hp hd] at h; cases h
theorem allF_sum : ∀ (k : Nat) (r : List UInt8), r.length ≤ k → sumL (allF r).1 ≤ r.length := by
 intro k
 induction k with
 | zero => intro r hr; rw [List.length_eq_zero_iff.1 (by omega : r.length = 0), allF_none nextF_nil]; simp [sumL]
 | succ k ih =>
  intro r hr
  cases h : nextF r with
  | none => rw [allF_none h]; simp [sumL]
  | some x =>
   obtain ⟨c, r'⟩ := x
   have hlt := nextF_lt h
   obtain ⟨h1, _, _, h4, hr', _⟩ := nextF_some h
   have := ih r' (by omega)
   rw [allF_some h]
   simp only [sumL, List.map_cons, List.sum_cons] at this ⊢
   rw [hr'] at this ⊢
   simp only [List.length_drop] at this
   omega
theorem entB_sum : ∀ L : EL, (∀ p ∈ L, (0 ≤ p.1 ∧ p.1 < 4096) ∧ (0 ≤ p.2.1 ∧ p.2.1 ≤ 1073741824) ∧ (0 ≤ p.2.2.1 ∧ p.2.2.1 ≤ 6) ∧ p.2.2.2.size ≤ 65536) → (L.flatMap entB).length ≤ L.length * 40 + szG fE L ∧ szG fE L ≤ (L.flatMap entB).length
 | [], _ => by simp [szG]
 | p :: L, h => by
  have ih := entB_sum L (fun q hq => h q (List.mem_cons_of_mem _ hq))
  obtain ⟨h1, h2, h3, h4⟩ := h p (by simp)
  have u1 := uintB_len10 (n := p.1.toNat) (by omega)
  have u2 := uintB_len10 (n := p.2.1.toNat) (by omega)
  have u3 := uintB_len10 (n := p.2.2.1.toNat) (by omega)
  have u4 := uintB_len10 (n := p.2.2.2.size) (by omega)
  have hd : p.2.2.2.data.toList.length = p.2.2.2.size := by simp
  have e : (entB p).length = (uintB p.1.toNat).length + (uintB p.2.1.toNat).length + (uintB p.2.2.1.toNat).length + ((uintB p.2.2.2.size).length + p.2.2.2.size) := by
   simp [entB, uintsB, textB, hd]
   omega
  rw [List.flatMap_cons, List.length_append, szG_cons, List.length_cons, e]
  simp only [fE]
  omega
theorem valuB_sum : ∀ L : VL, (∀ p ∈ L, (0 ≤ p.1 ∧ p.1 < 4096) ∧ p.2.size ≤ 65536) → (L.flatMap valuB).length ≤ L.length * 20 + szG fV L ∧ szG fV L ≤ (L.flatMap valuB).length
 | [], _ => by simp [szG]
 | p :: L, h => by
  have ih := valuB_sum L (fun q hq => h q (List.mem_cons_of_mem _ hq))
  obtain ⟨h1, h2⟩ := h p (by simp)
  have u1 := uintB_len10 (n := p.1.toNat) (by omega)
  have u4 := uintB_len10 (n := p.2.size) (by omega)
  have hd : p.2.data.toList.length = p.2.size := by simp
  have e : (valuB p).length = (uintB p.1.toNat).length + ((uintB p.2.size).length + p.2.size) := by
   simp [valuB, uintsB, textB, hd]
  rw [List.flatMap_cons, List.length_append, szG_cons, List.length_cons, e]
  simp only [fV]
  omega
theorem snapB_len {t : NSt} (ha : AGood t.a) (hl : LGood t.l) (hv : ∀ x ∈ t.a.L, x.2.2.2.size ≤ 65536) : (snapB t).length ≤ 400000 + sz t ∧ sz t ≤ (snapB t).length := by
 have hr := ha.range
 have hb := ha.base
 have hlen := ha.len
 have hll := hl.len
 have hb0 := hl.b0
 have hb1 : t.l.base ≤ 4096 := by have := hl.bu; have := hl.ut; have := hl.t1; omega
 have e1 := entB_sum t.a.L (fun p hp => by have h1 := ha.ent hp; have h2 := hv p hp; omega)
 have e2 := valuB_sum t.l.L (fun p hp => by have h1 := hl.key hp; have h2 := hl.size p hp; omega)
 have u1 := uintB_len10 (n := t.a.r.toNat) (by omega)
 have u2 := uintB_len10 (n := t.a.d.toNat) (by omega)
 have u3 := uintB_len10 (n := t.a.base.toNat) (by omega)
 have u4 := uintB_len10 (n := t.a.L.length) (by omega)
 have u5 := uintB_len10 (n := t.l.base.toNat) (by omega)
 have u6 := uintB_len10 (n := t.l.L.length) (by omega)
 have e : (snapB t).length = (uintB t.a.r.toNat).length + (uintB t.a.d.toNat).length + (uintB t.a.base.toNat).length + (uintB t.a.L.length).length + (t.a.L.flatMap entB).length + (uintB t.l.base.toNat).length + (uintB t.l.L.length).length + (t.l.L.flatMap valuB).length := by
  simp only [snapB, headA, headL, uintsB, List.flatMap_cons, List.flatMap_nil, List.length_append, List.length_nil]
  omega
 unfold sz
 omega
def DI (n : Int) (ds : DSt) : Prop := DGood ds ∧ (ds.has = true → ∃ t, ds.st = snapB t ∧ AGood t.a ∧ LGood t.l ∧ t.a.n = n ∧ ∀ x ∈ t.a.L, x.2.2.2.size ≤ 65536)
theorem recO_vi {n : Int} {ds : DSt} {t : NSt} (hd : DI n ds) (h : recO n ds = some t) : Vi n t (65536 + ds.b.length) := by
 unfold recO at h
 have hs := allF_sum _ ds.b (Nat.le_refl _)
 split at h
 ·rename_i hh
  obtain ⟨t', e, ha, hl, hn, hv⟩ := hd.2 hh
  have hls := loadS_snap ha hl hv
  rw [hn, ← e] at hls
  rw [hls] at h
  have h2 := snapB_len ha hl hv
  have h3 := hd.1.st
  rw [e] at h3
  exact (recR_vi _ h ⟨hn, hv, Nat.le_refl _⟩).mono (by omega)
 ·have h0 : Vi n (newN n) 0 := ⟨rfl, fun x hx => (by cases hx), by simp [sz, szG, newN, newS, newLog]⟩
  exact (recR_vi _ h h0).mono (by omega)
end Go.Proofs.YtlfikhblmbidmaaGreatDoor