import Derived.Test.YtlfikhblmbidmaaGreatDoorRecS
import Derived.Test.YtlfikhblmbidmaaGreatDoorKeepP
set_option linter.all false
namespace Go.Proofs.YtlfikhblmbidmaaGreatDoor
open Go.RowKit Go.Maps
theorem sB_data (v : ByteArray) : sB v.data.toList = v := by
 obtain ⟨⟨x⟩⟩ := v
 simp [sB]
theorem size_data (v : ByteArray) : v.data.toList.length = v.size := by simp
theorem lg_eq {s t : LogSt} (hs : LGood s) (ht : LGood t) (hb : s.base = t.base) (hL : s.L = t.L) : s = t := by
 obtain ⟨sb, su, st, sL⟩ := s
 obtain ⟨tb, tu, tt, tL⟩ := t
 simp only at hb hL
 subst hb hL
 have s1 := hs.bu; have s2 := hs.ut; have s3 := hs.has; have s4 := hs.gap; have s5 := hs.last; have s6 := hs.keys
 have t1 := ht.bu; have t2 := ht.ut; have t3 := ht.has; have t4 := ht.gap; have t5 := ht.last; have t6 := ht.keys
 simp only at *
 have hu : su = tu := by
  by_cases h : su < tu
  ·have := t3 su s1 h
   rw [s4] at this; cases this
  ·by_cases h2 : tu < su
   ·have := s3 tu t1 h2
    rw [t4] at this; cases this
   ·omega
 subst hu
 have gk : ∀ {i : Int}, (get i sL).isSome = true → ∃ p ∈ sL, p.1 = i := fun {i} h => by
  refine Classical.byContradiction fun hn => ?_
  have : get i sL = none := get_none.2 fun p hp e => hn ⟨p, hp, e⟩
  rw [this] at h; cases h
 have hT : st = tt := by
  rcases s5 with e1 | e1 <;> rcases t5 with e2 | e2
  ·omega
  ·obtain ⟨p, hp, e⟩ := gk e2
   have := (s6 p hp).2
   omega
  ·obtain ⟨p, hp, e⟩ := gk e1
   have := (t6 p hp).2
   omega
  ·obtain ⟨p, hp, e⟩ := gk e1
   have h1 := (t6 p hp).2
   obtain ⟨p', hp', e'⟩ := gk e2
   have h2 := (s6 p' hp').2
   omega
 subst hT
 rfl
theorem lpF_good : ∀ (H : VL) (s : LogSt), LGood s → (∀ x ∈ H, 0 ≤ x.1 ∧ x.1 ≤ 4095 ∧ x.2.size ≤ 65536 ∧ s.base ≤ x.1) → Srt H → (∀ x ∈ H, ∀ p ∈ s.L, p.1 ≠ x.1) → ∃ s', lpF s H = some s' ∧ LGood s' ∧ s'.base = s.base ∧ ∀ p, p ∈ s'.L ↔ p ∈ s.L ∨ p ∈ H
 | [], s, hg, _, _, _ => ⟨s, rfl, hg, rfl, fun p => by simp⟩
 | x :: r, s, hg, h, hs, hd => by
  obtain ⟨h1, h2, h3, h4⟩ := h x (by simp)
  obtain ⟨s1, s2⟩ := List.pairwise_cons.1 hs
  have he : lputE s x.1 x.2 = 0 := lputE_zero.2 ⟨h1, by omega, h3, h4, fun e => by
   have : get x.1 s.L = none := get_none.2 fun p hp => hd x (by simp) p hp
   rw [this] at e; cases e⟩
  obtain ⟨e1, e2⟩ := lputS_zero he
  obtain ⟨s', e, eg, eb, em⟩ := lpF_good r (lputS s x.1 x.2) (hg.put _ _) (fun y hy => by
   obtain ⟨y1, y2, y3, y4⟩ := h y (by simp [hy])
   exact ⟨y1, y2, y3, by rw [e1]; exact y4⟩) s2 (fun y hy p hp => by
   rw [e2] at hp
   have hxy : x.1 < y.1 := s1 y hy
   rcases mem_put.1 hp with rfl | ⟨hp, _⟩
   ·show x.1 ≠ y.1; omega
   ·exact hd y (by simp [hy]) p hp)
  refine ⟨s', by simp only [lpF]; rw [if_pos he]; exact e, eg, eb.trans e1, fun p => ?_⟩
  rw [em p, e2, mem_put]
  constructor
  ·rintro ((h1 | h1) | h1)
   ·exact .inr (by rw [h1]; simp)
   ·exact .inl h1.1
   ·exact .inr (by simp [h1])
  ·rintro (h1 | h1)
   ·exact .inl (.inr ⟨h1, hd x (by simp) p h1⟩)
   ·rcases List.mem_cons.1 h1 with rfl | h1
    ·exact .inl (.inl rfl)
    ·exact .inr h1
theorem lpF_same {s : LogSt} (hg : LGood s) : lpF (ljmpS newLog s.base) s.L = some s := by
 have hb0 := hg.b0
 have hb1 : s.base ≤ 4096 := by have := hg.bu; have := hg.ut; have := hg.t1; omega
 have he : ljmpE newLog s.base = 0 := by
  unfold ljmpE
  rw [if_neg (by omega), if_neg (by show ¬ s.base < 0; omega)]
 have e : ljmpS newLog s.base = lcut newLog s.base := by unfold ljmpS; rw [if_pos he]
 have hL : (ljmpS newLog s.base).L = [] := by rw [e]; rfl
 have hB : (ljmpS newLog s.base).base = s.base := by rw [e]; rfl
 obtain ⟨s', h1, h2, h3, h4⟩ := lpF_good s.L (ljmpS newLog s.base) (LGood.new.jump _) (fun x hx => by
  have k1 := hg.key hx
  have k2 := hg.keys x hx
  exact ⟨k1.1, by omega, hg.size x hx, by rw [hB]; exact k2.1⟩) hg.srt (fun x hx p hp => by rw [hL] at hp; cases hp)
 rw [h1]
 congr 1
 refine lg_eq h2 hg (h3.trans hB) (srt_ext h2.srt hg.srt fun p => ?_)
 rw [h4 p, hL]
 simp
def toEt (p : Int × Ent) : Et := ⟨p.1, p.2.1, p.2.2.1, p.2.2.2⟩
theorem toEL_toEt (L : EL) : toEL (L.map toEt) = L := by
 unfold toEL
 rw [List.map_map]
 conv => rhs; rw [← List.map_id L]
 rfl
theorem rdB_enc {a b : Nat} (ha : a ≤ 1073741824) (hb : b ≤ 6) (r : List UInt8) : rdB (some (uintB a ++ (uintB b ++ r))) = some ((a, b), some r) := by
 unfold rdB
 rw [rdN_enc ha (by decide)]
 show (rdN 6 (some (uintB b ++ r))).bind _ = _
 rw [rdN_enc hb (by decide)]
 rfl
structure EntK (n : Int) (pr : Nat × Nat) (p : Int × Ent) : Prop where
 s0 : 0 ≤ p.1
 s1 : p.1 < 4096
 r0 : 0 ≤ p.2.1
 r1 : p.2.1 ≤ 1073741824
 d0 : 0 ≤ p.2.2.1
 d1 : p.2.2.1 ≤ 6
 good : goodB n p.2.1 p.2.2.1 = true
 le : ordB (p.2.1, p.2.2.1) ((pr.1 : Int), (pr.2 : Int)) ≤ 0
 size : p.2.2.2.size ≤ 65536
theorem rdEt_enc {n : Int} {pr : Nat × Nat} {p : Int × Ent} (h : EntK n pr p) (r : List UInt8) : rdEt (some (entB p ++ r)) = some (toEt p, some r) := by
 obtain ⟨s0, s1, r0, r1, d0, d1, _, _, hv⟩ := h
 have e : entB p ++ r = uintB p.1.toNat ++ (uintB p.2.1.toNat ++ (uintB p.2.2.1.toNat ++ (textB p.2.2.2.data.toList ++ r))) := by simp [entB, uintsB]
 unfold rdEt
 rw [e, rdN_enc (by omega) (by decide)]
 show (rdB (some (uintB p.2.1.toNat ++ (uintB p.2.2.1.toNat ++ (textB p.2.2.2.data.toList ++ r))))).bind _ = _
 rw [rdB_enc (by omega) (by omega)]
 show some ((⟨((p.1.toNat : Nat) : Int), ((p.2.1.toNat : Nat) : Int), ((p.2.2.1.toNat : Nat) : Int), sB (rdT (some (textB p.2.2.2.data.toList ++ r))).1⟩ : Et), (rdT (some (textB p.2.2.2.data.toList ++ r))).2) = _
 rw [rdT_enc (by rw [size_data]; exact hv), sB_data, Int.toNat_of_nonneg s0, Int.toNat_of_nonneg r0, Int.toNat_of_nonneg d0]
 rfl
theorem entP_enc {n : Int} {pr : Nat × Nat} : ∀ (L : EL) (last : Int) (r : List UInt8), Srt L → (∀ p ∈ L, last < p.1) → (∀ p ∈ L, EntK n pr p) → entP n pr L.length last (some (L.flatMap entB ++ r)) = some (L.map toEt, some r)
 | [], last, r, _, _, _ => rfl
 | p :: L, last, r, hs, hl, hk => by
  obtain ⟨s1, s2⟩ := List.pairwise_cons.1 hs
  have hp := hk p (by simp)
  have ih := entP_enc L p.1 r s2 s1 (fun q hq => hk q (by simp [hq]))
  show entP n pr (L.length + 1) last (some ((entB p ++ L.flatMap entB) ++ r)) = _
  rw [List.append_assoc]
  simp only [entP]
  rw [rdEt_enc hp]
  show (if entOk n pr last (toEt p) then (entP n pr L.length (toEt p).sl (some (L.flatMap entB ++ r))).map (fun t => (toEt p :: t.1, t.2)) else none) = _
  rw [if_pos ⟨hl p (by simp), hp.good, hp.le⟩, show (toEt p).sl = p.1 from rfl, ih]
  rfl
theorem hasP_enc : ∀ (L : VL) (last : Int) (r : List UInt8), Srt L → (∀ p ∈ L, last < p.1) → (∀ p ∈ L, (0 ≤ p.1 ∧ p.1 < 4096) ∧ p.2.size ≤ 65536) → hasP L.length last (some (L.flatMap valuB ++ r)) = some (L, some r)
 | [], last, r, _, _, _ => rfl
 | p :: L, last, r, hs, hl, hk => by
  obtain ⟨s1, s2⟩ := List.pairwise_cons.1 hs
  obtain ⟨⟨k1, k2⟩, k3⟩ := hk p (by simp)
  have ih := hasP_enc L p.1 r s2 s1 (fun q hq => hk q (by simp [hq]))
  have e : (valuB p ++ L.flatMap valuB) ++ r = uintB p.1.toNat ++ (textB p.2.data.toList ++ (L.flatMap valuB ++ r)) := by simp [valuB, uintsB]
  show hasP (L.length + 1) last (some ((valuB p ++ L.flatMap valuB) ++ r)) = _
  rw [e]
  simp only [hasP]
  rw [rdN_enc (by omega) (by decide)]
  show (if last < ((p.1.toNat : Nat) : Int) then (hasP L.length ((p.1.toNat : Nat) : Int) (rdT (some (textB p.2.data.toList ++ (L.flatMap valuB ++ r)))).2).map (fun t => ((((p.1.toNat : Nat) : Int), sB (rdT (some (textB p.2.data.toList ++ (L.flatMap valuB ++ r)))).1) :: t.1, t.2)) else none) = _
  rw [Int.toNat_of_nonneg k1, if_pos (hl p (by simp)), rdT_enc (by rw [size_data]; exact k3), sB_data, ih]
  rfl
theorem loadS_snap {t : NSt} (ha : AGood t.a) (hl : LGood t.l) (hv : ∀ x ∈ t.a.L, x.2.2.2.size ≤ 65536) : loadS t.a.n (snapB t) = some t := by
 have hr := ha.range
 have hb := ha.base
 have hlen := ha.len
 have hll := hl.len
 have hb0 := hl.b0
 have hb1 : t.l.base ≤ 4096 := by have := hl.bu; have := hl.ut; have := hl.t1; omega
 have e : snapB t = uintB t.a.r.toNat ++ (uintB t.a.d.toNat ++ (uintB t.a.base.toNat ++ (uintB t.a.L.length ++ (t.a.L.flatMap entB ++ (uintB t.l.base.toNat ++ (uintB t.l.L.length ++ (t.l.L.flatMap valuB ++ []))))))) := by
  simp [snapB, headA, headL, uintsB]
 have hpr : ((t.a.r.toNat : Nat) : Int) = t.a.r ∧ ((t.a.d.toNat : Nat) : Int) = t.a.d := ⟨Int.toNat_of_nonneg hr.1, Int.toNat_of_nonneg hr.2.2.1⟩
 have hcond : (t.a.r.toNat = 0 ∧ t.a.d.toNat = 0) ∨ goodB t.a.n (t.a.r.toNat : Int) (t.a.d.toNat : Int) = true := by
  rcases ha.pos with h | h
  ·right; rw [hpr.1, hpr.2]; exact h
  ·left; omega
 have hent := entP_enc (n := t.a.n) (pr := (t.a.r.toNat, t.a.d.toNat)) t.a.L (((t.a.base.toNat : Nat) : Int) - 1) (uintB t.l.base.toNat ++ (uintB t.l.L.length ++ (t.l.L.flatMap valuB ++ []))) ha.srt (fun p hp => by have := (ha.slots p hp).1; omega) (fun p hp => by
  obtain ⟨k1, k2, k3, k4, k5, k6⟩ := ha.ent hp
  refine ⟨k1, k2, k3, k4, k5, k6, ha.good p hp, ?_, hv p hp⟩
  have := ha.le p hp
  show ordB (p.2.1, p.2.2.1) (((t.a.r.toNat : Nat) : Int), ((t.a.d.toNat : Nat) : Int)) ≤ 0
  rw [hpr.1, hpr.2]
  exact this)
 have hhas := hasP_enc t.l.L (((t.l.base.toNat : Nat) : Int) - 1) [] hl.srt (fun p hp => by have := (hl.keys p hp).1; omega) (fun p hp => ⟨hl.key hp, hl.size p hp⟩)
 have hbb : ((t.l.base.toNat : Nat) : Int) = t.l.base := Int.toNat_of_nonneg hb0
 have hab : ((t.a.base.toNat : Nat) : Int) = t.a.base := Int.toNat_of_nonneg hb.1
 have hP : loadP t.a.n (some (snapB t)) = some (t, some []) := by
  rw [e, loadP_some (rdB_enc (by omega) (by omega) _), if_pos hcond, ldB_3 (rdN_enc (by omega) (by decide) _) (rdN_enc (by omega) (by decide) _), hent]
  show ldC t.a.n t.a.r.toNat t.a.d.toNat t.a.base.toNat (t.a.L.map toEt) (some (uintB t.l.base.toNat ++ (uintB t.l.L.length ++ (t.l.L.flatMap valuB ++ [])))) = _
  unfold ldC
  rw [rdN_enc (by omega) (by decide)]
  show (rdN 4096 (some (uintB t.l.L.length ++ (t.l.L.flatMap valuB ++ [])))).bind _ = _
  rw [rdN_enc (by omega) (by decide)]
  show (hasP t.l.L.length (((t.l.base.toNat : Nat) : Int) - 1) (some (t.l.L.flatMap valuB ++ []))).bind _ = _
  rw [hhas]
  show (lpF (ljmpS newLog ((t.l.base.toNat : Nat) : Int)) t.l.L).map _ = _
  rw [hbb, lpF_same hl, toEL_toEt, hpr.1, hpr.2, hab]
  rfl
 unfold loadS
 rw [hP]
 rfl
end Go.Proofs.YtlfikhblmbidmaaGreatDoor