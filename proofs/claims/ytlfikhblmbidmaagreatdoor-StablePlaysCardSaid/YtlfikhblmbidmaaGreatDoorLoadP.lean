import Derived.Test.YtlfikhblmbidmaaGreatDoorEsI
set_option linter.all false
namespace Go.Proofs.YtlfikhblmbidmaaGreatDoor
open Go.RowKit Go.Maps
def rdB (s : Rd) : Option ((Nat × Nat) × Rd) := (rdN 1073741824 s).bind fun p => (rdN 6 p.2).bind fun q => some ((p.1, q.1), q.2)
theorem rdB_cases (s : Rd) : (rdN 1073741824 s = none ∧ rdB s = none) ∨ (∃ a s1, rdN 1073741824 s = some (a, s1) ∧ rdN 6 s1 = none ∧ rdB s = none) ∨ ∃ a s1 b s2, rdN 1073741824 s = some (a, s1) ∧ rdN 6 s1 = some (b, s2) ∧ rdB s = some ((a, b), s2) := by
 unfold rdB
 cases h : rdN 1073741824 s with
 | none => exact .inl ⟨rfl, rfl⟩
 | some p =>
  obtain ⟨a, s1⟩ := p
  cases k : rdN 6 s1 with
  | none => exact .inr (.inl ⟨a, s1, rfl, k, by simp [k]⟩)
  | some q =>
   obtain ⟨b, s2⟩ := q
   exact .inr (.inr ⟨a, s1, b, s2, rfl, k, by simp [k]⟩)
theorem rdB_le {s s' : Rd} {a b : Nat} (h : rdB s = some ((a, b), s')) : a ≤ 1073741824 ∧ b ≤ 6 := by
 rcases rdB_cases s with ⟨_, e⟩ | ⟨_, _, _, _, e⟩ | ⟨a1, s1, b1, s2, h1, h2, e⟩
 ·rw [e] at h; cases h
 ·rw [e] at h; cases h
 ·rw [e] at h
  cases h
  exact ⟨(rdN_dec h1).2, (rdN_dec h2).2⟩
def entOk (n : Int) (pr : Nat × Nat) (last : Int) (x : Et) : Prop := last < x.sl ∧ goodB n x.r x.d = true ∧ ordB (x.r, x.d) ((pr.1 : Int), (pr.2 : Int)) ≤ 0
instance (n : Int) (pr : Nat × Nat) (last : Int) (x : Et) : Decidable (entOk n pr last x) := by unfold entOk; infer_instance
def rdEt (s : Rd) : Option (Et × Rd) := (rdN 4095 s).bind fun p => (rdB p.2).bind fun q => some (⟨(p.1 : Int), (q.1.1 : Int), (q.1.2 : Int), sB (rdT q.2).1⟩, (rdT q.2).2)
def entP (n : Int) (pr : Nat × Nat) : Nat → Int → Rd → Option (List Et × Rd)
 | 0, _, s => some ([], s)
 | k + 1, last, s => (rdEt s).bind fun q => if entOk n pr last q.1 then (entP n pr k q.1.sl q.2).map fun t => (q.1 :: t.1, t.2) else none
def hasP : Nat → Int → Rd → Option (VL × Rd)
 | 0, _, s => some ([], s)
 | k + 1, last, s => (rdN 4095 s).bind fun q => if last < (q.1 : Int) then (hasP k q.1 (rdT q.2).2).map fun t => (((q.1 : Int), sB (rdT q.2).1) :: t.1, t.2) else none
def toEL (l : List Et) : EL := l.map fun x => (x.sl, x.r, x.d, x.v)
def acF : ASt → List Et → Option ASt
 | a, [] => some a
 | a, x :: r => if acE a x.r x.d x.sl x.v = 0 then acF (acS a x.r x.d x.sl x.v) r else none
def lpF : LogSt → VL → Option LogSt
 | s, [] => some s
 | s, x :: r => if lputE s x.1 x.2 = 0 then lpF (lputS s x.1 x.2) r else none
theorem sB_size (l : List UInt8) : (sB l).size = l.length := by simp [sB, ByteArray.size]
theorem rdT_size (s : Rd) : (sB (rdT s).1).size ≤ 65536 := by
 rw [sB_size]
 cases s with
 | none => simp [rdT]
 | some b =>
  simp only [rdT]
  split
  ·split
   ·rename_i h; simp; omega
   ·simp
  ·simp
structure EntsOk (n : Int) (pr : Nat × Nat) (last : Int) (l : List Et) : Prop where
 slots : ∀ x ∈ l, last < x.sl ∧ x.sl ≤ 4095
 good : ∀ x ∈ l, goodB n x.r x.d = true
 le : ∀ x ∈ l, ordB (x.r, x.d) ((pr.1 : Int), (pr.2 : Int)) ≤ 0
 size : ∀ x ∈ l, x.v.size ≤ 65536
 ok : ∀ x ∈ l, okK x
 srt : l.Pairwise fun x y => x.sl < y.sl
theorem rdEt_ok {s s' : Rd} {x : Et} (h : rdEt s = some (x, s')) : 0 ≤ x.sl ∧ x.sl ≤ 4095 ∧ x.v.size ≤ 65536 ∧ okK x := by
 unfold rdEt at h
 simp only [Option.bind_eq_some_iff] at h
 obtain ⟨⟨a, s1⟩, h1, ⟨⟨b, c⟩, s2⟩, h2, h3⟩ := h
 cases h3
 have := (rdN_dec h1).2
 have h4 := rdB_le h2
 refine ⟨?_, ?_, rdT_size _, ?_⟩
 ·show (0 : Int) ≤ (a : Int); omega
 ·show (a : Int) ≤ 4095; omega
 ·show (0 : Int) ≤ (c : Int) ∧ (c : Int) < 8; omega
theorem entP_ok {n : Int} {pr : Nat × Nat} : ∀ (k : Nat) (last : Int) (s s' : Rd) (l : List Et), entP n pr k last s = some (l, s') → EntsOk n pr last l ∧ l.length = k
 | 0, last, s, s', l, h => by
  simp only [entP] at h
  cases h
  exact ⟨⟨fun x hx => (by cases hx), fun x hx => (by cases hx), fun x hx => (by cases hx), fun x hx => (by cases hx), fun x hx => (by cases hx), List.Pairwise.nil⟩, rfl⟩
 | k + 1, last, s, s', l, h => by
  simp only [entP, Option.bind_eq_some_iff] at h
  obtain ⟨⟨x, s1⟩, h1, h2⟩ := h
  have hx := rdEt_ok h1
  split at h2
  ·rename_i hok
   simp only [Option.map_eq_some_iff] at h2
   obtain ⟨⟨r, s2⟩, h3, h4⟩ := h2
   cases h4
   obtain ⟨ih, il⟩ := entP_ok k _ _ _ _ h3
   obtain ⟨k1, k2, k3⟩ := hok
   have k1 : last < x.sl := k1
   refine ⟨⟨fun y hy => ?_, fun y hy => ?_, fun y hy => ?_, fun y hy => ?_, fun y hy => ?_, List.pairwise_cons.2 ⟨fun y hy => (ih.slots y hy).1, ih.srt⟩⟩, by simp [il]⟩
   ·rcases List.mem_cons.1 hy with rfl | hy
    ·exact ⟨k1, hx.2.1⟩
    ·have := ih.slots y hy; exact ⟨by omega, this.2⟩
   ·rcases List.mem_cons.1 hy with rfl | hy
    ·exact k2
    ·exact ih.good y hy
   ·rcases List.mem_cons.1 hy with rfl | hy
    ·exact k3
    ·exact ih.le y hy
   ·rcases List.mem_cons.1 hy with rfl | hy
    ·exact hx.2.2.1
    ·exact ih.size y hy
   ·rcases List.mem_cons.1 hy with rfl | hy
    ·exact hx.2.2.2
    ·exact ih.ok y hy
  ·cases h2
theorem hasP_ok : ∀ (k : Nat) (last : Int) (s s' : Rd) (l : VL), hasP k last s = some (l, s') → (∀ x ∈ l, last < x.1 ∧ x.1 ≤ 4095 ∧ x.2.size ≤ 65536) ∧ Srt l ∧ l.length = k
 | 0, last, s, s', l, h => by
  simp only [hasP] at h
  cases h
  exact ⟨fun x hx => (by cases hx), List.Pairwise.nil, rfl⟩
 | k + 1, last, s, s', l, h => by
  simp only [hasP, Option.bind_eq_some_iff] at h
  obtain ⟨⟨a, s1⟩, h1, h2⟩ := h
  have ha := (rdN_dec h1).2
  split at h2
  ·rename_i hok
   simp only [Option.map_eq_some_iff] at h2
   obtain ⟨⟨r, s2⟩, h3, h4⟩ := h2
   cases h4
   obtain ⟨i1, i2, i3⟩ := hasP_ok k _ _ _ _ h3
   have hok : last < (a : Int) := hok
   refine ⟨fun y hy => ?_, List.pairwise_cons.2 ⟨fun y hy => (i1 y hy).1, i2⟩, by simp [i3]⟩
   rcases List.mem_cons.1 hy with rfl | hy
   ·exact ⟨hok, by show (a : Int) ≤ 4095; omega, rdT_size _⟩
   ·have := i1 y hy; exact ⟨by omega, this.2⟩
  ·cases h2
theorem acE_new {a : ASt} {x : Et} (hg : goodB a.n x.r x.d = true) (h0 : 0 ≤ x.sl ∧ x.sl ≤ 4095) (hv : x.v.size ≤ 65536) (hl : leBal (a.r, a.d) (x.r, x.d)) (hb : a.base ≤ x.sl) : acE a x.r x.d x.sl x.v = 0 :=
 accE_zero.2 ⟨hg, h0.1, by omega, hv, hl, hb⟩
theorem key_le {a b : Et} (ha : okK a) (hb : okK b) (h : kV a ≤ kV b) : leBal (a.r, a.d) (b.r, b.d) := by
 rw [leBal_iff]
 simp only [okK, kV] at ha hb h
 show a.r < b.r ∨ a.r = b.r ∧ a.d ≤ b.d
 omega
theorem acF_run : ∀ (R : List Et) (a : ASt), (∀ x ∈ R, goodB a.n x.r x.d = true ∧ (0 ≤ x.sl ∧ x.sl ≤ 4095) ∧ x.v.size ≤ 65536 ∧ okK x ∧ a.base ≤ x.sl ∧ leBal (a.r, a.d) (x.r, x.d)) → KSort kV R → R.Pairwise (fun x y => x.sl ≠ y.sl) → (∀ x ∈ R, ∀ p ∈ a.L, p.1 ≠ x.sl) → Srt a.L →
  ∃ a', acF a R = some a' ∧ a'.n = a.n ∧ a'.base = a.base ∧ Srt a'.L ∧ (∀ p, p ∈ a'.L ↔ p ∈ a.L ∨ ∃ x ∈ R, p = (x.sl, x.r, x.d, x.v)) ∧ (R = [] ∧ a' = a ∨ ∃ x ∈ R, a'.r = x.r ∧ a'.d = x.d)
 | [], a, h, hs, hp, hd, hL => ⟨a, rfl, rfl, rfl, hL, fun p => by simp, .inl ⟨rfl, rfl⟩⟩
 | x :: r, a, h, hs, hp, hd, hL => by
  obtain ⟨x1, x2, x3, x4, x5, x6⟩ := h x (by simp)
  have he := acE_new x1 x2 x3 x6 x5
  obtain ⟨s1, s2⟩ := List.pairwise_cons.1 hs
  obtain ⟨p1, p2⟩ := List.pairwise_cons.1 hp
  have hS : acS a x.r x.d x.sl x.v = { a with r := x.r, d := x.d, L := put x.sl (x.r, x.d, x.v) a.L } := by unfold acS; rw [if_pos he]
  obtain ⟨a', e, en, eb, es, em, er⟩ := acF_run r { a with r := x.r, d := x.d, L := put x.sl (x.r, x.d, x.v) a.L }
   (fun y hy => by
    obtain ⟨y1, y2, y3, y4, y5, y6⟩ := h y (by simp [hy])
    exact ⟨y1, y2, y3, y4, y5, key_le x4 y4 (s1 y hy)⟩) s2 p2
   (fun y hy p hp2 => by
    rcases mem_put.1 hp2 with rfl | ⟨hp3, _⟩
    ·exact p1 y hy
    ·exact hd y (by simp [hy]) p hp3) (srt_put hL)
  refine ⟨a', by simp only [acF]; rw [if_pos he, hS]; exact e, en, eb, es, fun p => ?_, .inr ?_⟩
  ·rw [em p, mem_put]
   constructor
   ·rintro ((h1 | h1) | ⟨y, hy, h1⟩)
    ·exact .inr ⟨x, by simp, h1⟩
    ·exact .inl h1.1
    ·exact .inr ⟨y, by simp [hy], h1⟩
   ·rintro (h1 | ⟨y, hy, h1⟩)
    ·exact .inl (.inr ⟨h1, hd x (by simp) p h1⟩)
    ·rcases List.mem_cons.1 hy with rfl | hy
     ·exact .inl (.inl h1)
     ·exact .inr ⟨y, hy, h1⟩
  ·rcases er with ⟨rfl, rfl⟩ | ⟨y, hy, h1⟩
   ·exact ⟨x, by simp, rfl, rfl⟩
   ·exact ⟨y, by simp [hy], h1⟩
theorem toEL_srt {l : List Et} (h : l.Pairwise fun x y => x.sl < y.sl) : Srt (toEL l) := by
 unfold Srt toEL
 rw [List.pairwise_map]
 exact h
theorem acF_all {n : Int} {pr : Nat × Nat} {b0 : Nat} {l R : List Et} (hb : b0 ≤ 4096) (h : EntsOk n pr ((b0 : Int) - 1) l) (hR : Srtd l R) :
  ∃ r d, acF ⟨n, 0, 0, b0, []⟩ R = some ⟨n, r, d, b0, toEL l⟩ ∧ leBal (r, d) ((pr.1 : Int), (pr.2 : Int)) ∧ (R = [] → r = 0 ∧ d = 0) := by
 have hm : ∀ x, x ∈ R ↔ x ∈ l := fun x => hR.1.perm.mem_iff.symm
 have hpw : R.Pairwise (fun x y => x.sl ≠ y.sl) := by
  have h1 : l.Pairwise (fun x y => x.sl ≠ y.sl) := h.srt.imp (fun {a b} e => by omega)
  exact (hR.1.perm.pairwise_iff (fun {a b} e => fun h => e h.symm)).1 h1
 obtain ⟨a', e, en, eb, es, em, er⟩ := acF_run R ⟨n, 0, 0, b0, []⟩ (fun x hx => by
  have hx := (hm x).1 hx
  have h1 := h.slots x hx
  have h2 := h.good x hx
  refine ⟨h2, ⟨by omega, h1.2⟩, h.size x hx, h.ok x hx, by show (b0 : Int) ≤ x.sl; omega, ?_⟩
  rw [leBal_iff]
  show (0 : Int) < x.r ∨ (0 : Int) = x.r ∧ (0 : Int) ≤ x.d
  have := (h.ok x hx).1
  unfold goodB chkE at h2
  simp only [Bool.and_eq_true, Bool.not_eq_true', Bool.and_eq_false_iff, beq_eq_false_iff_ne, beq_iff_eq] at h2
  obtain ⟨h3, h4⟩ := h2
  split at h4
  ·cases h4
  ·split at h4
   ·rename_i k; omega
   ·split at h4
    ·cases h4
    ·omega) hR.2 hpw (fun x hx p hp => by cases hp) List.Pairwise.nil
 have hL : a'.L = toEL l := srt_ext es (toEL_srt h.srt) (fun p => by
  rw [em p]
  simp only [List.not_mem_nil, false_or, toEL, List.mem_map]
  constructor
  ·rintro ⟨x, hx, rfl⟩; exact ⟨x, (hm x).1 hx, rfl⟩
  ·rintro ⟨x, hx, rfl⟩; exact ⟨x, (hm x).2 hx, rfl⟩)
 have hpos : leBal ((0 : Int), (0 : Int)) ((pr.1 : Int), (pr.2 : Int)) := by
  rw [leBal_iff]
  show (0 : Int) < (pr.1 : Int) ∨ (0 : Int) = (pr.1 : Int) ∧ (0 : Int) ≤ (pr.2 : Int)
  omega
 obtain ⟨n', r', d', b', L'⟩ := a'
 simp only at en eb hL
 subst en eb hL
 refine ⟨r', d', e, ?_, fun hRe => ?_⟩
 ·rcases er with ⟨_, e2⟩ | ⟨x, hx, e1, e2⟩
  ·simp only [ASt.mk.injEq] at e2
   rw [e2.2.1, e2.2.2.1]; exact hpos
  ·simp only at e1 e2
   rw [e1, e2]
   exact h.le x ((hm x).1 hx)
 ·rcases er with ⟨_, e2⟩ | ⟨x, hx, _⟩
  ·simp only [ASt.mk.injEq] at e2
   exact ⟨e2.2.1, e2.2.2.1⟩
  ·rw [hRe] at hx; cases hx
end Go.Proofs.YtlfikhblmbidmaaGreatDoor