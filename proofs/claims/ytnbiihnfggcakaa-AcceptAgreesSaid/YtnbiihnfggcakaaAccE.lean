/- Package accept: the acceptor's state with its bounds; each call as a step of states. -/
import Derived.Test.YtnbiihnfggcakaaAccD
set_option linter.unusedVariables false
set_option linter.unusedSimpArgs false
namespace Go.Proofs.Ytnbiihnfggcakaa
open Go.RowKit Go.Maps Go.Shelf

def in64 (x : Int) : Prop := -9223372036854775808 ≤ x ∧ x ≤ 9223372036854775807

/-! ### The order of ballots -/
theorem ordB_lt_iff (a b : Int × Int) : ordB a b < 0 ↔ a.1 < b.1 ∨ (a.1 = b.1 ∧ a.2 < b.2) := by
  unfold ordB firstI cmpI
  split <;> split <;> (try split) <;> (try split) <;> omega
theorem ordB_gt_iff (a b : Int × Int) : 0 < ordB a b ↔ b.1 < a.1 ∨ (a.1 = b.1 ∧ b.2 < a.2) := by
  unfold ordB firstI cmpI
  split <;> split <;> (try split) <;> (try split) <;> omega
/-- a is at most b. -/
def leBal (a b : Int × Int) : Prop := ordB a b ≤ 0
theorem leBal_iff (a b : Int × Int) : leBal a b ↔ a.1 < b.1 ∨ (a.1 = b.1 ∧ a.2 ≤ b.2) := by
  unfold leBal ordB firstI cmpI
  split <;> split <;> (try split) <;> (try split) <;> omega
theorem leBal_of_not_lt {a b : Int × Int} (h : ¬ ordB a b < 0) : leBal b a := by
  rw [ordB_lt_iff] at h
  rw [leBal_iff]
  omega
theorem not_lt_of_le {a b : Int × Int} (h : leBal b a) : ¬ ordB a b < 0 := by
  rw [leBal_iff] at h
  rw [ordB_lt_iff]
  omega
theorem leBal_refl (a : Int × Int) : leBal a a := by rw [leBal_iff]; omega
theorem leBal_trans {a b c : Int × Int} (h : leBal a b) (k : leBal b c) : leBal a c := by
  rw [leBal_iff] at *
  omega

/-! ### States -/
structure ASt where
  n : Int
  r : Int
  d : Int
  base : Int
  L : EL

/-- What holds of every acceptor's state. -/
structure AGood (s : ASt) : Prop where
  n : 1 ≤ s.n ∧ s.n ≤ 7
  base : 0 ≤ s.base ∧ s.base ≤ 4096
  srt : Srt s.L
  slots : ∀ p ∈ s.L, s.base ≤ p.1 ∧ p.1 < 4096
  len : s.L.length ≤ 4096
  le : ∀ p ∈ s.L, leBal (p.2.1, p.2.2.1) (s.r, s.d)
  good : ∀ p ∈ s.L, goodB s.n p.2.1 p.2.2.1 = true
  pos : goodB s.n s.r s.d = true ∨ s.r = 0 ∧ s.d = 0

theorem srt_len {lo hi : Int} : ∀ {L : EL}, Srt L → (∀ p ∈ L, lo ≤ p.1 ∧ p.1 < hi) → L = [] ∨ (L.length : Int) ≤ hi - lo
  | [], _, _ => .inl rfl
  | x :: r, h, hb => by
    right
    have h1 := List.pairwise_cons.1 h
    have hx := hb x (by simp)
    have ih := srt_len (lo := x.1 + 1) (hi := hi) h1.2 (fun p hp => ⟨by have := h1.1 p hp; omega, (hb p (by simp [hp])).2⟩)
    rcases ih with rfl | ih
    · simp; omega
    · simp; omega

/-- The acceptor at p (its map at m) has the state s. -/
structure AS (w : World) (p m : Nat) (s : ASt) : Prop where
  at_ : AccAt w p m s.n s.r s.d s.base s.L
  good : AGood s

namespace AS
variable {w w' : World} {p m : Nat} {s : ASt}
theorem fr {S : Nat → Prop} (h : AS w p m s) (k : Fr S w w') (hp : ¬ S p) (hm : ¬ S m) : AS w' p m s := ⟨h.at_.fr k hp hm, h.good⟩
theorem below (h : AS w p m s) (k : Below w.heap.size w w') : AS w' p m s := ⟨h.at_.below k, h.good⟩
theorem drew (h : AS w p m s) : AS w.drew p m s := ⟨h.at_.drew, h.good⟩
theorem lt (h : AS w p m s) : p < w.heap.size ∧ m < w.heap.size := h.at_.lt
theorem pos (h : AS w p m s) : 0 < s.n := by have := h.good.n; omega
end AS

def newS (n : Int) : ASt := ⟨n, 0, 0, 0, []⟩
theorem AGood.new {n : Int} (h : okN n) : AGood (newS n) := ⟨h, ⟨by simp [newS], by simp [newS]⟩, List.Pairwise.nil, fun p hp => by simp [newS] at hp, by simp [newS], fun p hp => by simp [newS] at hp, fun p hp => by simp [newS] at hp, .inr ⟨rfl, rfl⟩⟩

def prE (s : ASt) (r1 d1 k : Int) : Int := promE s.n s.r s.d r1 d1 k
def prS (s : ASt) (r1 d1 k : Int) : ASt := if prE s r1 d1 k = 0 then { s with r := r1, d := d1 } else s
def acE (s : ASt) (r1 d1 k : Int) (v : ByteArray) : Int := accE s.n s.r s.d s.base r1 d1 k v.size
def acS (s : ASt) (r1 d1 k : Int) (v : ByteArray) : ASt := if acE s r1 d1 k v = 0 then { s with r := r1, d := d1, L := put k (r1, d1, v) s.L } else s
def foE (k : Int) : Int := if k < 0 ∨ 4096 < k then 2 else 0
def foS (s : ASt) (k : Int) : ASt := if foE k = 0 then { s with base := max s.base k, L := forL k s.L } else s

theorem promE_zero {n r d r1 d1 k : Int} : promE n r d r1 d1 k = 0 ↔ goodB n r1 d1 = true ∧ 0 ≤ k ∧ k ≤ 4096 ∧ leBal (r, d) (r1, d1) := by
  unfold promE
  constructor
  · intro h
    split at h
    · simp at h
    · rename_i h1
      split at h
      · simp at h
      · rename_i h2
        exact ⟨(Bool.eq_false_or_eq_true _).resolve_right (fun hg => h1 (.inl hg)), by omega, by omega, leBal_of_not_lt h2⟩
  · rintro ⟨h1, h2, h3, h4⟩
    rw [if_neg (by rw [h1]; simp; omega), if_neg (not_lt_of_le h4)]
theorem accE_zero {n r d base r1 d1 k : Int} {len : Nat} : accE n r d base r1 d1 k len = 0 ↔ goodB n r1 d1 = true ∧ 0 ≤ k ∧ k < 4096 ∧ len ≤ 65536 ∧ leBal (r, d) (r1, d1) ∧ base ≤ k := by
  unfold accE
  constructor
  · intro h
    split at h
    · simp at h
    · rename_i h1
      split at h
      · simp at h
      · rename_i h2
        split at h
        · simp at h
        · rename_i h3
          split at h
          · simp at h
          · exact ⟨(Bool.eq_false_or_eq_true _).resolve_right (fun hg => h1 (.inl hg)), by omega, by omega, by omega, leBal_of_not_lt h3, by omega⟩
  · rintro ⟨h1, h2, h3, h4, h5, h6⟩
    rw [if_neg (by rw [h1]; simp; omega), if_neg (by omega), if_neg (not_lt_of_le h5), if_neg (by omega)]

theorem AGood.prom {s : ASt} (h : AGood s) (r1 d1 k : Int) : AGood (prS s r1 d1 k) := by
  unfold prS
  split
  · rename_i he
    obtain ⟨h1, h2, h3, h4⟩ := promE_zero.1 he
    exact ⟨h.n, h.base, h.srt, h.slots, h.len, fun p hp => leBal_trans (h.le p hp) h4, h.good, .inl h1⟩
  · exact h
theorem AGood.acc {s : ASt} (h : AGood s) (r1 d1 k : Int) (v : ByteArray) : AGood (acS s r1 d1 k v) := by
  unfold acS
  split
  · rename_i he
    obtain ⟨h1, h2, h3, h4, h5, h6⟩ := accE_zero.1 he
    have hsl : ∀ p ∈ put k (r1, d1, v) s.L, s.base ≤ p.1 ∧ p.1 < 4096 := fun p hp => by
      rcases mem_put.1 hp with rfl | ⟨hp, _⟩
      · exact ⟨h6, h3⟩
      · exact h.slots p hp
    have hs := srt_put (k := k) (v := ((r1, d1, v) : Ent)) h.srt
    refine ⟨h.n, h.base, hs, hsl, ?_, fun p hp => ?_, fun p hp => ?_, .inl h1⟩
    · have hb := h.base
      rcases srt_len (lo := 0) (hi := 4096) hs (fun p hp => ⟨by have := hsl p hp; omega, (hsl p hp).2⟩) with e | e
      · simp only; rw [e]; simp
      · simp only; omega
    · rcases mem_put.1 hp with rfl | ⟨hp, _⟩
      · exact leBal_refl _
      · exact leBal_trans (h.le p hp) h5
    · rcases mem_put.1 hp with rfl | ⟨hp, _⟩
      · exact h1
      · exact h.good p hp
  · exact h
theorem AGood.forg {s : ASt} (h : AGood s) (k : Int) : AGood (foS s k) := by
  unfold foS
  split
  · rename_i he
    have hk : 0 ≤ k ∧ k ≤ 4096 := by unfold foE at he; split at he <;> simp at he; omega
    have hb := h.base
    refine ⟨h.n, ⟨by simp only; omega, by simp only; omega⟩, h.srt.filter _, fun p hp => ?_, Nat.le_trans (List.length_filter_le _ _) h.len, fun p hp => h.le p (List.mem_filter.1 hp).1, fun p hp => h.good p (List.mem_filter.1 hp).1, h.pos⟩
    obtain ⟨h1, h2⟩ := List.mem_filter.1 hp
    have := h.slots p h1
    simp at h2
    simp only
    omega
  · exact h

theorem in_of_good {s : ASt} (h : AGood s) : ∀ p ∈ s.L, -9223372036854775808 ≤ p.1 ∧ p.1 ≤ 9223372036854775807 := fun p hp => by
  have := h.slots p hp
  have := h.base
  omega

section
variable (p m : Nat) (s : ASt) (w : World)
/-- What a call that may turn the acceptor leaves. -/
theorem new_S (n : Int) (hn : okN n) : Calls Try.prog 14 #[.int .i64 n] w fun e w' => ∃ p m, e = .returned (.tuple #[.pointer (some ⟨p, 0, none⟩), .int .i64 0]) ∧ AS w' p m (newS n) ∧ w.heap.size ≤ p ∧ w.heap.size ≤ m ∧ Below w.heap.size w w' :=
  (new_yes n w hn).mono fun _ _ ⟨p, m, h1, h2, h3, h4, h5⟩ => ⟨p, m, h1, ⟨h2, AGood.new hn⟩, h3, h4, h5⟩
theorem base_S (h : AS w p m s) : Calls Try.prog 17 #[.pointer (some ⟨p, 0, none⟩)] w fun e w' => e = .returned (.int .i64 s.base) ∧ w = w' :=
  base_any p m _ _ _ _ _ w h.at_ h.pos
theorem promised_S (h : AS w p m s) : Calls Try.prog 15 #[.pointer (some ⟨p, 0, none⟩)] w fun e w' => e = .returned (balV s.r s.d) ∧ Below w.heap.size w w' :=
  promised_any p m _ _ _ _ _ w h.at_ h.pos
theorem accepted_S (k : Int) (h : AS w p m s) (hk : in64 k) : Calls Try.prog 22 #[.pointer (some ⟨p, 0, none⟩), .int .i64 k] w fun e w' => e = .returned (accdV k s.L) ∧ Below w.heap.size w w' :=
  accepted_any p m _ _ _ _ k _ w h.at_ h.pos hk
theorem list_S (k : Int) (h : AS w p m s) : Calls Try.prog 16 #[.pointer (some ⟨p, 0, none⟩), .int .i64 k] w fun e w' => ∃ v, e = .returned v ∧ EntRow w' w.heap.size v (listL k s.L) ∧ Below w.heap.size w w' :=
  list_any p m _ _ _ _ k _ w h.at_ h.pos (by have := h.good.len; omega) (in_of_good h.good)
theorem copy_S (h : AS w p m s) : Calls Try.prog 28 #[.pointer (some ⟨p, 0, none⟩)] w fun e w' => ∃ p' m', e = .returned (.pointer (some ⟨p', 0, none⟩)) ∧ AS w' p' m' s ∧ w.heap.size ≤ p' ∧ w.heap.size ≤ m' ∧ Below w.heap.size w w' :=
  (copy_any p m _ _ _ _ _ w h.at_ h.pos).mono fun _ _ ⟨p', m', h1, h2, h3, h4, h5⟩ => ⟨p', m', h1, ⟨h2, h.good⟩, h3, h4, h5⟩

/-- The list that Promise answers. -/
def prL (s : ASt) (r1 d1 k : Int) : EL := if prE s r1 d1 k = 0 then listL k s.L else []
theorem promise_S (r1 d1 k : Int) (h : AS w p m s) : Calls Try.prog 18 #[.pointer (some ⟨p, 0, none⟩), balV r1 d1, .int .i64 k] w fun e w' =>
    ∃ v, e = .returned (.tuple #[v, .int .i64 (prE s r1 d1 k)]) ∧ EntRow w' w.heap.size v (prL s r1 d1 k) ∧ AS w' p m (prS s r1 d1 k) ∧ Fr (S1 p) w w' := by
  by_cases hE : prE s r1 d1 k = 0
  · refine (promise_yes p m _ s.r s.d _ r1 d1 k _ w h.at_ h.pos hE (by have := h.good.len; omega) (in_of_good h.good)).mono ?_
    rintro e w' ⟨v, rfl, h1, h2, h3⟩
    refine ⟨v, by rw [hE], by simp only [prL, if_pos hE]; exact h1, ⟨?_, h.good.prom r1 d1 k⟩, h3⟩
    simp only [prS, if_pos hE]
    exact h2
  · refine (promise_bad p m _ s.r s.d _ r1 d1 k _ w h.at_ h.pos hE).mono ?_
    rintro e w' ⟨rfl, h1⟩
    refine ⟨_, rfl, by simp only [prL, if_neg hE]; exact EntRow.nil _ _, ?_, Fr.of_below h1⟩
    simp only [prS, if_neg hE]
    exact h.below h1
theorem accept_S (r1 d1 k : Int) (v : ByteArray) (h : AS w p m s) : Calls Try.prog 19 #[.pointer (some ⟨p, 0, none⟩), balV r1 d1, .int .i64 k, .string v] w fun e w' =>
    e = .returned (.int .i64 (acE s r1 d1 k v)) ∧ AS w' p m (acS s r1 d1 k v) ∧ Fr (S2 p m) w w' := by
  by_cases hE : acE s r1 d1 k v = 0
  · refine (accept_yes p m _ s.r s.d s.base r1 d1 k v _ w h.at_ h.pos hE (by have := h.good.len; omega)).mono ?_
    rintro e w' ⟨rfl, h2, h3⟩
    refine ⟨by rw [hE], ⟨?_, h.good.acc r1 d1 k v⟩, h3⟩
    simp only [acS, if_pos hE]
    exact h2
  · refine (accept_bad p m _ s.r s.d s.base r1 d1 k v _ w h.at_ h.pos hE).mono ?_
    rintro e w' ⟨rfl, h1⟩
    refine ⟨rfl, ?_, Fr.of_below h1⟩
    simp only [acS, if_neg hE]
    exact h.below h1
theorem forget_bad (k : Int) (h : AS w p m s) (hk : k < 0 ∨ 4096 < k) : Calls Try.prog 20 #[.pointer (some ⟨p, 0, none⟩), .int .i64 k] w fun e w' => e = .returned (.int .i64 2) ∧ Below w.heap.size w w' := by
  have h1 := h.at_.alloc (.cells #[.int .i64 k] 3)
  have b1 := Blk.new w 3 #[.int .i64 k]
  have c0 := h1.c0
  have e0 := b1.cell (i := 0) (v := .int .i64 k) rfl
  have hn := h.pos
  have hb := box_below w (.cells #[.int .i64 k] 3)
  clear h h1 b1
  by_cases hk0 : k < 0
  · clear hk
    go_enter Try.func20, Try.ntmps20
    go_wp2_with (go_at_call 38; refine (avalid p _ _ c0 hn).mono ?_; rintro e w' ⟨rfl, rfl⟩)
    go_returns
    exact ⟨rfl, hb⟩
  · have hk1 : k > 4096 := by omega
    have hk0' : decide (k < 0) = false := by simpa using hk0
    clear hk hk0
    go_enter Try.func20, Try.ntmps20
    go_wp2_with (go_at_call 38; refine (avalid p _ _ c0 hn).mono ?_; rintro e w' ⟨rfl, rfl⟩)
    go_returns
    exact ⟨rfl, hb⟩
theorem forget_S (k : Int) (h : AS w p m s) : Calls Try.prog 20 #[.pointer (some ⟨p, 0, none⟩), .int .i64 k] w fun e w' =>
    e = .returned (.int .i64 (foE k)) ∧ AS w' p m (foS s k) ∧ Fr (S2 p m) w w' := by
  by_cases hk : k < 0 ∨ 4096 < k
  · have hE : foE k = 2 := by simp only [foE, if_pos hk]
    refine (forget_bad p m s w k h hk).mono ?_
    rintro e w' ⟨rfl, h1⟩
    refine ⟨by rw [hE], ?_, Fr.of_below h1⟩
    simp only [foS, hE]
    exact h.below h1
  · have hE : foE k = 0 := by simp only [foE, if_neg hk]
    refine (forget_yes p m _ _ _ _ k _ w h.at_ h.pos (by omega)).mono ?_
    rintro e w' ⟨rfl, h2, h3⟩
    refine ⟨by rw [hE], ⟨?_, h.good.forg k⟩, h3⟩
    simp only [foS, hE, if_true]
    exact h2
end
end Go.Proofs.Ytnbiihnfggcakaa
