/- Proposers and acceptors at one slot: what a majority accepts stays (the plain law of AcceptAgrees). -/
import Derived.Test.YtnbiihnfggcakaaAccU
import Derived.Test.YtnbiihnfggcakaaQuorum
set_option linter.unusedVariables false
set_option linter.unusedSimpArgs false
namespace Go.Proofs.Ytnbiihnfggcakaa
open Go.RowKit Go.Maps Go.Shelf

/-! ### Sets of nodes -/
theorem maj_meet0 : ∀ n : Nat, n < 6 → ∀ a : Nat, a < 2 ^ n → ∀ b : Nat, b < 2 ^ n → maj a n = true → maj b n = true → ((List.range n).any fun i => a.testBit i && b.testBit i) = true := by decide +kernel
theorem maj_meet (n : Nat) (hn : n ≤ 5) (a : Nat) (ha : a < 2 ^ n) (b : Nat) (hb : b < 2 ^ n) (h1 : maj a n = true) (h2 : maj b n = true) : ∃ i, i < n ∧ a.testBit i = true ∧ b.testBit i = true := by
  have := maj_meet0 n (by omega) a ha b hb h1 h2
  rw [List.any_eq_true] at this
  obtain ⟨i, hi, h⟩ := this
  simp at hi h
  exact ⟨i, hi, h.1, h.2⟩
theorem maj_some (n : Nat) (hn : n ≤ 5) (a : Nat) (ha : a < 2 ^ n) (h1 : maj a n = true) : ∃ i, i < n ∧ a.testBit i = true := by
  obtain ⟨i, h, h2, _⟩ := maj_meet n hn a ha a ha h1 h1
  exact ⟨i, h, h2⟩
theorem bit_lt {n a i : Nat} (ha : a < 2 ^ n) (hi : i < n) : a ||| 2 ^ i < 2 ^ n := Nat.or_lt_two_pow ha (Nat.pow_lt_pow_right (by decide) hi)
theorem bit_or (a i j : Nat) : (a ||| 2 ^ i).testBit j = (a.testBit j || decide (i = j)) := by
  rw [Nat.testBit_or, Nat.testBit_two_pow]
theorem maj_grow0 : ∀ n : Nat, n < 6 → ∀ a : Nat, a < 2 ^ n → ∀ i : Nat, i < n → maj a n = true → maj (a ||| 2 ^ i) n = true := by decide +kernel
theorem maj_grow (n : Nat) (hn : n ≤ 5) (a : Nat) (ha : a < 2 ^ n) (i : Nat) (hi : i < n) (h : maj a n = true) : maj (a ||| 2 ^ i) n = true := maj_grow0 n (by omega) a ha i hi h

/-! ### The core -/
structure Core (n : Nat) (told votes b p : Nat → Nat) (V bv : Nat → ByteArray) (own : Nat → ByteArray) (e : Nat → Option (Nat × ByteArray)) : Prop where
  tl : ∀ k, told k < 2 ^ n
  vl : ∀ k, votes k < 2 ^ n
  v : ∀ k, V k = if b k = 0 then own k else bv k
  ent : ∀ a k v, e a = some (k, v) → k < 12 ∧ k + 1 ≤ p a ∧ maj (told k) n = true ∧ v = V k
  best : ∀ k, b k ≤ k ∧ ∀ j, b k = j + 1 → maj (told j) n = true ∧ bv k = V j
  t1 : ∀ k a, (told k).testBit a = true → k + 1 ≤ p a
  t2 : ∀ k a, (votes k).testBit a = true → maj (told k) n = true ∧ k + 1 ≤ p a ∧ ∃ j v, e a = some (j, v) ∧ k ≤ j
  t3 : ∀ k a j, (told k).testBit a = true → j < k → (votes j).testBit a = true → j + 1 ≤ b k

def upd {α : Type} (f : Nat → α) (i : Nat) (x : α) : Nat → α := fun j => if j = i then x else f j
theorem upd_same {α : Type} (f : Nat → α) (i : Nat) (x : α) : upd f i x i = x := by simp [upd]
theorem upd_ne {α : Type} (f : Nat → α) {i j : Nat} (x : α) (h : j ≠ i) : upd f i x j = f j := by simp [upd, h]

namespace Core
variable {n : Nat} {told votes b p : Nat → Nat} {V bv own : Nat → ByteArray} {e : Nat → Option (Nat × ByteArray)}
/-- What a majority voted for, every later proposer proposes. -/
theorem agree (h : Core n told votes b p V bv own e) (hn : n ≤ 5) {j : Nat} (hj : maj (votes j) n = true) : ∀ k, j < k → maj (told k) n = true → V k = V j := by
  intro k
  induction k using Nat.strongRecOn with
  | _ k ih =>
    intro hjk hk
    obtain ⟨a, _, h1, h2⟩ := maj_meet n hn (told k) (h.tl k) (votes j) (h.vl j) hk hj
    have hb := h.t3 k a j h1 hjk h2
    obtain ⟨hle, hb2⟩ := h.best k
    obtain ⟨i, hi⟩ : ∃ i, b k = i + 1 := ⟨b k - 1, by omega⟩
    obtain ⟨hmi, hvi⟩ := hb2 i hi
    rw [h.v k, if_neg (by omega), hvi]
    by_cases hij : i = j
    · rw [hij]
    · exact ih i (by omega) (by omega) hmi
theorem agree2 (h : Core n told votes b p V bv own e) (hn : n ≤ 5) {j k : Nat} (hj : maj (votes j) n = true) (hk : maj (votes k) n = true) : V j = V k := by
  have ej : maj (told j) n = true := by
    obtain ⟨a, _, h2⟩ := maj_some n hn (votes j) (h.vl j) hj
    exact (h.t2 j a h2).1
  have ek : maj (told k) n = true := by
    obtain ⟨a, _, h2⟩ := maj_some n hn (votes k) (h.vl k) hk
    exact (h.t2 k a h2).1
  rcases Nat.lt_trichotomy j k with hjk | rfl | hjk
  · exact (h.agree hn hj k hjk ek).symm
  · rfl
  · exact h.agree hn hk j hjk ej
/-- A promise that counts no more. -/
theorem prom1 (h : Core n told votes b p V bv own e) {a k : Nat} (hp : p a ≤ k + 1) : Core n told votes b (upd p a (k + 1)) V bv own e := by
  have hm : ∀ x, p x ≤ upd p a (k + 1) x := fun x => by unfold upd; split <;> (try subst_vars) <;> omega
  refine ⟨h.tl, h.vl, h.v, fun x j v hx => ?_, h.best, fun j x hx => Nat.le_trans (h.t1 j x hx) (hm x), fun j x hx => ?_, h.t3⟩
  · obtain ⟨h1, h2, h3⟩ := h.ent x j v hx
    exact ⟨h1, Nat.le_trans h2 (hm x), h3⟩
  · obtain ⟨h1, h2, h3⟩ := h.t2 j x hx
    exact ⟨h1, Nat.le_trans h2 (hm x), h3⟩
/-- A promise that is told: nothing accepted, or something not greater. -/
theorem told_keep (h : Core n told votes b p V bv own e) (hn : n ≤ 5) {a k : Nat} (ha : a < n) (hp : p a ≤ k + 1) (hk : maj (told k) n = false) (he : ∀ j v, e a = some (j, v) → j + 1 ≤ b k) :
    Core n (upd told k (told k ||| 2 ^ a)) votes b (upd p a (k + 1)) V bv own e := by
  have hm : ∀ x, p x ≤ upd p a (k + 1) x := fun x => by unfold upd; split <;> (try subst_vars) <;> omega
  have hmaj : ∀ j, maj (told j) n = true → maj (upd told k (told k ||| 2 ^ a) j) n = true := fun j hj => by
    unfold upd
    split
    · subst_vars; exact maj_grow n hn _ (h.tl _) a ha hj
    · exact hj
  refine ⟨fun j => ?_, h.vl, h.v, fun x j v hx => ?_, fun j => ⟨(h.best j).1, fun i hi => ⟨hmaj i ((h.best j).2 i hi).1, ((h.best j).2 i hi).2⟩⟩, fun j x hx => ?_, fun j x hx => ?_, fun j x i hx hij hv => ?_⟩
  · unfold upd
    split
    · exact bit_lt (h.tl k) ha
    · exact h.tl j
  · obtain ⟨h1, h2, h3, h4⟩ := h.ent x j v hx
    exact ⟨h1, Nat.le_trans h2 (hm x), hmaj j h3, h4⟩
  · by_cases hjk : j = k
    · subst hjk
      rw [upd_same, bit_or] at hx
      by_cases hxa : a = x
      · subst hxa; rw [upd_same]; omega
      · simp [hxa] at hx
        exact Nat.le_trans (h.t1 j x hx) (hm x)
    · rw [upd_ne _ _ hjk] at hx
      exact Nat.le_trans (h.t1 j x hx) (hm x)
  · obtain ⟨h1, h2, h3⟩ := h.t2 j x hx
    exact ⟨hmaj j h1, Nat.le_trans h2 (hm x), h3⟩
  · by_cases hjk : j = k
    · subst hjk
      rw [upd_same, bit_or] at hx
      by_cases hxa : a = x
      · subst hxa
        obtain ⟨_, _, i', v', hi1, hi2⟩ := h.t2 i a hv
        have := he i' v' hi1
        omega
      · simp [hxa] at hx
        exact h.t3 j x i hx hij hv
    · rw [upd_ne _ _ hjk] at hx
      exact h.t3 j x i hx hij hv
/-- .. or something greater: it takes the place of the best one. -/
theorem told_best (h : Core n told votes b p V bv own e) (hn : n ≤ 5) {a k j : Nat} {v : ByteArray} (ha : a < n) (hp : p a ≤ k + 1) (hk : maj (told k) n = false) (he : e a = some (j, v)) (hj : b k < j + 1) :
    Core n (upd told k (told k ||| 2 ^ a)) votes (upd b k (j + 1)) (upd p a (k + 1)) (upd V k v) (upd bv k v) own e := by
  obtain ⟨_, hjp, hmj, hvj⟩ := h.ent a j v he
  have hjk : j ≠ k := fun e => by subst e; rw [hk] at hmj; exact absurd hmj (by decide)
  have hm : ∀ x, p x ≤ upd p a (k + 1) x := fun x => by unfold upd; split <;> (try subst_vars) <;> omega
  have hne : ∀ i, maj (told i) n = true → i ≠ k := fun i hi e => by subst e; rw [hk] at hi; exact absurd hi (by decide)
  have hmaj : ∀ i, maj (told i) n = true → maj (upd told k (told k ||| 2 ^ a) i) n = true := fun i hi => by rw [upd_ne _ _ (hne i hi)]; exact hi
  refine ⟨fun i => ?_, h.vl, fun i => ?_, fun x i u hx => ?_, fun i => ?_, fun i x hx => ?_, fun i x hx => ?_, fun i x l hx hil hv => ?_⟩
  · unfold upd
    split
    · exact bit_lt (h.tl k) ha
    · exact h.tl i
  · by_cases hik : i = k
    · subst hik; rw [upd_same, upd_same, upd_same, if_neg (by omega)]
    · rw [upd_ne _ _ hik, upd_ne _ _ hik, upd_ne _ _ hik]; exact h.v i
  · obtain ⟨h1, h2, h3, h4⟩ := h.ent x i u hx
    refine ⟨h1, Nat.le_trans h2 (hm x), hmaj i h3, ?_⟩
    rw [upd_ne _ _ (hne i h3)]
    exact h4
  · by_cases hik : i = k
    · subst hik
      rw [upd_same, upd_same]
      refine ⟨by omega, fun l hl => ?_⟩
      have : l = j := by omega
      subst this
      refine ⟨hmaj l hmj, ?_⟩
      rw [upd_ne _ _ hjk]
      exact hvj
    · rw [upd_ne _ _ hik, upd_ne _ _ hik]
      refine ⟨(h.best i).1, fun l hl => ?_⟩
      obtain ⟨h1, h2⟩ := (h.best i).2 l hl
      refine ⟨hmaj l h1, ?_⟩
      rw [upd_ne _ _ (hne l h1)]
      exact h2
  · by_cases hik : i = k
    · subst hik
      rw [upd_same, bit_or] at hx
      by_cases hxa : a = x
      · subst hxa; rw [upd_same]; omega
      · simp [hxa] at hx
        exact Nat.le_trans (h.t1 i x hx) (hm x)
    · rw [upd_ne _ _ hik] at hx
      exact Nat.le_trans (h.t1 i x hx) (hm x)
  · obtain ⟨h1, h2, h3⟩ := h.t2 i x hx
    exact ⟨hmaj i h1, Nat.le_trans h2 (hm x), h3⟩
  · by_cases hik : i = k
    · subst hik
      rw [upd_same, bit_or] at hx
      rw [upd_same]
      by_cases hxa : a = x
      · subst hxa
        obtain ⟨_, _, i', v', hi1, hi2⟩ := h.t2 l a hv
        rw [he] at hi1
        cases hi1
        omega
      · simp [hxa] at hx
        have := h.t3 i x l hx hil hv
        omega
    · rw [upd_ne _ _ hik] at hx ⊢
      exact h.t3 i x l hx hil hv
/-- A vote. -/
theorem vote (h : Core n told votes b p V bv own e) (hn : n ≤ 5) {a k : Nat} (ha : a < n) (hk12 : k < 12) (hp : p a ≤ k + 1) (hk : maj (told k) n = true) :
    Core n told (upd votes k (votes k ||| 2 ^ a)) b (upd p a (k + 1)) V bv own (upd e a (some (k, V k))) := by
  have hm : ∀ x, p x ≤ upd p a (k + 1) x := fun x => by unfold upd; split <;> (try subst_vars) <;> omega
  have hold : ∀ i x, (votes i).testBit x = true → maj (told i) n = true ∧ i + 1 ≤ upd p a (k + 1) x ∧ ∃ j v, upd e a (some (k, V k)) x = some (j, v) ∧ i ≤ j := fun i x hx => by
    obtain ⟨h1, h2, j, v, h3, h4⟩ := h.t2 i x hx
    refine ⟨h1, Nat.le_trans h2 (hm x), ?_⟩
    by_cases hxa : x = a
    · subst hxa
      rw [upd_same]
      exact ⟨k, V k, rfl, by omega⟩
    · rw [upd_ne _ _ hxa]
      exact ⟨j, v, h3, h4⟩
  refine ⟨h.tl, fun i => ?_, h.v, fun x i u hx => ?_, h.best, fun i x hx => Nat.le_trans (h.t1 i x hx) (hm x), fun i x hx => ?_, fun i x l hx hil hv => ?_⟩
  · unfold upd
    split
    · exact bit_lt (h.vl k) ha
    · exact h.vl i
  · by_cases hxa : x = a
    · subst hxa
      rw [upd_same] at hx
      cases hx
      rw [upd_same]
      exact ⟨hk12, Nat.le_refl _, hk, rfl⟩
    · rw [upd_ne _ _ hxa] at hx ⊢
      exact h.ent x i u hx
  · by_cases hik : i = k
    · subst hik
      rw [upd_same, bit_or] at hx
      by_cases hxa : a = x
      · subst hxa
        rw [upd_same, upd_same]
        exact ⟨hk, Nat.le_refl _, i, V i, rfl, Nat.le_refl _⟩
      · simp [hxa] at hx
        exact hold i x hx
    · rw [upd_ne _ _ hik] at hx
      exact hold i x hx
  · by_cases hlk : l = k
    · subst hlk
      rw [upd_same, bit_or] at hv
      by_cases hxa : a = x
      · subst hxa
        have := h.t1 i a hx
        omega
      · simp [hxa] at hv
        exact h.t3 i x l hx hil hv
    · rw [upd_ne _ _ hlk] at hv
      exact h.t3 i x l hx hil hv
end Core
end Go.Proofs.Ytnbiihnfggcakaa
