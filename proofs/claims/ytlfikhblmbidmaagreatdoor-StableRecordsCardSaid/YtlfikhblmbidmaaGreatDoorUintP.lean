/- Numbers as the reference reads them: plain. -/
import Derived.Test.YtlfikhblmbidmaaGreatDoorMrgA
set_option linter.unusedVariables false
set_option linter.unusedSimpArgs false
namespace Go.Proofs.YtlfikhblmbidmaaGreatDoor

def digs : List UInt8 → Nat
  | [] => 0
  | c :: r => c.toNat % 128 + 128 * digs r
theorem digs_snoc (c : UInt8) : ∀ l : List UInt8, digs (l ++ [c]) = digs l + c.toNat % 128 * 128 ^ l.length
  | [] => by simp [digs]
  | x :: r => by
    rw [List.cons_append, digs, digs_snoc c r, digs, List.length_cons, Nat.pow_succ, Nat.mul_add]
    have : 128 * (c.toNat % 128 * 128 ^ r.length) = c.toNat % 128 * (128 ^ r.length * 128) := by
      rw [Nat.mul_comm 128, Nat.mul_assoc]
    omega
theorem digs_uint : ∀ (f n : Nat), n < f → digs (uintB n) = n
  | 0, n, h => by omega
  | f + 1, n, h => by
    by_cases h1 : n < 128
    · rw [uintB_lt h1]
      simp only [digs, UInt8.toNat_ofNat']
      omega
    · rw [uintB_ge h1]
      have ih := digs_uint f (n / 128) (by omega)
      simp only [digs, UInt8.toNat_ofNat', ih]
      omega
/-- All bytes of a number but the last are at least 128. -/
theorem uint_bytes : ∀ (f n : Nat), n < f → ∃ l c, uintB n = l ++ [c] ∧ c.toNat < 128 ∧ ∀ x ∈ l, 128 ≤ x.toNat
  | 0, n, h => by omega
  | f + 1, n, h => by
    by_cases h1 : n < 128
    · exact ⟨[], UInt8.ofNat n, by rw [uintB_lt h1]; rfl, by rw [UInt8.toNat_ofNat']; omega, by simp⟩
    · obtain ⟨l, c, he, hc, hl⟩ := uint_bytes f (n / 128) (by omega)
      refine ⟨UInt8.ofNat (n % 128 + 128) :: l, c, by rw [uintB_ge h1, he]; rfl, hc, fun x hx => ?_⟩
      rcases List.mem_cons.1 hx with rfl | hx
      · rw [UInt8.toNat_ofNat']; omega
      · exact hl x hx
theorem ref_yes {b : List UInt8} {i M : Nat} (h : b.take (i + 1) = uintB M) (hM : M < 18446744073709551616) : rdU (some b) = (M, some (b.drop (i + 1))) := by
  have := rdU_enc hM (b.drop (i + 1))
  rwa [← h, List.take_append_drop] at this
/-- There is a number, or none. -/
theorem rdU_none_of {b : List UInt8} (h : ∀ n r, n < 18446744073709551616 → b ≠ uintB n ++ r) : rdU (some b) = (0, none) := by
  cases hu : rdU (some b) with
  | mk n s =>
    cases s with
    | some r =>
      obtain ⟨h1, h2⟩ := rdU_dec hu
      exact absurd (Option.some.inj h2) (h n r h1)
    | none =>
      simp only [rdU] at hu
      cases hn : numB 0 0 b with
      | none => rw [hn] at hu; simp at hu; rw [← hu]
      | some x => rw [hn] at hu; simp at hu
/-- Where the number's last byte lies. -/
theorem uint_at {b r : List UInt8} {n : Nat} (h : b = uintB n ++ r) : ∃ k c, (uintB n).length = k + 1 ∧ b[k]? = some c ∧ c.toNat < 128 ∧ (∀ j c, j < k → b[j]? = some c → 128 ≤ c.toNat) ∧ b.take (k + 1) = uintB n := by
  obtain ⟨l, c, he, hc, hl⟩ := uint_bytes (n + 1) n (by omega)
  have hlen : (uintB n).length = l.length + 1 := by rw [he]; simp
  refine ⟨l.length, c, hlen, ?_, hc, fun j x hj hx => ?_, ?_⟩
  · rw [h, he]
    simp
  · rw [h, he, List.append_assoc, List.getElem?_append_left hj] at hx
    exact hl x (List.mem_of_getElem? hx)
  · rw [h, ← hlen]
    simp
theorem ref_no {b : List UInt8} {i : Nat} {c : UInt8} (hi : b[i]? = some c) (hlow : ∀ j x, j < i → b[j]? = some x → 128 ≤ x.toNat) (hc : c.toNat < 128) (hne : ¬ uintB (digs (b.take (i + 1)) % 18446744073709551616) = b.take (i + 1)) : rdU (some b) = (0, none) := by
  refine rdU_none_of fun n r hn he => ?_
  obtain ⟨k, x, hlen, hk, hx, hl, ht⟩ := uint_at he
  have hki : k = i := by
    rcases Nat.lt_trichotomy k i with h | h | h
    · have := hlow k x h hk; omega
    · exact h
    · have := hl i c h hi; omega
  subst hki
  refine hne ?_
  rw [ht, digs_uint (n + 1) n (by omega), Nat.mod_eq_of_lt hn]
theorem ref_end {b : List UInt8} {i : Nat} (hlow : ∀ j x, j < i → b[j]? = some x → 128 ≤ x.toNat) (hend : b.length ≤ i ∨ 10 ≤ i) : rdU (some b) = (0, none) := by
  refine rdU_none_of fun n r hn he => ?_
  obtain ⟨k, x, hlen, hk, hx, hl, ht⟩ := uint_at he
  have h10 := uintB_len10 hn
  have hkb : k < b.length := (List.getElem?_eq_some_iff.1 hk).1
  have := hlow k x (by omega) hk
  omega
/-- One byte more. -/
theorem digs_step {b : List UInt8} {i : Nat} {c : UInt8} (h : b[i]? = some c) : digs (b.take (i + 1)) = digs (b.take i) + c.toNat % 128 * 128 ^ i := by
  have hi : i < b.length := (List.getElem?_eq_some_iff.1 h).1
  rw [List.take_add_one, h]
  show digs (b.take i ++ [c]) = _
  rw [digs_snoc, List.length_take, Nat.min_eq_left (by omega)]
end Go.Proofs.YtlfikhblmbidmaaGreatDoor
