/- Plain laws for ClockRuns: ids are apart, what runs out when. -/
import Derived.Test.YtmojdafegljghaaClockO
set_option linter.unusedVariables false
set_option linter.unusedSimpArgs false
namespace Go.Proofs.Ytmojdafegljghaa
open Go.RowKit Go.Maps Go.Shelf

theorem or_odd (a : Int) : bits BinOp.or IntKind.i64 a 1 % 2 = 1 := by
  have h : ((BitVec.ofInt IntKind.i64.bits a ||| BitVec.ofInt IntKind.i64.bits 1).toNat) % 2 = 1 := by
    rw [BitVec.toNat_or, Nat.or_mod_two_eq_one]
    exact .inr (by decide)
  unfold bits
  simp only []
  generalize (BitVec.ofInt IntKind.i64.bits a ||| BitVec.ofInt IntKind.i64.bits 1).toNat = n at h ⊢
  simp [IntKind.wrap, IntKind.signed, IntKind.bits]
  omega

theorem odd_dvd {B : Int} (hB : B % 2 = 1) : ∀ (k : Nat) (d : Int), (2 : Int) ^ k ∣ d * B → (2 : Int) ^ k ∣ d
  | 0, d, _ => by simp
  | k + 1, d, h => by
    have h2 : (2 : Int) ∣ d * B := Int.dvd_trans ⟨2 ^ k, by rw [Int.pow_succ, Int.mul_comm]⟩ h
    have hd : d % 2 = 0 := by
      have h3 := Int.emod_eq_zero_of_dvd h2
      rw [Int.mul_emod, hB] at h3
      omega
    obtain ⟨e, rfl⟩ : ∃ e, d = 2 * e := ⟨d / 2, by omega⟩
    obtain ⟨c, hc⟩ := h
    have h4 : e * B = 2 ^ k * c := by
      have h5 : 2 * (e * B) = 2 * (2 ^ k * c) := by
        rw [← Int.mul_assoc, hc, Int.pow_succ, Int.mul_comm (2 ^ k) 2, Int.mul_assoc]
      omega
    obtain ⟨c', hc'⟩ := odd_dvd hB k e ⟨c, h4⟩
    exact ⟨c', by rw [hc', Int.pow_succ, Int.mul_comm (2 ^ k) 2, Int.mul_assoc]⟩

def idf (B : Int) (i : Nat) : Int := wrap64 ((i : Int) * B)
theorem idf_inj {B : Int} (hB : B % 2 = 1) {i j : Nat} (hi : i < 60) (hj : j < 60) (h : idf B i = idf B j) : i = j := by
  unfold idf wrap64 at h
  have h1 : ((i : Int) * B + 9223372036854775808) % 18446744073709551616 = ((j : Int) * B + 9223372036854775808) % 18446744073709551616 := by omega
  have h2 := Int.emod_eq_emod_iff_emod_sub_eq_zero.1 h1
  have h3 : (18446744073709551616 : Int) ∣ ((i : Int) - j) * B := by
    have := Int.dvd_of_emod_eq_zero h2
    rw [Int.sub_mul]
    have e : (i : Int) * B + 9223372036854775808 - ((j : Int) * B + 9223372036854775808) = (i : Int) * B - (j : Int) * B := by omega
    rw [← e]
    exact this
  have h4 : ((2 : Int) ^ 6) ∣ ((i : Int) - j) * B := Int.dvd_trans (by decide) h3
  have h5 := odd_dvd hB 6 _ h4
  omega
theorem idf_in (B : Int) (i : Nat) : in64 (idf B i) := by unfold idf wrap64 in64; omega

def due (zs : List Int) (i : Nat) : Int := 1 + zs.getD i 0 % 60
theorem due_lo (zs : List Int) (i : Nat) : 1 ≤ due zs i := by unfold due; omega
theorem due_hi (zs : List Int) (i : Nat) : due zs i ≤ 60 := by unfold due; omega
theorem due_at {zs : List Int} {i : Nat} {z : Int} (h : zs[i]? = some z) : due zs i = 1 + z % 60 := by unfold due; rw [List.getD_eq_getElem?_getD, h]; rfl

/-- The first k timers, those that have not run out at now. -/
def Runs (B : Int) (zs : List Int) (k : Nat) (now : Int) (M : List (Int × Int)) : Prop :=
  ∀ x e, get x M = some e ↔ ∃ i, i < k ∧ x = idf B i ∧ e = due zs i ∧ now < e
theorem Runs.start (B : Int) (zs : List Int) : Runs B zs 0 0 [] := fun x e => ⟨fun h => by simp [get] at h, fun ⟨i, h, _⟩ => absurd h (Nat.not_lt_zero _)⟩
theorem Runs.put {B : Int} {zs : List Int} {k : Nat} {M : List (Int × Int)} (h : Runs B zs k 0 M) (hB : B % 2 = 1) (hs : Srt M) (hk : k < 60) : Runs B zs (k + 1) 0 (put (idf B k) (0 + due zs k) M) := by
  intro x e
  by_cases hx : x = idf B k
  · subst hx
    rw [get_put_same hs]
    constructor
    · intro h1
      cases h1
      exact ⟨k, by omega, rfl, by omega, by have := due_lo zs k; omega⟩
    · rintro ⟨i, h1, h2, h3, h4⟩
      have e : k = i := idf_inj hB hk (by omega) h2
      subst e
      rw [h3, Int.zero_add]
  · rw [get_put_other hs hx, h x e]
    constructor
    · rintro ⟨i, h1, h2⟩
      exact ⟨i, by omega, h2⟩
    · rintro ⟨i, h1, h2, h3⟩
      refine ⟨i, ?_, h2, h3⟩
      have : i ≠ k := fun e => hx (by rw [h2, e])
      omega
theorem Runs.tick {B : Int} {zs : List Int} {k : Nat} {now : Int} {M : List (Int × Int)} (h : Runs B zs k now M) (hs : Srt M) : Runs B zs k (now + 1) (restT now M) := by
  intro x e
  unfold restT
  rw [get_filter hs, Option.bind_eq_some_iff]
  constructor
  · rintro ⟨e', h1, h2⟩
    simp only [Option.ite_none_right_eq_some, Bool.not_eq_true', decide_eq_false_iff_not] at h2
    obtain ⟨h2, h3⟩ := h2
    cases h3
    obtain ⟨i, q1, q2, q3, q4⟩ := (h x e).1 h1
    exact ⟨i, q1, q2, q3, by omega⟩
  · rintro ⟨i, q1, q2, q3, q4⟩
    refine ⟨e, (h x e).2 ⟨i, q1, q2, q3, by omega⟩, ?_⟩
    have : ¬ e ≤ now + 1 := by omega
    simp [this]
theorem Runs.out {B : Int} {zs : List Int} {k : Nat} {now : Int} {M : List (Int × Int)} (h : Runs B zs k now M) (hs : Srt M) (x : Int) : x ∈ outT now M ↔ ∃ i, i < k ∧ x = idf B i ∧ due zs i = now + 1 := by
  rw [mem_out hs]
  constructor
  · rintro ⟨e, h1, h2⟩
    obtain ⟨i, q1, q2, q3, q4⟩ := (h x e).1 h1
    exact ⟨i, q1, q2, by omega⟩
  · rintro ⟨i, q1, q2, q3⟩
    exact ⟨due zs i, (h x _).2 ⟨i, q1, q2, rfl, by omega⟩, by omega⟩
theorem Runs.get_yes {B : Int} {zs : List Int} {k : Nat} {now : Int} {M : List (Int × Int)} (h : Runs B zs k now M) {i : Nat} (hi : i < k) (hd : now < due zs i) : get (idf B i) M = some (due zs i) := (h _ _).2 ⟨i, hi, rfl, rfl, hd⟩
theorem Runs.get_no {B : Int} {zs : List Int} {k : Nat} {now : Int} {M : List (Int × Int)} (h : Runs B zs k now M) (hB : B % 2 = 1) (hk : k ≤ 60) {i : Nat} (hi : i < k) (hd : ¬ now < due zs i) : get (idf B i) M = none := by
  cases hg : get (idf B i) M with
  | none => rfl
  | some e =>
    obtain ⟨j, q1, q2, q3, q4⟩ := (h _ _).1 hg
    have : i = j := idf_inj hB (by omega) (by omega) q2
    subst this
    omega
theorem Runs.empty {B : Int} {zs : List Int} {k : Nat} {now : Int} {M : List (Int × Int)} (h : Runs B zs k now M) (hs : Srt M) (hn : 60 ≤ now) : M = [] := by
  cases M with
  | nil => rfl
  | cons p r =>
    obtain ⟨i, _, _, q3, q4⟩ := (h p.1 p.2).1 (get_of_mem hs (List.mem_cons_self ..))
    have := due_hi zs i
    omega

/-- How many of the first i are due at n. -/
def cnt (zs : List Int) (n : Int) (i : Nat) : Nat := ((List.range i).filter fun j => decide (due zs j = n)).length
theorem cnt_zero (zs : List Int) (n : Int) : cnt zs n 0 = 0 := rfl
theorem cnt_yes {zs : List Int} {n : Int} {i : Nat} (h : due zs i = n) : cnt zs n (i + 1) = cnt zs n i + 1 := by
  unfold cnt; rw [List.range_succ, List.filter_append, List.length_append]; simp [h]
theorem cnt_no {zs : List Int} {n : Int} {i : Nat} (h : due zs i ≠ n) : cnt zs n (i + 1) = cnt zs n i := by
  unfold cnt; rw [List.range_succ, List.filter_append, List.length_append]; simp [h]
theorem cnt_le (zs : List Int) (n : Int) (i : Nat) : cnt zs n i ≤ i := by
  unfold cnt; have := List.length_filter_le (fun j => decide (due zs j = n)) (List.range i); simp at this; exact this
theorem out_sorted {now : Int} {M : List (Int × Int)} (hs : Srt M) : (outT now M).Pairwise (· < ·) := keys_sorted (List.Pairwise.filter _ hs)
theorem out_at {now : Int} {M : List (Int × Int)} (hs : Srt M) {k : Nat} {x y : Int} (hy : (outT now M)[k]? = some y) (hx : (outT now M)[k + 1]? = some x) : y < x := by
  obtain ⟨h1, e1⟩ := List.getElem?_eq_some_iff.1 hy
  obtain ⟨h2, e2⟩ := List.getElem?_eq_some_iff.1 hx
  have := List.pairwise_iff_getElem.1 (out_sorted (now := now) hs) k (k + 1) h1 h2 (by omega)
  rw [e1, e2] at this
  exact this
theorem Runs.count {B : Int} {zs : List Int} {k : Nat} {now : Int} {M : List (Int × Int)} (h : Runs B zs k now M) (hB : B % 2 = 1) (hs : Srt M) (hk : k ≤ 60) : cnt zs (now + 1) k = (outT now M).length := by
  have hn1 : (outT now M).Nodup := (out_sorted (now := now) hs).imp fun h => by omega
  have hmap : (((List.range k).filter fun j => decide (due zs j = now + 1)).map (idf B)).Nodup := by
    rw [List.nodup_iff_pairwise_ne, List.pairwise_map]
    refine List.Pairwise.imp_of_mem ?_ (List.Pairwise.filter _ (List.nodup_iff_pairwise_ne.1 List.nodup_range))
    intro a b ha hb hab e
    have h1 := List.mem_range.1 (List.mem_filter.1 ha).1
    have h2 := List.mem_range.1 (List.mem_filter.1 hb).1
    exact hab (idf_inj hB (by omega) (by omega) e)
  have hmem : ∀ x, x ∈ ((List.range k).filter fun j => decide (due zs j = now + 1)).map (idf B) ↔ x ∈ outT now M := by
    intro x
    rw [h.out hs x, List.mem_map]
    constructor
    · rintro ⟨i, h1, rfl⟩
      obtain ⟨h2, h3⟩ := List.mem_filter.1 h1
      exact ⟨i, List.mem_range.1 h2, rfl, by simpa using h3⟩
    · rintro ⟨i, h1, rfl, h3⟩
      exact ⟨i, List.mem_filter.2 ⟨List.mem_range.2 h1, by simpa using h3⟩, rfl⟩
  have l1 := nodup_length hmap (fun x hx => (hmem x).1 hx)
  have l2 := nodup_length hn1 (fun x hx => (hmem x).2 hx)
  rw [List.length_map] at l1 l2
  unfold cnt
  omega
end Go.Proofs.Ytmojdafegljghaa
