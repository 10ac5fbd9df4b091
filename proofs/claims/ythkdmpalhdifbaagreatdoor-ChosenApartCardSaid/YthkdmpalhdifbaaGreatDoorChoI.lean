/- Package chosen: what is chosen at a slot, out of what gather tells: plain laws. -/
import Derived.Test.YthkdmpalhdifbaaGreatDoorChoGP
set_option linter.unusedVariables false
set_option linter.unusedSimpArgs false
namespace Go.Proofs.YthkdmpalhdifbaaGreatDoor
open Go.RowKit Go.Maps Go.Shelf Go.Sort Go.Lib

abbrev baOf (p : Pl × Sd) : Ba := (p.1.2.1, p.1.2.2)
/-- The place with the least ballot. -/
def pick1 : GA → Option (Pl × Sd)
  | [] => none
  | p :: r => match pick1 r with
    | none => some p
    | some q => if ordB (baOf q) (baOf p) < 0 then some q else some p
theorem pick1_none : ∀ {A : GA}, pick1 A = none ↔ A = []
  | [] => by simp [pick1]
  | p :: r => by
    unfold pick1
    cases pick1 r with
    | none => simp
    | some q => simp only; split <;> simp
theorem pick1_some : ∀ {A : GA} {p : Pl × Sd}, pick1 A = some p → p ∈ A ∧ ∀ q ∈ A, ¬ ordB (baOf q) (baOf p) < 0
  | [], p, h => by simp [pick1] at h
  | x :: r, p, h => by
    unfold pick1 at h
    cases hr : pick1 r with
    | none =>
      rw [hr] at h
      obtain rfl := Option.some.inj h
      rw [pick1_none.1 hr]
      refine ⟨by simp, fun q hq => ?_⟩
      simp at hq
      subst hq
      exact ordB_irr _
    | some y =>
      rw [hr] at h
      simp only at h
      obtain ⟨h1, h2⟩ := pick1_some hr
      by_cases hc : ordB (baOf y) (baOf x) < 0
      · rw [if_pos hc] at h
        obtain rfl := Option.some.inj h
        refine ⟨by simp [h1], fun q hq => ?_⟩
        rcases List.mem_cons.1 hq with rfl | hq
        · rw [ordB_lt] at *; omega
        · exact h2 q hq
      · rw [if_neg hc] at h
        obtain rfl := Option.some.inj h
        refine ⟨by simp, fun q hq => ?_⟩
        rcases List.mem_cons.1 hq with rfl | hq
        · exact ordB_irr _
        · have := h2 q hq; rw [ordB_lt] at *; omega
/-- The value that is chosen at a slot. -/
def pickV (n : Nat) (A : GA) (s : Int) : Option ByteArray := (pick1 (atS n s A)).map (·.2.1)
theorem least_unique {n : Nat} {A : GA} {s : Int} {p q : Pl × Sd} (hd : Dst A) (hp : p ∈ atS n s A) (hq : q ∈ atS n s A) (h1 : ¬ ordB (baOf q) (baOf p) < 0) (h2 : ¬ ordB (baOf p) (baOf q) < 0) : p = q := by
  obtain ⟨hp1, hp2, _⟩ := mem_atS.1 hp
  obtain ⟨hq1, hq2, _⟩ := mem_atS.1 hq
  obtain ⟨⟨a, b, c⟩, x⟩ := p
  obtain ⟨⟨a', b', c'⟩, y⟩ := q
  simp only [ordB_lt] at h1 h2 hp2 hq2
  have e1 : b = b' := by omega
  have e2 : c = c' := by omega
  subst e1 e2 hp2 hq2
  have g1 := getG_of_mem hd hp1
  have g2 := getG_of_mem hd hq1
  rw [g1] at g2
  rw [Option.some.inj g2]
theorem pok_val {n : Nat} {A : GA} {out : List En} {dif : Int} (h : POk n A out dif) (hd : Dst A) {e : En} (he : e ∈ out) : pickV n A ((e.1.val : Nat) : Int) = some e.2.2 := by
  obtain ⟨⟨x, hx⟩, hl⟩ := h.mem e he
  unfold pickV
  cases hp : pick1 (atS n ((e.1.val : Nat) : Int) A) with
  | none => rw [pick1_none] at hp; rw [hp] at hx; cases hx
  | some q =>
    obtain ⟨h1, h2⟩ := pick1_some hp
    have e2 := least_unique hd h1 hx (h2 _ hx) (hl q h1)
    rw [e2]
    rfl
theorem pok_no {n : Nat} {A : GA} {out : List En} {dif s : Int} (h : POk n A out dif) (he : ∀ e ∈ out, ((e.1.val : Nat) : Int) ≠ s) : pickV n A s = none := by
  unfold pickV
  rw [Option.map_eq_none_iff, pick1_none]
  cases hA : atS n s A with
  | nil => rfl
  | cons q r =>
    obtain ⟨e, h1, h2⟩ := h.all s q (by rw [hA]; simp)
    exact absurd h2 (he e h1)
/-! ### Whether a value is safe -/
def belowL (A : GA) (s : Int) (b : Ba) : List Ba := (A.filter fun p => decide (p.1.1 = s) && decide (ordB (baOf p) b < 0)).map baOf
/-- The walk from the greatest ballot down. -/
def safeW (n : Nat) (A : GA) (s : Int) (v : ByteArray) : Nat → List Ba → Bool
  | free, [] => maj free n
  | free, a :: r => let x := (getG (s, a.1, a.2) A).getD (⟨#[]⟩, 0)
    if maj free n = true ∧ x.2 &&& free ≠ 0 ∧ x.1 = v then true else safeW n A s v (free &&& (x.2 ^^^ 127)) r
def safeR (n : Nat) (A : GA) (s : Int) (b : Ba) (v : ByteArray) : Bool := safeW n A s v (2 ^ n - 1) ((belowL A s b).mergeSort leBa).reverse
/-! ### What gather tells -/
structure GOk (n : Nat) (A : GA) : Prop where
  set : ∀ p ∈ A, p.2.2 < 2 ^ n
  slot : ∀ p ∈ A, 0 ≤ p.1.1 ∧ p.1.1 < 4096
theorem GOk.nil (n : Nat) : GOk n [] := ⟨by simp, by simp⟩
theorem GOk.put {n : Nat} {A : GA} (hn : 1 ≤ n ∧ n ≤ 7) (h : GOk n A) {x : Vt} (ha : aloneB x n = true) : GOk n (gputA A x) := by
  obtain ⟨nd, r, d, sl, v⟩ := x
  obtain ⟨h1, h2, h3, h4, h5⟩ := alone_bd hn ha
  unfold gputA
  constructor
  · intro p hp
    rcases mem_putG.1 hp with rfl | ⟨hp, _⟩
    · refine bit_ltN ?_ (show nd.toNat < n by omega)
      cases hg : getG (sl, r, d) A with
      | none => exact Nat.two_pow_pos n
      | some e => exact h.set _ (getG_mem hg)
    · exact h.set p hp
  · intro p hp
    rcases mem_putG.1 hp with rfl | ⟨hp, _⟩
    · exact h4
    · exact h.slot p hp
theorem gwalk_ok {n : Nat} (hn : 1 ≤ n ∧ n ≤ 7) : ∀ {L : List Vt} {A B : GA} {T : GT} {i : Nat} {k : Int}, gwalk n A T i L = (some B, k) → GOk n A → GOk n B ∧ B.length ≤ A.length + L.length
  | [], A, B, T, i, k, h, hg => by
    unfold gwalk at h
    have e : A = B := Option.some.inj (Prod.mk.inj h).1
    subst e
    exact ⟨hg, by simp⟩
  | x :: r, A, B, T, i, k, h, hg => by
    unfold gwalk at h
    by_cases hc : aloneB x n = false ∨ gbad A T x
    · rw [if_pos hc] at h
      exact absurd (Prod.mk.inj h).1 (by simp)
    · rw [if_neg hc] at h
      have ha : aloneB x n = true := by
        cases h1 : aloneB x n with
        | false => exact absurd (.inl h1) hc
        | true => rfl
      obtain ⟨h1, h2⟩ := gwalk_ok hn h (hg.put hn ha)
      refine ⟨h1, ?_⟩
      have := putG_len (x.sl, x.r, x.d) (x.v, ((getG (x.sl, x.r, x.d) A).getD (⟨#[]⟩, 0)).2 ||| 2 ^ x.nd.toNat) A
      unfold gputA at h2
      simp only [List.length_cons]
      omega
theorem gwalk_dst {n : Int} : ∀ {L : List Vt} {A B : GA} {T : GT} {i : Nat} {k : Int}, gwalk n A T i L = (some B, k) → Dst A → Dst B
  | [], A, B, T, i, k, h, hg => by
    unfold gwalk at h
    have e : A = B := Option.some.inj (Prod.mk.inj h).1
    subst e
    exact hg
  | x :: r, A, B, T, i, k, h, hg => by
    unfold gwalk at h
    by_cases hc : aloneB x n = false ∨ gbad A T x
    · rw [if_pos hc] at h
      exact absurd (Prod.mk.inj h).1 (by simp)
    · rw [if_neg hc] at h
      exact gwalk_dst h (dst_put hg)
end Go.Proofs.YthkdmpalhdifbaaGreatDoor
