/- slices.Compact of a row of strings: how long it is. -/
import Derived.Test.YthkdmpalhdifbaaGreatDoorChoE
import Derived.Lib.SlicesCompact
set_option linter.unusedVariables false
set_option linter.unusedSimpArgs false
namespace Go.Proofs.YthkdmpalhdifbaaGreatDoor
open Go.RowKit Go.Shelf Go.Sort Go.Lib

theorem compact_any (lo : Nat) (v : Value) (xs : List (List UInt8)) (w : World) (h : StrRow w lo v xs) (hlen : xs.length ≤ 1000000) :
    Calls Tryz.prog 67 #[v] w fun e w' => (∃ A cap, e = .returned (.slice A (Lib.compact xs).length cap)) ∧ w.grownBy w' v.ownBlock := by
  rcases h.2 with ⟨rfl, hn⟩ | ⟨g, cap, cur, rfl, hb, hg, hle, hcap, hsz, htake⟩
  · have hx : xs = [] := List.length_eq_zero_iff.1 hn
    subst hx
    refine (Tryz.slices_Compact_string_empty none 0 w).mono ?_
    rintro e w' ⟨rfl, rfl⟩
    exact ⟨⟨none, 0, rfl⟩, rfl, rfl, rfl, Nat.le_refl _, fun _ _ _ => rfl⟩
  · have hH : Holds encStr w g 0 xs.toArray := holds_of_block hg (by simpa using htake)
    refine (Tryz.slices_Compact_string g 0 cap xs w hH (by omega) hle).mono ?_
    rintro e w' ⟨rfl, q, rfl⟩
    refine ⟨⟨_, _, rfl⟩, ?_⟩
    have := grownBy_sorted (w := w) (g := g) (n := q) (os := #[]) (Lib.compact xs ++ List.replicate (xs.length - (Lib.compact xs).length) []).toArray
    rwa [grow_empty] at this
theorem two_of_len {α : Type} {l : List α} {p : α → Bool} {a b : α} (ha : a ∈ l) (hb : b ∈ l) (hne : a ≠ b) (pa : p a = true) (pb : p b = true) : 1 < (l.filter p).length := by
  have h1 : a ∈ l.filter p := List.mem_filter.2 ⟨ha, pa⟩
  have h2 : b ∈ l.filter p := List.mem_filter.2 ⟨hb, pb⟩
  match h : l.filter p, h1, h2 with
  | [x], h1, h2 => simp at h1 h2; exact absurd (h1.trans h2.symm) hne
  | x :: y :: r, _, _ => simp
/-- More than one is left exactly if there are two that differ. -/
theorem compact_len (xs : List (List UInt8)) : 1 < (Lib.compact xs).length ↔ ∃ a ∈ xs, ∃ b ∈ xs, a ≠ b := by
  have hE : (Lib.compact xs).length = ((List.range xs.length).filter (keeps xs.toArray)).length := by unfold Lib.compact compactUpTo; simp
  rw [hE]
  constructor
  · intro h
    obtain ⟨j, hj, hk, h0⟩ : ∃ j, j < xs.length ∧ keeps xs.toArray j = true ∧ 0 < j := by
      refine Classical.byContradiction fun hno => ?_
      have : ∀ x ∈ (List.range xs.length).filter (keeps xs.toArray), x = 0 := by
        intro x hx
        rw [List.mem_filter, List.mem_range] at hx
        refine Classical.byContradiction fun hx0 => hno ⟨x, hx.1, hx.2, by omega⟩
      have hnd : ((List.range xs.length).filter (keeps xs.toArray)).Nodup := (List.nodup_range).filter _
      match hl : (List.range xs.length).filter (keeps xs.toArray), h, this, hnd with
      | x :: y :: r, _, h1, h2 =>
        have e1 := h1 x (by simp)
        have e2 := h1 y (by simp)
        simp [e1, e2] at h2
    have h1 : j - 1 < xs.length := by omega
    refine ⟨xs[j], List.getElem_mem hj, xs[j - 1], List.getElem_mem h1, fun e => ?_⟩
    have := keeps_neg (d := xs.toArray) (m := j) h0 (by simp [hj, h1, e])
    rw [this] at hk
    cases hk
  · rintro ⟨a, ha, b, hb, hne⟩
    have h0 : 0 < xs.length := List.length_pos_of_mem ha
    obtain ⟨j, hj0, hj, hd⟩ : ∃ j, 0 < j ∧ j < xs.length ∧ xs.toArray[j]! ≠ xs.toArray[j - 1]! := by
      refine Classical.byContradiction fun hno => ?_
      have hall : ∀ j, j < xs.length → xs.toArray[j]! = xs.toArray[0]! := by
        intro j
        induction j with
        | zero => intro _; rfl
        | succ j ih =>
          intro hj
          have h1 : xs.toArray[j + 1]! = xs.toArray[j]! := Classical.byContradiction fun hx => hno ⟨j + 1, by omega, hj, by simpa using hx⟩
          rw [h1, ih (by omega)]
      obtain ⟨i, hi, rfl⟩ := List.getElem_of_mem ha
      obtain ⟨k, hk, rfl⟩ := List.getElem_of_mem hb
      have e1 := hall i hi
      have e2 := hall k hk
      rw [show xs.toArray[i]! = xs[i] by simp [hi]] at e1
      rw [show xs.toArray[k]! = xs[k] by simp [hk]] at e2
      exact hne (e1.trans e2.symm)
    exact two_of_len (List.mem_range.2 h0) (List.mem_range.2 hj) (by omega) (keeps_lt_one _ 0 (by omega)) (keeps_pos hd)
end Go.Proofs.YthkdmpalhdifbaaGreatDoor
