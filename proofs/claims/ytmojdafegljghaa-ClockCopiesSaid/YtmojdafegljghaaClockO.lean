/- One timer alone: what a table says of one id. -/
import Derived.Test.YtmojdafegljghaaPlayed
set_option linter.unusedVariables false
set_option linter.unusedSimpArgs false
namespace Go.Proofs.Ytmojdafegljghaa
open Go.RowKit Go.Maps Go.Shelf

def one (id : Int) (L : List (Int × Int)) : List (Int × Int) := match get id L with | none => [] | some e => [(id, e)]
theorem get_one {id : Int} {L : List (Int × Int)} : get id (one id L) = get id L := by
  unfold one
  cases h : get id L with
  | none => rfl
  | some e => simp [get]
theorem leftV_one {id now : Int} {L : List (Int × Int)} : leftV id now (one id L) = leftV id now L := by unfold leftV; rw [get_one]
theorem one_len (id : Int) (L : List (Int × Int)) : (one id L).length ≤ 1 := by unfold one; split <;> simp
theorem del_one {id : Int} {L : List (Int × Int)} : del id (one id L) = [] := by
  unfold one; split
  · rfl
  · simp [del]
theorem one_put_same {id v : Int} {L : List (Int × Int)} (hs : Srt L) : one id (put id v L) = put id v (one id L) := by
  have h1 : put id v (one id L) = [(id, v)] := by unfold put; rw [del_one]; rfl
  rw [h1]; unfold one; rw [get_put_same hs]
theorem one_put_other {id k v : Int} {L : List (Int × Int)} (hs : Srt L) (hne : id ≠ k) : one id (put k v L) = one id L := by unfold one; rw [get_put_other hs hne]
theorem one_del_same {id : Int} {L : List (Int × Int)} : one id (del id L) = del id (one id L) := by rw [del_one]; unfold one; rw [get_del_same]
theorem one_del_other {id k : Int} {L : List (Int × Int)} (hs : Srt L) (hne : id ≠ k) : one id (del k L) = one id L := by unfold one; rw [get_del_other hs hne]
theorem one_setS_same {now id t : Int} {L : List (Int × Int)} (hs : Srt L) : one id (setS now id t L) = setS now id t (one id L) := by
  unfold setS; split
  · exact one_put_same hs
  · rfl
theorem one_setS_other {now id k t : Int} {L : List (Int × Int)} (hs : Srt L) (hne : id ≠ k) : one id (setS now k t L) = one id L := by
  unfold setS; split
  · exact one_put_other hs hne
  · rfl
theorem get_filter {k : Int} {f : Int × Int → Bool} {L : List (Int × Int)} (hs : Srt L) : get k (L.filter f) = (get k L).bind fun e => if f (k, e) then some e else none := by
  cases h : get k L with
  | none =>
    have h1 := get_none.1 h
    exact get_none.2 fun p hp => h1 p (List.mem_filter.1 hp).1
  | some e =>
    simp only [Option.bind_some]
    by_cases hf : f (k, e) = true
    · rw [if_pos hf]
      exact get_of_mem (List.Pairwise.filter _ hs) (List.mem_filter.2 ⟨get_mem h, hf⟩)
    · rw [if_neg hf]
      refine get_none.2 fun p hp hpk => ?_
      obtain ⟨h1, h2⟩ := List.mem_filter.1 hp
      have h3 : get k L = some p.2 := get_of_mem hs (by rw [← hpk]; exact h1)
      rw [h] at h3
      cases h3
      exact hf (by rw [← hpk]; exact h2)
theorem one_rest {now id : Int} {L : List (Int × Int)} (hs : Srt L) : one id (restT now L) = restT now (one id L) := by
  unfold one restT
  rw [get_filter hs]
  cases h : get id L with
  | none => rfl
  | some e =>
    by_cases he : e ≤ now + 1
    · have h2 : ¬ now + 1 < e := by omega
      simp [h2]
    · have h2 : now + 1 < e := by omega
      simp [h2]
theorem mem_out {now id : Int} {L : List (Int × Int)} (hs : Srt L) : id ∈ outT now L ↔ ∃ e, get id L = some e ∧ e ≤ now + 1 := by
  unfold outT keys
  simp only [List.mem_map, List.mem_filter, decide_eq_true_eq]
  constructor
  · rintro ⟨p, ⟨h1, h2⟩, rfl⟩
    exact ⟨p.2, get_of_mem hs h1, h2⟩
  · rintro ⟨e, h1, h2⟩
    exact ⟨(id, e), ⟨get_mem h1, h2⟩, rfl⟩
/-- Either it runs out in both, or in none. -/
theorem out_one (now id : Int) {L : List (Int × Int)} (hs : Srt L) : (id ∈ outT now L ∧ outT now (one id L) = [id]) ∨ (id ∉ outT now L ∧ outT now (one id L) = []) := by
  rw [mem_out hs]
  unfold one
  cases h : get id L with
  | none => exact .inr ⟨by simp, rfl⟩
  | some e =>
    by_cases he : e ≤ now + 1
    · exact .inl ⟨⟨e, rfl, he⟩, by simp [outT, keys, he]⟩
    · exact .inr ⟨by rintro ⟨e', h1, h2⟩; cases h1; exact he h2, by simp [outT, keys, he]⟩
theorem out_len (now : Int) (L : List (Int × Int)) : (outT now L).length ≤ L.length := by
  unfold outT keys; rw [List.length_map]; exact List.length_filter_le _ _

def seen (id : Int) (xs : List Int) (i : Nat) : Bool := (xs.take i).any fun x => x == id
theorem seen_zero (id : Int) (xs : List Int) : seen id xs 0 = false := by simp [seen]
theorem seen_succ {id x : Int} {xs : List Int} {i : Nat} (h : xs[i]? = some x) : seen id xs (i + 1) = (seen id xs i || x == id) := by
  unfold seen; rw [take_snoc h]; simp
theorem seen_all (id : Int) (xs : List Int) : seen id xs xs.length = decide (id ∈ xs) := by
  unfold seen; rw [List.take_length, Bool.eq_iff_iff, List.any_eq_true]; simp
end Go.Proofs.Ytmojdafegljghaa
