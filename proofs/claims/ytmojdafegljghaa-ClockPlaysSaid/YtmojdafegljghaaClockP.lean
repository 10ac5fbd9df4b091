/- The program's table and the reference's: one the image of the other. -/
import Derived.Test.YtmojdafegljghaaRClockE
import Derived.Test.YtmojdafegljghaaClockO
set_option linter.unusedVariables false
set_option linter.unusedSimpArgs false
namespace Go.Proofs.Ytmojdafegljghaa
open Go.RowKit Go.Maps Go.Shelf

def rel (now : Int) (L : List (Int × Int)) : List (Int × Int) := L.map fun p => (p.1, p.2 - now)
theorem rel_len (now : Int) (L : List (Int × Int)) : (rel now L).length = L.length := by simp [rel]
theorem rel_keys (now : Int) (L : List (Int × Int)) : keys (rel now L) = keys L := by simp [rel, keys]
theorem rel_get (now k : Int) : ∀ L : List (Int × Int), get k (rel now L) = (get k L).map (· - now)
  | [] => rfl
  | y :: r => by
    have ih := rel_get now k r
    simp only [get, rel, List.map_cons, List.find?_cons] at ih ⊢
    by_cases e : y.1 = k
    · simp [e]
    · have e2 : (y.1 == k) = false := by simpa using e
      rw [e2]
      exact ih
theorem rel_del (now k : Int) (L : List (Int × Int)) : del k (rel now L) = rel now (del k L) := by
  unfold del rel
  rw [List.filter_map]
  rfl
theorem rel_insS (now : Int) (x : Int × Int) : ∀ L : List (Int × Int), insS (x.1, x.2 - now) (rel now L) = rel now (insS x L)
  | [] => rfl
  | y :: r => by
    have ih := rel_insS now x r
    simp only [rel, List.map_cons, insS] at ih ⊢
    split
    · rfl
    · simp only [List.map_cons]; rw [ih]
theorem rel_put (now k t : Int) (L : List (Int × Int)) : put k t (rel now L) = rel now (put k (now + t) L) := by
  unfold put
  rw [rel_del, ← rel_insS now (k, now + t)]
  have : now + t - now = t := by omega
  simp only [this]
theorem rel_out {now : Int} {L : List (Int × Int)} (h : Good now L) : outU (rel now L) = outT now L := by
  unfold outU outT rel keys
  rw [List.filter_map, List.map_map]
  congr 1
  apply List.filter_congr
  intro p hp
  have := h.ends p hp
  simp only [Function.comp]
  rw [Bool.eq_iff_iff]
  simp
  omega
theorem rel_rest {now : Int} {L : List (Int × Int)} (h : Good now L) : restU (rel now L) = rel (now + 1) (restT now L) := by
  unfold restU restT rel
  rw [List.filter_map, List.map_map]
  have e : (L.filter fun p => !(p.2 - now - 1 == 0)) = L.filter fun p => !decide (p.2 ≤ now + 1) := by
    apply List.filter_congr
    intro p hp
    have := h.ends p hp
    rw [Bool.eq_iff_iff]
    simp
    omega
  show (L.filter fun p => !(p.2 - now - 1 == 0)).map _ = _
  rw [e]
  apply List.map_congr_left
  intro p _
  simp only [Function.comp]
  congr 1
  omega
end Go.Proofs.Ytmojdafegljghaa
