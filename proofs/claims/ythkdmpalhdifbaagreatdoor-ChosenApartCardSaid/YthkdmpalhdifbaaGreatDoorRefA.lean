/- The reference's Below; Check, walked; what it tells. -/
import Derived.Test.YthkdmpalhdifbaaGreatDoorChoQ
import Derived.Test.YthkdmpalhdifbaaGreatDoorRChoA
import Derived.Deep.DeepMust
import Derived.Deep.RegionHeld3
import Derived.Deep.DeepCutAuto
import Derived.Deep.CutBlock
import Derived.Deep.LoopGhost
set_option linter.unusedVariables false
set_option linter.unusedSimpArgs false
namespace Go.Proofs.YthkdmpalhdifbaaGreatDoor
open Go.RowKit Go.Maps Go.Shelf

theorem rlbelow_any (r1 d1 r2 d2 : Int) (w : World) :
    Calls Tryz.prog 44 #[balV r1 d1, balV r2 d2] w fun e w' => e = .returned (.bool (decide (ordB (r1, d1) (r2, d2) < 0))) ∧ Below w.heap.size w w' := by
  have hb := bchain (box_below w (.cells #[.int .i64 r1, .int .i64 d1] 24)) (box_below _ (.cells #[.int .i64 r2, .int .i64 d2] 24))
  by_cases h1 : r1 < r2
  · have E : decide (ordB (r1, d1) (r2, d2) < 0) = true := by simp [ordB, firstI, cmpI, h1]
    rw [E]; clear E
    go_enter Tryz.func44, Tryz.ntmps44
    go_wp2_with fail
    go_returns
    exact ⟨rfl, hb⟩
  have h1' : decide (r1 < r2) = false := by simpa using h1
  by_cases h2 : r1 = r2
  · subst h2
    by_cases h3 : d1 < d2
    · have E : decide (ordB (r1, d1) (r1, d2) < 0) = true := by simp [ordB, firstI, cmpI, h3]
      rw [E]; clear E h1
      go_enter Tryz.func44, Tryz.ntmps44
      go_wp2_with fail
      go_returns
      exact ⟨rfl, hb⟩
    have h3' : decide (d1 < d2) = false := by simpa using h3
    have E : decide (ordB (r1, d1) (r1, d2) < 0) = false := by
      by_cases h4 : d1 = d2
      · subst h4; simp [ordB, firstI, cmpI]
      · simp [ordB, firstI, cmpI, h3, show d1 > d2 by omega]
    rw [E]; clear E h1 h3
    go_enter Tryz.func44, Tryz.ntmps44
    go_wp2_with fail
    go_returns
    exact ⟨rfl, hb⟩
  · have h2' : (r1 == r2) = false := by simpa using h2
    have E : decide (ordB (r1, d1) (r2, d2) < 0) = false := by simp only [ordB, firstI, cmpI, if_neg h1, if_pos (show r1 > r2 by omega)]; simp
    rw [E]; clear E h1 h2
    go_enter Tryz.func44, Tryz.ntmps44
    go_wp2_with fail
    go_returns
    exact ⟨rfl, hb⟩

/-- A guard whose own operation was passed over. -/
theorem wanted_u {ops : Array Oper} {tmps : Array Value} {o : Oper} {j d : Nat} {wt : Bool} (hg : o.guard = some (j, wt)) (hd : ((ops[j]?).bind (·.dst)) = some d) (ht : tmps[d]? = some undef) : Region.wanted o (yielded ops tmps) = false := by
  unfold Region.wanted yielded
  simp [hg, hd, ht, undef]
theorem mem_takeS {L : List Vt} {j : Nat} {x y : Vt} (h : L[j]? = some x) : y ∈ L.take (j + 1) ↔ y ∈ L.take j ∨ y = x := by
  rw [List.take_add_one, h]
  simp
theorem fbad_drop {n : Int} {L : List Vt} {i : Nat} {x : Vt} (h : L[i]? = some x) : fbad n (L.take i) i (L.drop i) = if Fits n (L.take i) x then fbad n (L.take (i + 1)) (i + 1) (L.drop (i + 1)) else some i := by
  have hl := (List.getElem?_eq_some_iff.1 h).1
  have hx := (List.getElem?_eq_some_iff.1 h).2
  have e : fbad n (L.take i) i (x :: L.drop (i + 1)) = if Fits n (L.take i) x then fbad n (L.take i ++ [x]) (i + 1) (L.drop (i + 1)) else some i := by rw [fbad]
  rw [List.drop_eq_getElem_cons hl, hx, e, List.take_add_one, h]
  rfl
end Go.Proofs.YthkdmpalhdifbaaGreatDoor
