/- slices.Equal at two rows of numbers; the examples of the chapter hold. -/
import Derived.Test.YtklfbngmakkefaaElectH
import Derived.Test.YtklfbngmakkefaaShelf
set_option linter.unusedVariables false
set_option linter.unusedSimpArgs false
namespace Go.Proofs.Ytklfbngmakkefaa
open Go.RowKit Go.Shelf

theorem getD_map_range (k : Nat) (f : Nat → Int) (j : Nat) (hj : j < k) : ((List.range k).map f).getD j 0 = f j := by
  simp [List.getD, List.getElem?_map, List.getElem?_range hj]

/-- slices.Equal of two rows that hold the same numbers. -/
theorem equal_yes (g1 c1 g2 c2 k : Nat) (p q : Nat → Int) (w : World) (hk : k ≤ 1000000)
    (h1 : ∀ i, i < k → w.cell? ⟨g1, i, none⟩ = some (.int .i64 (p i))) (h2 : ∀ i, i < k → w.cell? ⟨g2, i, none⟩ = some (.int .i64 (q i))) (he : ∀ i, i < k → p i = q i) :
    Calls Try.prog 26 #[.slice (some ⟨g1, 0, none⟩) k c1, .slice (some ⟨g2, 0, none⟩) k c2] w fun e w' => e = .returned (.bool true) ∧ Below w.heap.size w w' := by
  have hl : ∀ f : Nat → Int, ((List.range k).map f).length = k := fun f => by simp
  refine (Try.slices_Equal_int g1 0 k c1 g2 0 k c2 ((List.range k).map p) ((List.range k).map q) w (by rw [hl]; exact Nat.le_refl _) (by rw [hl]; exact Nat.le_refl _) (by omega) (by omega) ?_ ?_).mono ?_
  · intro j hj; rw [hl] at hj; rw [getD_map_range k p j hj, Nat.zero_add]; exact h1 j hj
  · intro j hj; rw [hl] at hj; rw [getD_map_range k q j hj, Nat.zero_add]; exact h2 j hj
  · rintro e w' ⟨rfl, n, rfl⟩
    refine ⟨?_, below_drewN' (Below.refl _ _) _⟩
    have : (List.range k).map p = (List.range k).map q := List.map_congr_left fun i hi => he i (List.mem_range.1 hi)
    rw [this]
    simp

theorem equal_none (a1 a2 : Option Addr) (c d : Nat) (w : World) :
    Calls Try.prog 26 #[.slice a1 0 c, .slice a2 0 d] w fun e w' => e = .returned (.bool true) ∧ Below w.heap.size w w' :=
  (Try.slices_Equal_int_empty a1 a2 c 0 d w (by omega)).mono fun e w' ⟨he, hw⟩ => ⟨by rw [he]; rfl, by rw [hw]; exact Below.refl _ _⟩

theorem bchain {a b c : World} (h : Below a.heap.size a b) (k : Below b.heap.size b c) : Below a.heap.size a c := h.trans (k.mono h.size)

def ex5 (i : Nat) : Int := if i = 0 then 3 else if i = 1 then 4 else if i = 2 then 0 else if i = 3 then 1 else 2
theorem five {i : Nat} (h : i < 5) : i = 0 ∨ i = 1 ∨ i = 2 ∨ i = 3 ∨ i = 4 := by omega

theorem bcell {W w1 : World} (hb : Below W.heap.size W w1) {p : Addr} {v : Value} (h : W.cell? p = some v) : w1.cell? p = some v := by
  obtain ⟨o, ho, _⟩ := cells_of_cell h
  exact (hb.cell (Array.getElem?_eq_some_iff.1 ho).1).trans h

set_option maxRecDepth 100000 in
set_option maxHeartbeats 2000000 in
theorem works_any (w : World) : Calls Try.prog 13 #[] w fun e w' => e = .returned (.bool true) ∧ Below w.heap.size w w' := by
  have q1 : waitV 2 1 3 = 6 := rfl
  have q2 : waitE 2 1 3 = 0 := rfl
  have q3 : firstV 5 = 6 := rfl
  have q4 : errN 5 = 0 := rfl
  have q5 : gapV 2 = 4 := rfl
  have q6 : errN 2 = 0 := rfl
  have q7 : longV 7 = 30 := rfl
  have q8 : errN 7 = 0 := rfl
  have q9 : apartV 3 5 3 = true := rfl
  have q10 : apartE 3 5 3 = 0 := rfl
  have q11 : apartV 3 5 4 = false := rfl
  have q12 : apartE 3 5 4 = 0 := rfl
  have q13 : beatV 4 = 2 := rfl
  have q14 : errN 4 = 0 := rfl
  go_enter Try.func13, Try.ntmps13
  go_wp2_with fail
  refine (wait_any _ _ _ _).mono ?_
  rintro e w1 ⟨rfl, hb1⟩
  go_wp2_with fail
  refine (order_yes _ _ _ (by omega) (by omega) (by omega) (by omega)).mono ?_
  rintro e w2 ⟨v, rfl, ⟨g, cap, rfl, r1, r2, r3⟩, hb2⟩
  have HC := Lib.hid r3
  clear r3
  go_wp2_with fail
  refine (first_any _ _).mono ?_
  rintro e w3 ⟨rfl, hb3⟩
  go_wp2_with fail
  refine (gap_any _ _).mono ?_
  rintro e w' ⟨rfl, rfl⟩
  go_wp2_with fail
  refine (longest_any _ _).mono ?_
  rintro e w' ⟨rfl, rfl⟩
  go_wp2_with fail
  refine (apart_any _ _ _ _).mono ?_
  rintro e w4 ⟨rfl, hb4⟩
  go_wp2_with fail
  refine (apart_any _ _ _ _).mono ?_
  rintro e w5 ⟨rfl, hb5⟩
  go_wp2_with fail
  refine (beat_any _ _).mono ?_
  rintro e w' ⟨rfl, rfl⟩
  go_wp2_with fail
  refine (equal_yes g cap w5.heap.size 5 5 (nth 5 (fst 5 2)) ex5 _ (by omega) (fun i hi => ?_) (fun i hi => ?_) (fun i hi => ?_)).mono ?_
  · exact bcell ((bchain (bchain (bchain hb3 hb4) hb5) ((Below.refl _ _).alloc (Nat.le_refl _) _))) (HC.out i (by omega))
  · rcases five hi with rfl | rfl | rfl | rfl | rfl <;> simp [go_sem, ex5]
  · rcases five hi with rfl | rfl | rfl | rfl | rfl <;> rfl
  rintro e w6 ⟨rfl, hb6⟩
  go_wp2_with fail
  go_ret
  exact ⟨rfl, bchain (bchain (bchain (bchain (bchain (bchain hb1 hb2) hb3) hb4) hb5) ((Below.refl _ _).alloc (Nat.le_refl _) _)) hb6⟩
end Go.Proofs.Ytklfbngmakkefaa
