/- quorum.Size. -/
import Derived.Test.YthkdmpalhdifbaaGreatDoorQuorum
import Derived.Deep.DeepMust
set_option linter.unusedVariables false
set_option linter.unusedSimpArgs false
namespace Go.Proofs.YthkdmpalhdifbaaGreatDoor
open Go.RowKit Go.Maps

theorem qcheck0 (n : Int) (w : World) : Calls Tryz.prog 65 #[.int .i64 n, .slice none 0 0] w fun e w' => e = .returned (.int .i64 (if 1 ≤ n ∧ n ≤ 7 then 0 else 2)) ∧ Below w.heap.size w w' := by
  have hb := box_below w (.cells #[.int .i64 n] 3)
  by_cases h1 : n < 1
  · rw [if_neg (by omega)]
    go_enter Tryz.func65, Tryz.ntmps65
    go_wp2_with fail
    go_returns
    exact ⟨rfl, hb⟩
  have h1' : decide (n < 1) = false := by simpa using h1
  by_cases h2 : n > 7
  · rw [if_neg (by omega)]
    clear h1
    go_enter Tryz.func65, Tryz.ntmps65
    go_wp2_with fail
    go_returns
    exact ⟨rfl, hb⟩
  have h2' : decide (n > 7) = false := by simpa using h2
  rw [if_pos (by omega)]
  clear h1 h2
  have hi : ∀ (w : World) (c : Value), Calls Tryz.prog 106 #[.slice none 0 0, c] w fun e w' => e = .returned (.int .i64 (-1)) ∧ w = w' := by
    intro w c
    go_enter Tryz.func106, Tryz.ntmps106
    go_wp2_with fail
    refine wp_loop_rounds 2 ?_
    rw [rounds_succ]
    go_wp2_with fail
    go_returns
    exact ⟨rfl, rfl⟩
  have hc : ∀ (w : World) (c : Value), Calls Tryz.prog 91 #[.slice none 0 0, c] w fun e w' => e = .returned (.bool false) ∧ w = w' := by
    intro w c
    go_enter Tryz.func91, Tryz.ntmps91
    go_wp2_with (go_at_call 106; refine (hi _ _).mono ?_; rintro e w2 ⟨rfl, rfl⟩)
    go_returns
    exact ⟨rfl, rfl⟩
  go_enter Tryz.func65, Tryz.ntmps65
  go_wp2_with (go_at_call 91; refine (hc _ _).mono ?_; rintro e w2 ⟨rfl, rfl⟩)
  go_returns
  exact ⟨rfl, hb⟩
theorem size_any (n : Int) (w : World) : Calls Tryz.prog 59 #[.int .i64 n] w fun e w' => (∃ k, e = .returned (.tuple #[.int .i64 k, .int .i64 (if 1 ≤ n ∧ n ≤ 7 then 0 else 2)])) ∧ Below w.heap.size w w' := by
  by_cases hn : 1 ≤ n ∧ n ≤ 7
  · rw [if_pos hn]
    have HN := Lib.hid hn
    go_enter Tryz.func59, Tryz.ntmps59
    go_wp2_with (go_at_call 65; refine (qcheck0 n _).mono ?_; rw [if_pos HN.out]; rintro e w2 ⟨rfl, b2⟩)
    go_returns
    exact ⟨⟨_, rfl⟩, b2⟩
  · rw [if_neg hn]
    have HN := Lib.hid hn
    go_enter Tryz.func59, Tryz.ntmps59
    go_wp2_with (go_at_call 65; refine (qcheck0 n _).mono ?_; rw [if_neg HN.out]; rintro e w2 ⟨rfl, b2⟩)
    go_returns
    exact ⟨⟨_, rfl⟩, b2⟩
end Go.Proofs.YthkdmpalhdifbaaGreatDoor
