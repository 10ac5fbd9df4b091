/- Contracts of package elect's small functions and of the reference's. -/
import Derived.Test.YtklfbngmakkefaaProg
import Derived.WalkKit
import Derived.WalkSpells
import Derived.Deep.QuietTactic
import Derived.BigQuiet
import Derived.Lib.Hide
set_option linter.unusedVariables false
set_option linter.unusedSimpArgs false
namespace Go.Proofs.Ytklfbngmakkefaa
open Go.RowKit

namespace El
/-- A group of n nodes there is. -/
def ok (n : Int) : Prop := 1 ≤ n ∧ n ≤ 7
end El

theorem group_yes (n : Int) (w : World) (h1 : 1 ≤ n) (h2 : n ≤ 7) :
    Calls Try.prog 32 #[.int .i64 n] w fun e w' => e = .returned (.int .i64 0) ∧ w = w' := by
  go_enter Try.func32, Try.ntmps32
  go_wp2
  go_ret
  exact ⟨rfl, rfl⟩

theorem group_no (n : Int) (w : World) (h : n < 1 ∨ 7 < n) :
    Calls Try.prog 32 #[.int .i64 n] w fun e w' => e = .returned (.int .i64 2) ∧ w = w' := by
  rcases h with h | h
  · go_enter Try.func32, Try.ntmps32
    go_wp2
    go_ret
    exact ⟨rfl, rfl⟩
  · have h' : ¬ n < 1 := by omega
    go_enter Try.func32, Try.ntmps32
    go_wp2
    go_ret
    exact ⟨rfl, rfl⟩

theorem rgroup_yes (n : Int) (w : World) (h1 : 1 ≤ n) (h2 : n ≤ 7) :
    Calls Try.prog 30 #[.int .i64 n] w fun e w' => e = .returned (.bool true) ∧ w = w' := by
  go_enter Try.func30, Try.ntmps30
  go_wp2
  go_ret
  exact ⟨rfl, rfl⟩

theorem rgroup_no (n : Int) (w : World) (h : n < 1 ∨ 7 < n) :
    Calls Try.prog 30 #[.int .i64 n] w fun e w' => e = .returned (.bool false) ∧ w = w' := by
  rcases h with h | h
  · go_enter Try.func30, Try.ntmps30
    go_wp2
    go_ret
    exact ⟨rfl, rfl⟩
  · have h' : 1 ≤ n := by omega
    have h2 : decide (n ≤ 7) = false := by simpa using h
    go_enter Try.func30, Try.ntmps30
    go_wp2
    go_ret
    exact ⟨rfl, rfl⟩

theorem rwait_any (k r n : Int) (w : World) (hk : 0 ≤ k) (hk2 : k < 8) (hr : 0 ≤ r) (hn : 1 ≤ n) (hn7 : n ≤ 7) :
    Calls Try.prog 31 #[.int .i64 k, .int .i64 r, .int .i64 n] w fun e w' => e = .returned (.int .i64 (6 + 4 * ((k + r) % n))) ∧ w = w' := by
  have a1 : 0 ≤ r % n := Int.emod_nonneg _ (by omega)
  have a2 : r % n < 7 := by have := Int.emod_lt_of_pos r (show 0 < n by omega); omega
  have a3 : 0 ≤ (k + r) % n := Int.emod_nonneg _ (by omega)
  have a4 : (k + r) % n < 7 := by have := Int.emod_lt_of_pos (k + r) (show 0 < n by omega); omega
  go_enter Try.func31, Try.ntmps31
  go_wp2
  go_ret
  exact ⟨rfl, rfl⟩
end Go.Proofs.Ytklfbngmakkefaa
