/- Contract of elect.checked (a variadic look at numbers). -/
import Derived.Test.YtklfbngmakkefaaElectA
set_option linter.unusedVariables false
set_option linter.unusedSimpArgs false
namespace Go.Proofs.Ytklfbngmakkefaa
open Go.RowKit

/-- What elect.checked answers. -/
def chk (n : Int) (k : Nat) (f : Nat → Int) : Int := if (∀ i, i < k → 0 ≤ f i) ∧ 1 ≤ n ∧ n ≤ 7 then 0 else 2

theorem chk_neg {n : Int} {k : Nat} {f : Nat → Int} {i : Nat} (hi : i < k) (h : f i < 0) : chk n k f = 2 := by
  unfold chk
  rw [if_neg]
  rintro ⟨h1, _⟩
  have := h1 i hi
  omega

theorem chk_bad {n : Int} {k : Nat} {f : Nat → Int} (h : n < 1 ∨ 7 < n) : chk n k f = 2 := by
  unfold chk
  rw [if_neg]
  rintro ⟨_, h1, h2⟩
  omega

theorem chk_ok {n : Int} {k : Nat} {f : Nat → Int} (h : ∀ i, i < k → 0 ≤ f i) (h1 : 1 ≤ n) (h2 : n ≤ 7) : chk n k f = 0 := if_pos ⟨h, h1, h2⟩

set_option maxHeartbeats 400000 in
theorem checked_any (n : Int) (b : Nat) (f : Nat → Int) (k : Nat) (w : World) (hl : k ≤ 100)
    (hc : ∀ i, i < k → w.cell? ⟨b, i, none⟩ = some (.int .i64 (f i))) :
    Calls Try.prog 29 #[.int .i64 n, .slice (some ⟨b, 0, none⟩) k k] w fun e w' => e = .returned (.int .i64 (chk n k f)) ∧ w = w' := by
  have HC := Lib.hid hc
  clear hc
  go_enter Try.func29, Try.ntmps29
  go_wp2
  go_loop [6, 9] (fun _ i => ∃ j : Nat, j ≤ k ∧ i = .int .i64 j ∧ ∀ m, m < j → 0 ≤ f m) (fun _ i => k - (intOf i).toNat)
  case atStart => exact ⟨0, Nat.zero_le _, rfl, fun m hm => absurd hm (by omega)⟩
  case round =>
    obtain ⟨j, hj, rfl, hall⟩ := hrel
    have HA := Lib.hid hall
    clear hall
    by_cases hlt : j < k
    · have hcell := HC.out j hlt
      by_cases hneg : f j < 0
      · go_wp2
        go_ret
        exact ⟨by rw [chk_neg hlt hneg]; rfl, rfl⟩
      · go_wp2
        go_round
        case rel => exact ⟨j + 1, by omega, by go_num, fun m hm => by
          by_cases e : m = j
          · subst e; omega
          · exact HA.out m (by omega)⟩
        case measure => simp [intOf]; omega
    · have e : j = k := by omega
      subst e
      by_cases hn : 1 ≤ n ∧ n ≤ 7
      · go_wp2_with (go_at_call 32; refine (group_yes _ _ hn.1 hn.2).mono ?_; rintro e w' ⟨rfl, rfl⟩)
        go_ret
        exact ⟨by rw [chk_ok HA.out hn.1 hn.2]; rfl, rfl⟩
      · have hb : n < 1 ∨ 7 < n := by omega
        go_wp2_with (go_at_call 32; refine (group_no _ _ hb).mono ?_; rintro e w' ⟨rfl, rfl⟩)
        go_ret
        exact ⟨by rw [chk_bad hb]; rfl, rfl⟩
end Go.Proofs.Ytklfbngmakkefaa
