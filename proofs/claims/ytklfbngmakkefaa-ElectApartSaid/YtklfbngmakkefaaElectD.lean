/- Contracts of Gap, Beat, Longest of elect and of the reference. -/
import Derived.Test.YtklfbngmakkefaaElectC
set_option linter.unusedVariables false
set_option linter.unusedSimpArgs false
namespace Go.Proofs.Ytklfbngmakkefaa
open Go.RowKit

def okN (n : Int) : Prop := 1 ≤ n ∧ n ≤ 7
instance (n : Int) : Decidable (okN n) := by unfold okN; infer_instance
def errN (n : Int) : Int := if okN n then 0 else 2
def gap1 (n : Int) : Int := if n = 1 then 0 else 4
def gapV (n : Int) : Int := if okN n then gap1 n else 0
def beatV (n : Int) : Int := if okN n then 2 else 0
def longV (n : Int) : Int := if okN n then 6 + 4 * (n - 1) else 0
theorem bad_of {n : Int} (h : ¬ okN n) : n < 1 ∨ 7 < n := by unfold okN at h; omega

theorem gap_any (n : Int) (w : World) : Calls Try.prog 14 #[.int .i64 n] w fun e w' => e = .returned (.tuple #[.int .i64 (gapV n), .int .i64 (errN n)]) ∧ w = w' := by
  unfold gapV errN
  by_cases h : okN n
  · simp only [if_pos h]
    obtain ⟨h1, h2⟩ := h
    by_cases hn : n = 1
    · subst hn
      go_enter Try.func14, Try.ntmps14
      go_wp2_with (go_at_call 32; refine (group_yes _ _ h1 h2).mono ?_; rintro e w' ⟨rfl, rfl⟩)
      go_ret2
      exact ⟨rfl, rfl⟩
    · have hg : gap1 n = 4 := if_neg hn
      rw [hg]
      clear hg
      go_enter Try.func14, Try.ntmps14
      go_wp2_with (go_at_call 32; refine (group_yes _ _ h1 h2).mono ?_; rintro e w' ⟨rfl, rfl⟩)
      go_ret2
      exact ⟨rfl, rfl⟩
  · simp only [if_neg h]
    have hb := bad_of h
    go_enter Try.func14, Try.ntmps14
    go_wp2_with (go_at_call 32; refine (group_no _ _ hb).mono ?_; rintro e w' ⟨rfl, rfl⟩)
    go_ret2
    exact ⟨rfl, rfl⟩

theorem beat_any (n : Int) (w : World) : Calls Try.prog 16 #[.int .i64 n] w fun e w' => e = .returned (.tuple #[.int .i64 (beatV n), .int .i64 (errN n)]) ∧ w = w' := by
  unfold beatV errN
  by_cases h : okN n
  · simp only [if_pos h]
    obtain ⟨h1, h2⟩ := h
    go_enter Try.func16, Try.ntmps16
    go_wp2_with (go_at_call 32; refine (group_yes _ _ h1 h2).mono ?_; rintro e w' ⟨rfl, rfl⟩)
    go_ret2
    exact ⟨rfl, rfl⟩
  · simp only [if_neg h]
    have hb := bad_of h
    go_enter Try.func16, Try.ntmps16
    go_wp2_with (go_at_call 32; refine (group_no _ _ hb).mono ?_; rintro e w' ⟨rfl, rfl⟩)
    go_ret2
    exact ⟨rfl, rfl⟩

theorem longest_any (n : Int) (w : World) : Calls Try.prog 18 #[.int .i64 n] w fun e w' => e = .returned (.tuple #[.int .i64 (longV n), .int .i64 (errN n)]) ∧ w = w' := by
  unfold longV errN
  by_cases h : okN n
  · simp only [if_pos h]
    obtain ⟨h1, h2⟩ := h
    go_enter Try.func18, Try.ntmps18
    go_wp2_with (go_at_call 32; refine (group_yes _ _ h1 h2).mono ?_; rintro e w' ⟨rfl, rfl⟩)
    go_ret2
    exact ⟨rfl, rfl⟩
  · simp only [if_neg h]
    have hb := bad_of h
    go_enter Try.func18, Try.ntmps18
    go_wp2_with (go_at_call 32; refine (group_no _ _ hb).mono ?_; rintro e w' ⟨rfl, rfl⟩)
    go_ret2
    exact ⟨rfl, rfl⟩

theorem rbeat_any (n : Int) (w : World) : Calls Try.prog 17 #[.int .i64 n] w fun e w' => e = .returned (.tuple #[.int .i64 (beatV n), .int .i64 (errN n)]) ∧ w = w' := by
  unfold beatV errN
  by_cases h : okN n
  · simp only [if_pos h]
    obtain ⟨h1, h2⟩ := h
    go_enter Try.func17, Try.ntmps17
    go_wp2_with (go_at_call 30; refine (rgroup_yes _ _ h1 h2).mono ?_; rintro e w' ⟨rfl, rfl⟩)
    go_ret2
    exact ⟨rfl, rfl⟩
  · simp only [if_neg h]
    have hb := bad_of h
    go_enter Try.func17, Try.ntmps17
    go_wp2_with (go_at_call 30; refine (rgroup_no _ _ hb).mono ?_; rintro e w' ⟨rfl, rfl⟩)
    go_ret2
    exact ⟨rfl, rfl⟩

theorem mod0 {k n : Int} (h : 0 ≤ k) (h2 : k < n) : (k + 0) % n = k := by rw [Int.add_zero]; exact Int.emod_eq_of_lt h h2
theorem mod00 {k n : Int} (h : 0 ≤ k) (h2 : k < n) : k % n = k := Int.emod_eq_of_lt h h2
theorem ret_ints {a b c d : Int} (h : a = b) (h2 : c = d) : Ending.returned (.tuple #[.int .i64 a, .int .i64 c]) = .returned (.tuple #[.int .i64 b, .int .i64 d]) := by rw [h, h2]

/-- The longest wait of the nodes before j. -/
def lv (j : Int) : Int := if j = 0 then 0 else 2 + 4 * j
theorem lv_bd {j : Int} (h : 0 ≤ j) (h2 : j ≤ 7) : 0 ≤ lv j ∧ lv j ≤ 2 + 4 * j := by unfold lv; split <;> omega

set_option maxHeartbeats 400000 in
theorem rlongest_any (n : Int) (w : World) : Calls Try.prog 19 #[.int .i64 n] w fun e w' => e = .returned (.tuple #[.int .i64 (longV n), .int .i64 (errN n)]) ∧ w = w' := by
  unfold longV errN
  by_cases h : okN n
  · simp only [if_pos h]
    obtain ⟨h1, h2⟩ := h
    go_enter Try.func19, Try.ntmps19
    go_wp2_with (go_at_call 30; refine (rgroup_yes _ _ h1 h2).mono ?_; rintro e w' ⟨rfl, rfl⟩)
    go_loop [4, 5] (fun m k => ∃ j : Int, 0 ≤ j ∧ j ≤ n ∧ k = .int .i64 j ∧ m = .int .i64 (lv j)) (fun _ k => (n - intOf k).toNat)
    case atStart => exact ⟨0, by omega, by omega, rfl, rfl⟩
    case round =>
      obtain ⟨j, hj0, hj, rfl, rfl⟩ := hrel
      have hl := lv_bd hj0 (by omega)
      by_cases hlt : j < n
      · have hm := mod00 hj0 hlt
        have hmax : max (lv j) (6 + 4 * j) = 6 + 4 * j := by omega
        have hmax2 : lv (j + 1) = 6 + 4 * j := by unfold lv; rw [if_neg (by omega)]; omega
        have HM := Lib.hid hmax2
        clear hmax2
        go_wp2_with (go_at_call 31; refine (rwait_any _ _ _ _ hj0 (by omega) (by omega) h1 h2).mono ?_; rintro e w' ⟨rfl, rfl⟩)
        go_round
        case rel => exact ⟨j + 1, by omega, by omega, rfl, by rw [HM.out]⟩
        case measure => simp [intOf]; omega
      · have e : j = n := by omega
        subst e
        go_wp2
        go_ret2
        exact ⟨ret_ints (by unfold lv; rw [if_neg (by omega)]; omega) rfl, rfl⟩
  · simp only [if_neg h]
    have hb := bad_of h
    go_enter Try.func19, Try.ntmps19
    go_wp2_with (go_at_call 30; refine (rgroup_no _ _ hb).mono ?_; rintro e w' ⟨rfl, rfl⟩)
    go_ret2
    exact ⟨rfl, rfl⟩

/-- The least distance that is known behind b nodes of the round of a. -/
def gv (a b : Int) : Int := if 2 ≤ a ∨ 1 ≤ a ∧ 1 ≤ b then 4 else 0

set_option maxHeartbeats 800000 in
theorem rgap_any (n : Int) (w : World) : Calls Try.prog 15 #[.int .i64 n] w fun e w' => e = .returned (.tuple #[.int .i64 (gapV n), .int .i64 (errN n)]) ∧ w = w' := by
  unfold gapV errN
  by_cases h : okN n
  · simp only [if_pos h]
    obtain ⟨h1, h2⟩ := h
    go_enter Try.func15, Try.ntmps15
    go_wp2_with (go_at_call 30; refine (rgroup_yes _ _ h1 h2).mono ?_; rintro e w' ⟨rfl, rfl⟩)
    go_loop [4, 5, 6, 7] (fun m k _ _ => ∃ a : Int, 0 ≤ a ∧ a ≤ n ∧ k = .int .i64 a ∧ m = .int .i64 (gv a 0)) (fun _ k _ _ => (n - intOf k).toNat)
    case atStart => exact ⟨0, by omega, by omega, rfl, rfl⟩
    case round =>
      obtain ⟨a, ha0, ha, rfl, rfl⟩ := hrel
      by_cases hlt : a < n
      · go_wp2_with fail
        go_loop [4, 6, 7] (fun m k _ => ∃ b : Int, 0 ≤ b ∧ b ≤ a ∧ k = .int .i64 b ∧ m = .int .i64 (gv a b)) (fun _ k _ => (a - intOf k).toNat)
        case atStart => exact ⟨0, by omega, by omega, rfl, rfl⟩
        case round =>
          obtain ⟨b, hb0, hb, rfl, rfl⟩ := hrel
          by_cases hlt2 : b < a
          · have hm1 := mod00 ha0 hlt
            have hm2 := mod00 hb0 (show b < n by omega)
            by_cases hz : gv a b = 0
            · have hz2 : a = 1 ∧ b = 0 := by unfold gv at hz; split at hz <;> omega
              obtain ⟨rfl, rfl⟩ := hz2
              have HM : Hid (gv 1 (0 + 1) = 4) := by exact rfl
              go_wp2_with (go_at_call 31; refine (rwait_any _ _ _ _ (by omega) (by omega) (by omega) h1 h2).mono ?_; rintro e w' ⟨rfl, rfl⟩)
              go_round
              case rel => exact ⟨0 + 1, by omega, by omega, rfl, by rw [HM.out]⟩
              case measure => simp [intOf]
            · have hz3 : gv a b = 4 := by unfold gv at hz ⊢; split at hz <;> simp_all
              have hz4 : gv a (b + 1) = 4 := by unfold gv at hz3 ⊢; rw [if_pos (by omega)]
              have HM := Lib.hid hz4
              have hz5 : ((gv a b : Int) == 0) = false := by rw [hz3]; rfl
              clear hz hz4
              go_wp2_with (go_at_call 31; refine (rwait_any _ _ _ _ (by omega) (by omega) (by omega) h1 h2).mono ?_; rintro e w' ⟨rfl, rfl⟩)
              go_round
              case rel => exact ⟨b + 1, by omega, by omega, rfl, by rw [HM.out]⟩
              case measure => simp [intOf]; omega
          · have e : b = a := by omega
            subst e
            have hg : gv b b = gv (b + 1) 0 := by unfold gv; by_cases 1 ≤ b <;> simp_all <;> omega
            have HG := Lib.hid hg
            clear hg
            go_wp2
            go_round
            case rel => exact ⟨b + 1, by omega, by omega, rfl, by rw [HG.out]⟩
            case measure => simp [intOf]; omega
      · have e : a = n := by omega
        subst e
        go_wp2
        go_ret2
        exact ⟨ret_ints (by unfold gv gap1; by_cases e1 : a = 1 <;> simp [e1] <;> omega) rfl, rfl⟩
  · simp only [if_neg h]
    have hb := bad_of h
    go_enter Try.func15, Try.ntmps15
    go_wp2_with (go_at_call 30; refine (rgroup_no _ _ hb).mono ?_; rintro e w' ⟨rfl, rfl⟩)
    go_ret2
    exact ⟨rfl, rfl⟩
end Go.Proofs.Ytklfbngmakkefaa
