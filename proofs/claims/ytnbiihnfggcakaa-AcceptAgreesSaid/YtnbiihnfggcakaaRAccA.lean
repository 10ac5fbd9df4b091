/- The reference's ballots and acceptor: Check, Order; the acceptor in memory; valid, good, New, Promised, Base. -/
import Derived.Test.YtnbiihnfggcakaaAccP
set_option linter.unusedVariables false
set_option linter.unusedSimpArgs false
namespace Go.Proofs.Ytnbiihnfggcakaa
open Go.RowKit Go.Maps Go.Shelf

theorem rcheck_any (r d n : Int) (w : World) :
    Calls Try.prog 59 #[balV r d, .int .i64 n] w fun e w' => e = .returned (.int .i64 (chkE n r d)) ∧ Below w.heap.size w w' := by
  have hE := fun (a b c d : Int) (w : World) => eqBal a b c d w
  have hG := eqGBal
  have hB0 := fun w => bldBal0 w
  have hb := box_below w (.cells #[.int .i64 r, .int .i64 d] 30)
  by_cases h1 : n < 1
  · have E : chkE n r d = 2 := by simp [chkE, h1]
    rw [E]; clear E
    go_enter Try.func59, Try.ntmps59
    go_wp2_with fail
    go_returns
    exact ⟨rfl, hb⟩
  have h1' : decide (n < 1) = false := by simpa using h1
  by_cases h2 : 7 < n
  · have E : chkE n r d = 2 := by simp [chkE, h2]
    rw [E]; clear E h1
    go_enter Try.func59, Try.ntmps59
    go_wp2_with fail
    go_returns
    exact ⟨rfl, hb⟩
  have h2' : decide (n > 7) = false := by simpa using h2
  by_cases h3 : r = 0 ∧ d = 0
  · have E : chkE n r d = 0 := by simp [chkE, h1, h2, h3]
    obtain ⟨rfl, rfl⟩ := h3
    rw [E]; clear E h1 h2
    go_enter Try.func59, Try.ntmps59
    go_wp2_with fail
    go_returns
    exact ⟨rfl, hb⟩
  have h3' : (r == 0 && d == 0) = false := by
    by_cases e : r = 0
    · by_cases e2 : d = 0
      · exact absurd ⟨e, e2⟩ h3
      · simp [e2]
    · simp [e]
  by_cases h4 : r ≥ 1
  case neg =>
    have E : chkE n r d = 2 := by simp only [chkE, if_neg (show ¬ (n < 1 ∨ 7 < n) by omega), if_neg h3, if_pos (show r < 1 ∨ 1073741824 < r ∨ d < 0 ∨ n ≤ d by omega)]
    have h4' : decide (r ≥ 1) = false := by simpa using h4
    rw [E]; clear E h1 h2 h3 h4
    go_enter Try.func59, Try.ntmps59
    go_wp2_with fail
    go_returns
    exact ⟨rfl, hb⟩
  by_cases h5 : r ≤ 1073741824
  case neg =>
    have E : chkE n r d = 2 := by simp only [chkE, if_neg (show ¬ (n < 1 ∨ 7 < n) by omega), if_neg h3, if_pos (show r < 1 ∨ 1073741824 < r ∨ d < 0 ∨ n ≤ d by omega)]
    have h5' : decide (r ≤ 1073741824) = false := by simpa using h5
    rw [E]; clear E h1 h2 h3 h5
    go_enter Try.func59, Try.ntmps59
    go_wp2_with fail
    go_returns
    exact ⟨rfl, hb⟩
  by_cases h6 : d ≥ 0
  case neg =>
    have E : chkE n r d = 2 := by simp only [chkE, if_neg (show ¬ (n < 1 ∨ 7 < n) by omega), if_neg h3, if_pos (show r < 1 ∨ 1073741824 < r ∨ d < 0 ∨ n ≤ d by omega)]
    have h6' : decide (d ≥ 0) = false := by simpa using h6
    rw [E]; clear E h1 h2 h3 h6
    go_enter Try.func59, Try.ntmps59
    go_wp2_with fail
    go_returns
    exact ⟨rfl, hb⟩
  by_cases h7 : d < n
  case neg =>
    have E : chkE n r d = 2 := by simp only [chkE, if_neg (show ¬ (n < 1 ∨ 7 < n) by omega), if_neg h3, if_pos (show r < 1 ∨ 1073741824 < r ∨ d < 0 ∨ n ≤ d by omega)]
    have h7' : decide (d < n) = false := by simpa using h7
    rw [E]; clear E h1 h2 h3 h7
    go_enter Try.func59, Try.ntmps59
    go_wp2_with fail
    go_returns
    exact ⟨rfl, hb⟩
  have E : chkE n r d = 0 := by simp only [chkE, if_neg (show ¬ (n < 1 ∨ 7 < n) by omega), if_neg h3, if_neg (show ¬ (r < 1 ∨ 1073741824 < r ∨ d < 0 ∨ n ≤ d) by omega)]
  rw [E]; clear E h1 h2 h3
  go_enter Try.func59, Try.ntmps59
  go_wp2_with fail
  go_returns
  exact ⟨rfl, hb⟩

theorem rorder_any (r1 d1 r2 d2 : Int) (w : World) :
    Calls Try.prog 48 #[balV r1 d1, balV r2 d2] w fun e w' => e = .returned (.int .i64 (ordB (r1, d1) (r2, d2))) ∧ Below w.heap.size w w' := by
  have hE := fun (a b c d : Int) (w : World) => eqBal a b c d w
  have hG := eqGBal
  have hb := bchain (box_below w (.cells #[.int .i64 r1, .int .i64 d1] 30)) (box_below _ (.cells #[.int .i64 r2, .int .i64 d2] 30))
  by_cases h1 : r1 < r2
  · have E : ordB (r1, d1) (r2, d2) = -1 := by simp [ordB, firstI, cmpI, h1]
    rw [E]; clear E
    go_enter Try.func48, Try.ntmps48
    go_wp2_with fail
    go_returns
    exact ⟨rfl, hb⟩
  have h1' : decide (r1 < r2) = false := by simpa using h1
  by_cases h2 : r1 = r2
  · subst h2
    by_cases h3 : d1 < d2
    · have E : ordB (r1, d1) (r1, d2) = -1 := by simp [ordB, firstI, cmpI, h3]
      rw [E]; clear E h1
      go_enter Try.func48, Try.ntmps48
      go_wp2_with fail
      go_returns
      exact ⟨rfl, hb⟩
    have h3' : decide (d1 < d2) = false := by simpa using h3
    by_cases h4 : d1 = d2
    · subst h4
      have E : ordB (r1, d1) (r1, d1) = 0 := by simp [ordB, firstI, cmpI]
      rw [E]; clear E h1 h3
      go_enter Try.func48, Try.ntmps48
      go_wp2_with fail
      go_returns
      exact ⟨rfl, hb⟩
    · have h4' : (d1 == d2) = false := by simpa using h4
      have E : ordB (r1, d1) (r1, d2) = 1 := by simp [ordB, firstI, cmpI, h3]; omega
      rw [E]; clear E h1 h3 h4
      go_enter Try.func48, Try.ntmps48
      go_wp2_with fail
      go_returns
      exact ⟨rfl, hb⟩
  · have h2' : (r1 == r2) = false := by simpa using h2
    have E : ordB (r1, d1) (r2, d2) = 1 := by simp only [ordB, firstI, cmpI, if_neg h1, if_pos (show r1 > r2 by omega)]; simp
    rw [E]; clear E h1 h2
    go_enter Try.func48, Try.ntmps48
    go_wp2_with fail
    go_returns
    exact ⟨rfl, hb⟩

/-- The reference's acceptor at the block p; its entries are the row v. -/
structure RAt (w : World) (p : Nat) (v : Value) (s : ASt) : Prop where
  blk : Blk w p 89 #[.bool true, .int .i64 s.n, .int .i64 s.r, .int .i64 s.d, v, .int .i64 s.base]
  row : EntRow w 0 v s.L
  good : AGood s

theorem rvalid (p : Nat) (w : World) (h : w.cell? ⟨p, 0, none⟩ = some (.bool true)) :
    Calls Try.prog 46 #[.pointer (some ⟨p, 0, none⟩)] w fun e w' => e = .returned (.bool true) ∧ w = w' := by
  go_enter Try.func46, Try.ntmps46
  go_wp2
  go_returns
  exact ⟨rfl, rfl⟩
end Go.Proofs.Ytnbiihnfggcakaa
