/- Package ballot: Check and Order; cmp.Compare of ints; what '==' says of two ballots. -/
import Derived.Test.YthkdmpalhdifbaaGreatDoorEncK
import Derived.Laws.StructEq
set_option linter.unusedVariables false
set_option linter.unusedSimpArgs false
namespace Go.Proofs.YthkdmpalhdifbaaGreatDoor
open Go.RowKit

/-- A ballot as a value. -/
abbrev balV (r d : Int) : Value := .agg #[.int .i64 r, .int .i64 d]
def cmpI (x y : Int) : Int := if x < y then -1 else if x > y then 1 else 0
def firstI (x y : Int) : Int := if x = 0 then y else x
/-- The order of two ballots. -/
def ordB (a b : Int × Int) : Int := firstI (cmpI a.1 b.1) (cmpI a.2 b.2)
/-- What Check answers. -/
def chkE (n r d : Int) : Int := if n < 1 ∨ 7 < n then 2 else if r = 0 ∧ d = 0 then 0 else if r < 1 ∨ 1073741824 < r ∨ d < 0 ∨ n ≤ d then 2 else 0

theorem eqBal (a b c d : Int) (w : World) : (Op.equalIn 10000 24 (.agg #[.int .i64 a, .int .i64 b]) (.agg #[.int .i64 c, .int .i64 d])).run Tryz.prog w = .ok (a == c && b == d) w := by
  have u3 := Tryz.underlying3
  have a3 := Tryz.isAgg3
  have z3 := Tryz.sizeOf3
  have hS : Tryz.prog.underlying 24 = some (.struct (Tryz.prog.fieldsOf 24)) := by kernel_rfl
  have hp : Tryz.prog.stoodInHeld 24 = false := by kernel_rfl
  rw [show (10000 : Nat) = 9999 + 1 from rfl, run_equalIn_agg w 9999 24 _ _ hS hp]
  simp only [Program.fieldsOf, Tryz.underlying24]
  go_simp
  by_cases h1 : a = c <;> by_cases h2 : b = d <;> simp [h1, h2]
theorem eqGBal : Tryz.prog.eqGuardType Tryz.prog.depth 24 = false := by kernel_rfl
theorem bldBal (r d : Int) (w : World) : (Instr.build 24 #[(0, .int .i64 r), (1, .int .i64 d)]).run Tryz.prog w = .ok (balV r d) w := run_build w 24 _ _ (by kernel_rfl)
theorem bldBal0 (w : World) : (Instr.build 24 #[]).run Tryz.prog w = .ok (balV 0 0) w := run_build w 24 _ _ (by kernel_rfl)
theorem bldBal1 (r : Int) (w : World) : (Instr.build 24 #[(0, .int .i64 r)]).run Tryz.prog w = .ok (balV r 0) w := run_build w 24 _ _ (by kernel_rfl)

theorem box_below (w : World) (o : Obj) : Below w.heap.size w (w.alloc o) := (Below.refl _ _).alloc (Nat.le_refl _) _

theorem check_any (r d n : Int) (w : World) :
    Calls Tryz.prog 34 #[balV r d, .int .i64 n] w fun e w' => e = .returned (.int .i64 (chkE n r d)) ∧ Below w.heap.size w w' := by
  have hE := fun (a b c d : Int) (w : World) => eqBal a b c d w
  have hG := eqGBal
  have hB0 := fun w => bldBal0 w
  have hb := box_below w (.cells #[.int .i64 r, .int .i64 d] 24)
  by_cases h1 : n < 1
  · have E : chkE n r d = 2 := by simp [chkE, h1]
    rw [E]; clear E
    go_enter Tryz.func34, Tryz.ntmps34
    go_wp2_with fail
    go_ret
    exact ⟨rfl, hb⟩
  by_cases h2 : 7 < n
  · have E : chkE n r d = 2 := by simp [chkE, h2]
    have h1' : decide (n < 1) = false := by simpa using h1
    rw [E]; clear E h1
    go_enter Tryz.func34, Tryz.ntmps34
    go_wp2_with fail
    go_ret
    exact ⟨rfl, hb⟩
  have h1' : decide (n < 1) = false := by simpa using h1
  have h2' : decide (n > 7) = false := by simpa using h2
  by_cases h3 : r = 0 ∧ d = 0
  · have E : chkE n r d = 0 := by simp [chkE, h1, h2, h3]
    obtain ⟨rfl, rfl⟩ := h3
    rw [E]; clear E h1 h2
    go_enter Tryz.func34, Tryz.ntmps34
    go_wp2_with fail
    go_ret
    exact ⟨rfl, hb⟩
  have h3' : (r == 0 && d == 0) = false := by
    by_cases e : r = 0
    · by_cases e2 : d = 0
      · exact absurd ⟨e, e2⟩ h3
      · simp [e2]
    · simp [e]
  by_cases h4 : r < 1
  · have E : chkE n r d = 2 := by simp only [chkE, if_neg (show ¬ (n < 1 ∨ 7 < n) by omega), if_neg h3, if_pos (show r < 1 ∨ 1073741824 < r ∨ d < 0 ∨ n ≤ d by omega)]
    rw [E]; clear E h1 h2 h3
    go_enter Tryz.func34, Tryz.ntmps34
    go_wp2_with fail
    go_ret
    exact ⟨rfl, hb⟩
  have h4' : decide (r < 1) = false := by simpa using h4
  by_cases h5 : r > 1073741824
  · have E : chkE n r d = 2 := by simp only [chkE, if_neg (show ¬ (n < 1 ∨ 7 < n) by omega), if_neg h3, if_pos (show r < 1 ∨ 1073741824 < r ∨ d < 0 ∨ n ≤ d by omega)]
    rw [E]; clear E h1 h2 h3 h4
    go_enter Tryz.func34, Tryz.ntmps34
    go_wp2_with fail
    go_ret
    exact ⟨rfl, hb⟩
  have h5' : decide (r > 1073741824) = false := by simpa using h5
  by_cases h6 : d < 0
  · have E : chkE n r d = 2 := by simp only [chkE, if_neg (show ¬ (n < 1 ∨ 7 < n) by omega), if_neg h3, if_pos (show r < 1 ∨ 1073741824 < r ∨ d < 0 ∨ n ≤ d by omega)]
    rw [E]; clear E h1 h2 h3 h4 h5
    go_enter Tryz.func34, Tryz.ntmps34
    go_wp2_with fail
    go_ret
    exact ⟨rfl, hb⟩
  have h6' : decide (d < 0) = false := by simpa using h6
  by_cases h7 : d ≥ n
  · have E : chkE n r d = 2 := by simp only [chkE, if_neg (show ¬ (n < 1 ∨ 7 < n) by omega), if_neg h3, if_pos (show r < 1 ∨ 1073741824 < r ∨ d < 0 ∨ n ≤ d by omega)]
    rw [E]; clear E h1 h2 h3 h4 h5 h6
    go_enter Tryz.func34, Tryz.ntmps34
    go_wp2_with fail
    go_ret
    exact ⟨rfl, hb⟩
  have h7' : decide (d ≥ n) = false := by simpa using h7
  have E : chkE n r d = 0 := by simp only [chkE, if_neg (show ¬ (n < 1 ∨ 7 < n) by omega), if_neg h3, if_neg (show ¬ (r < 1 ∨ 1073741824 < r ∨ d < 0 ∨ n ≤ d) by omega)]
  rw [E]; clear E h1 h2 h3 h4 h5 h6 h7
  go_enter Tryz.func34, Tryz.ntmps34
  go_wp2_with fail
  go_ret
  exact ⟨rfl, hb⟩

theorem cmpnan (x : Int) (w : World) : Calls Tryz.prog 80 #[.int .i64 x] w fun e w' => e = .returned (.bool false) ∧ w = w' := by
  go_enter Tryz.func80, Tryz.ntmps80
  go_wp2
  go_ret
  exact ⟨by simp, rfl⟩
theorem compare_any (x y : Int) (w : World) : Calls Tryz.prog 61 #[.int .i64 x, .int .i64 y] w fun e w' => e = .returned (.int .i64 (cmpI x y)) ∧ w = w' := by
  by_cases h1 : x < y
  · have E : cmpI x y = -1 := by simp [cmpI, h1]
    rw [E]
    go_enter Tryz.func61, Tryz.ntmps61
    go_wp2_with (go_at_call 80; refine (cmpnan _ _).mono ?_; rintro e w' ⟨rfl, rfl⟩)
    go_ret
    exact ⟨rfl, rfl⟩
  by_cases h2 : x > y
  · have E : cmpI x y = 1 := by simp only [cmpI, if_neg h1, if_pos h2]
    have h1' : decide (x < y) = false := by simpa using h1
    rw [E]; clear h1 E
    go_enter Tryz.func61, Tryz.ntmps61
    go_wp2_with (go_at_call 80; refine (cmpnan _ _).mono ?_; rintro e w' ⟨rfl, rfl⟩)
    go_ret
    exact ⟨rfl, rfl⟩
  have E : cmpI x y = 0 := by simp only [cmpI, if_neg h1, if_neg h2]
  have h1' : decide (x < y) = false := by simpa using h1
  have h2' : decide (x > y) = false := by simpa using h2
  rw [E]; clear h1 h2 E
  go_enter Tryz.func61, Tryz.ntmps61
  go_wp2_with (go_at_call 80; refine (cmpnan _ _).mono ?_; rintro e w' ⟨rfl, rfl⟩)
  go_ret
  exact ⟨rfl, rfl⟩

set_option maxHeartbeats 400000 in
theorem first_two (g : Nat) (x y : Int) (w : World) (h0 : w.cell? ⟨g, 0, none⟩ = some (.int .i64 x)) (h1 : w.cell? ⟨g, 1, none⟩ = some (.int .i64 y)) :
    Calls Tryz.prog 60 #[.slice (some ⟨g, 0, none⟩) 2 2] w fun e w' => e = .returned (.int .i64 (firstI x y)) ∧ w = w' := by
  go_enter Tryz.func60, Tryz.ntmps60
  go_wp2
  go_loop [7] (fun c => ∃ i : Nat, i ≤ 2 ∧ c = .int .i64 i ∧ (1 ≤ i → x = 0) ∧ (2 ≤ i → y = 0)) (fun c => 2 - (intOf c).toNat)
  case atStart => exact ⟨0, by omega, rfl, fun h => by omega, fun h => by omega⟩
  case round =>
    obtain ⟨i, hi, rfl, hx, hy⟩ := hrel
    by_cases e2 : i = 2
    · subst e2
      have x0 := hx (by omega)
      have y0 := hy (by omega)
      clear hx hy
      subst x0 y0
      go_wp2
      go_ret
      exact ⟨rfl, rfl⟩
    by_cases e1 : i = 1
    · subst e1
      have x0 := hx (by omega)
      clear hx hy
      subst x0
      by_cases y0 : y = 0
      · subst y0
        go_wp2
        go_round
        case rel => exact ⟨2, by omega, by go_num, by simp, by simp⟩
        case measure => simp [intOf]
      · have y0' : ((y : Int) == 0) = false := by simpa using y0
        go_wp2
        go_ret
        exact ⟨rfl, rfl⟩
    have e0 : i = 0 := by omega
    subst e0
    clear hx hy
    by_cases x0 : x = 0
    · subst x0
      go_wp2
      go_round
      case rel => exact ⟨1, by omega, by go_num, by simp, by omega⟩
      case measure => simp [intOf]
    · have x0' : ((x : Int) == 0) = false := by simpa using x0
      go_wp2
      go_ret
      exact ⟨by simp [firstI, x0], rfl⟩

set_option maxHeartbeats 1000000 in
theorem order_any (r1 d1 r2 d2 : Int) (w : World) :
    Calls Tryz.prog 36 #[balV r1 d1, balV r2 d2] w fun e w' => e = .returned (.int .i64 (ordB (r1, d1) (r2, d2))) ∧ Below w.heap.size w w' := by
  go_enter Tryz.func36, Tryz.ntmps36
  go_wp2_with fail
  have b1 : Blk ((w.alloc (.cells #[.int .i64 r1, .int .i64 d1] 24)).alloc (.cells #[.int .i64 r2, .int .i64 d2] 24)) w.heap.size 24 #[.int .i64 r1, .int .i64 d1] := (Blk.new w _ _).alloc _
  have b2 : Blk ((w.alloc (.cells #[.int .i64 r1, .int .i64 d1] 24)).alloc (.cells #[.int .i64 r2, .int .i64 d2] 24)) (w.heap.size + 1) 24 #[.int .i64 r2, .int .i64 d2] := by
    have := Blk.new (w.alloc (.cells #[.int .i64 r1, .int .i64 d1] 24)) 24 #[.int .i64 r2, .int .i64 d2]
    rwa [World.size_alloc] at this
  have hB : Below w.heap.size w ((w.alloc (.cells #[.int .i64 r1, .int .i64 d1] 24)).alloc (.cells #[.int .i64 r2, .int .i64 d2] 24)) := ((Below.refl _ _).alloc (Nat.le_refl _) _).alloc (by simp) _
  have hs : ((w.alloc (.cells #[.int .i64 r1, .int .i64 d1] 24)).alloc (.cells #[.int .i64 r2, .int .i64 d2] 24)).heap.size = w.heap.size + 2 := by simp
  try simp only [World.size_alloc]
  generalize ((w.alloc (.cells #[.int .i64 r1, .int .i64 d1] 24)).alloc (.cells #[.int .i64 r2, .int .i64 d2] 24)) = W1 at *
  obtain ⟨g, hg⟩ : ∃ g, g = w.heap.size := ⟨_, rfl⟩
  rw [← hg] at b1 b2 hB hs ⊢
  have k0 := b1.cell (i := 0) (v := .int .i64 r1) rfl
  have k1 := b1.cell (i := 1) (v := .int .i64 d1) rfl
  have k2 := b2.cell (i := 0) (v := .int .i64 r2) rfl
  have k3 := b2.cell (i := 1) (v := .int .i64 d2) rfl
  have HB := Lib.hid hB
  have HG := Lib.hid hg
  clear b1 b2 hB hg
  clear hs
  go_region_held3 (fun W => W.cell? ⟨g, 0, none⟩ = some (.int .i64 r1) ∧ W.cell? ⟨g, 1, none⟩ = some (.int .i64 d1) ∧ W.cell? ⟨g + 1, 0, none⟩ = some (.int .i64 r2) ∧ W.cell? ⟨g + 1, 1, none⟩ = some (.int .i64 d2))
    (first | exact ⟨by assumption, by assumption, by assumption, by assumption⟩ | go_keep)
    (first
      | (go_at_call 61; refine (compare_any _ _ _).mono ?_; rintro e w' ⟨rfl, rfl⟩)
      | (go_at_call 60; refine (first_two _ _ _ _ (by exact Blk.cell (Blk.new _ _ _) rfl) (by exact Blk.cell (Blk.new _ _ _) rfl)).mono ?_; rintro e w' ⟨rfl, rfl⟩))
  go_wp2_with fail
  go_ret
  have hB := HB.out
  rw [HG.out] at hB
  exact ⟨rfl, (hB.alloc hB.size _).drew⟩
end Go.Proofs.YthkdmpalhdifbaaGreatDoor
