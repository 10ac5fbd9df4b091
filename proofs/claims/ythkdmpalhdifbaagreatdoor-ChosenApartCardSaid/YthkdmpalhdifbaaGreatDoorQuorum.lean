/- math/bits of small sets; quorum.Is. -/
import Derived.Test.YthkdmpalhdifbaaGreatDoorBallot
set_option linter.unusedVariables false
set_option linter.unusedSimpArgs false
namespace Go.Proofs.YthkdmpalhdifbaaGreatDoor
open Go.RowKit Go.Maps

/-- How many of seven bits are set. -/
def pop (x : Nat) : Nat := (List.range 7).countP fun i => x.testBit i
def blen (x : Nat) : Nat := if x = 0 then 0 else Nat.log2 x + 1

set_option maxRecDepth 100000 in
theorem ones_any (x : Nat) (w : World) (h : x < 128) :
    Calls Tryz.prog 66 #[.int .u64 x] w fun e w' => e = .returned (.int .i64 (pop x)) ∧ w = w' := by
  go_enter Tryz.func66, Tryz.ntmps66
  go_wp2
  go_returns
  refine ⟨ret_i64 ?_, rfl⟩
  revert x
  decide +kernel
set_option maxRecDepth 100000 in
theorem len64_any (x : Nat) (w : World) (h : x < 128) :
    Calls Tryz.prog 90 #[.int .u64 x] w fun e w' => e = .returned (.int .i64 (blen x)) ∧ w = w' := by
  have h1 : decide ((x : Int) ≥ 4294967296) = false := by simp; omega
  have h2 : decide ((x : Int) ≥ 65536) = false := by simp; omega
  have h3 : decide ((x : Int) ≥ 256) = false := by simp; omega
  go_enter Tryz.func90, Tryz.ntmps90
  go_wp2
  go_returns
  refine ⟨ret_i64 ?_, rfl⟩
  show RowKit.wrap64 (RowKit.wrap64 _) = _
  rw [← getElem!_pos]
  clear h1 h2 h3
  revert x
  decide +kernel
theorem blen_le : ∀ n : Nat, n ≤ 7 → ∀ x : Nat, x < 128 → (x < 2 ^ n ↔ blen x ≤ n) := by decide +kernel

/-- check's closure: too many bits? -/
theorem big_any (b : Nat) (n : Nat) (x : Nat) (w : World) (h : x < 128) (hc : w.cell? ⟨b, 0, none⟩ = some (.int .i64 n)) :
    Calls Tryz.prog 92 #[.int .u64 x, .pointer (some ⟨b, 0, none⟩)] w fun e w' => e = .returned (.bool (decide ((blen x : Int) > n))) ∧ Below w.heap.size w w' := by
  go_enter Tryz.func92, Tryz.ntmps92
  go_wp2_with fail
  go_region_held3 (fun W => W.cell? ⟨b, 0, none⟩ = some (.int .i64 n))
    (first | assumption | go_keep)
    (first
      | (go_at_call 90; refine (len64_any x _ h).mono ?_; rintro e w' ⟨rfl, rfl⟩))
  go_wp2_with fail
  go_returns
  exact ⟨by simp, (Below.refl _ _).drew⟩
theorem index_one (b g : Nat) (n x : Nat) (w : World) (h : x < 128) (hc : w.cell? ⟨b, 0, none⟩ = some (.int .i64 n)) (hg : w.cell? ⟨g, 0, none⟩ = some (.int .u64 x)) :
    Calls Tryz.prog 106 #[.slice (some ⟨g, 0, none⟩) 1 1, .func (.func 92) #[] #[.pointer (some ⟨b, 0, none⟩)]] w fun e w' => e = .returned (.int .i64 (if (blen x : Int) > n then 0 else -1)) ∧ Below w.heap.size w w' := by
  by_cases hx : (blen x : Int) > n
  · have hd := decide_eq_true hx
    rw [if_pos hx]
    clear hx
    go_enter Tryz.func106, Tryz.ntmps106
    go_wp2_with fail
    refine wp_loop_rounds 3 ?_
    rw [rounds_succ]
    go_wp2_with (first | (go_at_call 92; refine (big_any b n x _ h hc).mono ?_; rw [hd]; rintro e w2 ⟨rfl, b2⟩))
    go_returns
    exact ⟨rfl, b2⟩
  · have hd := decide_eq_false hx
    rw [if_neg hx]
    clear hx
    go_enter Tryz.func106, Tryz.ntmps106
    go_wp2_with fail
    refine wp_loop_rounds 3 ?_
    rw [rounds_succ]
    go_wp2_with (first | (go_at_call 92; refine (big_any b n x _ h hc).mono ?_; rw [hd]; rintro e w2 ⟨rfl, b2⟩))
    rw [rounds_succ]
    go_wp2_with fail
    go_returns
    exact ⟨rfl, b2⟩
theorem contains_one (b g : Nat) (n x : Nat) (w : World) (h : x < 128) (hc : w.cell? ⟨b, 0, none⟩ = some (.int .i64 n)) (hg : w.cell? ⟨g, 0, none⟩ = some (.int .u64 x)) :
    Calls Tryz.prog 91 #[.slice (some ⟨g, 0, none⟩) 1 1, .func (.func 92) #[] #[.pointer (some ⟨b, 0, none⟩)]] w fun e w' => e = .returned (.bool (decide ((blen x : Int) > n))) ∧ Below w.heap.size w w' := by
  have hi := index_one b g n x w h hc hg
  by_cases hx : (blen x : Int) > n
  · rw [if_pos hx] at hi
    rw [decide_eq_true hx]
    clear hx
    go_enter Tryz.func91, Tryz.ntmps91
    go_wp2_with (first | (go_at_call 106; refine hi.mono ?_; rintro e w2 ⟨rfl, b2⟩))
    go_returns
    exact ⟨rfl, b2⟩
  · rw [if_neg hx] at hi
    rw [decide_eq_false hx]
    clear hx
    go_enter Tryz.func91, Tryz.ntmps91
    go_wp2_with (first | (go_at_call 106; refine hi.mono ?_; rintro e w2 ⟨rfl, b2⟩))
    go_returns
    exact ⟨rfl, b2⟩

theorem qcheck_any (g : Nat) (n x : Nat) (w : World) (hn : 1 ≤ n ∧ n ≤ 7) (h : x < 128) (hg : w.cell? ⟨g, 0, none⟩ = some (.int .u64 x)) :
    Calls Tryz.prog 65 #[.int .i64 n, .slice (some ⟨g, 0, none⟩) 1 1] w fun e w' => e = .returned (.int .i64 (if blen x ≤ n then 0 else 2)) ∧ Below w.heap.size w w' := by
  have hb := box_below w (.cells #[.int .i64 n] 3)
  have c0 := (Blk.new w 3 #[.int .i64 n]).cell (i := 0) (v := .int .i64 n) rfl
  have g0 := bcell hb hg
  have hd1 : decide ((n : Int) < 1) = false := by simp; omega
  have hd2 : decide ((n : Int) > 7) = false := by simp; omega
  by_cases hx : blen x ≤ n
  · have hd : decide ((blen x : Int) > n) = false := by simp; omega
    rw [if_pos hx]
    clear hx
    go_enter Tryz.func65, Tryz.ntmps65
    go_wp2_with (first | (go_at_call 91; refine (contains_one _ g n x _ h c0 g0).mono ?_; rw [hd]; rintro e w2 ⟨rfl, b2⟩))
    go_returns
    exact ⟨rfl, bchain hb b2⟩
  · have hd : decide ((blen x : Int) > n) = true := by simp; omega
    rw [if_neg hx]
    clear hx
    go_enter Tryz.func65, Tryz.ntmps65
    go_wp2_with (first | (go_at_call 91; refine (contains_one _ g n x _ h c0 g0).mono ?_; rw [hd]; rintro e w2 ⟨rfl, b2⟩))
    go_returns
    exact ⟨rfl, bchain hb b2⟩

/-- A majority of n? -/
def maj (x n : Nat) : Bool := decide (n / 2 < pop x)
theorem maj_int (x n : Nat) : maj x n = decide ((n : Int) / 2 < (pop x : Int)) := by
  unfold maj
  rw [decide_eq_decide]
  omega
theorem is_any (n x : Nat) (w : World) (hn : 1 ≤ n ∧ n ≤ 7) (h : x < 2 ^ n) :
    Calls Tryz.prog 39 #[.int .u64 x, .int .i64 n] w fun e w' => e = .returned (.tuple #[.bool (maj x n), .int .i64 0]) ∧ Below w.heap.size w w' := by
  have h128 : x < 128 := Nat.lt_of_lt_of_le h (Nat.pow_le_pow_right (by decide) hn.2)
  have hbl := (blen_le n hn.2 x h128).1 h
  have hb := box_below w (.cells #[.int .u64 x] 25)
  have g0 := (Blk.new w 25 #[.int .u64 x]).cell (i := 0) (v := .int .u64 x) rfl
  have HX := Lib.hid h128
  have HBL := Lib.hid hbl
  have HN := Lib.hid hn
  clear h hbl h128
  go_enter Tryz.func39, Tryz.ntmps39
  go_wp2_with (first
    | (go_at_call 65; refine (qcheck_any _ n x _ HN.out HX.out g0).mono ?_; rw [if_pos HBL.out]; rintro e w2 ⟨rfl, b2⟩)
    | (go_at_call 66; refine (ones_any x _ HX.out).mono ?_; rintro e w' ⟨rfl, rfl⟩))
  go_returns
  rw [maj_int]
  exact ⟨rfl, bchain hb b2⟩
end Go.Proofs.YthkdmpalhdifbaaGreatDoor
