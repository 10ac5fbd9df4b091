/- Packages skaldref05, skaldref13, skaldref25: Digits, Valid, alone, Text. -/
import Derived.Test.YthkdmpalhdifbaaGreatDoorChoT
import Derived.Laws.BytesArg
set_option linter.unusedVariables false
set_option linter.unusedSimpArgs false
namespace Go.Proofs.YthkdmpalhdifbaaGreatDoor
open Go.RowKit Go.Maps

def valB (n r d : Int) : Bool := decide (r ≥ 1) && (decide (r ≤ 1073741824) && (decide (d ≥ 0) && decide (d < n)))
theorem rlvalid_any (r d n : Int) (w : World) :
    Calls Tryz.prog 40 #[balV r d, .int .i64 n] w fun e w' => e = .returned (.bool (valB n r d)) ∧ Below w.heap.size w w' := by
  have hb := box_below w (.cells #[.int .i64 r, .int .i64 d] 24)
  unfold valB
  cases h4 : decide (r ≥ 1)
  case false =>
    go_enter Tryz.func40, Tryz.ntmps40
    go_wp2_with fail
    go_returns
    exact ⟨rfl, hb⟩
  cases h5 : decide (r ≤ 1073741824)
  case false =>
    go_enter Tryz.func40, Tryz.ntmps40
    go_wp2_with fail
    go_returns
    exact ⟨rfl, hb⟩
  cases h6 : decide (d ≥ 0)
  case false =>
    go_enter Tryz.func40, Tryz.ntmps40
    go_wp2_with fail
    go_returns
    exact ⟨rfl, hb⟩
  cases h7 : decide (d < n)
  case false =>
    go_enter Tryz.func40, Tryz.ntmps40
    go_wp2_with fail
    go_returns
    exact ⟨rfl, hb⟩
  go_enter Tryz.func40, Tryz.ntmps40
  go_wp2_with fail
  go_returns
  exact ⟨rfl, hb⟩
theorem val_chk {n : Nat} (r d : Int) (hn : 1 ≤ n ∧ n ≤ 7) : valB n r d = (!(r == 0 && d == 0) && decide (chkE n r d = 0)) := by
  unfold valB
  by_cases h3 : r = 0 ∧ d = 0
  · obtain ⟨rfl, rfl⟩ := h3; rfl
  have h3' : (r == 0 && d == 0) = false := by
    rw [Bool.eq_false_iff]; intro hc; simp at hc; exact h3 hc
  rw [h3']
  simp only [Bool.not_false, Bool.true_and]
  unfold chkE
  rw [if_neg (by omega), if_neg h3]
  by_cases h4 : r < 1 ∨ 1073741824 < r ∨ d < 0 ∨ (n : Int) ≤ d
  · rw [if_pos h4]
    rw [show decide ((2 : Int) = 0) = false from rfl]
    rw [Bool.eq_false_iff]
    intro hc
    simp at hc
    omega
  · rw [if_neg h4]
    rw [show decide ((0 : Int) = 0) = true from rfl]
    simp
    omega
theorem risSlot_any (k : Int) (w : World) : Calls Tryz.prog 41 #[.int .i64 k] w fun e w' => e = .returned (.bool (decide (k ≥ 0) && decide (k < 4096))) ∧ w = w' := by
  cases h1 : decide (k ≥ 0) with
  | false =>
    go_enter Tryz.func41, Tryz.ntmps41
    go_wp2_with fail
    go_returns
    exact ⟨rfl, rfl⟩
  | true =>
    cases h2 : decide (k < 4096) with
    | false =>
      go_enter Tryz.func41, Tryz.ntmps41
      go_wp2_with fail
      go_returns
      exact ⟨rfl, rfl⟩
    | true =>
      go_enter Tryz.func41, Tryz.ntmps41
      go_wp2_with fail
      go_returns
      exact ⟨rfl, rfl⟩
def ralB (x : Vt) (n : Int) : Bool := decide (x.nd ≥ 0) && (decide (x.nd < n) && (valB n x.r x.d && ((decide (x.sl ≥ 0) && decide (x.sl < 4096)) && decide ((x.v.size : Int) ≤ 65536))))
theorem ral_eq {n : Nat} (x : Vt) (hn : 1 ≤ n ∧ n ≤ 7) : ralB x n = aloneB x n := by
  unfold ralB aloneB
  rw [val_chk _ _ hn, Bool.and_assoc]
set_option maxRecDepth 100000 in
set_option maxHeartbeats 2000000 in
theorem ralone_any (nd r d sl : Int) (v : ByteArray) (n : Int) (w : World) :
    Calls Tryz.prog 43 #[.agg #[.int .i64 nd, .int .i64 r, .int .i64 d, .int .i64 sl, .string v], .int .i64 n] w fun e w' => e = .returned (.bool (ralB ⟨nd, r, d, sl, v⟩ n)) ∧ Below w.heap.size w w' := by
  have hb := box_below w (.cells #[.int .i64 nd, .int .i64 r, .int .i64 d, .int .i64 sl, .string v] 38)
  unfold ralB
  simp only
  cases h1 : decide (nd ≥ 0)
  case false =>
    go_enter Tryz.func43, Tryz.ntmps43
    go_wp2_with fail
    go_returns
    exact ⟨rfl, hb⟩
  cases h2 : decide (nd < n)
  case false =>
    go_enter Tryz.func43, Tryz.ntmps43
    go_wp2_with fail
    go_returns
    exact ⟨rfl, hb⟩
  have kb := Blk.new w 38 #[.int .i64 nd, .int .i64 r, .int .i64 d, .int .i64 sl, .string v]
  have KB := Lib.hid kb
  have HB := Lib.hid hb
  clear kb hb
  cases h3 : valB n r d
  case false =>
    go_enter Tryz.func43, Tryz.ntmps43
    go_wp2_with (go_at_call 40; refine (rlvalid_any _ _ _ _).mono ?_; rw [h3]; rintro e w2 ⟨rfl, b2⟩; have B2 := Lib.hid (bchain HB.out b2); clear b2)
    go_returns
    exact ⟨rfl, B2.out⟩
  cases h5 : (decide (sl ≥ 0) && decide (sl < 4096))
  case false =>
    go_enter Tryz.func43, Tryz.ntmps43
    go_wp2_with (first
      | (go_at_call 40; refine (rlvalid_any _ _ _ _).mono ?_; rw [h3]; rintro e w2 ⟨rfl, b2⟩; have B2 := Lib.hid (bchain HB.out b2); have K2 := KB.out.fr (Fr.of_below b2 : Fr S0 _ _) (fun h => h); have q3 := K2.cell (i := 3) (v := .int .i64 sl) rfl; have q4 := K2.cell (i := 4) (v := .string v) rfl; clear b2 K2)
      | (go_at_call 41; refine (risSlot_any _ _).mono ?_; rw [h5]; rintro e w' ⟨rfl, rfl⟩))
    go_returns
    exact ⟨rfl, B2.out⟩
  cases h6 : decide ((v.size : Int) ≤ 65536)
  all_goals
    go_enter Tryz.func43, Tryz.ntmps43
    go_wp2_with (first
      | (go_at_call 40; refine (rlvalid_any _ _ _ _).mono ?_; rw [h3]; rintro e w2 ⟨rfl, b2⟩; have B2 := Lib.hid (bchain HB.out b2); have K2 := KB.out.fr (Fr.of_below b2 : Fr S0 _ _) (fun h => h); have q3 := K2.cell (i := 3) (v := .int .i64 sl) rfl; have q4 := K2.cell (i := 4) (v := .string v) rfl; clear b2 K2)
      | (go_at_call 41; refine (risSlot_any _ _).mono ?_; rw [h5]; rintro e w' ⟨rfl, rfl⟩))
    go_returns
    exact ⟨rfl, B2.out⟩

/-! ### Digits -/
theorem nDigits_le : ∀ (k u : Nat), u < 10 ^ (k + 1) → Lib.nDigits u ≤ k + 1
  | 0, u, h => by rw [Lib.nDigits_small (by simpa using h)]; exact Nat.le_refl _
  | k + 1, u, h => by
    by_cases h1 : u < 10
    · rw [Lib.nDigits_small h1]; omega
    · rw [Lib.nDigits_big h1]
      have := nDigits_le k (u / 10) (by rw [Nat.pow_succ] at h; omega)
      omega
theorem itoaS_size {x : Int} (h0 : 0 ≤ x) (h1 : x ≤ 9223372036854775807) : (itoaS x).size ≤ 20 := by
  unfold itoaS Lib.itoa
  rw [if_neg (by omega), sOf_size, Lib.decDigits_length]
  exact Nat.le_trans (nDigits_le 18 x.toNat (by omega)) (by decide)
theorem itoaS_step {x : Int} (h : 10 ≤ x) : itoaS x = itoaS (x / 10) ++ itoaS (x % 10) := by
  obtain ⟨k, rfl⟩ : ∃ k : Nat, x = (k : Int) := ⟨x.toNat, by omega⟩
  have e1 : (k : Int) / 10 = ((k / 10 : Nat) : Int) := by omega
  have e2 : (k : Int) % 10 = ((k % 10 : Nat) : Int) := by omega
  rw [e1, e2]
  unfold itoaS Lib.itoa
  rw [if_neg (by omega), if_neg (by omega), if_neg (by omega)]
  simp only [Int.toNat_natCast]
  rw [Lib.decDigits, dif_neg (by omega), Lib.decDigits_one (i := k % 10) (by omega)]
  apply ByteArray.ext
  simp [sOf]
theorem strD : ∀ k : Fin 10, strOfNums [48 + ((k.val : Nat) : Int)] = ⟨#[UInt8.ofNat (48 + k.val)]⟩ := by decide +kernel
theorem itoa_dg (k : Nat) (h : k < 10) : itoaS (k : Int) = ⟨#[UInt8.ofNat (48 + k)]⟩ := by
  unfold itoaS Lib.itoa
  rw [if_neg (by omega), Int.toNat_natCast, Lib.decDigits_one h]
  rfl
theorem convD (k : Nat) (hk : k < 10) (w : World) : (convert 68 9 (.slice (some ⟨w.heap.size, 0, none⟩) 1 1)).run Tryz.prog (w.alloc (.cells #[.int .u8 (48 + (k : Int))] 5)) = .ok (.string (itoaS k)) (w.alloc (.cells #[.int .u8 (48 + (k : Int))] 5)) := by
  rw [itoa_dg k hk, ← strD ⟨k, hk⟩]
  refine run_convert_bytes_arg _ _ _ Tryz.underlying68 Tryz.underlying5 w.heap.size 0 1 1 [48 + (k : Int)] (by simp) (fun i hi => ?_) _ Tryz.underlying9
  have : i = 0 := by omega
  subst this
  exact (Blk.new w 5 #[.int .u8 (48 + (k : Int))]).cell (i := 0) rfl
end Go.Proofs.YthkdmpalhdifbaaGreatDoor
