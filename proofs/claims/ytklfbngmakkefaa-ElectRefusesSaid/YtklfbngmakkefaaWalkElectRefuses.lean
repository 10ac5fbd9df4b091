/- The walk of skaldlaw21.ElectRefuses: it returns true, and writes nothing that was there. -/
import Derived.Test.YtklfbngmakkefaaElectW
import Derived.OpenShut
set_option linter.unusedVariables false
set_option linter.unusedSimpArgs false
namespace Go.Proofs.Ytklfbngmakkefaa.electRefuses
open Go.RowKit Go.Shelf
/-- The numbers that Wait is asked at. -/
def ask (k m : Int) (i c : Nat) : Int :=
  match i, c with
  | 0, 0 => k | 0, 1 => 0 | 0, _ => k
  | 1, 0 => k + m | 1, 1 => 0 | 1, _ => k
  | 2, 0 => -1 - m | 2, 1 => 0 | 2, _ => k
  | 3, 0 => 0 | 3, 1 => -1 - m | 3, _ => k
  | 4, 0 => 0 | 4, 1 => 0 | 4, _ => 8 + m
  | 5, 0 => 0 | 5, 1 => 0 | 5, _ => -m
  | 6, 0 => 0 | 6, 1 => -9223372036854775808 | 6, _ => k
  | _, 0 => -9223372036854775808 | _, 1 => 0 | _, _ => k
theorem eight {i : Nat} (h : i < 8) : i = 0 ∨ i = 1 ∨ i = 2 ∨ i = 3 ∨ i = 4 ∨ i = 5 ∨ i = 6 ∨ i = 7 := by omega
theorem ask_no {k m : Int} (h1 : 1 ≤ k) (h2 : k ≤ 7) (h3 : 0 ≤ m) {i : Nat} (hi : i < 8) : ¬ okW (ask k m i 0) (ask k m i 1) (ask k m i 2) := by
  unfold okW
  rcases eight hi with rfl | rfl | rfl | rfl | rfl | rfl | rfl | rfl <;> simp only [ask] <;> omega

set_option maxRecDepth 100000 in
set_option maxHeartbeats 2000000 in
theorem walk0 (a0 m : Int) (h0 : 0 ≤ a0) (h1 : a0 ≤ 255) (g0 : 0 ≤ m) (g1 : m ≤ 4294967295) (w : World) :
    Calls Try.prog 8 #[.int .u8 a0, .int .u32 m] w fun e w' => e = .returned (.bool true) ∧ Below w.heap.size w w' := by
  obtain ⟨k, hK⟩ : ∃ k : Int, 1 + a0 % 7 = k := ⟨_, rfl⟩
  have hk1 : 1 ≤ k := by omega
  have hk2 : k ≤ 7 := by omega
  have HK := Lib.hid hK
  clear hK
  go_enter Try.func8, Try.ntmps8
  go_wp2_with fail
  rw [HK.out]
  obtain ⟨W1, hW1⟩ : ∃ W1 : World, W1 = w.alloc (.cells #[.int .i64 k, .int .i64 0, .int .i64 k, .int .i64 (k + m), .int .i64 0, .int .i64 k, .int .i64 (-1 - m), .int .i64 0, .int .i64 k, .int .i64 0, .int .i64 (-1 - m), .int .i64 k, .int .i64 0, .int .i64 0, .int .i64 (8 + m), .int .i64 0, .int .i64 0, .int .i64 (-m), .int .i64 0, .int .i64 (-9223372036854775808), .int .i64 k, .int .i64 (-9223372036854775808), .int .i64 0, .int .i64 k] 40) := ⟨_, rfl⟩
  rw [← hW1]
  have hcell : ∀ i, i < 8 → W1.cell? ⟨w.heap.size, i * 3, none⟩ = some (.int .i64 (ask k m i 0)) ∧ W1.cell? ⟨w.heap.size, i * 3 + 1, none⟩ = some (.int .i64 (ask k m i 1)) ∧ W1.cell? ⟨w.heap.size, i * 3 + 2, none⟩ = some (.int .i64 (ask k m i 2)) := by
    intro i hi
    rw [hW1]
    rcases eight hi with rfl | rfl | rfl | rfl | rfl | rfl | rfl | rfl <;> simp [go_sem, ask]
  have hS1 : w.heap.size < W1.heap.size := by rw [hW1]; simp
  have hB1 : Below w.heap.size w W1 := by rw [hW1]; exact (Below.refl _ _).alloc (Nat.le_refl _) _
  clear hW1
  have HC := Lib.hid hcell
  clear hcell
  go_loopw [8, 9, 10, 66] (fun _ _ _ c wr => ∃ i : Nat, i ≤ 8 ∧ c = .int .i64 i ∧ Below W1.heap.size W1 wr) (fun _ _ _ c _ => 8 - (intOf c).toNat)
  case atStart => exact ⟨0, by omega, rfl, Below.refl _ _⟩
  case round =>
    obtain ⟨i, hi, rfl, hB⟩ := hrel
    by_cases hlt : i < 8
    · obtain ⟨c0, c1, c2⟩ := HC.out i hlt
      have d0 := bcell hB c0
      have d1 := bcell hB c1
      have d2 := bcell hB c2
      clear c0 c1 c2
      have hno := Lib.hid (ask_no hk1 hk2 g0 hlt)
      go_wp2_with fail
      refine (wait_no _ _ _ _ hno.out).mono ?_
      rintro e w2 ⟨rfl, hb2⟩
      go_wp2_with fail
      go_roundw
      case rel => exact ⟨i + 1, by omega, by go_num, hB.trans ((bchain ((Below.refl _ _).alloc (Nat.le_refl _) _) hb2).mono hB.size)⟩
      case measure => simp [intOf]; omega
    · obtain ⟨wo, rfl⟩ : ∃ wo : World, wo = wr := ⟨_, rfl⟩
      go_wp2_with fail
      generalize hW2 : wo.alloc (.cells #[.int .i64 (8 + m), .int .i64 (-m)] 3) = W2
      have hc2 : ∀ i, i < 2 → W2.cell? ⟨wo.heap.size, i, none⟩ = some (.int .i64 (f2 (8 + m) (-m) i)) := by rw [← hW2]; exact cells2 _ _ _ _
      have hb2 : Below wo.heap.size wo W2 := by rw [← hW2]; exact (Below.refl _ _).alloc (Nat.le_refl _) _
      clear hW2
      have HC2 := Lib.hid hc2
      clear hc2
      go_loopw [12, 13, 14, 15, 16, 17, 18, 19, 20, 21, 22, 23, 24, 25, 93] (fun _ _ _ _ _ _ _ _ _ _ _ _ _ _ c w3 => ∃ j : Nat, j ≤ 2 ∧ c = .int .i64 j ∧ Below W2.heap.size W2 w3) (fun _ _ _ _ _ _ _ _ _ _ _ _ _ _ c _ => 2 - (intOf c).toNat)
      case atStart => exact ⟨0, by omega, rfl, Below.refl _ _⟩
      case round =>
        obtain ⟨j, hj, rfl, hB3⟩ := hrel
        by_cases hlt2 : j < 2
        · have d0 := bcell hB3 (HC2.out j hlt2)
          obtain ⟨x, hx⟩ : ∃ x, f2 (8 + m) (-m) j = x := ⟨_, rfl⟩
          have hbad : x < 1 ∨ 7 < x := by rw [← hx]; unfold f2; split <;> omega
          rw [hx] at d0
          clear hx
          have hno : ¬ okN x := by unfold okN; omega
          have hnoA : ¬ okA x 0 0 := by unfold okA; omega
          have q1 : gapV x = 0 := if_neg hno
          have q2 : errN x = 2 := if_neg hno
          have q3 : beatV x = 0 := if_neg hno
          have q4 : longV x = 0 := if_neg hno
          have q5 : firstV x = 0 := if_neg hno
          have q6 : apartV x 0 0 = false := if_neg hnoA
          have q7 : apartE x 0 0 = 2 := if_neg hnoA
          have HNO := Lib.hid hbad
          clear hno hnoA hbad
          go_wp2_with (first
            | (go_at_call 14; refine (gap_any _ _).mono ?_; rintro e w' ⟨rfl, rfl⟩)
            | (go_at_call 16; refine (beat_any _ _).mono ?_; rintro e w' ⟨rfl, rfl⟩)
            | (go_at_call 18; refine (longest_any _ _).mono ?_; rintro e w' ⟨rfl, rfl⟩)
            | (go_at_call 20; refine (first_any _ _).mono ?_; rintro e w4 ⟨rfl, hb4⟩)
            | (go_at_call 22; refine (order_no _ _ _ (HNO.out.elim .inl (fun h => .inr (.inl h)))).mono ?_; rintro e w5 ⟨rfl, hb5⟩)
            | (go_at_call 24; refine (apart_any _ _ _ _).mono ?_; rintro e w6 ⟨rfl, hb6⟩))
          go_roundw
          case rel => exact ⟨j + 1, by omega, by go_num, hB3.trans ((bchain (bchain hb4 hb5) hb6).mono hB3.size)⟩
          case measure => simp [intOf]; omega
        · have hnoA : ¬ okA k (-1 - m) 0 := by unfold okA; omega
          have hnoB : ¬ okA k 0 (-1 - m) := by unfold okA; omega
          have q6 : apartV k (-1 - m) 0 = false := if_neg hnoA
          have q7 : apartE k (-1 - m) 0 = 2 := if_neg hnoA
          have q8 : apartV k 0 (-1 - m) = false := if_neg hnoB
          have q9 : apartE k 0 (-1 - m) = 2 := if_neg hnoB
          clear hnoA hnoB
          go_wp2_with fail
          refine (order_no _ _ _ (.inr (.inr (by omega)))).mono ?_
          rintro e w5 ⟨rfl, hb5⟩
          go_wp2_with fail
          refine (apart_any _ _ _ _).mono ?_
          rintro e w6 ⟨rfl, hb6⟩
          go_wp2_with fail
          refine (apart_any _ _ _ _).mono ?_
          rintro e w7 ⟨rfl, hb7⟩
          go_wp2_with fail
          refine (works_any _).mono ?_
          rintro e w8 ⟨rfl, hb8⟩
          go_wp2_with fail
          go_ret
          exact ⟨rfl, hB1.trans ((bchain (bchain (bchain (bchain (bchain (bchain hB hb2) hB3) hb5) hb6) hb7) hb8).mono hB1.size)⟩
theorem walk (a0 a1 : Int) (w0 : (Lit.int .u8 a0).wf = true) (w1 : (Lit.int .u32 a1).wf = true) (w : World) :
    Calls Try.prog 8 #[.int .u8 a0, .int .u32 a1] w fun e w' => e = .returned (.bool true) ∧ Below w.heap.size w w' := by
  have h := bounds_u8 w0
  have h2 : 0 ≤ a1 ∧ a1 ≤ 4294967295 := by simp [Lit.wf, IntKind.min, IntKind.max, IntKind.signed, IntKind.bits] at w1; omega
  exact walk0 a0 a1 h.1 h.2 h2.1 h2.2 w
end Go.Proofs.Ytklfbngmakkefaa.electRefuses
