/- The walk of skaldlaw21.ElectBeats: it returns true, and writes nothing that was there. -/
import Derived.Test.YtklfbngmakkefaaElectW
import Derived.OpenShut
set_option linter.unusedVariables false
set_option linter.unusedSimpArgs false
namespace Go.Proofs.Ytklfbngmakkefaa.electBeats
open Go.RowKit Go.Shelf
/-- Some node before j has the longest wait. -/
def Rch (k r j : Int) (rb : Bool) : Prop := rb = true ↔ ∃ x, 0 ≤ x ∧ x < j ∧ (x + r) % k = k - 1
theorem Rch.zero (k r : Int) : Rch k r 0 false := ⟨fun h => (by cases h), fun ⟨x, h1, h2, _⟩ => (by omega)⟩
theorem Rch.yes {k r j : Int} {rb : Bool} (hj : 0 ≤ j) (h : (j + r) % k = k - 1) : Rch k r (j + 1) true := ⟨fun _ => ⟨j, hj, by omega, h⟩, fun _ => rfl⟩
theorem Rch.stay {k r j : Int} (h : Rch k r j true) : Rch k r (j + 1) true := ⟨fun _ => by obtain ⟨x, a, b, c⟩ := h.1 rfl; exact ⟨x, a, by omega, c⟩, fun _ => rfl⟩
theorem Rch.no {k r j : Int} (h : Rch k r j false) (hn : ¬ (j + r) % k = k - 1) : Rch k r (j + 1) false :=
by
  refine ⟨fun h => (by cases h), fun ⟨x, a, b, c⟩ => ?_⟩
  by_cases e : x = j
  · subst e; exact absurd c hn
  · exact h.2 ⟨x, a, by omega, c⟩
theorem Rch.all {k r : Int} {rb : Bool} (h : Rch k r k rb) (h1 : 1 ≤ k) (h2 : k ≤ 7) : rb = true := by
  obtain ⟨q1, q2⟩ := nth_bd (r := r) h1 (k.toNat - 1)
  have hp := pos_nth (r := r) h1 h2 (k.toNat - 1) (by omega)
  exact h.2 ⟨_, q1, q2, by omega⟩

theorem fit {v : Int} (h0 : 0 ≤ v) (h1 : v < 7) : IntKind.i64.wrap (1 + v) = 1 + v := by rw [IntKind.wrap_i64]; omega

set_option maxRecDepth 100000 in
set_option maxHeartbeats 1000000 in
theorem walk0 (a0 a1 : Int) (h0 : 0 ≤ a0) (h1 : a0 ≤ 255) (g0 : 0 ≤ a1) (g1 : a1 ≤ 4294967295) (w : World) :
    Calls Try.prog 7 #[.int .u8 a0, .int .u32 a1] w fun e w' => e = .returned (.bool true) ∧ Below w.heap.size w w' := by
  have hk1 : 1 ≤ 1 + a0 % 7 := by omega
  have hk2 : 1 + a0 % 7 ≤ 7 := by omega
  obtain ⟨k, hk⟩ : ∃ k, 1 + a0 % 7 = k := ⟨_, rfl⟩
  rw [hk] at hk1 hk2
  have HK := Lib.hid hk
  clear hk
  have q1 : beatV k = 2 := if_pos ⟨hk1, hk2⟩
  have q2 : errN k = 0 := if_pos ⟨hk1, hk2⟩
  have q3 : longV k = 6 + 4 * (k - 1) := if_pos ⟨hk1, hk2⟩
  have q4 : firstV k = 6 := if_pos ⟨hk1, hk2⟩
  have c1 : ((k.toNat : Int) == k) = true := by simp; omega
  have c1' : ((k.toNat : Int) != k) = false := by simp; omega
  have hpos : (0 : Int) < (k.toNat : Int) := by omega
  have n0 : nth k (fst k 0) 0 = 0 := by unfold nth fst; rcases seven hk1 hk2 with rfl | rfl | rfl | rfl | rfl | rfl | rfl <;> rfl
  have N0 := Lib.hid n0
  clear n0
  go_enter Try.func7, Try.ntmps7
  go_wp2_with fail
  rw [HK.out]
  refine (beat_any _ _).mono ?_
  rintro e w' ⟨rfl, rfl⟩
  go_wp2_with fail
  refine (longest_any _ _).mono ?_
  rintro e w' ⟨rfl, rfl⟩
  go_wp2_with fail
  refine (first_any _ _).mono ?_
  rintro e w1 ⟨rfl, hb1⟩
  go_wp2_with fail
  refine (order_yes _ _ _ hk1 hk2 (by omega) (by omega)).mono ?_
  rintro e w2 ⟨v, rfl, ⟨g, cap, rfl, r1, r2, r3⟩, hb2⟩
  have hc := r3 0 (by omega)
  rw [N0.out] at hc
  clear r3
  go_wp2_with fail
  go_loopw [15, 16, 17, 18, 82] (fun rb _ _ _ c wr => ∃ (j : Int) (b : Bool), 0 ≤ j ∧ j ≤ k ∧ c = .int .i64 j ∧ rb = .bool b ∧ Rch k a1 j b ∧ Below w2.heap.size w2 wr)
    (fun _ _ _ _ c _ => (k - intOf c).toNat)
  case atStart => exact ⟨0, false, by omega, by omega, rfl, rfl, Rch.zero _ _, Below.refl _ _⟩
  case round =>
    obtain ⟨j, b, hj0, hj, rfl, rfl, hr, hB⟩ := hrel
    have HR : Hid (Rch k a1 j b) := hr
    clear hr
    by_cases hlt : j < k
    · have a3 : 0 ≤ (j + a1) % k := Int.emod_nonneg _ (by omega)
      have a4 : (j + a1) % k < k := Int.emod_lt_of_pos _ (by omega)
      cases b
      · by_cases hm : (j + a1) % k = k - 1
        · have HN := Lib.hid (Rch.yes (rb := true) hj0 hm)
          have hm' : ((6 + 4 * ((j + a1) % k) : Int) == 6 + 4 * (k - 1)) = true := by rw [hm]; simp
          clear hm
          go_wp2_with (go_at_call 11; refine (wait_yes _ _ _ _ ⟨hk1, hk2, hj0, hlt, g0⟩).mono ?_; rintro e w3 ⟨rfl, hb3⟩)
          go_roundw
          case rel => exact ⟨j + 1, true, by omega, by omega, rfl, rfl, HN.out, hB.trans (hb3.mono hB.size)⟩
          case measure => simp [intOf]; omega
        · have HN := Lib.hid (Rch.no HR.out hm)
          have hm' : ((6 + 4 * ((j + a1) % k) : Int) == 6 + 4 * (k - 1)) = false := by simp; omega
          clear hm
          go_wp2_with (go_at_call 11; refine (wait_yes _ _ _ _ ⟨hk1, hk2, hj0, hlt, g0⟩).mono ?_; rintro e w3 ⟨rfl, hb3⟩)
          go_roundw
          case rel => exact ⟨j + 1, false, by omega, by omega, rfl, rfl, HN.out, hB.trans (hb3.mono hB.size)⟩
          case measure => simp [intOf]; omega
      · have HN := Lib.hid (Rch.stay HR.out)
        go_wp2_with (go_at_call 11; refine (wait_yes _ _ _ _ ⟨hk1, hk2, hj0, hlt, g0⟩).mono ?_; rintro e w3 ⟨rfl, hb3⟩)
        go_roundw
        case rel => exact ⟨j + 1, true, by omega, by omega, rfl, rfl, HN.out, hB.trans (hb3.mono hB.size)⟩
        case measure => simp [intOf]; omega
    · obtain rfl : j = k := by omega
      have hb := HR.out.all hk1 hk2
      subst hb
      go_wp2_with (go_at_call 13; refine (works_any _).mono ?_; rintro e w4 ⟨rfl, hb4⟩)
      go_ret
      exact ⟨rfl, bchain (bchain (bchain hb1 hb2) hB) hb4⟩
theorem walk (a0 a1 : Int) (w0 : (Lit.int .u8 a0).wf = true) (w1 : (Lit.int .u32 a1).wf = true) (w : World) :
    Calls Try.prog 7 #[.int .u8 a0, .int .u32 a1] w fun e w' => e = .returned (.bool true) ∧ Below w.heap.size w w' := by
  have h := bounds_u8 w0
  have h2 : 0 ≤ a1 ∧ a1 ≤ 4294967295 := by simp [Lit.wf, IntKind.min, IntKind.max, IntKind.signed, IntKind.bits] at w1; omega
  exact walk0 a0 a1 h.1 h.2 h2.1 h2.2 w
end Go.Proofs.Ytklfbngmakkefaa.electBeats
