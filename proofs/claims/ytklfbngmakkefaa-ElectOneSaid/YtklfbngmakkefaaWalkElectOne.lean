/- The walk of skaldlaw21.ElectOne: it returns true, and writes nothing that was there. -/
import Derived.Test.YtklfbngmakkefaaElectW
import Derived.OpenShut
set_option linter.unusedVariables false
set_option linter.unusedSimpArgs false
namespace Go.Proofs.Ytklfbngmakkefaa.electOne
open Go.RowKit Go.Shelf
set_option maxRecDepth 100000 in
set_option maxHeartbeats 1000000 in
theorem walk0 (a0 : Int) (h0 : 0 ≤ a0) (h1 : a0 ≤ 18446744073709551615) (w : World) :
    Calls Try.prog 9 #[.int .u64 a0] w fun e w' => e = .returned (.bool true) ∧ Below w.heap.size w w' := by
  have b1 : 0 ≤ a0 / 2 := by omega
  have b2 : a0 / 2 ≤ 9223372036854775807 := by omega
  have q1 : gapV 1 = 0 := rfl
  have q2 : errN 1 = 0 := rfl
  have q3 : longV 1 = 6 := rfl
  have q4 : (0 + a0 / 2) % 1 = 0 := by omega
  go_enter Try.func9, Try.ntmps9
  go_wp2_with fail
  refine (wait_yes _ _ _ _ ⟨by omega, by omega, by omega, by omega, b1⟩).mono ?_
  rw [q4]
  clear q4
  rintro e w1 ⟨rfl, hb1⟩
  go_wp2_with fail
  refine (order_yes _ _ _ (by omega) (by omega) b1 b2).mono ?_
  rintro e w2 ⟨v, rfl, ⟨g, cap, rfl, r1, r2, r3⟩, hb2⟩
  have HC := Lib.hid r3
  clear r3
  go_wp2_with (first
    | (go_at_call 14; refine (gap_any _ _).mono ?_; rintro e w' ⟨rfl, rfl⟩)
    | (go_at_call 18; refine (longest_any _ _).mono ?_; rintro e w' ⟨rfl, rfl⟩)
    | (go_at_call 26; refine (equal_yes _ _ _ _ 1 (nth 1 (fst 1 (a0 / 2))) (fun _ => 0) _ (by omega) (fun i hi => bcell ((Below.refl _ _).alloc (Nat.le_refl _) _) (HC.out i (by omega))) (cells1 _ _ _) (fun i hi => by unfold nth; omega)).mono ?_; rintro e w3 ⟨rfl, hb3⟩)
    | (go_at_call 13; refine (works_any _).mono ?_; rintro e w4 ⟨rfl, hb4⟩))
  go_ret
  exact ⟨rfl, bchain (bchain (bchain (bchain hb1 hb2) ((Below.refl _ _).alloc (Nat.le_refl _) _)) hb3) hb4⟩
theorem walk (a0 : Int) (w0 : (Lit.int .u64 a0).wf = true) (w : World) :
    Calls Try.prog 9 #[.int .u64 a0] w fun e w' => e = .returned (.bool true) ∧ Below w.heap.size w w' :=
  walk0 a0 (by simp [Lit.wf, IntKind.min, IntKind.max, IntKind.signed, IntKind.bits] at w0; omega) (by simp [Lit.wf, IntKind.min, IntKind.max, IntKind.signed, IntKind.bits] at w0; omega) w
end Go.Proofs.Ytklfbngmakkefaa.electOne
