/- Contracts of elect.Wait and of the reference's Wait. -/
import Derived.Test.YtklfbngmakkefaaElectB
set_option linter.unusedVariables false
set_option linter.unusedSimpArgs false
namespace Go.Proofs.Ytklfbngmakkefaa
open Go.RowKit

def f2 (a b : Int) : Nat → Int := fun i => if i = 0 then a else b
def f3 (a b c : Int) : Nat → Int := fun i => if i = 0 then a else if i = 1 then b else c

theorem cells2 (a b : Int) (t : TypeId) (w : World) : ∀ i, i < 2 → (w.alloc (.cells #[.int .i64 a, .int .i64 b] t)).cell? ⟨w.heap.size, i, none⟩ = some (.int .i64 (f2 a b i)) := by
  intro i hi
  have : i = 0 ∨ i = 1 := by omega
  rcases this with rfl | rfl <;> simp [f2, go_sem]
theorem cells1 (a : Int) (t : TypeId) (w : World) : ∀ i, i < 1 → (w.alloc (.cells #[.int .i64 a] t)).cell? ⟨w.heap.size, i, none⟩ = some (.int .i64 ((fun _ => a : Nat → Int) i)) := by
  intro i hi
  have : i = 0 := by omega
  subst this
  simp [go_sem]

theorem chk2_ok {n a b : Int} (h1 : 1 ≤ n) (h2 : n ≤ 7) (ha : 0 ≤ a) (hb : 0 ≤ b) : chk n 2 (f2 a b) = 0 :=
  chk_ok (fun i hi => by unfold f2; split <;> omega) h1 h2
theorem chk2_no {n a b : Int} (h : n < 1 ∨ 7 < n ∨ a < 0 ∨ b < 0) : chk n 2 (f2 a b) = 2 := by
  rcases h with h | h | h | h
  · exact chk_bad (.inl h)
  · exact chk_bad (.inr h)
  · exact chk_neg (i := 0) (by omega) h
  · exact chk_neg (i := 1) (by omega) h
theorem chk1_ok {n a : Int} (h1 : 1 ≤ n) (h2 : n ≤ 7) (ha : 0 ≤ a) : chk n 1 (fun _ => a) = 0 :=
  chk_ok (fun i hi => ha) h1 h2
theorem chk1_no {n a : Int} (h : n < 1 ∨ 7 < n ∨ a < 0) : chk n 1 (fun _ => a) = 2 := by
  rcases h with h | h | h
  · exact chk_bad (.inl h)
  · exact chk_bad (.inr h)
  · exact chk_neg (i := 0) (by omega) h

/-- The arguments of Wait are as they have to be. -/
def okW (k r n : Int) : Prop := 1 ≤ n ∧ n ≤ 7 ∧ 0 ≤ k ∧ k < n ∧ 0 ≤ r
instance (k r n : Int) : Decidable (okW k r n) := by unfold okW; infer_instance
def waitV (k r n : Int) : Int := if okW k r n then 6 + 4 * ((k + r) % n) else 0
def waitE (k r n : Int) : Int := if okW k r n then 0 else 2

theorem wait_yes (k r n : Int) (w : World) (h : okW k r n) :
    Calls Try.prog 11 #[.int .i64 k, .int .i64 r, .int .i64 n] w fun e w' => e = .returned (.tuple #[.int .i64 (6 + 4 * ((k + r) % n)), .int .i64 0]) ∧ Below w.heap.size w w' := by
  obtain ⟨h1, h2, h3, h4, h5⟩ := h
  have hchk := chk2_ok h1 h2 h3 h5
  have a1 : 0 ≤ r % n := Int.emod_nonneg _ (by omega)
  have a2 : r % n < 7 := by have := Int.emod_lt_of_pos r (show 0 < n by omega); omega
  have a3 : 0 ≤ (k + r) % n := Int.emod_nonneg _ (by omega)
  have a4 : (k + r) % n < 7 := by have := Int.emod_lt_of_pos (k + r) (show 0 < n by omega); omega
  go_enter Try.func11, Try.ntmps11
  go_wp2_with (go_at_call 29; refine (checked_any _ _ (f2 k r) 2 _ (by omega) (cells2 _ _ _ _)).mono ?_; rintro e w' ⟨rfl, rfl⟩)
  go_ret2
  exact ⟨rfl, (Below.refl _ _).alloc (Nat.le_refl _) _⟩

theorem wait_no (k r n : Int) (w : World) (h : ¬ okW k r n) :
    Calls Try.prog 11 #[.int .i64 k, .int .i64 r, .int .i64 n] w fun e w' => e = .returned (.tuple #[.int .i64 0, .int .i64 2]) ∧ Below w.heap.size w w' := by
  by_cases hb : n < 1 ∨ 7 < n ∨ k < 0 ∨ r < 0
  · have hchk := chk2_no hb
    clear hb h
    go_enter Try.func11, Try.ntmps11
    go_wp2_with (go_at_call 29; refine (checked_any _ _ (f2 k r) 2 _ (by omega) (cells2 _ _ _ _)).mono ?_; rintro e w' ⟨rfl, rfl⟩)
    go_ret2
    exact ⟨rfl, (Below.refl _ _).alloc (Nat.le_refl _) _⟩
  · have h1 : 1 ≤ n := by omega
    have h2 : n ≤ 7 := by omega
    have h3 : 0 ≤ k := by omega
    have h5 : 0 ≤ r := by omega
    have h4 : n ≤ k := by unfold okW at h; omega
    have hchk := chk2_ok h1 h2 h3 h5
    clear hb h
    go_enter Try.func11, Try.ntmps11
    go_wp2_with (go_at_call 29; refine (checked_any _ _ (f2 k r) 2 _ (by omega) (cells2 _ _ _ _)).mono ?_; rintro e w' ⟨rfl, rfl⟩)
    go_ret2
    exact ⟨rfl, (Below.refl _ _).alloc (Nat.le_refl _) _⟩

theorem wait_any (k r n : Int) (w : World) :
    Calls Try.prog 11 #[.int .i64 k, .int .i64 r, .int .i64 n] w fun e w' => e = .returned (.tuple #[.int .i64 (waitV k r n), .int .i64 (waitE k r n)]) ∧ Below w.heap.size w w' := by
  unfold waitV waitE
  by_cases h : okW k r n
  · simp only [if_pos h]; exact wait_yes k r n w h
  · simp only [if_neg h]; exact wait_no k r n w h

theorem rWait_yes (k r n : Int) (w : World) (h : okW k r n) :
    Calls Try.prog 12 #[.int .i64 k, .int .i64 r, .int .i64 n] w fun e w' => e = .returned (.tuple #[.int .i64 (6 + 4 * ((k + r) % n)), .int .i64 0]) ∧ w = w' := by
  obtain ⟨h1, h2, h3, h4, h5⟩ := h
  go_enter Try.func12, Try.ntmps12
  go_wp2_with (first | (go_at_call 30; refine (rgroup_yes _ _ h1 h2).mono ?_; rintro e w' ⟨rfl, rfl⟩) | (go_at_call 31; refine (rwait_any _ _ _ _ h3 (by omega) h5 h1 h2).mono ?_; rintro e w' ⟨rfl, rfl⟩))
  go_ret2
  exact ⟨rfl, rfl⟩

theorem rWait_no (k r n : Int) (w : World) (h : ¬ okW k r n) :
    Calls Try.prog 12 #[.int .i64 k, .int .i64 r, .int .i64 n] w fun e w' => e = .returned (.tuple #[.int .i64 0, .int .i64 2]) ∧ w = w' := by
  by_cases hb : n < 1 ∨ 7 < n
  · go_enter Try.func12, Try.ntmps12
    go_wp2_with (go_at_call 30; refine (rgroup_no _ _ hb).mono ?_; rintro e w' ⟨rfl, rfl⟩)
    go_ret2
    exact ⟨rfl, rfl⟩
  · have h1 : 1 ≤ n := by omega
    have h2 : n ≤ 7 := by omega
    by_cases hk : k < 0
    · clear h hb
      go_enter Try.func12, Try.ntmps12
      go_wp2_with (go_at_call 30; refine (rgroup_yes _ _ h1 h2).mono ?_; rintro e w' ⟨rfl, rfl⟩)
      go_ret2
      exact ⟨rfl, rfl⟩
    · by_cases hk2 : n ≤ k
      · clear h hb
        go_enter Try.func12, Try.ntmps12
        go_wp2_with (go_at_call 30; refine (rgroup_yes _ _ h1 h2).mono ?_; rintro e w' ⟨rfl, rfl⟩)
        go_ret2
        exact ⟨rfl, rfl⟩
      · have hr : r < 0 := by unfold okW at h; omega
        clear h hb
        go_enter Try.func12, Try.ntmps12
        go_wp2_with (go_at_call 30; refine (rgroup_yes _ _ h1 h2).mono ?_; rintro e w' ⟨rfl, rfl⟩)
        go_ret2
        exact ⟨rfl, rfl⟩

theorem rWait_any (k r n : Int) (w : World) :
    Calls Try.prog 12 #[.int .i64 k, .int .i64 r, .int .i64 n] w fun e w' => e = .returned (.tuple #[.int .i64 (waitV k r n), .int .i64 (waitE k r n)]) ∧ w = w' := by
  unfold waitV waitE
  by_cases h : okW k r n
  · simp only [if_pos h]; exact rWait_yes k r n w h
  · simp only [if_neg h]; exact rWait_no k r n w h
end Go.Proofs.Ytklfbngmakkefaa
