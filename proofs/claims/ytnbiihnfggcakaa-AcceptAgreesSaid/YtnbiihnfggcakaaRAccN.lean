/- The reference's acceptor: nil. Same; both sides by one state that may be missing. -/
import Derived.Test.YtnbiihnfggcakaaRAccH
import Derived.Test.YtnbiihnfggcakaaAccN
set_option linter.unusedVariables false
set_option linter.unusedSimpArgs false
namespace Go.Proofs.Ytnbiihnfggcakaa
open Go.RowKit Go.Maps Go.Shelf

theorem rvalid_nil (w : World) : Calls Try.prog 46 #[.pointer none] w fun e w' => e = .returned (.bool false) ∧ w = w' := by
  go_enter Try.func46, Try.ntmps46
  go_wp2
  go_returns
  exact ⟨rfl, rfl⟩
theorem rnil_promise (r d k : Int) (w : World) :
    Calls Try.prog 24 #[.pointer none, balV r d, .int .i64 k] w fun e w' => e = .returned (.tuple #[.slice none 0 0, .int .i64 1]) ∧ Below w.heap.size w w' := by
  have hb := box_below w (.cells #[.int .i64 r, .int .i64 d] 30)
  go_enter Try.func24, Try.ntmps24
  go_wp2_with (go_at_call 46; refine (rvalid_nil _).mono ?_; rintro e w' ⟨rfl, rfl⟩)
  go_returns
  exact ⟨rfl, hb⟩
theorem rnil_accept (r d k : Int) (v : ByteArray) (w : World) :
    Calls Try.prog 26 #[.pointer none, balV r d, .int .i64 k, .string v] w fun e w' => e = .returned (.int .i64 1) ∧ Below w.heap.size w w' := by
  have hb := box_below w (.cells #[.int .i64 r, .int .i64 d] 30)
  go_enter Try.func26, Try.ntmps26
  go_wp2_with (go_at_call 46; refine (rvalid_nil _).mono ?_; rintro e w' ⟨rfl, rfl⟩)
  go_returns
  exact ⟨rfl, hb⟩
theorem rnil_forget (k : Int) (w : World) :
    Calls Try.prog 27 #[.pointer none, .int .i64 k] w fun e w' => e = .returned (.int .i64 1) ∧ w = w' := by
  go_enter Try.func27, Try.ntmps27
  go_wp2_with (go_at_call 46; refine (rvalid_nil _).mono ?_; rintro e w' ⟨rfl, rfl⟩)
  go_returns
  exact ⟨rfl, rfl⟩
theorem rnil_promised (w : World) :
    Calls Try.prog 31 #[.pointer none] w fun e w' => e = .returned (balV 0 0) ∧ Below w.heap.size w w' := by
  have hb := box_below w (.cells #[.int .i64 0, .int .i64 0] 30)
  go_enter Try.func31, Try.ntmps31
  go_wp2_with (go_at_call 46; refine (rvalid_nil _).mono ?_; rintro e w' ⟨rfl, rfl⟩)
  go_returns
  exact ⟨rfl, hb⟩
theorem rnil_base (w : World) :
    Calls Try.prog 32 #[.pointer none] w fun e w' => e = .returned (.int .i64 0) ∧ w = w' := by
  go_enter Try.func32, Try.ntmps32
  go_wp2_with (go_at_call 46; refine (rvalid_nil _).mono ?_; rintro e w' ⟨rfl, rfl⟩)
  go_returns
  exact ⟨rfl, rfl⟩
theorem rnil_copy (w : World) :
    Calls Try.prog 29 #[.pointer none] w fun e w' => e = .returned (.pointer none) ∧ w = w' := by
  go_enter Try.func29, Try.ntmps29
  go_wp2_with (go_at_call 46; refine (rvalid_nil _).mono ?_; rintro e w' ⟨rfl, rfl⟩)
  go_returns
  exact ⟨rfl, rfl⟩
theorem rnil_list (k : Int) (w : World) :
    Calls Try.prog 33 #[.pointer none, .int .i64 k] w fun e w' => e = .returned (.slice none 0 0) ∧ Below w.heap.size w w' := by
  go_enter Try.func33, Try.ntmps33
  go_wp2_with fail
  go_loopw [5, 6] (fun v5 c wr => v5 = .slice none 0 0 ∧ c = .int .i64 0 ∧ Below w.heap.size w wr) (fun _ c _ => 0)
  case atStart => exact ⟨rfl, rfl, Below.refl _ _⟩
  case round =>
    obtain ⟨rfl, rfl, hB⟩ := hrel
    go_wp2_with (go_at_call 46; refine (rvalid_nil _).mono ?_; rintro e w' ⟨rfl, rfl⟩)
    go_returns
    exact ⟨rfl, hB⟩
theorem rnil_accepted (k : Int) (w : World) :
    Calls Try.prog 30 #[.pointer none, .int .i64 k] w fun e w' => e = .returned (.tuple #[entV 0 (0, 0, ⟨#[]⟩), .bool false]) ∧ Below w.heap.size w w' := by
  go_enter Try.func30, Try.ntmps30
  go_wp2_with fail
  go_loop [6] (fun c => c = .int .i64 0) (fun c => 0)
  case atStart => exact rfl
  case round =>
    obtain rfl := hrel
    go_wp2_with (go_at_call 46; refine (rvalid_nil _).mono ?_; rintro e w' ⟨rfl, rfl⟩)
    go_returns
    exact ⟨rfl, box_below _ _⟩
end Go.Proofs.Ytnbiihnfggcakaa
