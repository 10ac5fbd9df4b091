/- Acceptors that are not valid: nil, or not made by New. -/
import Derived.Test.YtnbiihnfggcakaaAccP
set_option linter.unusedVariables false
set_option linter.unusedSimpArgs false
namespace Go.Proofs.Ytnbiihnfggcakaa
open Go.RowKit Go.Maps Go.Shelf

def BadAcc (w : World) (x : Value) : Prop := x = .pointer none ∨ ∃ z, x = .pointer (some ⟨z, 0, none⟩) ∧ w.cell? ⟨z, 0, none⟩ = some (.int .i64 0)
theorem BadAcc.below {w w' : World} {x : Value} (h : BadAcc w x) (k : Below w.heap.size w w') : BadAcc w' x :=
  h.imp id fun ⟨z, h1, h2⟩ => ⟨z, h1, bcell k h2⟩
theorem bad_valid (x : Value) (w : World) (h : BadAcc w x) : Calls Try.prog 38 #[x] w fun e w' => e = .returned (.bool false) ∧ w = w' := by
  rcases h with rfl | ⟨z, rfl, hz⟩
  · exact avalid_nil w
  · exact avalid_zero z w hz
theorem nil_promise (x : Value) (r d k : Int) (w : World) (h : BadAcc w x) :
    Calls Try.prog 18 #[x, balV r d, .int .i64 k] w fun e w' => e = .returned (.tuple #[.slice none 0 0, .int .i64 1]) ∧ Below w.heap.size w w' := by
  have hb := box_below w (.cells #[.int .i64 r, .int .i64 d] 30)
  have h1 := h.below hb
  go_enter Try.func18, Try.ntmps18
  go_wp2_with (go_at_call 38; refine (bad_valid x _ h1).mono ?_; rintro e w' ⟨rfl, rfl⟩)
  go_returns
  exact ⟨rfl, hb⟩
theorem nil_accept (x : Value) (r d k : Int) (v : ByteArray) (w : World) (h : BadAcc w x) :
    Calls Try.prog 19 #[x, balV r d, .int .i64 k, .string v] w fun e w' => e = .returned (.int .i64 1) ∧ Below w.heap.size w w' := by
  have hb := box_below w (.cells #[.int .i64 r, .int .i64 d] 30)
  have h1 := h.below hb
  go_enter Try.func19, Try.ntmps19
  go_wp2_with (go_at_call 38; refine (bad_valid x _ h1).mono ?_; rintro e w' ⟨rfl, rfl⟩)
  go_returns
  exact ⟨rfl, hb⟩
theorem nil_forget (x : Value) (k : Int) (w : World) (h : BadAcc w x) :
    Calls Try.prog 20 #[x, .int .i64 k] w fun e w' => e = .returned (.int .i64 1) ∧ Below w.heap.size w w' := by
  have hb := box_below w (.cells #[.int .i64 k] 3)
  have h1 := h.below hb
  go_enter Try.func20, Try.ntmps20
  go_wp2_with (go_at_call 38; refine (bad_valid x _ h1).mono ?_; rintro e w' ⟨rfl, rfl⟩)
  go_returns
  exact ⟨rfl, hb⟩
theorem nil_promised (x : Value) (w : World) (h : BadAcc w x) :
    Calls Try.prog 15 #[x] w fun e w' => e = .returned (balV 0 0) ∧ Below w.heap.size w w' := by
  have hb := box_below w (.cells #[.int .i64 0, .int .i64 0] 30)
  have h1 := h.below hb
  go_enter Try.func15, Try.ntmps15
  go_wp2_with (go_at_call 38; refine (bad_valid x _ h1).mono ?_; rintro e w' ⟨rfl, rfl⟩)
  go_returns
  exact ⟨rfl, hb⟩
theorem nil_accepted (x : Value) (k : Int) (w : World) (h : BadAcc w x) :
    Calls Try.prog 22 #[x, .int .i64 k] w fun e w' => e = .returned (.tuple #[entV 0 (0, 0, ⟨#[]⟩), .bool false]) ∧ Below w.heap.size w w' := by
  have hb := box_below w (.cells #[.int .i64 0, .int .i64 0, .int .i64 0, .string ⟨#[]⟩] 43)
  have h1 := h.below hb
  go_enter Try.func22, Try.ntmps22
  go_wp2_with (go_at_call 38; refine (bad_valid x _ h1).mono ?_; rintro e w' ⟨rfl, rfl⟩)
  go_returns
  exact ⟨rfl, hb⟩
theorem nil_list (x : Value) (k : Int) (w : World) (h : BadAcc w x) :
    Calls Try.prog 16 #[x, .int .i64 k] w fun e w' => e = .returned (.slice none 0 0) ∧ Below w.heap.size w w' := by
  go_enter Try.func16, Try.ntmps16
  go_wp2_with (go_at_call 38; refine (bad_valid x _ h).mono ?_; rintro e w' ⟨rfl, rfl⟩)
  go_returns
  exact ⟨rfl, Below.refl _ _⟩
theorem nil_base (x : Value) (w : World) (h : BadAcc w x) :
    Calls Try.prog 17 #[x] w fun e w' => e = .returned (.int .i64 0) ∧ w = w' := by
  go_enter Try.func17, Try.ntmps17
  go_wp2_with (go_at_call 38; refine (bad_valid x _ h).mono ?_; rintro e w' ⟨rfl, rfl⟩)
  go_returns
  exact ⟨rfl, rfl⟩
theorem nil_copy (x : Value) (w : World) (h : BadAcc w x) :
    Calls Try.prog 28 #[x] w fun e w' => e = .returned (.pointer none) ∧ Below w.heap.size w w' := by
  go_enter Try.func28, Try.ntmps28
  go_wp2_with (go_at_call 38; refine (bad_valid x _ h).mono ?_; rintro e w' ⟨rfl, rfl⟩)
  go_returns
  exact ⟨rfl, Below.refl _ _⟩
end Go.Proofs.Ytnbiihnfggcakaa
