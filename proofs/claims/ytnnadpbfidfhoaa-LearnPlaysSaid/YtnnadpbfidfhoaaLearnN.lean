/- Learners that are not valid: nil, or not made by New. -/
import Derived.Test.YtnnadpbfidfhoaaLearnW
set_option linter.unusedVariables false
set_option linter.unusedSimpArgs false
namespace Go.Proofs.Ytnnadpbfidfhoaa
open Go.RowKit Go.Maps Go.Shelf

def BadL (w : World) (x : Value) : Prop := x = .pointer none ∨ ∃ z, x = .pointer (some ⟨z, 0, none⟩) ∧ w.cell? ⟨z, 0, none⟩ = some (.int .i64 0)
theorem BadL.below {w w' : World} {x : Value} (h : BadL w x) (k : Below w.heap.size w w') : BadL w' x :=
  h.imp id fun ⟨z, h1, h2⟩ => ⟨z, h1, bcell k h2⟩
theorem bad_valid (x : Value) (w : World) (h : BadL w x) : Calls Try.prog 31 #[x] w fun e w' => e = .returned (.bool false) ∧ w = w' := by
  rcases h with rfl | ⟨z, rfl, hz⟩
  · exact lvalid_nil w
  · exact lvalid_zero z w hz
theorem nil_add (x : Value) (node r d k : Int) (v : ByteArray) (w : World) (h : BadL w x) :
    Calls Try.prog 12 #[x, .int .i64 node, balV r d, .int .i64 k, .string v] w fun e w' => e = .returned (.tuple #[.bool false, .int .i64 1]) ∧ Below w.heap.size w w' := by
  have hb := box_below w (.cells #[.int .i64 r, .int .i64 d] 31)
  have h1 := h.below hb
  go_enter Try.func12, Try.ntmps12
  go_wp2_with (first
    | (go_at_call 31; refine (bad_valid x _ h1).mono ?_; rintro e w' ⟨rfl, rfl⟩)
    | (go_at_call 30; refine (lcheck_nil x false k v _ (bad_valid x _ h1)).mono ?_; rintro e w' ⟨rfl, rfl⟩))
  go_returns
  exact ⟨rfl, hb⟩
theorem nil_chosen (x : Value) (k : Int) (w : World) (h : BadL w x) :
    Calls Try.prog 13 #[x, .int .i64 k] w fun e w' => e = .returned (.tuple #[.string ⟨#[]⟩, .bool false]) ∧ w = w' := by
  go_enter Try.func13, Try.ntmps13
  go_wp2_with (go_at_call 31; refine (bad_valid x _ h).mono ?_; rintro e w' ⟨rfl, rfl⟩)
  go_returns
  exact ⟨rfl, rfl⟩
theorem nil_learn (x : Value) (k : Int) (v : ByteArray) (w : World) (h : BadL w x) :
    Calls Try.prog 17 #[x, .int .i64 k, .string v] w fun e w' => e = .returned (.int .i64 1) ∧ w = w' := by
  go_enter Try.func17, Try.ntmps17
  go_wp2_with (go_at_call 30; refine (lcheck_nil x false k v _ (bad_valid x _ h)).mono ?_; rintro e w' ⟨rfl, rfl⟩)
  go_returns
  exact ⟨rfl, rfl⟩
theorem nil_forget (x : Value) (k : Int) (w : World) (h : BadL w x) :
    Calls Try.prog 18 #[x, .int .i64 k] w fun e w' => e = .returned (.int .i64 1) ∧ w = w' := by
  go_enter Try.func18, Try.ntmps18
  go_wp2_with (go_at_call 31; refine (bad_valid x _ h).mono ?_; rintro e w' ⟨rfl, rfl⟩)
  go_returns
  exact ⟨rfl, rfl⟩
theorem nil_upto (x : Value) (w : World) (h : BadL w x) :
    Calls Try.prog 19 #[x] w fun e w' => e = .returned (.int .i64 0) ∧ w = w' := by
  go_enter Try.func19, Try.ntmps19
  go_wp2_with (go_at_call 31; refine (bad_valid x _ h).mono ?_; rintro e w' ⟨rfl, rfl⟩)
  go_returns
  exact ⟨rfl, rfl⟩
theorem nil_open (x : Value) (w : World) (h : BadL w x) :
    Calls Try.prog 15 #[x] w fun e w' => e = .returned (.slice none 0 0) ∧ w = w' := by
  go_enter Try.func15, Try.ntmps15
  go_wp2_with (go_at_call 31; refine (bad_valid x _ h).mono ?_; rintro e w' ⟨rfl, rfl⟩)
  go_returns
  exact ⟨rfl, rfl⟩
theorem nil_copy (x : Value) (w : World) (h : BadL w x) :
    Calls Try.prog 25 #[x] w fun e w' => e = .returned (.pointer none) ∧ w = w' := by
  go_enter Try.func25, Try.ntmps25
  go_wp2_with (go_at_call 31; refine (bad_valid x _ h).mono ?_; rintro e w' ⟨rfl, rfl⟩)
  go_returns
  exact ⟨rfl, rfl⟩
theorem nil_votes (x : Value) (k : Int) (w : World) (h : BadL w x) :
    Calls Try.prog 14 #[x, .int .i64 k] w fun e w' => e = .returned (.tuple #[balV 0 0, .int .u64 0]) ∧ Below w.heap.size w w' := by
  have hb := box_below w (.cells #[.int .i64 0, .int .i64 0] 31)
  have h1 := h.below hb
  go_enter Try.func14, Try.ntmps14
  go_wp2_with (go_at_call 31; refine (bad_valid x _ h1).mono ?_; rintro e w' ⟨rfl, rfl⟩)
  go_returns
  exact ⟨rfl, hb⟩
end Go.Proofs.Ytnnadpbfidfhoaa
