/- The walk of skaldlaw18.ClockNil: it returns true, and writes nothing that was there. -/
import Derived.Test.YtmojdafegljghaaClockN
import Derived.OpenShut
set_option linter.unusedVariables false
set_option linter.unusedSimpArgs false
namespace Go.Proofs.Ytmojdafegljghaa.clockNil
open Go.RowKit Go.Shelf
theorem two_cells (w : World) : ∃ W g, W = (w.alloc (.cells #[.int .i64 0, .map none] 48)).alloc (.cells #[.pointer none, .pointer (some ⟨w.heap.size, 0, none⟩)] 24) ∧ g = w.heap.size + 1 ∧ Below w.heap.size w W ∧
    ∀ i : Nat, i < 2 → ∃ v, W.cell? ⟨g, i, none⟩ = some v ∧ BadT W v := by
  have b1 : Blk (w.alloc (.cells #[.int .i64 0, .map none] 48)) w.heap.size 48 #[.int .i64 0, .map none] := Blk.new _ _ _
  have b2 := b1.alloc (.cells #[.pointer none, .pointer (some ⟨w.heap.size, 0, none⟩)] 24)
  have b3 : Blk ((w.alloc (.cells #[.int .i64 0, .map none] 48)).alloc (.cells #[.pointer none, .pointer (some ⟨w.heap.size, 0, none⟩)] 24)) (w.heap.size + 1) 24 #[.pointer none, .pointer (some ⟨w.heap.size, 0, none⟩)] := by
    have := Blk.new (w.alloc (.cells #[.int .i64 0, .map none] 48)) 24 #[.pointer none, .pointer (some ⟨w.heap.size, 0, none⟩)]
    simpa using this
  refine ⟨_, _, rfl, rfl, ((Below.refl _ w).alloc (Nat.le_refl _) _).alloc (by simp) _, fun i hi => ?_⟩
  match i, hi with
  | 0, _ => exact ⟨_, b3.cell rfl, .inl rfl⟩
  | 1, _ => exact ⟨_, b3.cell rfl, .inr ⟨_, rfl, b2.cell rfl⟩⟩
set_option maxHeartbeats 1000000 in
theorem walk (a0 a1 : Int) (w0 : (Lit.int .i64 a0).wf = true) (w1 : (Lit.int .i64 a1).wf = true) (w : World) :
    Calls Try.prog 8 #[.int .i64 a0, .int .i64 a1] w fun e w' => e = .returned (.bool true) ∧ Below w.heap.size w w' := by
  clear w0 w1
  obtain ⟨W, g, hW, hg, hB, hc⟩ := two_cells w
  have HB := Lib.hid hB
  have HC := Lib.hid hc
  clear hB hc
  go_enter Try.func8, Try.ntmps8
  go_wp2_with fail
  rw [← hg, ← hW]
  clear hg hW
  go_loop [15] (fun c => ∃ i : Nat, i ≤ 2 ∧ c = .int .i64 i) (fun c => 2 - (intOf c).toNat)
  case atStart => exact ⟨0, by omega, rfl⟩
  case round =>
    obtain ⟨i, hi, rfl⟩ := hrel
    by_cases hlt : i < 2
    · obtain ⟨v, hv, hbad⟩ := HC.out i hlt
      have HV := Lib.hid hbad
      clear hbad
      go_wp2_with (first
        | (go_at_call 14; refine (nleft v a0 _ HV.out).mono ?_; rintro e w' ⟨rfl, rfl⟩)
        | (go_at_call 12; refine (nset v a0 a1 _ HV.out).mono ?_; rintro e w' ⟨rfl, rfl⟩)
        | (go_at_call 17; refine (nstop v a0 _ HV.out).mono ?_; rintro e w' ⟨rfl, rfl⟩)
        | (go_at_call 13; refine (ntick v _ HV.out).mono ?_; rintro e w' ⟨rfl, rfl⟩)
        | (go_at_call 15; refine (nnow v _ HV.out).mono ?_; rintro e w' ⟨rfl, rfl⟩)
        | (go_at_call 19; refine (nids v _ HV.out).mono ?_; rintro e w' ⟨rfl, rfl⟩)
        | (go_at_call 16; refine (nlen v _ HV.out).mono ?_; rintro e w' ⟨rfl, rfl⟩)
        | (go_at_call 25; refine (ncopy v _ HV.out).mono ?_; rintro e w' ⟨rfl, rfl⟩))
      go_round
      case rel => exact ⟨i + 1, by omega, by go_num⟩
      case measure => simp [intOf]; omega
    · go_wp2_with fail
      refine (works_any _).mono ?_
      rintro e w4 ⟨rfl, hb4⟩
      go_wp2_with fail
      go_ret
      exact ⟨rfl, bchain HB.out hb4⟩
end Go.Proofs.Ytmojdafegljghaa.clockNil
