/- shows. -/
import Derived.Test.YtmojdafegljghaaClockP
import Derived.Test.YtmojdafegljghaaClockN
set_option linter.unusedVariables false
set_option linter.unusedSimpArgs false
namespace Go.Proofs.Ytmojdafegljghaa
open Go.RowKit Go.Maps Go.Shelf

theorem rvalid_nil (w : World) :
    Calls Try.prog 32 #[.pointer none] w fun e w' => e = .returned (.bool false) ∧ w = w' := by
  go_enter Try.func32, Try.ntmps32
  go_wp2
  go_ret
  exact ⟨rfl, rfl⟩
theorem rleft_nil (id : Int) (w : World) :
    Calls Try.prog 34 #[.pointer none, .int .i64 id] w fun e w' => e = .returned (.tuple #[.int .i64 0, .bool false]) ∧ w = w' := by
  go_enter Try.func34, Try.ntmps34
  go_wp2_with fail
  go_loop [4] (fun c => c = .int .i64 0) (fun _ => 0)
  case atStart => rfl
  case round =>
    subst hrel
    go_wp2_with (go_at_call 32; refine (rvalid_nil _).mono ?_; rintro e w' ⟨rfl, rfl⟩)
    go_ret2
    exact ⟨rfl, rfl⟩
theorem rids_nil (w : World) :
    Calls Try.prog 35 #[.pointer none] w fun e w' => e = .returned (.slice none 0 0) ∧ w = w' := by
  go_enter Try.func35, Try.ntmps35
  go_wp2_with fail
  go_loop [3, 4] (fun o c => o = .slice none 0 0 ∧ c = .int .i64 0) (fun _ _ => 0)
  case atStart => exact ⟨rfl, rfl⟩
  case round =>
    obtain ⟨rfl, rfl⟩ := hrel
    go_wp2_with (go_at_call 32; refine (rvalid_nil _).mono ?_; rintro e w' ⟨rfl, rfl⟩)
    go_ret
    exact ⟨rfl, rfl⟩
theorem rnow_nil (w : World) :
    Calls Try.prog 36 #[.pointer none] w fun e w' => e = .returned (.int .i64 0) ∧ w = w' := by
  go_enter Try.func36, Try.ntmps36
  go_wp2_with (go_at_call 32; refine (rvalid_nil _).mono ?_; rintro e w' ⟨rfl, rfl⟩)
  go_ret
  exact ⟨rfl, rfl⟩
theorem rlen_nil (w : World) :
    Calls Try.prog 37 #[.pointer none] w fun e w' => e = .returned (.int .i64 0) ∧ w = w' := by
  go_enter Try.func37, Try.ntmps37
  go_wp2_with (go_at_call 35; refine (rids_nil _).mono ?_; rintro e w' ⟨rfl, rfl⟩)
  go_ret
  exact ⟨rfl, rfl⟩

set_option maxHeartbeats 1000000 in
theorem shows_nil (id : Int) (w : World) :
    Calls Try.prog 27 #[.pointer none, .pointer none, .int .i64 id] w fun e w' => e = .returned (.bool true) ∧ Below w.heap.size w w' := by
  have hbad : BadT w (.pointer none) := .inl rfl
  have HB := Lib.hid hbad
  clear hbad
  go_enter Try.func27, Try.ntmps27
  go_wp2_with (first
    | (go_at_call 14; refine (nleft _ id _ HB.out).mono ?_; rintro e w' ⟨rfl, rfl⟩)
    | (go_at_call 34; refine (rleft_nil id _).mono ?_; rintro e w' ⟨rfl, rfl⟩)
    | (go_at_call 19; refine (nids _ _ HB.out).mono ?_; rintro e w' ⟨rfl, rfl⟩)
    | (go_at_call 35; refine (rids_nil _).mono ?_; rintro e w' ⟨rfl, rfl⟩)
    | (go_at_call 20; refine (same_any _ _ 0 0 [] [] _ (IntRow.nil _ _) (IntRow.nil _ _) (by simp)).mono ?_; rintro e w2 ⟨rfl, b2⟩)
    | (go_at_call 15; refine (nnow _ _ (BadT.below HB.out b2)).mono ?_; rintro e w' ⟨rfl, rfl⟩)
    | (go_at_call 36; refine (rnow_nil _).mono ?_; rintro e w' ⟨rfl, rfl⟩)
    | (go_at_call 16; refine (nlen _ _ (BadT.below HB.out b2)).mono ?_; rintro e w' ⟨rfl, rfl⟩)
    | (go_at_call 37; refine (rlen_nil _).mono ?_; rintro e w' ⟨rfl, rfl⟩))
  go_ret
  exact ⟨rfl, b2⟩

theorem leftR_rel (now id : Int) (L : List (Int × Int)) : leftR id (rel now L) = leftV id now L := by
  unfold leftR leftV
  rw [rel_get]
  cases get id L <;> rfl
theorem isSome_rel (now id : Int) (L : List (Int × Int)) : (get id (rel now L)).isSome = (get id L).isSome := by
  rw [rel_get]; cases get id L <;> rfl

set_option maxHeartbeats 1000000 in
theorem shows_any (p m q : Nat) (v : Value) (now id : Int) (L : List (Int × Int)) (w : World) (ht : TS w p m now L) (hr : RTabAt w q v now (rel now L)) (hid : in64 id) :
    Calls Try.prog 27 #[.pointer (some ⟨p, 0, none⟩), .pointer (some ⟨q, 0, none⟩), .int .i64 id] w fun e w' => e = .returned (.bool true) ∧ Below w.heap.size w w' := by
  have T := Lib.hid ht
  have R := Lib.hid hr
  have HID := Lib.hid hid
  have hl := ht.good.len
  have hl' : (rel now L).length ≤ 1000 := by rw [rel_len]; exact hl
  have hk : (keys L).length ≤ 1000000000 := by simp [keys]; omega
  have E1 := Lib.hid (leftR_rel now id L)
  have E2 := Lib.hid (isSome_rel now id L)
  have E3 := Lib.hid (rel_keys now L)
  have E4 := Lib.hid (rel_len now L)
  clear ht hr hid
  go_enter Try.func27, Try.ntmps27
  go_wp2_with (first
    | (go_at_call 14; refine (left_S p m id now L _ T.out HID.out).mono ?_; rintro e w' ⟨rfl, rfl⟩)
    | (go_at_call 34; refine (rleft_any q v id now _ _ R.out hl').mono ?_; rintro e w' ⟨he, rfl⟩; rw [E1.out, E2.out] at he; subst he)
    | (go_at_call 19; refine (ids_S p m now L _ T.out).mono ?_; rintro e w1 ⟨v1, rfl, r1, b1⟩)
    | (go_at_call 35; refine (rids_any q v now _ _ (R.out.below b1) hl').mono ?_; rintro e w2 ⟨v2, rfl, r2, b2⟩; rw [E3.out] at r2)
    | (go_at_call 20; refine (same_any _ _ _ _ (keys L) (keys L) _ (r1.fr (Fr.of_below b2 : Fr S0 _ _) (fun i h => h.elim)) r2 hk).mono ?_; rintro e w3 ⟨rfl, b3⟩; have b13 := bchain (bchain b1 b2) b3)
    | (go_at_call 15; refine (now_any p m now L _ (T.out.below b13).tab).mono ?_; rintro e w' ⟨rfl, rfl⟩)
    | (go_at_call 36; refine (rnow_any q v now _ _ (R.out.below b13)).mono ?_; rintro e w' ⟨rfl, rfl⟩)
    | (go_at_call 16; refine (len_any p m now L _ (T.out.below b13).tab).mono ?_; rintro e w' ⟨rfl, rfl⟩)
    | (go_at_call 37; refine (rlen_any q v now _ _ (R.out.below b13) hl').mono ?_; rintro e w4 ⟨he, b4⟩; rw [E4.out] at he; subst he))
  go_ret
  exact ⟨rfl, bchain b13 b4⟩
end Go.Proofs.Ytmojdafegljghaa
