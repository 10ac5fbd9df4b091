import Derived.Test.YtlfikhblmbidmaaGreatDoorMrgH
import Derived.Deep.RegionHeld3
set_option linter.all false
namespace Go.Proofs.YtlfikhblmbidmaaGreatDoor
open Go.RowKit Go.Maps
set_option maxRecDepth 100000 in
set_option maxHeartbeats 2000000 in
theorem sacc_long (ro no sl : Nat) (s : ByteArray) (w : World) (h : okB ro no = true) (hsl : sl < 4096) (hs : s.size ≤ 1000000) (hl : 65536 < (valB [2, ro, no, sl] s).length) :
  Calls Tryz.prog 12 #[balV ro no, .int .i64 sl, .string s] w fun e w' => e = .returned (.tuple #[.slice none 0 0, .int .i64 11]) ∧ Below w.heap.size w w' := by
 have hok := (okB_iff _ _).1 h
 have hI := isSlot_any sl
 rw [decide_eq_true (show 0 ≤ (sl : Int) ∧ (sl : Int) < 4096 by omega)] at hI
 have hx : ∀ x ∈ [2, ro, no, sl], x < 9223372036854775808 := by simp; omega
 have hul : (uintsB [2, ro, no, sl]).length ≤ 100000000 := by have := uintsB_len [2, ro, no, sl] (fun x hx' => by have := hx x hx'; omega); simp at this; omega
 have hb := box_below w (.cells #[.int .i64 (ro : Int), .int .i64 (no : Int)] 24)
 have b1 := Blk.new w 24 #[.int .i64 (ro : Int), .int .i64 (no : Int)]
 have e0 := b1.cell (i := 0) (v := .int .i64 (ro : Int)) rfl
 have e1 := b1.cell (i := 1) (v := .int .i64 (no : Int)) rfl
 have HB := Lib.hid hb
 have hE : chdE false ro no = 0 := by simp [chdE, h]
 clear hb b1
 go_enter Tryz.func12, Tryz.ntmps12
 go_wp2_with fail
 generalize (w.alloc (.cells #[.int .i64 (ro : Int), .int .i64 (no : Int)] 24)) = W1 at *
 go_region_held3 (fun W => W.cell? ⟨w.heap.size, 0, none⟩ = some (.int .i64 (ro : Int)) ∧ W.cell? ⟨w.heap.size, 1, none⟩ = some (.int .i64 (no : Int)))
  (first | exact ⟨by assumption, by assumption⟩ | go_keep)
  (first
   | (go_at_call 67; refine (hI _).mono ?_; rintro e w2 ⟨rfl, rfl⟩)
   | (go_at_call 64; refine (checked_any _ _ _ _).mono ?_; rw [hE]; rintro e w2 ⟨rfl, b2⟩; have q0 := bcell b2 e0; have q1 := bcell b2 e1; have HB2 := Lib.hid b2; clear b2))
 go_wp2_with (first
  | (go_at_call 65; refine (newWriter_any w2.heap.size 4 [2, ro, no, sl] _ (by simp) hx (by simp) (ints_new w2 [2, ro, no, sl])).mono ?_; rintro e w3 ⟨p, v3, rfl, hW3, hp3, b3⟩; have HB3 := Lib.hid b3; have hW4 := hW3.fr ((Fr.refl S0 w3).alloc (.cells #[.pointer (some ⟨p, 0, none⟩)] 100)) (fun e => e) (fun i _ e => e); have hp4 := hW3.blk.lt; clear b3)
  | (go_at_call 68; refine (wtext_any p v3 _ s _ hW4 hul hs).mono ?_; rintro e w5 ⟨v5, rfl, hS5⟩; have q5 := ((Blk.new w3 100 #[.pointer (some ⟨p, 0, none⟩)]).fr hS5.fr (fun e => nw_other hW3 e)).cell (i := 0) (v := .pointer (some ⟨p, 0, none⟩)) rfl)
  | (go_at_call 66; refine (done_no p v5 _ _ hS5.at_ hl).mono ?_; rintro e w6 ⟨rfl, b6⟩; have HB6 := Lib.hid b6; clear b6))
 go_returns
 have B2 := bchain HB.out ((Below.refl _ _).drew.trans (HB2.out.mono (by simp)))
 have B3 : Below w.heap.size w w3 := (B2.alloc B2.size _).trans (HB3.out.mono (by have := B2.size; simp; omega))
 have B5 := after_text (by have := B2.size; simp at hp3; omega) hW3 B3 hS5.fr
 exact ⟨rfl, B5.trans (HB6.out.mono B5.size)⟩
set_option maxRecDepth 100000 in
set_option maxHeartbeats 2000000 in
theorem choose_long (sl : Nat) (s : ByteArray) (w : World) (h : sl < 4096) (hs : s.size ≤ 1000000) (hl : 65536 < (valB [3, sl] s).length) :
  Calls Tryz.prog 13 #[.int .i64 sl, .string s] w fun e w' => e = .returned (.tuple #[.slice none 0 0, .int .i64 11]) ∧ Below w.heap.size w w' := by
 have hI := isSlot_any sl
 rw [decide_eq_true (show 0 ≤ (sl : Int) ∧ (sl : Int) < 4096 by omega)] at hI
 have hx : ∀ x ∈ [3, sl], x < 9223372036854775808 := by simp; omega
 have hul : (uintsB [3, sl]).length ≤ 100000000 := by have := uintsB_len [3, sl] (fun x hx' => by have := hx x hx'; omega); simp at this; omega
 go_enter Tryz.func13, Tryz.ntmps13
 go_wp2_with (first
  | (go_at_call 67; refine (hI _).mono ?_; rintro e w2 ⟨rfl, rfl⟩)
  | (go_at_call 65; refine (newWriter_any w.heap.size 2 [3, sl] _ (by simp) hx (by simp) (ints_new w [3, sl])).mono ?_; rintro e w3 ⟨p, v3, rfl, hW3, hp3, b3⟩; have HB3 := Lib.hid b3; have hW4 := hW3.fr ((Fr.refl S0 w3).alloc (.cells #[.pointer (some ⟨p, 0, none⟩)] 100)) (fun e => e) (fun i _ e => e); have hp4 := hW3.blk.lt; clear b3)
  | (go_at_call 68; refine (wtext_any p v3 _ s _ hW4 hul hs).mono ?_; rintro e w5 ⟨v5, rfl, hS5⟩; have q0 := ((Blk.new w3 100 #[.pointer (some ⟨p, 0, none⟩)]).fr hS5.fr (fun e => nw_other hW3 e)).cell (i := 0) (v := .pointer (some ⟨p, 0, none⟩)) rfl)
  | (go_at_call 66; refine (done_no p v5 _ _ hS5.at_ hl).mono ?_; rintro e w6 ⟨rfl, b6⟩; have HB6 := Lib.hid b6; clear b6))
 go_returns
 have B3 : Below w.heap.size w w3 := ((Below.refl _ w).alloc (Nat.le_refl _) _).trans (HB3.out.mono (by simp))
 have B5 := after_text (by simpa using hp3) hW3 B3 hS5.fr
 exact ⟨rfl, B5.trans (HB6.out.mono B5.size)⟩
end Go.Proofs.YtlfikhblmbidmaaGreatDoor