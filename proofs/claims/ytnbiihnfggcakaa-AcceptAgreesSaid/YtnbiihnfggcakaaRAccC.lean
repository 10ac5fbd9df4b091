/- The reference's acceptor: good, Accepted, Promise, Forget, Copy. -/
import Derived.Test.YtnbiihnfggcakaaRAccB
set_option linter.unusedVariables false
set_option linter.unusedSimpArgs false
namespace Go.Proofs.Ytnbiihnfggcakaa
open Go.RowKit Go.Maps Go.Shelf

set_option maxHeartbeats 1000000 in
theorem rgood_any (p : Nat) (v : Value) (s : ASt) (r1 d1 : Int) (w : World) (h : RAt w p v s) :
    Calls Try.prog 47 #[.pointer (some ⟨p, 0, none⟩), balV r1 d1] w fun e w' => e = .returned (.bool (goodB s.n r1 d1)) ∧ Below w.heap.size w w' := by
  have hE := fun (a b c d : Int) (w : World) => eqBal a b c d w
  have hG := eqGBal
  have hB0 := fun w => bldBal0 w
  have c0 := h.c1
  have hb := box_below w (.cells #[.int .i64 r1, .int .i64 d1] 30)
  have k0 := bcell hb c0
  have b1 := Blk.new w 30 #[.int .i64 r1, .int .i64 d1]
  have e0 := b1.cell (i := 0) (v := .int .i64 r1) rfl
  have e1 := b1.cell (i := 1) (v := .int .i64 d1) rfl
  have HB := Lib.hid hb
  unfold goodB
  by_cases hz : r1 = 0 ∧ d1 = 0
  · obtain ⟨rfl, rfl⟩ := hz
    clear h hb b1 c0
    go_enter Try.func47, Try.ntmps47
    go_wp2_with fail
    generalize (w.alloc (.cells #[.int .i64 0, .int .i64 0] 30)) = W1 at *
    refine wp_region_held_drew (S := (fun W => W.cell? ⟨w.heap.size, 0, none⟩ = some (.int .i64 0) ∧ W.cell? ⟨w.heap.size, 1, none⟩ = some (.int .i64 0))) (by kernel_rfl) ?_ (fun hHeld => ?_)
    · exact ⟨e0, e1⟩
    try dsimp only at hHeld
    refine held_yes (i := 0) (some 5) (v := ?_) rfl rfl (by kernel_rfl) (by kernel_rfl) (by kernel_rfl) (fun _ _ _ h => h) (by rfl) ?_ hHeld ?_
    rotate_left
    · (intro w hSw; (try dsimp only at hSw); go_simp; all_goals with_reducible rfl)
    try simp only [Act.put, List.setIfInBounds_toArray, List.set_cons_zero, List.set_cons_succ]
    refine held_yes (i := 1) (some 6) (v := ?_) rfl rfl (by kernel_rfl) (by kernel_rfl) (by kernel_rfl) (fun _ _ _ h => h) (by rfl) ?_ hHeld ?_
    rotate_left
    · (intro w hSw; (try dsimp only at hSw); go_simp; all_goals with_reducible rfl)
    try simp only [Act.put, List.setIfInBounds_toArray, List.set_cons_zero, List.set_cons_succ]
    refine held_yes (i := 2) (some 7) (v := ?_) rfl rfl (by kernel_rfl) (by kernel_rfl) (by kernel_rfl) (fun _ _ _ h => h) (by rfl) ?_ hHeld ?_
    rotate_left
    · (intro w hSw; (try dsimp only at hSw); go_simp; all_goals with_reducible rfl)
    try simp only [Act.put, List.setIfInBounds_toArray, List.set_cons_zero, List.set_cons_succ]
    refine held_yes (i := 3) (some 8) (v := ?_) rfl rfl (by kernel_rfl) (by kernel_rfl) (by kernel_rfl) (fun _ _ _ h => h) (by rfl) ?_ hHeld ?_
    rotate_left
    · (intro w hSw; (try dsimp only at hSw); go_simp; all_goals with_reducible rfl)
    try simp only [Act.put, List.setIfInBounds_toArray, List.set_cons_zero, List.set_cons_succ]
    refine held_no (i := 4) (some 9) rfl rfl (by kernel_rfl) (by kernel_rfl) (by kernel_rfl) (fun _ _ _ h => h) (wanted_t rfl rfl rfl) hHeld ?_
    try simp only [Act.put, List.setIfInBounds_toArray, List.set_cons_zero, List.set_cons_succ]
    refine held_no (i := 5) (some 10) rfl rfl (by kernel_rfl) (by kernel_rfl) (by kernel_rfl) (fun _ _ _ h => h) (wanted_t rfl rfl rfl) hHeld ?_
    try simp only [Act.put, List.setIfInBounds_toArray, List.set_cons_zero, List.set_cons_succ]
    refine held_no (i := 6) (some 11) rfl rfl (by kernel_rfl) (by kernel_rfl) (by kernel_rfl) (fun _ _ _ h => h) (wanted_t rfl rfl rfl) hHeld ?_
    try simp only [Act.put, List.setIfInBounds_toArray, List.set_cons_zero, List.set_cons_succ]
    refine held_no (i := 7) (some 12) rfl rfl (by kernel_rfl) (by kernel_rfl) (by kernel_rfl) (fun _ _ _ h => h) (wanted_t rfl rfl rfl) hHeld ?_
    try simp only [Act.put, List.setIfInBounds_toArray, List.set_cons_zero, List.set_cons_succ]
    refine held_no (i := 8) (some 13) rfl rfl (by kernel_rfl) (by kernel_rfl) (by kernel_rfl) (fun _ _ _ h => h) (wanted_t rfl rfl rfl) hHeld ?_
    try simp only [Act.put, List.setIfInBounds_toArray, List.set_cons_zero, List.set_cons_succ]
    refine held_no (i := 9) (some 14) rfl rfl (by kernel_rfl) (by kernel_rfl) (by kernel_rfl) (fun _ _ _ h => h) (wanted_t rfl rfl rfl) hHeld ?_
    try simp only [Act.put, List.setIfInBounds_toArray, List.set_cons_zero, List.set_cons_succ]
    refine held_no (i := 10) (some 15) rfl rfl (by kernel_rfl) (by kernel_rfl) (by kernel_rfl) (fun _ _ _ h => h) (wanted_t rfl rfl rfl) hHeld ?_
    try simp only [Act.put, List.setIfInBounds_toArray, List.set_cons_zero, List.set_cons_succ]
    refine held_yes (i := 11) (some 16) (v := ?_) rfl rfl (by kernel_rfl) (by kernel_rfl) (by kernel_rfl) (fun _ _ _ h => h) (by rfl) ?_ hHeld ?_
    rotate_left
    · (intro w hSw; (try dsimp only at hSw); go_simp; all_goals with_reducible rfl)
    try simp only [Act.put, List.setIfInBounds_toArray, List.set_cons_zero, List.set_cons_succ]
    refine held_yes (i := 12) (some 4) (v := ?_) rfl rfl (by kernel_rfl) (by kernel_rfl) (by kernel_rfl) (fun _ _ _ h => h) (by rfl) ?_ hHeld ?_
    rotate_left
    · (intro w hSw; (try dsimp only at hSw); go_simp; all_goals with_reducible rfl)
    try simp only [Act.put, List.setIfInBounds_toArray, List.set_cons_zero, List.set_cons_succ]
    refine wpAnyH_done (by kernel_rfl) ?_ _
    go_wp2_with fail
    go_returns
    exact ⟨by simp, HB.out.drew⟩
  · have h3' : (r1 == 0 && d1 == 0) = false := by
      by_cases e : r1 = 0
      · by_cases e2 : d1 = 0
        · exact absurd ⟨e, e2⟩ hz
        · simp [e2]
      · simp [e]
    clear h hb b1 c0 hz
    go_enter Try.func47, Try.ntmps47
    go_wp2_with fail
    generalize (w.alloc (.cells #[.int .i64 r1, .int .i64 d1] 30)) = W1 at *
    go_region_held3 (fun W => W.cell? ⟨w.heap.size, 0, none⟩ = some (.int .i64 r1) ∧ W.cell? ⟨w.heap.size, 1, none⟩ = some (.int .i64 d1) ∧ W.cell? ⟨p, 1, none⟩ = some (.int .i64 s.n))
      (first | exact ⟨by assumption, by assumption, by assumption⟩ | go_keep)
      (first
        | (go_at_call 59; refine (rcheck_any _ _ _ _).mono ?_; rintro e w2 ⟨rfl, b2⟩; have q0 := bcell b2 e0; have q1 := bcell b2 e1; have q2 := bcell b2 k0; have HB2 := Lib.hid b2; clear b2))
    go_wp2_with fail
    go_returns
    exact ⟨by rw [h3']; rfl, bchain HB.out ((Below.refl _ _).drew.trans (HB2.out.mono (by simp)))⟩


set_option maxRecDepth 100000 in
set_option maxHeartbeats 1000000 in
theorem raccepted_any (p : Nat) (v : Value) (s : ASt) (k : Int) (w : World) (h : RAt w p v s) :
    Calls Try.prog 30 #[.pointer (some ⟨p, 0, none⟩), .int .i64 k] w fun e w' => e = .returned (accdV k s.L) ∧ Below w.heap.size w w' := by
  have hb := box_below w (.cells #[.int .i64 0, .int .i64 0, .int .i64 0, .string ⟨#[]⟩] 43)
  have c0 := bcell hb h.c0
  have c4 := bcell hb h.c4
  have hl := h.good.len
  have HS := Lib.hid h.good.srt
  obtain ⟨A, cap, rfl, hcap, hc⟩ := h.row.view
  have HC := Lib.hid hc
  have HB := Lib.hid hb
  clear h hc hb
  go_enter Try.func30, Try.ntmps30
  go_wp2_with fail
  go_loop [6] (fun c => ∃ i : Nat, i ≤ s.L.length ∧ c = .int .i64 i ∧ ∀ q ∈ s.L.take i, q.1 ≠ k) (fun c => s.L.length - (intOf c).toNat)
  case atStart => exact ⟨0, by omega, rfl, fun q hq => by simp at hq⟩
  case round =>
    obtain ⟨i, hi, rfl, hup⟩ := hrel
    have HUP := Lib.hid hup
    clear hup
    by_cases hlt : i < s.L.length
    · obtain ⟨g, rfl, _, hg, hcells⟩ := HC.out (by omega)
      obtain ⟨⟨x, e1, e2, e3⟩, hs⟩ : ∃ q, s.L[i]? = some q := ⟨_, List.getElem?_eq_getElem hlt⟩
      obtain ⟨m1, m2, m3, m4⟩ := hcells i _ _ hs
      have z1 := bcell HB.out m1
      have z2 := bcell HB.out m2
      have z3 := bcell HB.out m3
      have z4 := bcell HB.out m4
      have HSn := Lib.hid (take_snoc hs)
      have HM := Lib.hid (List.mem_of_getElem? hs)
      clear m1 m2 m3 m4 hcells hs
      by_cases hx : x = k
      · subst hx
        have HA := Lib.hid (accdV_some (get_of_mem HS.out HM.out))
        go_wp2_with (first
          | (go_at_call 46; refine (rvalid p _ c0).mono ?_; rintro e w' ⟨rfl, rfl⟩))
        go_returns
        rw [HA.out]
        exact ⟨rfl, box_below _ _⟩
      · have hx' : ((x : Int) == k) = false := by simpa using hx
        have HN : Hid (∀ q ∈ s.L.take (i + 1), q.1 ≠ k) := by
          intro q hq
          rw [HSn.out, List.mem_append] at hq
          rcases hq with hq | hq
          · exact HUP.out q hq
          · simp at hq; subst hq; exact hx
        clear hx
        go_wp2_with (first
          | (go_at_call 46; refine (rvalid p _ c0).mono ?_; rintro e w' ⟨rfl, rfl⟩))
        go_round
        case rel => exact ⟨i + 1, by omega, by go_num, HN.out⟩
        case measure => simp [intOf]; omega
    · have e : i = s.L.length := by omega
      have hup := HUP.out
      rw [e, List.take_length] at hup
      have HA := Lib.hid (accdV_none (get_none.2 hup))
      subst e
      clear hup
      go_wp2_with (first
        | (go_at_call 46; refine (rvalid p _ c0).mono ?_; rintro e w' ⟨rfl, rfl⟩))
      go_returns
      rw [HA.out]
      exact ⟨rfl, box_below _ _⟩
end Go.Proofs.Ytnbiihnfggcakaa
