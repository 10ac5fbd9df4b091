/- The reference's acceptor: Promise. -/
import Derived.Test.YtnbiihnfggcakaaRAccC
set_option linter.unusedVariables false
set_option linter.unusedSimpArgs false
namespace Go.Proofs.Ytnbiihnfggcakaa
open Go.RowKit Go.Maps Go.Shelf

theorem RAt.setBal {w : World} {p : Nat} {v : Value} {s : ASt} (h : RAt w p v s) (r1 d1 : Int) (hg : AGood (withB s r1 d1)) :
    RAt ((w.setCell ⟨p, 2, none⟩ (.int .i64 r1)).setCell ⟨p, 3, none⟩ (.int .i64 d1)) p v (withB s r1 d1) ∧ Fr (S1 p) w ((w.setCell ⟨p, 2, none⟩ (.int .i64 r1)).setCell ⟨p, 3, none⟩ (.int .i64 d1)) := by
  have hf : Fr (S1 p) w ((w.setCell ⟨p, 2, none⟩ (.int .i64 r1)).setCell ⟨p, 3, none⟩ (.int .i64 d1)) := ((Fr.refl (S1 p) w).setCell (p := ⟨p, 2, none⟩) (.inl (show S1 p p from rfl)) _).setCell (p := ⟨p, 3, none⟩) (.inl (show S1 p p from rfl)) _
  refine ⟨⟨(h.blk.set 2 _).set 3 _, ?_, hg⟩, hf⟩
  exact row_fr h.row hf fun g hg' hs => row_ne_blk h.row h.blk (by decide) g hg' hs

set_option maxHeartbeats 1000000 in
/-- Refused: the slot, or the ballot. -/
theorem rpromise_bad (p : Nat) (v : Value) (s : ASt) (r1 d1 k : Int) (w : World) (h : RAt w p v s) (hE : prE s r1 d1 k ≠ 0) :
    Calls Try.prog 24 #[.pointer (some ⟨p, 0, none⟩), balV r1 d1, .int .i64 k] w fun e w' => e = .returned (.tuple #[.slice none 0 0, .int .i64 (prE s r1 d1 k)]) ∧ Below w.heap.size w w' := by
  have h1 := h.below (box_below w (.cells #[.int .i64 r1, .int .i64 d1] 30))
  have hb := box_below w (.cells #[.int .i64 r1, .int .i64 d1] 30)
  have b1 := Blk.new w 30 #[.int .i64 r1, .int .i64 d1]
  have c0 := h1.c0
  have c1 := h1.c2
  have c2 := h1.c3
  have e0 := b1.cell (i := 0) (v := .int .i64 r1) rfl
  have e1 := b1.cell (i := 1) (v := .int .i64 d1) rfl
  have HT := Lib.hid h1
  have HB := Lib.hid hb
  clear h h1 b1 hb
  cases hg : goodB s.n r1 d1 with
  | false =>
    have E : prE s r1 d1 k = 2 := by simp [prE, promE, hg]
    rw [E]; clear E hE
    go_enter Try.func24, Try.ntmps24
    go_wp2_with (first
      | (go_at_call 46; refine (rvalid p _ c0).mono ?_; rintro e w' ⟨rfl, rfl⟩)
      | (go_at_call 47; refine (rgood_any p v s r1 d1 _ HT.out).mono ?_; rintro e w2 ⟨rfl, b2⟩; have HB2 := Lib.hid b2; clear b2))
    go_returns
    exact ⟨rfl, bchain HB.out HB2.out⟩
  | true =>
    by_cases hk0 : k < 0
    · have E : prE s r1 d1 k = 2 := by simp [prE, promE, hk0]
      rw [E]; clear E hE
      go_enter Try.func24, Try.ntmps24
      go_wp2_with (first
        | (go_at_call 46; refine (rvalid p _ c0).mono ?_; rintro e w' ⟨rfl, rfl⟩)
        | (go_at_call 47; refine (rgood_any p v s r1 d1 _ HT.out).mono ?_; rintro e w2 ⟨rfl, b2⟩; have HB2 := Lib.hid b2; clear b2))
      go_returns
      exact ⟨rfl, bchain HB.out HB2.out⟩
    have hk0' : decide (k < 0) = false := by simpa using hk0
    by_cases hk1 : k > 4096
    · have E : prE s r1 d1 k = 2 := by simp only [prE, promE, if_pos (show goodB s.n r1 d1 = false ∨ k < 0 ∨ 4096 < k from .inr (.inr hk1))]
      rw [E]; clear E hE hk0
      go_enter Try.func24, Try.ntmps24
      go_wp2_with (first
        | (go_at_call 46; refine (rvalid p _ c0).mono ?_; rintro e w' ⟨rfl, rfl⟩)
        | (go_at_call 47; refine (rgood_any p v s r1 d1 _ HT.out).mono ?_; rintro e w2 ⟨rfl, b2⟩; have HB2 := Lib.hid b2; clear b2))
      go_returns
      exact ⟨rfl, bchain HB.out HB2.out⟩
    have hk1' : decide (k > 4096) = false := by simpa using hk1
    by_cases ho : ordB (r1, d1) (s.r, s.d) < 0
    · have E : prE s r1 d1 k = 8 := by simp only [prE, promE, if_neg (show ¬ (goodB s.n r1 d1 = false ∨ k < 0 ∨ 4096 < k) by rw [hg]; simp; omega), if_pos ho]
      rw [E]; clear E hE hk0 hk1
      go_enter Try.func24, Try.ntmps24
      go_wp2_with (first
        | (go_at_call 46; refine (rvalid p _ c0).mono ?_; rintro e w' ⟨rfl, rfl⟩)
        | (go_at_call 47; refine (rgood_any p v s r1 d1 _ HT.out).mono ?_; rintro e w2 ⟨rfl, b2⟩; have q0 := bcell b2 c0; have q1 := bcell b2 c1; have q2 := bcell b2 c2; have q3 := bcell b2 e0; have q4 := bcell b2 e1; have HB2 := Lib.hid (bchain HB.out b2); clear b2))
      clear c0 c1 c2 e0 e1
      go_region_held3 (fun W => W.cell? ⟨w.heap.size, 0, none⟩ = some (.int .i64 r1) ∧ W.cell? ⟨w.heap.size, 1, none⟩ = some (.int .i64 d1) ∧ W.cell? ⟨p, 2, none⟩ = some (.int .i64 s.r) ∧ W.cell? ⟨p, 3, none⟩ = some (.int .i64 s.d))
        (first | exact ⟨by assumption, by assumption, by assumption, by assumption⟩ | go_keep)
        (first
          | (go_at_call 48; refine (rorder_any _ _ _ _ _).mono ?_; rintro e w3 ⟨rfl, b3⟩; have u1 := bcell b3 q1; have u2 := bcell b3 q2; have u3 := bcell b3 q3; have u4 := bcell b3 q4; have HB3 := Lib.hid b3; clear b3))
      go_wp2_with fail
      go_returns
      exact ⟨rfl, bchain HB2.out ((Below.refl _ _).drew.trans (HB3.out.mono (by simp)))⟩
    · exact absurd (by simp only [prE, promE, if_neg (show ¬ (goodB s.n r1 d1 = false ∨ k < 0 ∨ 4096 < k) by rw [hg]; simp; omega), if_neg ho]) hE

set_option maxHeartbeats 1000000 in
theorem rpromise_yes (p : Nat) (v : Value) (s : ASt) (r1 d1 k : Int) (w : World) (h : RAt w p v s) (hE : prE s r1 d1 k = 0) :
    Calls Try.prog 24 #[.pointer (some ⟨p, 0, none⟩), balV r1 d1, .int .i64 k] w fun e w' => ∃ v', e = .returned (.tuple #[v', .int .i64 0]) ∧ EntRow w' w.heap.size v' (listL k s.L) ∧ RAt w' p v (withB s r1 d1) ∧ Fr (S1 p) w w' := by
  have h1 := h.below (box_below w (.cells #[.int .i64 r1, .int .i64 d1] 30))
  have hb := box_below w (.cells #[.int .i64 r1, .int .i64 d1] 30)
  have b1 := Blk.new w 30 #[.int .i64 r1, .int .i64 d1]
  have c0 := h1.c0
  have c1 := h1.c2
  have c2 := h1.c3
  have hlt := h.blk.lt
  have e0 := b1.cell (i := 0) (v := .int .i64 r1) rfl
  have e1 := b1.cell (i := 1) (v := .int .i64 d1) rfl
  have hg : goodB s.n r1 d1 = true := by
    cases hg : goodB s.n r1 d1
    · simp [prE, promE, hg] at hE
    · rfl
  have hk : 0 ≤ k ∧ k ≤ 4096 := by
    refine Classical.byContradiction fun hc => ?_
    rw [prE, promE, if_pos (by right; omega)] at hE
    simp at hE
  have hk0' : decide (k < 0) = false := by simp; omega
  have hk1' : decide (k > 4096) = false := by simp; omega
  have ho : decide (ordB (r1, d1) (s.r, s.d) < 0) = false := by
    simp only [decide_eq_false_iff_not]
    intro hc
    rw [prE, promE, if_neg (by rw [hg]; simp; omega), if_pos hc] at hE
    simp at hE
  have HE0 := Lib.hid hE
  have h9 := h.good
  have HT := Lib.hid h1
  have HB := Lib.hid hb
  clear h h1 b1 hb hE hk
  go_enter Try.func24, Try.ntmps24
  go_wp2_with (first
    | (go_at_call 46; refine (rvalid p _ c0).mono ?_; rintro e w' ⟨rfl, rfl⟩)
    | (go_at_call 47; refine (rgood_any p v s r1 d1 _ HT.out).mono ?_; rintro e w2 ⟨rfl, b2⟩; have q0 := bcell b2 c0; have q1 := bcell b2 c1; have q2 := bcell b2 c2; have q3 := bcell b2 e0; have q4 := bcell b2 e1; have HT2 := Lib.hid (HT.out.below b2); have HB2 := Lib.hid (bchain HB.out b2); clear b2))
  clear c0 c1 c2 e0 e1
  go_region_held3 (fun W => W.cell? ⟨w.heap.size, 0, none⟩ = some (.int .i64 r1) ∧ W.cell? ⟨w.heap.size, 1, none⟩ = some (.int .i64 d1) ∧ W.cell? ⟨p, 2, none⟩ = some (.int .i64 s.r) ∧ W.cell? ⟨p, 3, none⟩ = some (.int .i64 s.d))
    (first | exact ⟨by assumption, by assumption, by assumption, by assumption⟩ | go_keep)
    (first
      | (go_at_call 48; refine (rorder_any _ _ _ _ _).mono ?_; rintro e w3 ⟨rfl, b3⟩; have u0 := bcell b3 q0; have u1 := bcell b3 q1; have u2 := bcell b3 q2; have u3 := bcell b3 q3; have u4 := bcell b3 q4; have HB3 := Lib.hid b3; clear b3))
  have hb3 : Below w.heap.size w w3 := bchain HB2.out ((Below.refl _ _).drew.trans (HB3.out.mono (by simp)))
  have t3 := HT2.out.drew.below HB3.out
  have f1 := t3.blk.frozen 2
  have f2 := t3.blk.frozen 3
  have HB4 := Lib.hid hb3
  have HT3 := Lib.hid t3
  clear q0 q1 q2 q3 q4 hb3 t3
  go_wp2_with fail
  have hgd := h9.prom r1 d1 k
  rw [prS_ok HE0.out] at hgd
  have hs := HT3.out.setBal r1 d1 hgd
  have HA := Lib.hid hs.1
  have HF := Lib.hid hs.2
  clear hs f1 f2 u0 u1 u2 u3 u4 hlt hgd h9
  generalize ((w3.setCell ⟨p, 2, none⟩ (.int .i64 r1)).setCell ⟨p, 3, none⟩ (.int .i64 d1)) = W4 at *
  go_wp2_with (go_at_call 33; refine (rlist_any p v _ k _ HA.out).mono ?_; rintro e w4 ⟨v', rfl, hr4, b4⟩)
  go_returns
  exact ⟨v', rfl, hr4.lower (Nat.le_trans HB4.out.size HF.out.size), HA.out.below b4, ((Fr.of_below HB4.out).trans HF.out).trans (Fr.of_below b4)⟩
end Go.Proofs.Ytnbiihnfggcakaa
