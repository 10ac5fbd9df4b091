/- The reference's acceptor: Forget. -/
import Derived.Test.YtnbiihnfggcakaaRAccD
set_option linter.unusedVariables false
set_option linter.unusedSimpArgs false
namespace Go.Proofs.Ytnbiihnfggcakaa
open Go.RowKit Go.Maps Go.Shelf

theorem forL_same {s : ASt} (h : AGood s) {k : Int} (hk : k ≤ s.base) : forL k s.L = s.L := by
  unfold forL
  rw [List.filter_eq_self]
  intro p hp
  have := (h.slots p hp).1
  simp
  omega
theorem listL_forL (k : Int) (L : EL) : listL k L = forL k L := by
  unfold listL forL
  refine List.filter_congr fun p _ => ?_
  by_cases hk : p.1 < k
  · simp [hk]
  · simp [hk]; omega

def RForgPost (p : Nat) (s : ASt) (k : Int) (w : World) (e : Ending) (w' : World) : Prop :=
  ∃ v', e = .returned (.int .i64 (foE k)) ∧ RAt w' p v' (foS s k) ∧ Fr (S1 p) w w'

set_option maxHeartbeats 1000000 in
theorem rforget_any (p : Nat) (v : Value) (s : ASt) (k : Int) (w : World) (h : RAt w p v s) :
    Calls Try.prog 27 #[.pointer (some ⟨p, 0, none⟩), .int .i64 k] w (RForgPost p s k w) := by
  have c0 := h.c0
  have c5 := h.c5
  have HT := Lib.hid h
  by_cases hk0 : k < 0
  · have E : foE k = 2 := by simp [foE, hk0]
    have ES : foS s k = s := by unfold foS; rw [E]; rfl
    unfold RForgPost
    rw [E, ES]
    clear h E ES
    go_enter Try.func27, Try.ntmps27
    go_wp2_with (go_at_call 46; refine (rvalid p _ c0).mono ?_; rintro e w' ⟨rfl, rfl⟩)
    go_returns
    exact ⟨v, rfl, HT.out, Fr.refl _ _⟩
  have hk0' : decide (k < 0) = false := by simpa using hk0
  by_cases hk1 : k > 4096
  · have E : foE k = 2 := by unfold foE; rw [if_pos (.inr hk1)]
    have ES : foS s k = s := by unfold foS; rw [E]; rfl
    unfold RForgPost
    rw [E, ES]
    clear h E ES hk0
    go_enter Try.func27, Try.ntmps27
    go_wp2_with (go_at_call 46; refine (rvalid p _ c0).mono ?_; rintro e w' ⟨rfl, rfl⟩)
    go_returns
    exact ⟨v, rfl, HT.out, Fr.refl _ _⟩
  have hk1' : decide (k > 4096) = false := by simpa using hk1
  have hk : 0 ≤ k ∧ k ≤ 4096 := by omega
  have E : foE k = 0 := foE_ok hk
  by_cases hb : k > s.base
  · have hgd := h.good.forg k
    have ES : foS s k = ⟨s.n, s.r, s.d, k, forL k s.L⟩ := by unfold foS; rw [if_pos E, show max s.base k = k by omega]
    unfold RForgPost
    rw [E, ES]
    rw [ES] at hgd
    have HGD := Lib.hid hgd
    have hb' : decide (k > s.base) = true := by simpa using hb
    clear h E ES hk0 hk1 hgd hk hb
    go_enter Try.func27, Try.ntmps27
    go_wp2_with (first
      | (go_at_call 46; refine (rvalid p _ c0).mono ?_; rintro e w' ⟨rfl, rfl⟩)
      | (go_at_call 33; refine (rlist_any p v s k _ HT.out).mono ?_; rintro e w2 ⟨v2, rfl, r2, b2⟩; rw [listL_forL] at r2; obtain ⟨A2, k2, hv2, _, _⟩ := r2.view; have hb2 := (HT.out.below b2).blk; have z4 := hb2.cell (i := 4) rfl; have z5 := hb2.cell (i := 5) rfl; have f4 := hb2.frozen 4; have f5 := hb2.frozen 5; have HB2 := Lib.hid hb2; have R2 := Lib.hid r2; have B2 := Lib.hid b2; have HV := Lib.hid hv2; subst hv2; clear r2 b2 hb2))
    go_returns
    have hf : Fr (S1 p) w2 ((w2.setCell ⟨p, 4, none⟩ (.slice A2 (forL k s.L).length k2)).setCell ⟨p, 5, none⟩ (.int .i64 k)) := ((Fr.refl (S1 p) w2).setCell (p := ⟨p, 4, none⟩) (.inl (show S1 p p from rfl)) _).setCell (p := ⟨p, 5, none⟩) (.inl (show S1 p p from rfl)) _
    refine ⟨_, rfl, ⟨(HB2.out.set 4 _).set 5 _, ?_, HGD.out⟩, (Fr.of_below B2.out).trans hf⟩
    exact row_lower (row_fr R2.out hf fun g hg' hs => row_ne_blk R2.out HB2.out (by decide) g hg' hs) (Nat.zero_le _)
  · have ES : foS s k = s := by
      unfold foS
      rw [if_pos E, show max s.base k = s.base by omega, forL_same h.good (by omega)]
    have hb' : decide (k > s.base) = false := by simpa using hb
    unfold RForgPost
    rw [E, ES]
    clear h E ES hk0 hk1 hb hk
    go_enter Try.func27, Try.ntmps27
    go_wp2_with (go_at_call 46; refine (rvalid p _ c0).mono ?_; rintro e w' ⟨rfl, rfl⟩)
    go_returns
    exact ⟨v, rfl, HT.out, Fr.refl _ _⟩
end Go.Proofs.Ytnbiihnfggcakaa
