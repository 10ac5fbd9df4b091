/- Package accept: Promise, Accept. -/
import Derived.Test.YtnbiihnfggcakaaAccB
set_option linter.unusedVariables false
set_option linter.unusedSimpArgs false
namespace Go.Proofs.Ytnbiihnfggcakaa
open Go.RowKit Go.Maps Go.Shelf

theorem AccAt.setBal {w : World} {p m : Nat} {n r d base : Int} {L : EL} (h : AccAt w p m n r d base L) (r1 d1 : Int) :
    AccAt ((w.setCell ⟨p, 1, none⟩ (.int .i64 r1)).setCell ⟨p, 2, none⟩ (.int .i64 d1)) p m n r1 d1 base L ∧ Fr (S1 p) w ((w.setCell ⟨p, 1, none⟩ (.int .i64 r1)).setCell ⟨p, 2, none⟩ (.int .i64 d1)) := by
  have hf : Fr (S1 p) w ((w.setCell ⟨p, 1, none⟩ (.int .i64 r1)).setCell ⟨p, 2, none⟩ (.int .i64 d1)) := ((Fr.refl (S1 p) w).setCell (p := ⟨p, 1, none⟩) (.inl (show S1 p p from rfl)) _).setCell (p := ⟨p, 2, none⟩) (.inl (show S1 p p from rfl)) _
  exact ⟨⟨(h.blk.set 1 _).set 2 _, h.map.of_block (hf.block m h.map.lt (fun e => h.ne e.symm))⟩, hf⟩

def PromPost (p m : Nat) (n r1 d1 base k : Int) (L : EL) (w : World) (e : Ending) (w' : World) : Prop :=
  ∃ v, e = .returned (.tuple #[v, .int .i64 0]) ∧ EntRow w' w.heap.size v (listL k L) ∧ AccAt w' p m n r1 d1 base L ∧ Fr (S1 p) w w'

def promE (n r d r1 d1 k : Int) : Int := if goodB n r1 d1 = false ∨ k < 0 ∨ 4096 < k then 2 else if ordB (r1, d1) (r, d) < 0 then 8 else 0

set_option maxHeartbeats 1000000 in
/-- Refused: the slot, or the ballot. -/
theorem promise_bad (p m : Nat) (n r d base r1 d1 k : Int) (L : EL) (w : World) (h : AccAt w p m n r d base L) (hn : 0 < n) (hE : promE n r d r1 d1 k ≠ 0) :
    Calls Try.prog 18 #[.pointer (some ⟨p, 0, none⟩), balV r1 d1, .int .i64 k] w fun e w' => e = .returned (.tuple #[.slice none 0 0, .int .i64 (promE n r d r1 d1 k)]) ∧ Below w.heap.size w w' := by
  have h1 := h.alloc (.cells #[.int .i64 r1, .int .i64 d1] 30)
  have hb := box_below w (.cells #[.int .i64 r1, .int .i64 d1] 30)
  have b1 := Blk.new w 30 #[.int .i64 r1, .int .i64 d1]
  have c0 := h1.c0
  have c1 := h1.c1
  have c2 := h1.c2
  have e0 := b1.cell (i := 0) (v := .int .i64 r1) rfl
  have e1 := b1.cell (i := 1) (v := .int .i64 d1) rfl
  have HT := Lib.hid h1
  have HB := Lib.hid hb
  clear h h1 b1 hb
  cases hg : goodB n r1 d1 with
  | false =>
    have E : promE n r d r1 d1 k = 2 := by simp [promE, hg]
    rw [E]; clear E hE
    go_enter Try.func18, Try.ntmps18
    go_wp2_with (first
      | (go_at_call 38; refine (avalid p n _ c0 hn).mono ?_; rintro e w' ⟨rfl, rfl⟩)
      | (go_at_call 42; refine (good_any p m n r d base r1 d1 L _ HT.out hn).mono ?_; rintro e w2 ⟨rfl, b2⟩; have HB2 := Lib.hid b2; clear b2))
    go_returns
    exact ⟨rfl, bchain HB.out HB2.out⟩
  | true =>
    by_cases hk0 : k < 0
    · have E : promE n r d r1 d1 k = 2 := by simp [promE, hk0]
      rw [E]; clear E hE
      go_enter Try.func18, Try.ntmps18
      go_wp2_with (first
        | (go_at_call 38; refine (avalid p n _ c0 hn).mono ?_; rintro e w' ⟨rfl, rfl⟩)
        | (go_at_call 42; refine (good_any p m n r d base r1 d1 L _ HT.out hn).mono ?_; rintro e w2 ⟨rfl, b2⟩; have HB2 := Lib.hid b2; clear b2))
      go_returns
      exact ⟨rfl, bchain HB.out HB2.out⟩
    have hk0' : decide (k < 0) = false := by simpa using hk0
    by_cases hk1 : k > 4096
    · have E : promE n r d r1 d1 k = 2 := by simp only [promE, if_pos (show goodB n r1 d1 = false ∨ k < 0 ∨ 4096 < k from .inr (.inr hk1))]
      rw [E]; clear E hE hk0
      go_enter Try.func18, Try.ntmps18
      go_wp2_with (first
        | (go_at_call 38; refine (avalid p n _ c0 hn).mono ?_; rintro e w' ⟨rfl, rfl⟩)
        | (go_at_call 42; refine (good_any p m n r d base r1 d1 L _ HT.out hn).mono ?_; rintro e w2 ⟨rfl, b2⟩; have HB2 := Lib.hid b2; clear b2))
      go_returns
      exact ⟨rfl, bchain HB.out HB2.out⟩
    have hk1' : decide (k > 4096) = false := by simpa using hk1
    by_cases ho : ordB (r1, d1) (r, d) < 0
    · have E : promE n r d r1 d1 k = 8 := by simp only [promE, if_neg (show ¬ (goodB n r1 d1 = false ∨ k < 0 ∨ 4096 < k) by rw [hg]; simp; omega), if_pos ho]
      rw [E]; clear E hE hk0 hk1
      go_enter Try.func18, Try.ntmps18
      go_wp2_with (first
        | (go_at_call 38; refine (avalid p n _ c0 hn).mono ?_; rintro e w' ⟨rfl, rfl⟩)
        | (go_at_call 42; refine (good_any p m n r d base r1 d1 L _ HT.out hn).mono ?_; rintro e w2 ⟨rfl, b2⟩; have q0 := bcell b2 c0; have q1 := bcell b2 c1; have q2 := bcell b2 c2; have q3 := bcell b2 e0; have q4 := bcell b2 e1; have HB2 := Lib.hid (bchain HB.out b2); clear b2))
      clear c0 c1 c2 e0 e1
      go_region_held3 (fun W => W.cell? ⟨w.heap.size, 0, none⟩ = some (.int .i64 r1) ∧ W.cell? ⟨w.heap.size, 1, none⟩ = some (.int .i64 d1) ∧ W.cell? ⟨p, 1, none⟩ = some (.int .i64 r) ∧ W.cell? ⟨p, 2, none⟩ = some (.int .i64 d))
        (first | exact ⟨by assumption, by assumption, by assumption, by assumption⟩ | go_keep)
        (first
          | (go_at_call 21; refine (order_any _ _ _ _ _).mono ?_; rintro e w3 ⟨rfl, b3⟩; have u1 := bcell b3 q1; have u2 := bcell b3 q2; have u3 := bcell b3 q3; have u4 := bcell b3 q4; have HB3 := Lib.hid b3; clear b3))
      go_wp2_with fail
      go_returns
      exact ⟨rfl, bchain HB2.out ((Below.refl _ _).drew.trans (HB3.out.mono (by simp)))⟩
    · exact absurd (by simp only [promE, if_neg (show ¬ (goodB n r1 d1 = false ∨ k < 0 ∨ 4096 < k) by rw [hg]; simp; omega), if_neg ho]) hE

set_option maxHeartbeats 1000000 in
theorem promise_yes (p m : Nat) (n r d base r1 d1 k : Int) (L : EL) (w : World) (h : AccAt w p m n r d base L) (hn : 0 < n) (hE : promE n r d r1 d1 k = 0)
    (hl : L.length ≤ 100000) (hin : ∀ p ∈ L, -9223372036854775808 ≤ p.1 ∧ p.1 ≤ 9223372036854775807) :
    Calls Try.prog 18 #[.pointer (some ⟨p, 0, none⟩), balV r1 d1, .int .i64 k] w (PromPost p m n r1 d1 base k L w) := by
  have h1 := h.alloc (.cells #[.int .i64 r1, .int .i64 d1] 30)
  have hb := box_below w (.cells #[.int .i64 r1, .int .i64 d1] 30)
  have b1 := Blk.new w 30 #[.int .i64 r1, .int .i64 d1]
  have c0 := h1.c0
  have c1 := h1.c1
  have c2 := h1.c2
  have hlt := h.lt
  have e0 := b1.cell (i := 0) (v := .int .i64 r1) rfl
  have e1 := b1.cell (i := 1) (v := .int .i64 d1) rfl
  have hg : goodB n r1 d1 = true := by
    cases hg : goodB n r1 d1
    · simp [promE, hg] at hE
    · rfl
  have hk : 0 ≤ k ∧ k ≤ 4096 := by
    refine Classical.byContradiction fun hc => ?_
    rw [promE, if_pos (by right; omega)] at hE
    simp at hE
  have hk0' : decide (k < 0) = false := by simp; omega
  have hk1' : decide (k > 4096) = false := by simp; omega
  have ho : decide (ordB (r1, d1) (r, d) < 0) = false := by
    simp only [decide_eq_false_iff_not]
    intro hc
    rw [promE, if_neg (by rw [hg]; simp; omega), if_pos hc] at hE
    simp at hE
  have HT := Lib.hid h1
  have HB := Lib.hid hb
  have HIN := Lib.hid hin
  clear h h1 b1 hb hE hk hin
  go_enter Try.func18, Try.ntmps18
  go_wp2_with (first
    | (go_at_call 38; refine (avalid p n _ c0 hn).mono ?_; rintro e w' ⟨rfl, rfl⟩)
    | (go_at_call 42; refine (good_any p m n r d base r1 d1 L _ HT.out hn).mono ?_; rintro e w2 ⟨rfl, b2⟩; have q0 := bcell b2 c0; have q1 := bcell b2 c1; have q2 := bcell b2 c2; have q3 := bcell b2 e0; have q4 := bcell b2 e1; have HT2 := Lib.hid (HT.out.below b2); have HB2 := Lib.hid (bchain HB.out b2); clear b2))
  clear c0 c1 c2 e0 e1
  go_region_held3 (fun W => W.cell? ⟨w.heap.size, 0, none⟩ = some (.int .i64 r1) ∧ W.cell? ⟨w.heap.size, 1, none⟩ = some (.int .i64 d1) ∧ W.cell? ⟨p, 1, none⟩ = some (.int .i64 r) ∧ W.cell? ⟨p, 2, none⟩ = some (.int .i64 d))
    (first | exact ⟨by assumption, by assumption, by assumption, by assumption⟩ | go_keep)
    (first
      | (go_at_call 21; refine (order_any _ _ _ _ _).mono ?_; rintro e w3 ⟨rfl, b3⟩; have u0 := bcell b3 q0; have u1 := bcell b3 q1; have u2 := bcell b3 q2; have u3 := bcell b3 q3; have u4 := bcell b3 q4; have HB3 := Lib.hid b3; clear b3))
  have hb3 : Below w.heap.size w w3 := bchain HB2.out ((Below.refl _ _).drew.trans (HB3.out.mono (by simp)))
  have t3 := HT2.out.drew.below HB3.out
  have f1 := t3.blk.frozen 1
  have f2 := t3.blk.frozen 2
  have HB4 := Lib.hid hb3
  have HT3 := Lib.hid t3
  clear q0 q1 q2 q3 q4 hb3 t3
  go_wp2_with fail
  have hs := HT3.out.setBal r1 d1
  have HA := Lib.hid hs.1
  have HF := Lib.hid hs.2
  have HLT := Lib.hid hlt
  clear hs f1 f2 u0 u1 u2 u3 u4 hlt
  generalize ((w3.setCell ⟨p, 1, none⟩ (.int .i64 r1)).setCell ⟨p, 2, none⟩ (.int .i64 d1)) = W4 at *
  go_wp2_with (go_at_call 16; refine (list_any p m n r1 d1 base k L _ HA.out hn hl HIN.out).mono ?_; rintro e w4 ⟨v, rfl, hr4, b4⟩)
  go_returns
  exact ⟨v, rfl, hr4.lower (Nat.le_trans HB4.out.size HF.out.size), HA.out.below b4, ((Fr.of_below HB4.out).trans HF.out).trans (Fr.of_below b4)⟩

def accE (n r d base r1 d1 k : Int) (len : Nat) : Int :=
  if goodB n r1 d1 = false ∨ k < 0 ∨ 4096 ≤ k then 2 else if 65536 < len then 11 else if ordB (r1, d1) (r, d) < 0 then 8 else if k < base then 3 else 0

set_option maxHeartbeats 2000000 in
theorem accept_bad (p m : Nat) (n r d base r1 d1 k : Int) (s : ByteArray) (L : EL) (w : World) (h : AccAt w p m n r d base L) (hn : 0 < n) (hE : accE n r d base r1 d1 k s.size ≠ 0) :
    Calls Try.prog 19 #[.pointer (some ⟨p, 0, none⟩), balV r1 d1, .int .i64 k, .string s] w fun e w' => e = .returned (.int .i64 (accE n r d base r1 d1 k s.size)) ∧ Below w.heap.size w w' := by
  have h1 := h.alloc (.cells #[.int .i64 r1, .int .i64 d1] 30)
  have hb := box_below w (.cells #[.int .i64 r1, .int .i64 d1] 30)
  have b1 := Blk.new w 30 #[.int .i64 r1, .int .i64 d1]
  have c0 := h1.c0
  have c1 := h1.c1
  have c2 := h1.c2
  have c3 := h1.c3
  have c4 := h1.c4
  have hlt := h.lt
  have e0 := b1.cell (i := 0) (v := .int .i64 r1) rfl
  have e1 := b1.cell (i := 1) (v := .int .i64 d1) rfl
  have HT := Lib.hid h1
  have HB := Lib.hid hb
  clear h h1 b1 hb
  cases hg : goodB n r1 d1 with
  | false =>
    have E : accE n r d base r1 d1 k s.size = 2 := by simp [accE, hg]
    rw [E]; clear E hE
    go_enter Try.func19, Try.ntmps19
    go_wp2_with (first
      | (go_at_call 38; refine (avalid p n _ c0 hn).mono ?_; rintro e w' ⟨rfl, rfl⟩)
      | (go_at_call 42; refine (good_any p m n r d base r1 d1 L _ HT.out hn).mono ?_; rintro e w2 ⟨rfl, b2⟩; have HB2 := Lib.hid (bchain HB.out b2); clear b2))
    go_returns
    exact ⟨rfl, HB2.out⟩
  | true =>
    by_cases hk0 : k < 0
    · have E : accE n r d base r1 d1 k s.size = 2 := by simp [accE, hk0]
      rw [E]; clear E hE
      go_enter Try.func19, Try.ntmps19
      go_wp2_with (first
        | (go_at_call 38; refine (avalid p n _ c0 hn).mono ?_; rintro e w' ⟨rfl, rfl⟩)
        | (go_at_call 42; refine (good_any p m n r d base r1 d1 L _ HT.out hn).mono ?_; rintro e w2 ⟨rfl, b2⟩; have HB2 := Lib.hid (bchain HB.out b2); clear b2))
      go_returns
      exact ⟨rfl, HB2.out⟩
    have hk0' : decide (k < 0) = false := by simpa using hk0
    by_cases hk1 : k ≥ 4096
    · have E : accE n r d base r1 d1 k s.size = 2 := by simp only [accE, if_pos (show goodB n r1 d1 = false ∨ k < 0 ∨ 4096 ≤ k from .inr (.inr hk1))]
      rw [E]; clear E hE hk0
      go_enter Try.func19, Try.ntmps19
      go_wp2_with (first
        | (go_at_call 38; refine (avalid p n _ c0 hn).mono ?_; rintro e w' ⟨rfl, rfl⟩)
        | (go_at_call 42; refine (good_any p m n r d base r1 d1 L _ HT.out hn).mono ?_; rintro e w2 ⟨rfl, b2⟩; have HB2 := Lib.hid (bchain HB.out b2); clear b2))
      go_returns
      exact ⟨rfl, HB2.out⟩
    have hk1' : decide (k ≥ 4096) = false := by simpa using hk1
    have hG : ¬ (goodB n r1 d1 = false ∨ k < 0 ∨ 4096 ≤ k) := by rw [hg]; simp; omega
    by_cases hs : s.size > 65536
    · have hs' : decide ((s.size : Int) > 65536) = true := by simp; omega
      have E : accE n r d base r1 d1 k s.size = 11 := by simp only [accE, if_neg hG, if_pos hs]
      rw [E]; clear E hE hk0 hk1 hG hs
      go_enter Try.func19, Try.ntmps19
      go_wp2_with (first
        | (go_at_call 38; refine (avalid p n _ c0 hn).mono ?_; rintro e w' ⟨rfl, rfl⟩)
        | (go_at_call 42; refine (good_any p m n r d base r1 d1 L _ HT.out hn).mono ?_; rintro e w2 ⟨rfl, b2⟩; have HB2 := Lib.hid (bchain HB.out b2); clear b2))
      go_returns
      exact ⟨rfl, HB2.out⟩
    have hs' : decide ((s.size : Int) > 65536) = false := by simp; omega
    have hs2 : ¬ 65536 < s.size := hs
    by_cases ho : ordB (r1, d1) (r, d) < 0
    · have E : accE n r d base r1 d1 k s.size = 8 := by simp only [accE, if_neg hG, if_neg hs2, if_pos ho]
      rw [E]; clear E hE hk0 hk1 hG hs hs2
      go_enter Try.func19, Try.ntmps19
      go_wp2_with (first
        | (go_at_call 38; refine (avalid p n _ c0 hn).mono ?_; rintro e w' ⟨rfl, rfl⟩)
        | (go_at_call 42; refine (good_any p m n r d base r1 d1 L _ HT.out hn).mono ?_; rintro e w2 ⟨rfl, b2⟩; have q0 := bcell b2 c0; have q1 := bcell b2 c1; have q2 := bcell b2 c2; have q3 := bcell b2 e0; have q4 := bcell b2 e1; have q5 := bcell b2 c4; have HT2 := Lib.hid (HT.out.below b2); have HB2 := Lib.hid (bchain HB.out b2); clear b2))
      clear c0 c1 c2 c3 c4 e0 e1
      go_region_held3 (fun W => W.cell? ⟨w.heap.size, 0, none⟩ = some (.int .i64 r1) ∧ W.cell? ⟨w.heap.size, 1, none⟩ = some (.int .i64 d1) ∧ W.cell? ⟨p, 1, none⟩ = some (.int .i64 r) ∧ W.cell? ⟨p, 2, none⟩ = some (.int .i64 d))
        (first | exact ⟨by assumption, by assumption, by assumption, by assumption⟩ | go_keep)
        (first
          | (go_at_call 21; refine (order_any _ _ _ _ _).mono ?_; rintro e w3 ⟨rfl, b3⟩; have u0 := bcell b3 q0; have u1 := bcell b3 q1; have u2 := bcell b3 q2; have u3 := bcell b3 q3; have u4 := bcell b3 q4; have u5 := bcell b3 q5; have HB3 := Lib.hid b3; clear b3))
      go_wp2_with fail
      go_returns
      exact ⟨rfl, bchain HB2.out ((Below.refl _ _).drew.trans (HB3.out.mono (by simp)))⟩
    by_cases hbs : k < base
    · have E : accE n r d base r1 d1 k s.size = 3 := by simp only [accE, if_neg hG, if_neg hs2, if_neg ho, if_pos hbs]
      have ho' : decide (ordB (r1, d1) (r, d) < 0) = false := by simpa using ho
      rw [E]; clear E hE hk0 hk1 hG hs hs2 ho
      go_enter Try.func19, Try.ntmps19
      go_wp2_with (first
        | (go_at_call 38; refine (avalid p n _ c0 hn).mono ?_; rintro e w' ⟨rfl, rfl⟩)
        | (go_at_call 42; refine (good_any p m n r d base r1 d1 L _ HT.out hn).mono ?_; rintro e w2 ⟨rfl, b2⟩; have q0 := bcell b2 c0; have q1 := bcell b2 c1; have q2 := bcell b2 c2; have q3 := bcell b2 e0; have q4 := bcell b2 e1; have q5 := bcell b2 c4; have HT2 := Lib.hid (HT.out.below b2); have HB2 := Lib.hid (bchain HB.out b2); clear b2))
      clear c0 c1 c2 c3 c4 e0 e1
      go_region_held3 (fun W => W.cell? ⟨w.heap.size, 0, none⟩ = some (.int .i64 r1) ∧ W.cell? ⟨w.heap.size, 1, none⟩ = some (.int .i64 d1) ∧ W.cell? ⟨p, 1, none⟩ = some (.int .i64 r) ∧ W.cell? ⟨p, 2, none⟩ = some (.int .i64 d))
        (first | exact ⟨by assumption, by assumption, by assumption, by assumption⟩ | go_keep)
        (first
          | (go_at_call 21; refine (order_any _ _ _ _ _).mono ?_; rintro e w3 ⟨rfl, b3⟩; have u0 := bcell b3 q0; have u1 := bcell b3 q1; have u2 := bcell b3 q2; have u3 := bcell b3 q3; have u4 := bcell b3 q4; have u5 := bcell b3 q5; have HB3 := Lib.hid b3; clear b3))
      go_wp2_with fail
      go_returns
      exact ⟨rfl, bchain HB2.out ((Below.refl _ _).drew.trans (HB3.out.mono (by simp)))⟩
    · exact absurd (by simp only [accE, if_neg hG, if_neg hs2, if_neg ho, if_neg hbs]) hE

def AccPost (p m : Nat) (n r1 d1 base k : Int) (s : ByteArray) (L : EL) (w : World) (e : Ending) (w' : World) : Prop :=
  e = .returned (.int .i64 0) ∧ AccAt w' p m n r1 d1 base (put k (r1, d1, s) L) ∧ Fr (S2 p m) w w'

set_option maxRecDepth 100000 in
set_option maxHeartbeats 2000000 in
theorem accept_yes (p m : Nat) (n r d base r1 d1 k : Int) (s : ByteArray) (L : EL) (w : World) (h : AccAt w p m n r d base L) (hn : 0 < n) (hE : accE n r d base r1 d1 k s.size = 0) (hl : L.length ≤ 100000) :
    Calls Try.prog 19 #[.pointer (some ⟨p, 0, none⟩), balV r1 d1, .int .i64 k, .string s] w (AccPost p m n r1 d1 base k s L w) := by
  have h1 := h.alloc (.cells #[.int .i64 r1, .int .i64 d1] 30)
  have hb := box_below w (.cells #[.int .i64 r1, .int .i64 d1] 30)
  have b1 := Blk.new w 30 #[.int .i64 r1, .int .i64 d1]
  have c0 := h1.c0
  have c1 := h1.c1
  have c2 := h1.c2
  have c3 := h1.c3
  have c4 := h1.c4
  have hlt := h.lt
  have e0 := b1.cell (i := 0) (v := .int .i64 r1) rfl
  have e1 := b1.cell (i := 1) (v := .int .i64 d1) rfl
  have hg : goodB n r1 d1 = true := by
    cases hg : goodB n r1 d1
    · simp [accE, hg] at hE
    · rfl
  have hk : 0 ≤ k ∧ k < 4096 := by
    refine Classical.byContradiction fun hc => ?_
    rw [accE, if_pos (by right; omega)] at hE
    simp at hE
  have hG : ¬ (goodB n r1 d1 = false ∨ k < 0 ∨ 4096 ≤ k) := by rw [hg]; simp; omega
  have hk0' : decide (k < 0) = false := by simp; omega
  have hk1' : decide (k ≥ 4096) = false := by simp; omega
  rw [accE, if_neg hG] at hE
  have hs : ¬ 65536 < s.size := fun hc => by rw [if_pos hc] at hE; simp at hE
  have hs' : decide ((s.size : Int) > 65536) = false := by simp; omega
  rw [if_neg hs] at hE
  have ho : ¬ ordB (r1, d1) (r, d) < 0 := fun hc => by rw [if_pos hc] at hE; simp at hE
  have ho' : decide (ordB (r1, d1) (r, d) < 0) = false := by simpa using ho
  rw [if_neg ho] at hE
  have hbs : ¬ k < base := fun hc => by rw [if_pos hc] at hE; simp at hE
  have hbs' : decide (k < base) = false := by simpa using hbs
  have HT := Lib.hid h1
  have HB := Lib.hid hb
  clear h h1 b1 hb hE hG hs ho hbs
  go_enter Try.func19, Try.ntmps19
  go_wp2_with (first
    | (go_at_call 38; refine (avalid p n _ c0 hn).mono ?_; rintro e w' ⟨rfl, rfl⟩)
    | (go_at_call 42; refine (good_any p m n r d base r1 d1 L _ HT.out hn).mono ?_; rintro e w2 ⟨rfl, b2⟩; have q0 := bcell b2 c0; have q1 := bcell b2 c1; have q2 := bcell b2 c2; have q3 := bcell b2 e0; have q4 := bcell b2 e1; have q5 := bcell b2 c4; have HT2 := Lib.hid (HT.out.below b2); have HB2 := Lib.hid (bchain HB.out b2); clear b2))
  clear c0 c1 c2 c3 c4 e0 e1
  go_region_held3 (fun W => W.cell? ⟨w.heap.size, 0, none⟩ = some (.int .i64 r1) ∧ W.cell? ⟨w.heap.size, 1, none⟩ = some (.int .i64 d1) ∧ W.cell? ⟨p, 1, none⟩ = some (.int .i64 r) ∧ W.cell? ⟨p, 2, none⟩ = some (.int .i64 d))
    (first | exact ⟨by assumption, by assumption, by assumption, by assumption⟩ | go_keep)
    (first
      | (go_at_call 21; refine (order_any _ _ _ _ _).mono ?_; rintro e w3 ⟨rfl, b3⟩; have u0 := bcell b3 q0; have u1 := bcell b3 q1; have u2 := bcell b3 q2; have u3 := bcell b3 q3; have u4 := bcell b3 q4; have u5 := bcell b3 q5; have HB3 := Lib.hid b3; clear b3))
  have hb3 : Below w.heap.size w w3 := bchain HB2.out ((Below.refl _ _).drew.trans (HB3.out.mono (by simp)))
  have t3 := HT2.out.drew.below HB3.out
  have f1 := t3.blk.frozen 1
  have f2 := t3.blk.frozen 2
  have hs := t3.setBal r1 d1
  have e0 : ((w3.setCell ⟨p, 1, none⟩ (.int .i64 r1)).setCell ⟨p, 2, none⟩ (.int .i64 d1)).cell? ⟨w.heap.size, 0, none⟩ = some (.int .i64 r1) := hs.2.cell (fun e => by have e : w.heap.size = p := e; omega) u3
  have e1 : ((w3.setCell ⟨p, 1, none⟩ (.int .i64 r1)).setCell ⟨p, 2, none⟩ (.int .i64 d1)).cell? ⟨w.heap.size, 1, none⟩ = some (.int .i64 d1) := hs.2.cell (fun e => by have e : w.heap.size = p := e; omega) u4
  have HB4 := Lib.hid hb3
  have HA := Lib.hid hs.1
  have HF := Lib.hid hs.2
  have d3 := hs.1.c3
  clear q0 q1 q2 q3 q4 q5 hb3 t3 hs
  go_wp2_with fail
  clear u0 u1 u2 u3 u4 u5 f1 f2
  generalize ((w3.setCell ⟨p, 1, none⟩ (.int .i64 r1)).setCell ⟨p, 2, none⟩ (.int .i64 d1)) = W4 at *
  go_still_tail 9, (by kernel_rfl)
  refine wpList_upd _ rfl _ _ _ 54 rfl 3 43 Try.underlying3 Try.underlying54 m (encF entV L) rfl HA.out.drew.map (by rw [encF_length]; omega) k (entV k (r1, d1, s)) rfl rfl (wf64 (by omega)) ?_
  rintro w5 hm5 hg5
  rw [put_encF entV k (r1, d1, s)] at hm5
  have HM := Lib.hid hm5
  clear hm5
  go_wp2_with fail
  go_returns
  have hf : Fr (S1 m) W4 w5 := Fr.of_drew (Fr.of_grown hg5 (fun i e => by cases e; rfl))
  exact ⟨rfl, ⟨HA.out.blk.fr hf HA.out.ne, HM.out⟩, ((Fr.of_below HB4.out).trans (HF.out.mono (fun i e => .inl e))).trans (hf.mono (fun i e => .inr e))⟩

end Go.Proofs.Ytnbiihnfggcakaa
