/- The reference's acceptor: Accept. -/
import Derived.Test.YtnbiihnfggcakaaRAccE
set_option linter.unusedVariables false
set_option linter.unusedSimpArgs false
namespace Go.Proofs.Ytnbiihnfggcakaa
open Go.RowKit Go.Maps Go.Shelf

set_option maxHeartbeats 2000000 in
theorem raccept_bad (p : Nat) (v : Value) (s : ASt) (r1 d1 k : Int) (x : ByteArray) (w : World) (h : RAt w p v s) (hE : acE s r1 d1 k x ≠ 0) :
    Calls Try.prog 26 #[.pointer (some ⟨p, 0, none⟩), balV r1 d1, .int .i64 k, .string x] w fun e w' => e = .returned (.int .i64 (acE s r1 d1 k x)) ∧ Below w.heap.size w w' := by
  have h1 := h.below (box_below w (.cells #[.int .i64 r1, .int .i64 d1] 30))
  have hb := box_below w (.cells #[.int .i64 r1, .int .i64 d1] 30)
  have b1 := Blk.new w 30 #[.int .i64 r1, .int .i64 d1]
  have c0 := h1.c0
  have c1 := h1.c2
  have c2 := h1.c3
  have c3 := h1.c4
  have c4 := h1.c5
  have hlt := h.blk.lt
  have e0 := b1.cell (i := 0) (v := .int .i64 r1) rfl
  have e1 := b1.cell (i := 1) (v := .int .i64 d1) rfl
  have HT := Lib.hid h1
  have HB := Lib.hid hb
  clear h h1 b1 hb
  cases hg : goodB s.n r1 d1 with
  | false =>
    have E : acE s r1 d1 k x = 2 := by simp [acE, accE, hg]
    rw [E]; clear E hE
    go_enter Try.func26, Try.ntmps26
    go_wp2_with (first
      | (go_at_call 46; refine (rvalid p _ c0).mono ?_; rintro e w' ⟨rfl, rfl⟩)
      | (go_at_call 47; refine (rgood_any p v s r1 d1 _ HT.out).mono ?_; rintro e w2 ⟨rfl, b2⟩; have HB2 := Lib.hid (bchain HB.out b2); clear b2))
    go_returns
    exact ⟨rfl, HB2.out⟩
  | true =>
    by_cases hk0 : k < 0
    · have E : acE s r1 d1 k x = 2 := by simp [acE, accE, hk0]
      rw [E]; clear E hE
      go_enter Try.func26, Try.ntmps26
      go_wp2_with (first
        | (go_at_call 46; refine (rvalid p _ c0).mono ?_; rintro e w' ⟨rfl, rfl⟩)
        | (go_at_call 47; refine (rgood_any p v s r1 d1 _ HT.out).mono ?_; rintro e w2 ⟨rfl, b2⟩; have HB2 := Lib.hid (bchain HB.out b2); clear b2))
      go_returns
      exact ⟨rfl, HB2.out⟩
    have hk0' : decide (k < 0) = false := by simpa using hk0
    by_cases hk1 : k ≥ 4096
    · have E : acE s r1 d1 k x = 2 := by simp only [acE, accE, if_pos (show goodB s.n r1 d1 = false ∨ k < 0 ∨ 4096 ≤ k from .inr (.inr hk1))]
      rw [E]; clear E hE hk0
      go_enter Try.func26, Try.ntmps26
      go_wp2_with (first
        | (go_at_call 46; refine (rvalid p _ c0).mono ?_; rintro e w' ⟨rfl, rfl⟩)
        | (go_at_call 47; refine (rgood_any p v s r1 d1 _ HT.out).mono ?_; rintro e w2 ⟨rfl, b2⟩; have HB2 := Lib.hid (bchain HB.out b2); clear b2))
      go_returns
      exact ⟨rfl, HB2.out⟩
    have hk1' : decide (k ≥ 4096) = false := by simpa using hk1
    have hG : ¬ (goodB s.n r1 d1 = false ∨ k < 0 ∨ 4096 ≤ k) := by rw [hg]; simp; omega
    by_cases hs : x.size > 65536
    · have hs' : decide ((x.size : Int) > 65536) = true := by simp; omega
      have E : acE s r1 d1 k x = 11 := by simp only [acE, accE, if_neg hG, if_pos hs]
      rw [E]; clear E hE hk0 hk1 hG hs
      go_enter Try.func26, Try.ntmps26
      go_wp2_with (first
        | (go_at_call 46; refine (rvalid p _ c0).mono ?_; rintro e w' ⟨rfl, rfl⟩)
        | (go_at_call 47; refine (rgood_any p v s r1 d1 _ HT.out).mono ?_; rintro e w2 ⟨rfl, b2⟩; have HB2 := Lib.hid (bchain HB.out b2); clear b2))
      go_returns
      exact ⟨rfl, HB2.out⟩
    have hs' : decide ((x.size : Int) > 65536) = false := by simp; omega
    have hs2 : ¬ 65536 < x.size := hs
    by_cases ho : ordB (r1, d1) (s.r, s.d) < 0
    · have E : acE s r1 d1 k x = 8 := by simp only [acE, accE, if_neg hG, if_neg hs2, if_pos ho]
      rw [E]; clear E hE hk0 hk1 hG hs hs2
      go_enter Try.func26, Try.ntmps26
      go_wp2_with (first
        | (go_at_call 46; refine (rvalid p _ c0).mono ?_; rintro e w' ⟨rfl, rfl⟩)
        | (go_at_call 47; refine (rgood_any p v s r1 d1 _ HT.out).mono ?_; rintro e w2 ⟨rfl, b2⟩; have q0 := bcell b2 c0; have q1 := bcell b2 c1; have q2 := bcell b2 c2; have q3 := bcell b2 e0; have q4 := bcell b2 e1; have q5 := bcell b2 c4; have HT2 := Lib.hid (HT.out.below b2); have HB2 := Lib.hid (bchain HB.out b2); clear b2))
      clear c0 c1 c2 c3 c4 e0 e1
      go_region_held3 (fun W => W.cell? ⟨w.heap.size, 0, none⟩ = some (.int .i64 r1) ∧ W.cell? ⟨w.heap.size, 1, none⟩ = some (.int .i64 d1) ∧ W.cell? ⟨p, 2, none⟩ = some (.int .i64 s.r) ∧ W.cell? ⟨p, 3, none⟩ = some (.int .i64 s.d))
        (first | exact ⟨by assumption, by assumption, by assumption, by assumption⟩ | go_keep)
        (first
          | (go_at_call 48; refine (rorder_any _ _ _ _ _).mono ?_; rintro e w3 ⟨rfl, b3⟩; have u0 := bcell b3 q0; have u1 := bcell b3 q1; have u2 := bcell b3 q2; have u3 := bcell b3 q3; have u4 := bcell b3 q4; have u5 := bcell b3 q5; have HB3 := Lib.hid b3; clear b3))
      go_wp2_with fail
      go_returns
      exact ⟨rfl, bchain HB2.out ((Below.refl _ _).drew.trans (HB3.out.mono (by simp)))⟩
    by_cases hbs : k < s.base
    · have E : acE s r1 d1 k x = 3 := by simp only [acE, accE, if_neg hG, if_neg hs2, if_neg ho, if_pos hbs]
      have ho' : decide (ordB (r1, d1) (s.r, s.d) < 0) = false := by simpa using ho
      rw [E]; clear E hE hk0 hk1 hG hs hs2 ho
      go_enter Try.func26, Try.ntmps26
      go_wp2_with (first
        | (go_at_call 46; refine (rvalid p _ c0).mono ?_; rintro e w' ⟨rfl, rfl⟩)
        | (go_at_call 47; refine (rgood_any p v s r1 d1 _ HT.out).mono ?_; rintro e w2 ⟨rfl, b2⟩; have q0 := bcell b2 c0; have q1 := bcell b2 c1; have q2 := bcell b2 c2; have q3 := bcell b2 e0; have q4 := bcell b2 e1; have q5 := bcell b2 c4; have HT2 := Lib.hid (HT.out.below b2); have HB2 := Lib.hid (bchain HB.out b2); clear b2))
      clear c0 c1 c2 c3 c4 e0 e1
      go_region_held3 (fun W => W.cell? ⟨w.heap.size, 0, none⟩ = some (.int .i64 r1) ∧ W.cell? ⟨w.heap.size, 1, none⟩ = some (.int .i64 d1) ∧ W.cell? ⟨p, 2, none⟩ = some (.int .i64 s.r) ∧ W.cell? ⟨p, 3, none⟩ = some (.int .i64 s.d))
        (first | exact ⟨by assumption, by assumption, by assumption, by assumption⟩ | go_keep)
        (first
          | (go_at_call 48; refine (rorder_any _ _ _ _ _).mono ?_; rintro e w3 ⟨rfl, b3⟩; have u0 := bcell b3 q0; have u1 := bcell b3 q1; have u2 := bcell b3 q2; have u3 := bcell b3 q3; have u4 := bcell b3 q4; have u5 := bcell b3 q5; have HB3 := Lib.hid b3; clear b3))
      go_wp2_with fail
      go_returns
      exact ⟨rfl, bchain HB2.out ((Below.refl _ _).drew.trans (HB3.out.mono (by simp)))⟩
    · exact absurd (by simp only [acE, accE, if_neg hG, if_neg hs2, if_neg ho, if_neg hbs]) hE


def lowL (k : Int) (L : EL) : EL := L.filter fun p => decide (p.1 < k)
theorem put_parts {k : Int} {e : Ent} {L : EL} (h : Srt L) : lowL k L ++ [(k, e)] ++ listL (k + 1) L = put k e L := by
  have hlow : ∀ p, p ∈ lowL k L ↔ p ∈ L ∧ p.1 < k := fun p => by simp [lowL]
  have hhi : ∀ p, p ∈ listL (k + 1) L ↔ p ∈ L ∧ k + 1 ≤ p.1 := fun p => by simp [listL]
  refine srt_ext ?_ (srt_put h) fun p => ?_
  · unfold Srt
    rw [List.pairwise_append, List.pairwise_append]
    refine ⟨⟨h.filter _, by simp, fun a ha b hb => ?_⟩, h.filter _, fun a ha b hb => ?_⟩
    · simp at hb; subst hb; exact ((hlow a).1 ha).2
    · have hb2 := ((hhi b).1 hb).2
      rcases List.mem_append.1 ha with ha | ha
      · have := ((hlow a).1 ha).2; omega
      · simp at ha; subst ha; simp only; omega
  · rw [mem_put, List.mem_append, List.mem_append, hlow, hhi]
    simp only [List.mem_singleton]
    constructor
    · rintro ((⟨h1, h2⟩ | h1) | ⟨h1, h2⟩)
      · exact .inr ⟨h1, by omega⟩
      · exact .inl h1
      · exact .inr ⟨h1, by omega⟩
    · rintro (h1 | ⟨h1, h2⟩)
      · exact .inl (.inr h1)
      · by_cases hp : p.1 < k
        · exact .inl (.inl ⟨h1, hp⟩)
        · exact .inr ⟨h1, by omega⟩
end Go.Proofs.Ytnbiihnfggcakaa
