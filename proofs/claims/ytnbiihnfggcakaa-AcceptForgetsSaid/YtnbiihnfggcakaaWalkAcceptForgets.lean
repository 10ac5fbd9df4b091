/- The walk of skaldlaw12.AcceptForgets: it returns true, and writes nothing that was there. -/
import Derived.Test.YtnbiihnfggcakaaAccP
import Derived.OpenShut
set_option linter.unusedVariables false
set_option linter.unusedSimpArgs false
namespace Go.Proofs.Ytnbiihnfggcakaa.acceptForgets
open Go.RowKit Go.Shelf
set_option maxRecDepth 100000 in
set_option maxHeartbeats 2000000 in
theorem walk (v0 : Value) (L : List Stp) (a1 : Int) (w : World) (hL : StepsIn w v0 L) (w1 : (Lit.int .u16 a1).wf = true) :
    Calls Try.prog 9 #[v0, .int .u16 a1] w fun e w' => e = .returned (.bool true) ∧ Below w.heap.size w w' := by
  have hE := fun (a b c d : Int) (w : World) => eqBal a b c d w
  have hG := eqGBal
  have HL := Lib.hid hL
  have hu : 0 ≤ a1 ∧ a1 ≤ 65535 := by
    simp [Lit.wf, IntKind.min, IntKind.max, IntKind.signed, IntKind.bits] at w1
    omega
  clear hL w1
  go_enter Try.func9, Try.ntmps9
  cases hsh : shortB L with
  | false =>
    go_wp2_with (first
      | (go_at_call 12; refine (short_any _ _ _ HL.out).mono ?_; rintro e w' ⟨rfl, rfl⟩)
      | (go_at_call 13; refine (works_any _).mono ?_; rintro e wk ⟨rfl, bk⟩))
    go_returns
    exact ⟨rfl, bk⟩
  | true =>
    go_wp2_with (first
      | (go_at_call 12; refine (short_any _ _ _ HL.out).mono ?_; rintro e w' ⟨rfl, rfl⟩)
      | (go_at_call 34; refine (filled_any _ _ _ HL.out).mono ?_; rintro e w1 ⟨p, m, rfl, t1, hp, hm, b1⟩; obtain ⟨hpl, hml⟩ := t1.lt; have TA1 := Lib.hid t1; have B1 := Lib.hid b1; clear t1 b1)
      | (go_at_call 28; refine (copy_S p m _ _ TA1.out).mono ?_; rintro e w2 ⟨q, n, rfl, t2, hq, hn, b2⟩; obtain ⟨hql, hnl⟩ := t2.lt; have TB2 := Lib.hid t2; have TA2 := Lib.hid (TA1.out.below b2); have B2 := Lib.hid (bchain B1.out b2); clear t2 b2))
    obtain ⟨k, hk⟩ : ∃ k, k = a1 % 4097 := ⟨_, rfl⟩
    rw [← hk]
    have hk0 : 0 ≤ k ∧ k ≤ 4096 := by omega
    clear hk
    have g3 := AGood.forg TA2.out.good k
    have n3 : (foS (fillS L) k).n = 3 := by rw [foS_n, fillS_n]
    have c1 := foE_ok hk0
    have c2 : ((foS (fillS L) k).base != max k (fillS L).base) = false := by rw [foS_base hk0]; simp; omega
    have c3 : decide (listL 0 (foS (fillS L) k).L = listL (max k (fillS L).base) (fillS L).L) = true := decide_eq_true (by rw [foS_L hk0]; exact list_forL TA2.out.good k)
    have c4 := foS_r (fillS L) k
    have c5 := foS_d (fillS L) k
    have G3 := Lib.hid g3
    have N3 := Lib.hid n3
    have C1 := Lib.hid c1
    have C3 := Lib.hid c3
    have C4 := Lib.hid c4
    have C5 := Lib.hid c5
    have tok1 : True := trivial
    have tok2 : True := trivial
    have tok3 : True := trivial
    have tok4 : True := trivial
    have tok5 : True := trivial
    clear g3 n3 c1 c3 c4 c5 hu
    go_wp2_with (first
      | (go_at_call 20; refine (forget_S p m _ _ k TA2.out).mono ?_; rintro e w3 ⟨rfl, t3, f3⟩; rw [C1.out]; have TA3 := Lib.hid t3; have TB3 := Lib.hid (TB2.out.fr f3 (fun e => by rcases e with e | e <;> omega) (fun e => by rcases e with e | e <;> omega)); have B3 := Lib.hid (Fr.upB B2.out f3 (fun i e => by rcases e with e | e <;> omega)); clear t3 f3)
      | (go_at_call 17; have _t := tok1; refine (base_S p m _ _ TA3.out).mono ?_; rintro e w' ⟨rfl, rfl⟩; clear tok1)
      | (go_at_call 17; have _t := tok2; refine (base_S q n _ _ TB3.out).mono ?_; rintro e w' ⟨rfl, rfl⟩; clear tok2)
      | (go_at_call 16; have _t := tok3; refine (list_S p m _ _ 0 TA3.out).mono ?_; rintro e w4 ⟨v4, rfl, r4, b4⟩; have R4 := Lib.hid r4; have TA4 := Lib.hid (TA3.out.below b4); have TB4 := Lib.hid (TB3.out.below b4); have B4 := Lib.hid (bchain B3.out b4); clear r4 b4 tok3)
      | (go_at_call 17; have _t := tok5; refine (base_S q n _ _ TB4.out).mono ?_; rintro e w' ⟨rfl, rfl⟩; clear tok5)
      | (go_at_call 16; refine (list_S q n _ _ (max k (fillS L).base) TB4.out).mono ?_; rintro e w5 ⟨v5, rfl, r5, b5⟩; have R5 := Lib.hid r5; have Q5 := Lib.hid (R4.out.below b5); have TA5 := Lib.hid (TA4.out.below b5); have TB5 := Lib.hid (TB4.out.below b5); have B5 := Lib.hid (bchain B4.out b5); clear r5 b5)
      | (go_at_call 36; refine (entries_any _ _ _ _ _ _ _ Q5.out R5.out (list_len TA5.out.good)).mono ?_; rintro e w6 ⟨rfl, b6⟩; rw [C3.out]; have TA6 := Lib.hid (TA5.out.below b6); have TB6 := Lib.hid (TB5.out.below b6); have B6 := Lib.hid (bchain B5.out b6); clear b6)
      | (go_at_call 15; have _t := tok4; refine (promised_S p m _ _ TA6.out).mono ?_; rintro e w7 ⟨rfl, b7⟩; rw [C4.out, C5.out]; have TA7 := Lib.hid (TA6.out.below b7); have TB7 := Lib.hid (TB6.out.below b7); have B7 := Lib.hid (bchain B6.out b7); clear b7 tok4)
      | (go_at_call 15; refine (promised_S q n _ _ TB7.out).mono ?_; rintro e w8 ⟨rfl, b8⟩; have TA8 := Lib.hid (TA7.out.below b8); have TB8 := Lib.hid (TB7.out.below b8); have B8 := Lib.hid (bchain B7.out b8); clear b8))
    rename True => _u
    by_cases hb : (foS (fillS L) k).base = 0
    · go_wp2_with (first
        | (go_at_call 17; refine (base_S p m _ _ TA8.out).mono ?_; rintro e w' ⟨rfl, rfl⟩)
        | (go_at_call 13; refine (works_any _).mono ?_; rintro e wk ⟨rfl, bk⟩; have BK := Lib.hid (bchain B8.out bk); clear bk))
      go_returns
      exact ⟨rfl, BK.out⟩
    · have hb1 : 1 ≤ (foS (fillS L) k).base := by have := G3.out.base; omega
      have hb2 : (foS (fillS L) k).base ≤ 4096 := G3.out.base.2
      have hb' : ((foS (fillS L) k).base == 0) = false := by simpa using hb
      have d1 := accE_below G3.out N3.out hb1 ⟨#[118]⟩ (by decide)
      have d2 := acS_same d1 (by decide)
      have d3 := accdV_none (get_below G3.out (k := (foS (fillS L) k).base - 1) (by omega))
      have D1 := Lib.hid d1
      have D2 := Lib.hid d2
      have D3 := Lib.hid d3
      have tok6 : True := trivial
      clear d1 d2 d3 hb
      go_wp2_with (first
        | (go_at_call 17; have _t := tok6; refine (base_S p m _ _ TA8.out).mono ?_; rintro e w' ⟨rfl, rfl⟩)
        | (go_at_call 19; refine (accept_S p m _ _ 1073741824 2 _ ⟨#[118]⟩ TA8.out).mono ?_; rintro e w9 ⟨rfl, t9, f9⟩; rw [D1.out]; rw [D2.out] at t9; have TA9 := Lib.hid t9; have TB9 := Lib.hid (TB8.out.fr f9 (fun e => by rcases e with e | e <;> omega) (fun e => by rcases e with e | e <;> omega)); have B9 := Lib.hid (Fr.upB B8.out f9 (fun i e => by rcases e with e | e <;> omega)); clear t9 f9 tok6)
        | (go_at_call 17; refine (base_S p m _ _ TA9.out).mono ?_; rintro e w' ⟨rfl, rfl⟩)
        | (go_at_call 22; refine (accepted_S p m _ _ _ TA9.out (by unfold in64; omega)).mono ?_; rintro e w10 ⟨rfl, b10⟩; rw [D3.out]; have TA10 := Lib.hid (TA9.out.below b10); have TB10 := Lib.hid (TB9.out.below b10); have B10 := Lib.hid (bchain B9.out b10); clear b10))
      have bx := box_below w10 (.cells #[.int .i64 0, .int .i64 0, .int .i64 0, .string ⟨#[]⟩] 43)
      have TA11 := Lib.hid (TA10.out.below bx)
      have TB11 := Lib.hid (TB10.out.below bx)
      have B11 := Lib.hid (bchain B10.out bx)
      have tok7 : True := trivial
      clear bx
      go_wp2_with (first
        | (go_at_call 15; have _t := tok7; refine (promised_S p m _ _ TA11.out).mono ?_; rintro e w12 ⟨rfl, b12⟩; rw [C4.out, C5.out]; have TB12 := Lib.hid (TB11.out.below b12); have B12 := Lib.hid (bchain B11.out b12); clear b12 tok7)
        | (go_at_call 15; refine (promised_S q n _ _ TB12.out).mono ?_; rintro e w13 ⟨rfl, b13⟩; have B13 := Lib.hid (bchain B12.out b13); clear b13)
        | (go_at_call 13; refine (works_any _).mono ?_; rintro e wk ⟨rfl, bk⟩; have BK := Lib.hid (bchain B13.out bk); clear bk))
      go_returns
      exact ⟨rfl, BK.out⟩
end Go.Proofs.Ytnbiihnfggcakaa.acceptForgets
