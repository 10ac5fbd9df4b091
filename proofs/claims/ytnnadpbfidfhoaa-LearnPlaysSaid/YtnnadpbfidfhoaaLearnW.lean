/- The examples of chapter 13 (works). -/
import Derived.Test.YtnnadpbfidfhoaaLearnI
set_option linter.unusedVariables false
set_option linter.unusedSimpArgs false
namespace Go.Proofs.Ytnnadpbfidfhoaa
open Go.RowKit Go.Maps Go.Shelf

set_option maxRecDepth 100000 in
set_option maxHeartbeats 8000000 in
theorem works_any (w : World) : Calls Try.prog 10 #[] w fun e w' => e = .returned (.bool true) ∧ Below w.heap.size w w' := by
  have hE := fun (a b c d : Int) (w : World) => eqBal a b c d w
  have hG := eqGBal
  have tok1 : True := trivial
  have tok2 : True := trivial
  have tok3 : True := trivial
  have tok4 : True := trivial
  go_enter Try.func10, Try.ntmps10
  go_upto_region 5 with (first
    | (go_at_call 11; refine (lnew_S 3 _ ⟨by decide, by decide⟩).mono ?_; rintro e w1 ⟨p, m, rfl, t1, hp, hm, b1⟩; have T1 := Lib.hid t1; have B1 := Lib.hid b1; clear t1 b1))
  have hb2 : Below w1.heap.size w1 ((w1.alloc (.cells #[.int .i64 1, .int .i64 0] 31)).alloc (.cells #[.int .i64 2, .int .i64 1] 31)) := bchain (box_below _ _) (box_below _ _)
  have T2 := Lib.hid (T1.out.below hb2)
  have B2 := Lib.hid (bchain B1.out hb2)
  have kb2 : Hid (Blk ((w1.alloc (.cells #[.int .i64 1, .int .i64 0] 31)).alloc (.cells #[.int .i64 2, .int .i64 1] 31)) w1.heap.size 31 #[.int .i64 1, .int .i64 0]) := (Blk.new w1 _ _).alloc _
  have kc2 : Hid (Blk ((w1.alloc (.cells #[.int .i64 1, .int .i64 0] 31)).alloc (.cells #[.int .i64 2, .int .i64 1] 31)) (w1.heap.size + 1) 31 #[.int .i64 2, .int .i64 1]) := by
    have := Blk.new (w1.alloc (.cells #[.int .i64 1, .int .i64 0] 31)) 31 #[.int .i64 2, .int .i64 1]
    rwa [World.size_alloc] at this
  obtain ⟨hpl, hml⟩ := T1.out.lt
  generalize ((w1.alloc (.cells #[.int .i64 1, .int .i64 0] 31)).alloc (.cells #[.int .i64 2, .int .i64 1] 31)) = w2 at *
  obtain ⟨bb, hbb⟩ : ∃ bb, bb = w1.heap.size := ⟨_, rfl⟩
  obtain ⟨bc, hbc⟩ : ∃ bc, bc = w1.heap.size + 1 := ⟨_, rfl⟩
  rw [← hbc] at kc2 ⊢
  rw [← hbb] at kb2 ⊢
  have hpb : p < bb ∧ m < bb ∧ bb < bc := by omega
  clear hbb hbc hb2 hpl hml
  have u20 := kb2.out.cell (i := 0) (v := .int .i64 1) rfl
  have u21 := kb2.out.cell (i := 1) (v := .int .i64 0) rfl
  have v20 := kc2.out.cell (i := 0) (v := .int .i64 2) rfl
  have v21 := kc2.out.cell (i := 1) (v := .int .i64 1) rfl
  go_upto_region 8 with (first
    | (go_at_call 12; have _t := tok1; refine (add_S p m W0 0 2 1 4 sy _ T2.out).mono ?_; rw [a1]; rintro e w3 ⟨rfl, t3, f3⟩; have T3 := Lib.hid t3; have B3 := Lib.hid (Fr.upB B2.out f3 (fun i e => by rcases e with e | e <;> omega)); have kb3 := Lib.hid (kb2.out.fr f3 (fun e => by rcases e with e | e <;> omega)); have kc3 := Lib.hid (kc2.out.fr f3 (fun e => by rcases e with e | e <;> omega)); have u30 := kb3.out.cell (i := 0) (v := .int .i64 1) rfl; have u31 := kb3.out.cell (i := 1) (v := .int .i64 0) rfl; have v30 := kc3.out.cell (i := 0) (v := .int .i64 2) rfl; have v31 := kc3.out.cell (i := 1) (v := .int .i64 1) rfl; clear t3 f3 tok1)
    | (go_at_call 12; have _t := tok2; refine (add_S p m W1 1 1 0 4 sx _ T3.out).mono ?_; rw [a2]; rintro e w4 ⟨rfl, t4, f4⟩; have T4 := Lib.hid t4; have B4 := Lib.hid (Fr.upB B3.out f4 (fun i e => by rcases e with e | e <;> omega)); have kb4 := Lib.hid (kb3.out.fr f4 (fun e => by rcases e with e | e <;> omega)); have kc4 := Lib.hid (kc3.out.fr f4 (fun e => by rcases e with e | e <;> omega)); have u40 := kb4.out.cell (i := 0) (v := .int .i64 1) rfl; have u41 := kb4.out.cell (i := 1) (v := .int .i64 0) rfl; have v40 := kc4.out.cell (i := 0) (v := .int .i64 2) rfl; have v41 := kc4.out.cell (i := 1) (v := .int .i64 1) rfl; clear t4 f4 tok2)
    | (go_at_call 12; have _t := tok3; refine (add_S p m W1 2 2 1 4 sx _ T4.out).mono ?_; rw [a3]; rintro e w5 ⟨rfl, t5, f5⟩; have T5 := Lib.hid t5; have B5 := Lib.hid (Fr.upB B4.out f5 (fun i e => by rcases e with e | e <;> omega)); have kb5 := Lib.hid (kb4.out.fr f5 (fun e => by rcases e with e | e <;> omega)); have kc5 := Lib.hid (kc4.out.fr f5 (fun e => by rcases e with e | e <;> omega)); have u50 := kb5.out.cell (i := 0) (v := .int .i64 1) rfl; have u51 := kb5.out.cell (i := 1) (v := .int .i64 0) rfl; have v50 := kc5.out.cell (i := 0) (v := .int .i64 2) rfl; have v51 := kc5.out.cell (i := 1) (v := .int .i64 1) rfl; clear t5 f5 tok3))
  have hs5 := T5.out.lt
  go_upto_region 10 with (first
    | (go_at_call 15; refine (open_S p m W1 _ T5.out).mono ?_; rintro e w6 ⟨vo, rfl, r6, b6⟩; rw [a7] at r6; have R6 := Lib.hid r6; have T6 := Lib.hid (T5.out.below b6); have B6 := Lib.hid (bchain B5.out b6); have kb6 := Lib.hid (kb5.out.bel b6); have kc6 := Lib.hid (kc5.out.bel b6); have v60 := kc6.out.cell (i := 0) (v := .int .i64 2) rfl; have v61 := kc6.out.cell (i := 1) (v := .int .i64 1) rfl; clear r6 b6)
    | (go_at_call 12; refine (add_S p m W1 2 2 1 4 sy _ T6.out).mono ?_; rw [a4]; rintro e w7 ⟨rfl, t7, f7⟩; have T7 := Lib.hid t7; have B7 := Lib.hid (Fr.upB B6.out f7 (fun i e => by rcases e with e | e <;> omega)); have kc7 := Lib.hid (kc6.out.fr f7 (fun e => by rcases e with e | e <;> omega)); have R7 := Lib.hid (R6.out.fr2 f7 hs5.1 hs5.2); clear t7 f7))
  go_upto_region 12 with (first
    | (go_at_call 13; refine (chosen_S p m W2 4 _ T7.out ⟨by decide, by decide⟩).mono ?_; rw [show kget 4 W2.L = ⟨true, sy, 2, 1, sy, 5⟩ from rfl]; rintro e w8 ⟨rfl, b8⟩; have T8 := Lib.hid (T7.out.below b8); have B8 := Lib.hid (bchain B7.out b8); have kc8 := Lib.hid (kc7.out.bel b8); have R8 := Lib.hid (R7.out.below b8); clear b8)
    | (go_at_call 14; refine (votes_S p m W2 4 _ T8.out ⟨by decide, by decide⟩).mono ?_; rw [show kget 4 W2.L = ⟨true, sy, 2, 1, sy, 5⟩ from rfl]; rintro e w9 ⟨rfl, b9⟩; have T9 := Lib.hid (T8.out.below b9); have B9 := Lib.hid (bchain B8.out b9); have kc9 := Lib.hid (kc8.out.bel b9); have R9 := Lib.hid (R8.out.below b9); clear b9))
  have ba := bchain (box_below w9 (.cells #[.int .i64 2, .int .i64 1] 31)) (box_below _ (.cells #[.int .i64 4] 3))
  have RA := Lib.hid (R9.out.below ba)
  have TA := Lib.hid (T9.out.below ba)
  have BA := Lib.hid (bchain B9.out ba)
  have KA := Lib.hid (kc9.out.bel ba)
  have ka0 := KA.out.cell (i := 0) (v := .int .i64 2) rfl
  have ka1 := KA.out.cell (i := 1) (v := .int .i64 1) rfl
  have kx : Blk ((w9.alloc (.cells #[.int .i64 2, .int .i64 1] 31)).alloc (.cells #[.int .i64 4] 3)) w9.heap.size 31 #[.int .i64 2, .int .i64 1] := (Blk.new w9 _ _).alloc _
  have KX := Lib.hid kx
  have QA : Hid (IntRow ((w9.alloc (.cells #[.int .i64 2, .int .i64 1] 31)).alloc (.cells #[.int .i64 4] 3)) (w9.heap.size + 1) (.slice (some ⟨w9.heap.size + 1, 0, none⟩) 1 1) [4]) := by
    have := lit_int (w9.alloc (.cells #[.int .i64 2, .int .i64 1] 31)) 4
    rw [World.size_alloc] at this
    exact this
  have kx0 := kx.cell (i := 0) (v := .int .i64 2) rfl
  have kx1 := kx.cell (i := 1) (v := .int .i64 1) rfl
  have hwa : p < w9.heap.size ∧ m < w9.heap.size := T9.out.lt
  clear ba kx
  have tok5 : True := trivial
  go_wp2_with (first
    | (go_at_call 16; refine (equal_rows _ _ _ _ _ _ _ RA.out QA.out (by decide) (by decide)).mono ?_; rw [show decide (([4] : List Int) = [4]) = true from rfl]; rintro e wB ⟨rfl, bB⟩; have TB := Lib.hid (TA.out.below bB); have BB := Lib.hid (bchain BA.out bB); have xb0 := bcell bB kx0; have xb1 := bcell bB kx1; have kb0 := bcell bB ka0; have kb1 := bcell bB ka1; clear bB)
    | (go_at_call 17; have _t := tok5; refine (learn_S p m W2 0 sz _ TB.out).mono ?_; rw [a5, a5']; rintro e wC ⟨rfl, tC, fC⟩; have TC := Lib.hid tC; have BC := Lib.hid (Fr.upB BB.out fC (fun i e => by rcases e with e | e <;> omega)); clear tC fC tok5)
    | (go_at_call 17; refine (learn_S p m W3 0 sw _ TC.out).mono ?_; rw [a6, a6']; rintro e wD ⟨rfl, tD, fD⟩; have TD := Lib.hid tD; have BD := Lib.hid (Fr.upB BC.out fD (fun i e => by rcases e with e | e <;> omega)); clear tD fD)
    | (go_at_call 19; refine (upto_S p m W3 _ TD.out).mono ?_; rintro e w' ⟨⟨u, rfl, hc, hc2⟩, rfl⟩; obtain rfl := a8 hc; clear hc hc2))
  go_returns
  exact ⟨rfl, BD.out⟩
end Go.Proofs.Ytnnadpbfidfhoaa
