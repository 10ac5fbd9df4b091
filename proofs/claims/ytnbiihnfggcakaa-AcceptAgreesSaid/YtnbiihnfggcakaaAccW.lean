/- works: the chapter's examples. -/
import Derived.Test.YtnbiihnfggcakaaAccH
set_option linter.unusedVariables false
set_option linter.unusedSimpArgs false
namespace Go.Proofs.Ytnbiihnfggcakaa
open Go.RowKit Go.Maps Go.Shelf

def xx : ByteArray := ⟨#[120]⟩
def yy : ByteArray := ⟨#[121]⟩
/-- A literal of entries. -/
theorem lit_ent (w : World) (L : EL) (hl : L.length ≤ maxLen) : EntRow (w.alloc (.cells (cellsE L).toArray 43)) w.heap.size (.slice (some ⟨w.heap.size, 0, none⟩) L.length L.length) L :=
  ⟨cellsE_length L, .inr ⟨w.heap.size, L.length, (cellsE L).toArray, rfl, Nat.le_refl _, Blk.new _ _ _, Nat.le_refl _, hl, by simp [cellsE_length], by rw [List.take_of_length_le (by simp [cellsE_length])]⟩⟩

set_option maxRecDepth 100000 in
set_option maxHeartbeats 4000000 in
theorem works_any (w : World) : Calls Try.prog 13 #[] w fun e w' => e = .returned (.bool true) ∧ Below w.heap.size w w' := by
  have hE := fun (a b c d : Int) (w : World) => eqBal a b c d w
  have hG := eqGBal
  have hE2 := fun (s a b : Int) (v : ByteArray) (t c d : Int) (u : ByteArray) (w : World) => eqEnt s a b v t c d u w
  have hG2 := eqGEnt
  have e1 : prE (newS 3) 2 1 0 = 0 := by decide
  have s1 : prS (newS 3) 2 1 0 = ⟨3, 2, 1, 0, []⟩ := rfl
  have l1 : prL (newS 3) 2 1 0 = [] := rfl
  have e2 : acE ⟨3, 2, 1, 0, []⟩ 1 2 0 xx = 8 := by decide
  have s2 : acS ⟨3, 2, 1, 0, []⟩ 1 2 0 xx = ⟨3, 2, 1, 0, []⟩ := rfl
  have e3 : acE ⟨3, 2, 1, 0, []⟩ 2 1 0 xx = 0 := by decide
  have s3 : acS ⟨3, 2, 1, 0, []⟩ 2 1 0 xx = ⟨3, 2, 1, 0, [(0, (2, 1, xx))]⟩ := rfl
  have e4 : acE ⟨3, 2, 1, 0, [(0, (2, 1, xx))]⟩ 3 0 2 yy = 0 := by decide
  have s4 : acS ⟨3, 2, 1, 0, [(0, (2, 1, xx))]⟩ 3 0 2 yy = ⟨3, 3, 0, 0, [(0, (2, 1, xx)), (2, (3, 0, yy))]⟩ := rfl
  have e5 : prE ⟨3, 3, 0, 0, [(0, (2, 1, xx)), (2, (3, 0, yy))]⟩ 3 0 1 = 0 := by decide
  have s5 : prS ⟨3, 3, 0, 0, [(0, (2, 1, xx)), (2, (3, 0, yy))]⟩ 3 0 1 = ⟨3, 3, 0, 0, [(0, (2, 1, xx)), (2, (3, 0, yy))]⟩ := rfl
  have l5 : prL ⟨3, 3, 0, 0, [(0, (2, 1, xx)), (2, (3, 0, yy))]⟩ 3 0 1 = [(2, (3, 0, yy))] := rfl
  have a6 : accdV 0 [(0, (2, 1, xx)), (2, (3, 0, yy))] = .tuple #[entV 0 (2, 1, xx), .bool true] := rfl
  have q6 : entEq (0, 2, 1, xx) (0, 2, 1, xx) = true := (entEq_iff _ _).2 rfl
  have E1 := Lib.hid e1
  have E2 := Lib.hid e2
  have E3 := Lib.hid e3
  have E4 := Lib.hid e4
  have E5 := Lib.hid e5
  have S1 := Lib.hid s1
  have S2 := Lib.hid s2
  have S3 := Lib.hid s3
  have S4 := Lib.hid s4
  have S5 := Lib.hid s5
  have L1 := Lib.hid l1
  have L5 := Lib.hid l5
  have A6 := Lib.hid a6
  have tok1 : True := trivial
  have tok2 : True := trivial
  have tok3 : True := trivial
  clear e1 s1 l1 e2 s2 e3 s3 e4 s4 e5 s5 l5 a6
  go_enter Try.func13, Try.ntmps13
  go_wp2_with (first
    | (go_at_call 14; refine (new_S _ 3 ⟨by decide, by decide⟩).mono ?_; rintro e w1 ⟨p, m, rfl, t1, hp, hm, b1⟩; have T1 := Lib.hid t1; have B1 := Lib.hid b1; clear t1 b1)
    | (go_at_call 18; have _t := tok1; refine (promise_S p m (newS 3) _ 2 1 0 T1.out).mono ?_; rintro e w2 ⟨v2, rfl, r2, t2, f2⟩; rw [E1.out]; rw [S1.out] at t2; rw [L1.out] at r2; obtain ⟨A2, k2, rfl, _, _⟩ := r2.view; have T2 := Lib.hid t2; have B2 := Lib.hid (Fr.upB B1.out f2 (fun i e => by have e : i = p := e; omega)); clear t2 f2 r2 tok1))
  clear _t
  go_wp2_with (first
    | (go_at_call 19; have _t := tok2; refine (accept_S p m _ _ 1 2 0 xx T2.out).mono ?_; rintro e w3 ⟨rfl, t3, f3⟩; rw [E2.out]; rw [S2.out] at t3; have T3 := Lib.hid t3; have B3 := Lib.hid (Fr.upB B2.out f3 (fun i e => by rcases e with e | e <;> omega)); clear t3 f3 tok2)
    | (go_at_call 19; have _t := tok3; refine (accept_S p m _ _ 2 1 0 xx T3.out).mono ?_; rintro e w4 ⟨rfl, t4, f4⟩; rw [E3.out]; rw [S3.out] at t4; have T4 := Lib.hid t4; have B4 := Lib.hid (Fr.upB B3.out f4 (fun i e => by rcases e with e | e <;> omega)); clear t4 f4 tok3)
    | (go_at_call 19; refine (accept_S p m _ _ 3 0 2 yy T4.out).mono ?_; rintro e w5 ⟨rfl, t5, f5⟩; rw [E4.out]; rw [S4.out] at t5; have T5 := Lib.hid t5; have B5 := Lib.hid (Fr.upB B4.out f5 (fun i e => by rcases e with e | e <;> omega)); clear t5 f5)
    | (go_at_call 18; refine (promise_S p m _ _ 3 0 1 T5.out).mono ?_; rintro e w6 ⟨v6, rfl, r6, t6, f6⟩; rw [E5.out]; rw [S5.out] at t6; rw [L5.out] at r6; have T6 := Lib.hid t6; have R6 := Lib.hid r6; have B6 := Lib.hid (Fr.upB B5.out f6 (fun i e => by have e : i = p := e; omega)); clear t6 f6 r6)
    | (go_at_call 22; refine (accepted_S p m _ _ 0 T6.out ⟨by decide, by decide⟩).mono ?_; rintro e w7 ⟨rfl, b7⟩; rw [A6.out]; have T7 := Lib.hid (T6.out.below b7); have R7 := Lib.hid (R6.out.below b7); have B7 := Lib.hid (bchain B6.out b7); clear b7))
  have r8 : EntRow ((w7.alloc (.cells #[.int .i64 0, .int .i64 2, .int .i64 1, .string xx] 43)).alloc (.cells #[.int .i64 2, .int .i64 3, .int .i64 0, .string ⟨#[121]⟩] 43)) (w7.heap.size + 1) (.slice (some ⟨w7.heap.size + 1, 0, none⟩) 1 1) [(2, (3, 0, yy))] := by
    have := lit_ent (w7.alloc (.cells #[.int .i64 0, .int .i64 2, .int .i64 1, .string xx] 43)) [(2, (3, 0, yy))] (by decide)
    rwa [World.size_alloc] at this
  have b8 : Below w7.heap.size w7 ((w7.alloc (.cells #[.int .i64 0, .int .i64 2, .int .i64 1, .string xx] 43)).alloc (.cells #[.int .i64 2, .int .i64 3, .int .i64 0, .string ⟨#[121]⟩] 43)) := ((Below.refl _ _).alloc (Nat.le_refl _) _).alloc (by simp) _
  have k8 : Blk ((w7.alloc (.cells #[.int .i64 0, .int .i64 2, .int .i64 1, .string xx] 43)).alloc (.cells #[.int .i64 2, .int .i64 3, .int .i64 0, .string ⟨#[121]⟩] 43)) w7.heap.size 43 #[.int .i64 0, .int .i64 2, .int .i64 1, .string xx] := (Blk.new w7 _ _).alloc _
  generalize ((w7.alloc (.cells #[.int .i64 0, .int .i64 2, .int .i64 1, .string xx] 43)).alloc (.cells #[.int .i64 2, .int .i64 3, .int .i64 0, .string ⟨#[121]⟩] 43)) = w8 at *
  have c0 := k8.cell (i := 0) (v := .int .i64 0) rfl
  have c1 := k8.cell (i := 1) (v := .int .i64 2) rfl
  have c2 := k8.cell (i := 2) (v := .int .i64 1) rfl
  have c3 := k8.cell (i := 3) (v := .string xx) rfl
  have T8 := Lib.hid (T7.out.below b8)
  have R8 := Lib.hid (R7.out.below b8)
  have Q8 := Lib.hid r8
  have B8 := Lib.hid (bchain B7.out b8)
  clear r8 b8 k8
  go_wp2_with (first
    | (go_at_call 25; refine (same_any _ _ _ _ _ _ _ R8.out Q8.out (by decide)).mono ?_; rintro e w9 ⟨rfl, b9⟩; have d0 := bcell b9 c0; have d1 := bcell b9 c1; have d2 := bcell b9 c2; have d3 := bcell b9 c3; have T9 := Lib.hid (T8.out.below b9); have B9 := Lib.hid (bchain B8.out b9); clear b9 c0 c1 c2 c3)
    | (go_at_call 15; refine (promised_S p m _ _ T9.out).mono ?_; rintro e w10 ⟨rfl, b10⟩; have B10 := Lib.hid (bchain B9.out b10); clear b10))
  go_returns
  exact ⟨rfl, B10.out⟩
end Go.Proofs.Ytnbiihnfggcakaa
