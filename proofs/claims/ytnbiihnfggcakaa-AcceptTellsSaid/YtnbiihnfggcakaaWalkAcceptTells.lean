/- The walk of skaldlaw12.AcceptTells: it returns true, and writes nothing that was there. -/
import Derived.Test.YtnbiihnfggcakaaAccP
import Derived.OpenShut
set_option linter.unusedVariables false
set_option linter.unusedSimpArgs false
namespace Go.Proofs.Ytnbiihnfggcakaa.acceptTells
open Go.RowKit Go.Shelf
set_option maxRecDepth 100000 in
set_option maxHeartbeats 4000000 in
theorem walk (v0 : Value) (L : List Stp) (b c : Int × Int) (a3 : Int) (w : World) (hL : StepsIn w v0 L) (hb : in64 b.1 ∧ in64 b.2) (hc : in64 c.1 ∧ in64 c.2) (w3 : (Lit.int .u16 a3).wf = true) :
    Calls Try.prog 7 #[v0, .agg #[.int .i64 b.1, .int .i64 b.2], .agg #[.int .i64 c.1, .int .i64 c.2], .int .u16 a3] w fun e w' => e = .returned (.bool true) ∧ Below w.heap.size w w' := by
  obtain ⟨b1, b2⟩ := b
  obtain ⟨c1, c2⟩ := c
  have hE := fun (a b c d : Int) (w : World) => eqBal a b c d w
  have hG := eqGBal
  have hE2 := fun (s a b : Int) (v : ByteArray) (t c d : Int) (u : ByteArray) (w : World) => eqEnt s a b v t c d u w
  have hG2 := eqGEnt
  have hu : 0 ≤ a3 ∧ a3 ≤ 65535 := by
    simp [Lit.wf, IntKind.min, IntKind.max, IntKind.signed, IntKind.bits] at w3
    omega
  clear w3 hb hc
  go_enter Try.func7, Try.ntmps7
  go_wp2_with fail
  have xb : Blk ((w.alloc (.cells #[.int .i64 b1, .int .i64 b2] 30)).alloc (.cells #[.int .i64 c1, .int .i64 c2] 30)) w.heap.size 30 #[.int .i64 b1, .int .i64 b2] := (Blk.new w _ _).alloc _
  have xc : Blk ((w.alloc (.cells #[.int .i64 b1, .int .i64 b2] 30)).alloc (.cells #[.int .i64 c1, .int .i64 c2] 30)) (w.heap.size + 1) 30 #[.int .i64 c1, .int .i64 c2] := by
    have := Blk.new (w.alloc (.cells #[.int .i64 b1, .int .i64 b2] 30)) 30 #[.int .i64 c1, .int .i64 c2]
    rwa [World.size_alloc] at this
  have b0 : Below w.heap.size w ((w.alloc (.cells #[.int .i64 b1, .int .i64 b2] 30)).alloc (.cells #[.int .i64 c1, .int .i64 c2] 30)) := ((Below.refl _ _).alloc (Nat.le_refl _) _).alloc (by simp) _
  have s0 : w.heap.size + 2 ≤ ((w.alloc (.cells #[.int .i64 b1, .int .i64 b2] 30)).alloc (.cells #[.int .i64 c1, .int .i64 c2] 30)).heap.size := by simp
  have HL := Lib.hid (hL.below b0)
  clear hL
  generalize ((w.alloc (.cells #[.int .i64 b1, .int .i64 b2] 30)).alloc (.cells #[.int .i64 c1, .int .i64 c2] 30)) = w0 at *
  obtain ⟨g, hg⟩ : ∃ g, g = w.heap.size := ⟨_, rfl⟩
  rw [← hg] at xb xc s0 ⊢
  have hgw : w.heap.size ≤ g := by omega
  have hgw2 : g ≤ w.heap.size := by omega
  clear hg
  have B0 := Lib.hid b0
  have Xb0 := Lib.hid xb
  have Xc0 := Lib.hid xc
  clear b0 xb xc
  cases hsh : shortB L with
  | false =>
    go_wp2_with (first
      | (go_at_call 12; refine (short_any _ _ _ HL.out).mono ?_; rintro e w' ⟨rfl, rfl⟩)
      | (go_at_call 13; refine (works_any _).mono ?_; rintro e wk ⟨rfl, bk⟩))
    go_returns
    exact ⟨rfl, bchain B0.out bk⟩
  | true =>
    go_wp2_with (first
      | (go_at_call 12; refine (short_any _ _ _ HL.out).mono ?_; rintro e w' ⟨rfl, rfl⟩)
      | (go_at_call 34; refine (filled_any _ _ _ HL.out).mono ?_; rintro e w1 ⟨p, m, rfl, t1, hp, hm, bl1⟩; have Xb1 := Lib.hid (Xb0.out.bel bl1); have Xc1 := Lib.hid (Xc0.out.bel bl1); have B1 := Lib.hid (bchain B0.out bl1); obtain ⟨hpl, hml⟩ := t1.lt; have TA1 := Lib.hid t1; clear t1 bl1)
      | (go_at_call 28; refine (copy_S p m _ _ TA1.out).mono ?_; rintro e w2 ⟨q, n, rfl, t2, hq, hn, bl2⟩; have TA2 := Lib.hid (TA1.out.below bl2); have Xb2 := Lib.hid (Xb1.out.bel bl2); have Xc2 := Lib.hid (Xc1.out.bel bl2); have B2 := Lib.hid (bchain B1.out bl2); obtain ⟨hql, hnl⟩ := t2.lt; have TB2 := Lib.hid t2; have xb2_0 := Xb2.out.cell (i := 0) (v := .int .i64 b1) rfl; have xb2_1 := Xb2.out.cell (i := 1) (v := .int .i64 b2) rfl; clear t2 bl2))
    obtain ⟨k, hk⟩ : ∃ k, k = a3 % 4096 := ⟨_, rfl⟩
    rw [← hk]
    have hk0 : 0 ≤ k ∧ k < 4096 := by omega
    have n3 : (fillS L).n = 3 := fillS_n L
    have N3 := Lib.hid n3
    clear hk hu n3
    by_cases hpr : prE (fillS L) b1 b2 k = 0
    · have c1' := prS_ok hpr
      have c2' := prL_ok hpr
      have C0 := Lib.hid hpr
      have C1 := Lib.hid c1'
      have C2 := Lib.hid c2'
      clear c1' c2' hpr
      go_wp2_with (first
        | (go_at_call 18; refine (promise_S p m _ _ b1 b2 k TA2.out).mono ?_; rintro e w3 ⟨vm, rfl, r3, t3, f3⟩; rw [C0.out]; rw [C1.out] at t3; rw [C2.out] at r3; have g3 := f3.mono (S' := S2 p m) (fun i e => .inl e); have TB3 := Lib.hid (TB2.out.fr g3 (fun e => by rcases e with e | e <;> omega) (fun e => by rcases e with e | e <;> omega)); have Xb3 := Lib.hid (Xb2.out.fr g3 (fun e => by rcases e with e | e <;> omega)); have Xc3 := Lib.hid (Xc2.out.fr g3 (fun e => by rcases e with e | e <;> omega)); have B3 := Lib.hid (Fr.upB B2.out g3 (fun i e => by rcases e with e | e <;> omega)); have TA3 := Lib.hid t3; have Rm3 := Lib.hid r3; have xb3_0 := Xb3.out.cell (i := 0) (v := .int .i64 b1) rfl; have xb3_1 := Xb3.out.cell (i := 1) (v := .int .i64 b2) rfl; clear t3 r3 f3 g3))
      have hg := good_of_prE C0.out
      have HG := Lib.hid hg
      have d0 := prE_again C0.out
      have d1 := prS_again d0
      have d2 := prL_again d0
      have D0 := Lib.hid d0
      have D1 := Lib.hid d1
      have D2 := Lib.hid d2
      clear hg d0 d1 d2
      have tok1 : True := trivial
      have tok2 : True := trivial
      have tok3 : True := trivial
      go_region_held3 (fun W => W.cell? ⟨g, 0, none⟩ = some (.int .i64 b1) ∧ W.cell? ⟨g, 1, none⟩ = some (.int .i64 b2))
        (first | exact ⟨by assumption, by assumption⟩ | go_keep)
        (first
          | (go_at_call 15; refine (promised_S p m _ _ TA3.out.drew).mono ?_; rintro e w4 ⟨rfl, bl4⟩; have bl4' : Below w3.heap.size w3 w4 := (Below.refl _ _).drew.trans (bl4.mono (by simp)); have TA4 := Lib.hid (TA3.out.below bl4'); have TB4 := Lib.hid (TB3.out.below bl4'); have Xb4 := Lib.hid (Xb3.out.bel bl4'); have Xc4 := Lib.hid (Xc3.out.bel bl4'); have Rm4 := Lib.hid (Rm3.out.below bl4'); have B4 := Lib.hid (bchain B3.out bl4'); have xb4_0 := Xb4.out.cell (i := 0) (v := .int .i64 b1) rfl; have xb4_1 := Xb4.out.cell (i := 1) (v := .int .i64 b2) rfl; clear bl4 bl4')
          | (go_at_call 16; have _t := tok1; refine (list_S q n _ _ k TB4.out).mono ?_; rintro e w5 ⟨vx, rfl, r5, bl5⟩; have TA5 := Lib.hid (TA4.out.below bl5); have TB5 := Lib.hid (TB4.out.below bl5); have Xb5 := Lib.hid (Xb4.out.bel bl5); have Xc5 := Lib.hid (Xc4.out.bel bl5); have Rm5 := Lib.hid (Rm4.out.below bl5); have B5 := Lib.hid (bchain B4.out bl5); have Rx5 := Lib.hid r5; have xb5_0 := Xb5.out.cell (i := 0) (v := .int .i64 b1) rfl; have xb5_1 := Xb5.out.cell (i := 1) (v := .int .i64 b2) rfl; clear bl5 r5 tok1)
          | (go_at_call 36; have _t := tok2; refine (entries_yes _ _ _ _ _ _ _ Rm5.out Rx5.out (list_len TB5.out.good) (rfl)).mono ?_; rintro e w6 ⟨rfl, bl6⟩; have TA6 := Lib.hid (TA5.out.below bl6); have TB6 := Lib.hid (TB5.out.below bl6); have Xb6 := Lib.hid (Xb5.out.bel bl6); have Xc6 := Lib.hid (Xc5.out.bel bl6); have Rm6 := Lib.hid (Rm5.out.below bl6); have Rx6 := Lib.hid (Rx5.out.below bl6); have B6 := Lib.hid (bchain B5.out bl6); have xb6_0 := Xb6.out.cell (i := 0) (v := .int .i64 b1) rfl; have xb6_1 := Xb6.out.cell (i := 1) (v := .int .i64 b2) rfl; clear bl6 tok2)
          | (go_at_call 16; have _t := tok3; refine (list_S p m _ _ 0 TA6.out).mono ?_; rintro e w7 ⟨vy, rfl, r7, bl7⟩; have TA7 := Lib.hid (TA6.out.below bl7); have TB7 := Lib.hid (TB6.out.below bl7); have Xb7 := Lib.hid (Xb6.out.bel bl7); have Xc7 := Lib.hid (Xc6.out.bel bl7); have Rm7 := Lib.hid (Rm6.out.below bl7); have Rx7 := Lib.hid (Rx6.out.below bl7); have B7 := Lib.hid (bchain B6.out bl7); have Ry7 := Lib.hid r7; have xb7_0 := Xb7.out.cell (i := 0) (v := .int .i64 b1) rfl; have xb7_1 := Xb7.out.cell (i := 1) (v := .int .i64 b2) rfl; clear bl7 r7 tok3)
          | (go_at_call 16; refine (list_S q n _ _ 0 TB7.out).mono ?_; rintro e w8 ⟨vz, rfl, r8, bl8⟩; have TA8 := Lib.hid (TA7.out.below bl8); have TB8 := Lib.hid (TB7.out.below bl8); have Xb8 := Lib.hid (Xb7.out.bel bl8); have Xc8 := Lib.hid (Xc7.out.bel bl8); have Rm8 := Lib.hid (Rm7.out.below bl8); have Rx8 := Lib.hid (Rx7.out.below bl8); have Ry8 := Lib.hid (Ry7.out.below bl8); have B8 := Lib.hid (bchain B7.out bl8); have Rz8 := Lib.hid r8; have xb8_0 := Xb8.out.cell (i := 0) (v := .int .i64 b1) rfl; have xb8_1 := Xb8.out.cell (i := 1) (v := .int .i64 b2) rfl; clear bl8 r8)
          | (go_at_call 36; refine (entries_yes _ _ _ _ _ _ _ Ry8.out Rz8.out (list_len TB8.out.good) (rfl)).mono ?_; rintro e w9 ⟨rfl, bl9⟩; have TA9 := Lib.hid (TA8.out.below bl9); have TB9 := Lib.hid (TB8.out.below bl9); have Xb9 := Lib.hid (Xb8.out.bel bl9); have Xc9 := Lib.hid (Xc8.out.bel bl9); have Rm9 := Lib.hid (Rm8.out.below bl9); have Rx9 := Lib.hid (Rx8.out.below bl9); have Ry9 := Lib.hid (Ry8.out.below bl9); have Rz9 := Lib.hid (Rz8.out.below bl9); have B9 := Lib.hid (bchain B8.out bl9); have xb9_0 := Xb9.out.cell (i := 0) (v := .int .i64 b1) rfl; have xb9_1 := Xb9.out.cell (i := 1) (v := .int .i64 b2) rfl; clear bl9))
      by_cases ho : ordB (c1, c2) (b1, b2) < 0
      · have f0 := prE_lower (s := withB (fillS L) b1 b2) (k := 0) ho rfl rfl
        have f1 := acE_lower (s := withB (fillS L) b1 b2) (k := k) (v := ⟨#[118]⟩) ho rfl rfl
        have f2 := prS_no f0
        have f3 := prL_no f0
        have f4 := acS_no f1
        have f5 : (prE (withB (fillS L) b1 b2) c1 c2 0 == 0) = false := by simpa using f0
        have f6 : (acE (withB (fillS L) b1 b2) c1 c2 k ⟨#[118]⟩ == 0) = false := by simpa using f1
        have F2 := Lib.hid f2
        have F3 := Lib.hid f3
        have F4 := Lib.hid f4
        clear f0 f1 f2 f3 f4
        have tok4 : True := trivial
        go_wp2_with (first
          | (go_at_call 18; have _t := tok4; refine (promise_S p m _ _ b1 b2 0 TA9.out).mono ?_; rintro e w10 ⟨vq, rfl, r10, t10, f10⟩; rw [D0.out]; rw [D1.out] at t10; rw [D2.out] at r10; have g10 := f10.mono (S' := S2 p m) (fun i e => .inl e); have TB10 := Lib.hid (TB9.out.fr g10 (fun e => by rcases e with e | e <;> omega) (fun e => by rcases e with e | e <;> omega)); have Xb10 := Lib.hid (Xb9.out.fr g10 (fun e => by rcases e with e | e <;> omega)); have Xc10 := Lib.hid (Xc9.out.fr g10 (fun e => by rcases e with e | e <;> omega)); have B10 := Lib.hid (Fr.upB B9.out g10 (fun i e => by rcases e with e | e <;> omega)); have TA10 := Lib.hid t10; have Rq10 := Lib.hid r10; clear t10 r10 f10 g10 tok4)
          | (go_at_call 16; refine (list_S q n _ _ 0 TB10.out).mono ?_; rintro e w11 ⟨vu, rfl, r11, bl11⟩; have TA11 := Lib.hid (TA10.out.below bl11); have TB11 := Lib.hid (TB10.out.below bl11); have Xb11 := Lib.hid (Xb10.out.bel bl11); have Xc11 := Lib.hid (Xc10.out.bel bl11); have Rq11 := Lib.hid (Rq10.out.below bl11); have B11 := Lib.hid (bchain B10.out bl11); have Ru11 := Lib.hid r11; clear bl11 r11)
          | (go_at_call 36; refine (entries_yes _ _ _ _ _ _ _ Rq11.out Ru11.out (list_len TB11.out.good) (rfl)).mono ?_; rintro e w12 ⟨rfl, bl12⟩; have TA12 := Lib.hid (TA11.out.below bl12); have TB12 := Lib.hid (TB11.out.below bl12); have Xb12 := Lib.hid (Xb11.out.bel bl12); have Xc12 := Lib.hid (Xc11.out.bel bl12); have Rq12 := Lib.hid (Rq11.out.below bl12); have Ru12 := Lib.hid (Ru11.out.below bl12); have B12 := Lib.hid (bchain B11.out bl12); have xb12_0 := Xb12.out.cell (i := 0) (v := .int .i64 b1) rfl; have xb12_1 := Xb12.out.cell (i := 1) (v := .int .i64 b2) rfl; have xc12_0 := Xc12.out.cell (i := 0) (v := .int .i64 c1) rfl; have xc12_1 := Xc12.out.cell (i := 1) (v := .int .i64 c2) rfl; clear bl12)
          | (go_at_call 21; refine (order_any _ _ _ _ _).mono ?_; rintro e w13 ⟨rfl, bl13⟩; have TA13 := Lib.hid (TA12.out.below bl13); have TB13 := Lib.hid (TB12.out.below bl13); have Xb13 := Lib.hid (Xb12.out.bel bl13); have Xc13 := Lib.hid (Xc12.out.bel bl13); have B13 := Lib.hid (bchain B12.out bl13); have xc13_0 := Xc13.out.cell (i := 0) (v := .int .i64 c1) rfl; have xc13_1 := Xc13.out.cell (i := 1) (v := .int .i64 c2) rfl; clear bl13)
          | (go_at_call 18; refine (promise_S p m _ _ c1 c2 0 TA13.out).mono ?_; rintro e w14 ⟨vr, rfl, r14, t14, f14⟩; rw [F2.out] at t14; rw [F3.out] at r14; have g14 := f14.mono (S' := S2 p m) (fun i e => .inl e); have TB14 := Lib.hid (TB13.out.fr g14 (fun e => by rcases e with e | e <;> omega) (fun e => by rcases e with e | e <;> omega)); have Xb14 := Lib.hid (Xb13.out.fr g14 (fun e => by rcases e with e | e <;> omega)); have Xc14 := Lib.hid (Xc13.out.fr g14 (fun e => by rcases e with e | e <;> omega)); have B14 := Lib.hid (Fr.upB B13.out g14 (fun i e => by rcases e with e | e <;> omega)); have TA14 := Lib.hid t14; have Rr14 := Lib.hid r14; have xc14_0 := Xc14.out.cell (i := 0) (v := .int .i64 c1) rfl; have xc14_1 := Xc14.out.cell (i := 1) (v := .int .i64 c2) rfl; clear t14 r14 f14 g14)
          | (go_at_call 19; refine (accept_S p m _ _ c1 c2 k ⟨#[118]⟩ TA14.out).mono ?_; rintro e w15 ⟨rfl, t15, f15⟩; rw [F4.out] at t15; have TB15 := Lib.hid (TB14.out.fr f15 (fun e => by rcases e with e | e <;> omega) (fun e => by rcases e with e | e <;> omega)); have Xb15 := Lib.hid (Xb14.out.fr f15 (fun e => by rcases e with e | e <;> omega)); have Xc15 := Lib.hid (Xc14.out.fr f15 (fun e => by rcases e with e | e <;> omega)); have B15 := Lib.hid (Fr.upB B14.out f15 (fun i e => by rcases e with e | e <;> omega)); have TA15 := Lib.hid t15; have xb15_0 := Xb15.out.cell (i := 0) (v := .int .i64 b1) rfl; have xb15_1 := Xb15.out.cell (i := 1) (v := .int .i64 b2) rfl; clear t15 f15))
        go_region_held3 (fun W => W.cell? ⟨g, 0, none⟩ = some (.int .i64 b1) ∧ W.cell? ⟨g, 1, none⟩ = some (.int .i64 b2))
          (first | exact ⟨by assumption, by assumption⟩ | go_keep)
          (first
            | (go_at_call 15; refine (promised_S p m _ _ TA15.out.drew).mono ?_; rintro e w16 ⟨rfl, bl16⟩; have bl16' : Below w15.heap.size w15 w16 := (Below.refl _ _).drew.trans (bl16.mono (by simp)); have TA16 := Lib.hid (TA15.out.below bl16'); have TB16 := Lib.hid (TB15.out.below bl16'); have Xb16 := Lib.hid (Xb15.out.bel bl16'); have Xc16 := Lib.hid (Xc15.out.bel bl16'); have B16 := Lib.hid (bchain B15.out bl16'); have xb16_0 := Xb16.out.cell (i := 0) (v := .int .i64 b1) rfl; have xb16_1 := Xb16.out.cell (i := 1) (v := .int .i64 b2) rfl; clear bl16 bl16'))
        clear f5 f6 ho
        by_cases hkb : k < (fillS L).base
        · have g0 := acE_forgot (v := ⟨#[118]⟩) HG.out hk0 (by decide) hkb
          have g1 := acS_no (show acE (withB (fillS L) b1 b2) b1 b2 k ⟨#[118]⟩ ≠ 0 by rw [g0]; decide)
          have G0 := Lib.hid g0
          have G1 := Lib.hid g1
          clear g0 g1
          go_wp2_with (first
            | (go_at_call 19; refine (accept_S p m _ _ b1 b2 k ⟨#[118]⟩ TA16.out).mono ?_; rintro e w17 ⟨rfl, t17, f17⟩; rw [G0.out]; rw [G1.out] at t17; have TB17 := Lib.hid (TB16.out.fr f17 (fun e => by rcases e with e | e <;> omega) (fun e => by rcases e with e | e <;> omega)); have Xb17 := Lib.hid (Xb16.out.fr f17 (fun e => by rcases e with e | e <;> omega)); have Xc17 := Lib.hid (Xc16.out.fr f17 (fun e => by rcases e with e | e <;> omega)); have B17 := Lib.hid (Fr.upB B16.out f17 (fun i e => by rcases e with e | e <;> omega)); have TA17 := Lib.hid t17; clear t17 f17)
            | (go_at_call 17; refine (base_S p m _ _ TA17.out).mono ?_; rintro e w' ⟨rfl, rfl⟩; skip)
            | (go_at_call 13; refine (works_any _).mono ?_; rintro e wk ⟨rfl, bk⟩; have BK := Lib.hid (bchain B17.out bk); clear bk))
          go_returns
          exact ⟨rfl, BK.out⟩
        · have g0 := acE_there (v := ⟨#[118]⟩) HG.out hk0 (by decide) (by omega)
          have g1 := acS_ok g0
          have g2 := accdV_some (get_put_same (k := k) (v := ((b1, b2, ⟨#[118]⟩) : Ent)) TA16.out.good.srt)
          have hkb' : decide (k < (fillS L).base) = false := by simpa using hkb
          have q6 : entEq (k, b1, b2, ⟨#[118]⟩) (k, b1, b2, ⟨#[118]⟩) = true := (entEq_iff _ _).2 rfl
          have G0 := Lib.hid g0
          have G1 := Lib.hid g1
          have G2 := Lib.hid g2
          clear g0 g1 g2 hkb
          go_wp2_with (first
            | (go_at_call 19; refine (accept_S p m _ _ b1 b2 k ⟨#[118]⟩ TA16.out).mono ?_; rintro e w17 ⟨rfl, t17, f17⟩; rw [G0.out]; rw [G1.out] at t17; have TB17 := Lib.hid (TB16.out.fr f17 (fun e => by rcases e with e | e <;> omega) (fun e => by rcases e with e | e <;> omega)); have Xb17 := Lib.hid (Xb16.out.fr f17 (fun e => by rcases e with e | e <;> omega)); have Xc17 := Lib.hid (Xc16.out.fr f17 (fun e => by rcases e with e | e <;> omega)); have B17 := Lib.hid (Fr.upB B16.out f17 (fun i e => by rcases e with e | e <;> omega)); have TA17 := Lib.hid t17; clear t17 f17)
            | (go_at_call 17; refine (base_S p m _ _ TA17.out).mono ?_; rintro e w' ⟨rfl, rfl⟩; skip)
            | (go_at_call 22; refine (accepted_S p m _ _ k TA17.out (by unfold in64; omega)).mono ?_; rintro e w18 ⟨rfl, bl18⟩; rw [G2.out]; have TA18 := Lib.hid (TA17.out.below bl18); have TB18 := Lib.hid (TB17.out.below bl18); have Xb18 := Lib.hid (Xb17.out.bel bl18); have Xc18 := Lib.hid (Xc17.out.bel bl18); have B18 := Lib.hid (bchain B17.out bl18); have xb18_0 := Xb18.out.cell (i := 0) (v := .int .i64 b1) rfl; have xb18_1 := Xb18.out.cell (i := 1) (v := .int .i64 b2) rfl; have zb0 := bcell (box_below w18 (.cells #[.int .i64 k, .int .i64 b1, .int .i64 b2, .string ⟨#[118]⟩] 43)) xb18_0; have zb1 := bcell (box_below w18 (.cells #[.int .i64 k, .int .i64 b1, .int .i64 b2, .string ⟨#[118]⟩] 43)) xb18_1; clear bl18)
            | (go_at_call 13; refine (works_any _).mono ?_; rintro e wk ⟨rfl, bk⟩; have BK := Lib.hid (bchain (bchain B18.out (box_below _ _)) bk); clear bk))
          go_returns
          exact ⟨rfl, BK.out⟩
      · have ho' : decide (ordB (c1, c2) (b1, b2) < 0) = false := by simpa using ho
        clear ho
        have tok4 : True := trivial
        go_wp2_with (first
          | (go_at_call 18; have _t := tok4; refine (promise_S p m _ _ b1 b2 0 TA9.out).mono ?_; rintro e w10 ⟨vq, rfl, r10, t10, f10⟩; rw [D0.out]; rw [D1.out] at t10; rw [D2.out] at r10; have g10 := f10.mono (S' := S2 p m) (fun i e => .inl e); have TB10 := Lib.hid (TB9.out.fr g10 (fun e => by rcases e with e | e <;> omega) (fun e => by rcases e with e | e <;> omega)); have Xb10 := Lib.hid (Xb9.out.fr g10 (fun e => by rcases e with e | e <;> omega)); have Xc10 := Lib.hid (Xc9.out.fr g10 (fun e => by rcases e with e | e <;> omega)); have B10 := Lib.hid (Fr.upB B9.out g10 (fun i e => by rcases e with e | e <;> omega)); have TA10 := Lib.hid t10; have Rq10 := Lib.hid r10; clear t10 r10 f10 g10 tok4)
          | (go_at_call 16; refine (list_S q n _ _ 0 TB10.out).mono ?_; rintro e w11 ⟨vu, rfl, r11, bl11⟩; have TA11 := Lib.hid (TA10.out.below bl11); have TB11 := Lib.hid (TB10.out.below bl11); have Xb11 := Lib.hid (Xb10.out.bel bl11); have Xc11 := Lib.hid (Xc10.out.bel bl11); have Rq11 := Lib.hid (Rq10.out.below bl11); have B11 := Lib.hid (bchain B10.out bl11); have Ru11 := Lib.hid r11; clear bl11 r11)
          | (go_at_call 36; refine (entries_yes _ _ _ _ _ _ _ Rq11.out Ru11.out (list_len TB11.out.good) (rfl)).mono ?_; rintro e w12 ⟨rfl, bl12⟩; have TA12 := Lib.hid (TA11.out.below bl12); have TB12 := Lib.hid (TB11.out.below bl12); have Xb12 := Lib.hid (Xb11.out.bel bl12); have Xc12 := Lib.hid (Xc11.out.bel bl12); have Rq12 := Lib.hid (Rq11.out.below bl12); have Ru12 := Lib.hid (Ru11.out.below bl12); have B12 := Lib.hid (bchain B11.out bl12); have xb12_0 := Xb12.out.cell (i := 0) (v := .int .i64 b1) rfl; have xb12_1 := Xb12.out.cell (i := 1) (v := .int .i64 b2) rfl; have xc12_0 := Xc12.out.cell (i := 0) (v := .int .i64 c1) rfl; have xc12_1 := Xc12.out.cell (i := 1) (v := .int .i64 c2) rfl; clear bl12)
          | (go_at_call 21; refine (order_any _ _ _ _ _).mono ?_; rintro e w13 ⟨rfl, bl13⟩; have TA13 := Lib.hid (TA12.out.below bl13); have TB13 := Lib.hid (TB12.out.below bl13); have Xb13 := Lib.hid (Xb12.out.bel bl13); have Xc13 := Lib.hid (Xc12.out.bel bl13); have B13 := Lib.hid (bchain B12.out bl13); have xb13_0 := Xb13.out.cell (i := 0) (v := .int .i64 b1) rfl; have xb13_1 := Xb13.out.cell (i := 1) (v := .int .i64 b2) rfl; clear bl13))
        clear ho'
        by_cases hkb : k < (fillS L).base
        · have g0 := acE_forgot (v := ⟨#[118]⟩) HG.out hk0 (by decide) hkb
          have g1 := acS_no (show acE (withB (fillS L) b1 b2) b1 b2 k ⟨#[118]⟩ ≠ 0 by rw [g0]; decide)
          have G0 := Lib.hid g0
          have G1 := Lib.hid g1
          clear g0 g1
          go_wp2_with (first
            | (go_at_call 19; refine (accept_S p m _ _ b1 b2 k ⟨#[118]⟩ TA13.out).mono ?_; rintro e w14 ⟨rfl, t14, f14⟩; rw [G0.out]; rw [G1.out] at t14; have TB14 := Lib.hid (TB13.out.fr f14 (fun e => by rcases e with e | e <;> omega) (fun e => by rcases e with e | e <;> omega)); have Xb14 := Lib.hid (Xb13.out.fr f14 (fun e => by rcases e with e | e <;> omega)); have Xc14 := Lib.hid (Xc13.out.fr f14 (fun e => by rcases e with e | e <;> omega)); have B14 := Lib.hid (Fr.upB B13.out f14 (fun i e => by rcases e with e | e <;> omega)); have TA14 := Lib.hid t14; clear t14 f14)
            | (go_at_call 17; refine (base_S p m _ _ TA14.out).mono ?_; rintro e w' ⟨rfl, rfl⟩; skip)
            | (go_at_call 13; refine (works_any _).mono ?_; rintro e wk ⟨rfl, bk⟩; have BK := Lib.hid (bchain B14.out bk); clear bk))
          go_returns
          exact ⟨rfl, BK.out⟩
        · have g0 := acE_there (v := ⟨#[118]⟩) HG.out hk0 (by decide) (by omega)
          have g1 := acS_ok g0
          have g2 := accdV_some (get_put_same (k := k) (v := ((b1, b2, ⟨#[118]⟩) : Ent)) TA13.out.good.srt)
          have hkb' : decide (k < (fillS L).base) = false := by simpa using hkb
          have q6 : entEq (k, b1, b2, ⟨#[118]⟩) (k, b1, b2, ⟨#[118]⟩) = true := (entEq_iff _ _).2 rfl
          have G0 := Lib.hid g0
          have G1 := Lib.hid g1
          have G2 := Lib.hid g2
          clear g0 g1 g2 hkb
          go_wp2_with (first
            | (go_at_call 19; refine (accept_S p m _ _ b1 b2 k ⟨#[118]⟩ TA13.out).mono ?_; rintro e w14 ⟨rfl, t14, f14⟩; rw [G0.out]; rw [G1.out] at t14; have TB14 := Lib.hid (TB13.out.fr f14 (fun e => by rcases e with e | e <;> omega) (fun e => by rcases e with e | e <;> omega)); have Xb14 := Lib.hid (Xb13.out.fr f14 (fun e => by rcases e with e | e <;> omega)); have Xc14 := Lib.hid (Xc13.out.fr f14 (fun e => by rcases e with e | e <;> omega)); have B14 := Lib.hid (Fr.upB B13.out f14 (fun i e => by rcases e with e | e <;> omega)); have TA14 := Lib.hid t14; clear t14 f14)
            | (go_at_call 17; refine (base_S p m _ _ TA14.out).mono ?_; rintro e w' ⟨rfl, rfl⟩; skip)
            | (go_at_call 22; refine (accepted_S p m _ _ k TA14.out (by unfold in64; omega)).mono ?_; rintro e w15 ⟨rfl, bl15⟩; rw [G2.out]; have TA15 := Lib.hid (TA14.out.below bl15); have TB15 := Lib.hid (TB14.out.below bl15); have Xb15 := Lib.hid (Xb14.out.bel bl15); have Xc15 := Lib.hid (Xc14.out.bel bl15); have B15 := Lib.hid (bchain B14.out bl15); have xb15_0 := Xb15.out.cell (i := 0) (v := .int .i64 b1) rfl; have xb15_1 := Xb15.out.cell (i := 1) (v := .int .i64 b2) rfl; have zb0 := bcell (box_below w15 (.cells #[.int .i64 k, .int .i64 b1, .int .i64 b2, .string ⟨#[118]⟩] 43)) xb15_0; have zb1 := bcell (box_below w15 (.cells #[.int .i64 k, .int .i64 b1, .int .i64 b2, .string ⟨#[118]⟩] 43)) xb15_1; clear bl15)
            | (go_at_call 13; refine (works_any _).mono ?_; rintro e wk ⟨rfl, bk⟩; have BK := Lib.hid (bchain (bchain B15.out (box_below _ _)) bk); clear bk))
          go_returns
          exact ⟨rfl, BK.out⟩
    · have c1' := prS_no hpr
      have c2' := prL_no hpr
      have c3' := eqA_same (fillS L)
      have hpr' : (prE (fillS L) b1 b2 k != 0) = true := by simpa using hpr
      have C1 := Lib.hid c1'
      have C2 := Lib.hid c2'
      have C3 := Lib.hid c3'
      clear c1' c2' c3' hpr
      go_wp2_with (first
        | (go_at_call 18; refine (promise_S p m _ _ b1 b2 k TA2.out).mono ?_; rintro e w3 ⟨vm, rfl, r3, t3, f3⟩; rw [C1.out] at t3; rw [C2.out] at r3; have g3 := f3.mono (S' := S2 p m) (fun i e => .inl e); obtain ⟨A3, k3, rfl, _, _⟩ := r3.view; have TB3 := Lib.hid (TB2.out.fr g3 (fun e => by rcases e with e | e <;> omega) (fun e => by rcases e with e | e <;> omega)); have Xb3 := Lib.hid (Xb2.out.fr g3 (fun e => by rcases e with e | e <;> omega)); have Xc3 := Lib.hid (Xc2.out.fr g3 (fun e => by rcases e with e | e <;> omega)); have B3 := Lib.hid (Fr.upB B2.out g3 (fun i e => by rcases e with e | e <;> omega)); have TA3 := Lib.hid t3; have Rm3 := Lib.hid r3; clear t3 r3 f3 g3)
        | (go_at_call 35; refine (equal_any p m q n _ _ _ TA3.out TB3.out).mono ?_; rintro e w4 ⟨rfl, bl4⟩; rw [C3.out]; have TA4 := Lib.hid (TA3.out.below bl4); have TB4 := Lib.hid (TB3.out.below bl4); have Xb4 := Lib.hid (Xb3.out.bel bl4); have Xc4 := Lib.hid (Xc3.out.bel bl4); have Rm4 := Lib.hid (Rm3.out.below bl4); have B4 := Lib.hid (bchain B3.out bl4); clear bl4)
        | (go_at_call 13; refine (works_any _).mono ?_; rintro e wk ⟨rfl, bk⟩; have BK := Lib.hid (bchain B4.out bk); clear bk))
      go_returns
      exact ⟨rfl, BK.out⟩
end Go.Proofs.Ytnbiihnfggcakaa.acceptTells
