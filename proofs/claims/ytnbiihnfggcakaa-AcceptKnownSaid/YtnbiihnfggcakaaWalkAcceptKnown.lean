/- The walk of skaldlaw12.AcceptKnown: it returns true, and writes nothing that was there. -/
import Derived.Test.YtnbiihnfggcakaaAccP
import Derived.Laws.BytesArg
import Derived.OwnWalk
import Derived.Laws.DeepStrings4
import Derived.OpenShut
set_option linter.unusedVariables false
set_option linter.unusedSimpArgs false
namespace Go.Proofs.Ytnbiihnfggcakaa.acceptKnown
open Go.RowKit Go.Shelf
theorem conv_made (base g n : Nat) (w : World) (h : w.ownsRow base 5 1 (.slice (some ⟨g, 0, none⟩) n n) n (madeCells (Value.int .u8 0).cells (n * 1)).toList) :
    (convert 46 9 (.slice (some ⟨g, 0, none⟩) n n)).run Try.prog w = .ok (.string (strOfNums (List.replicate n 0))) w := by
  refine run_convert_bytes_arg w _ _ Try.underlying46 Try.underlying5 g 0 n n (List.replicate n 0) (by simp) (fun i hi => ?_) _ Try.underlying9
  have hc := World.ownsRow.cells h (g := g) rfl i (.int .u8 0) (by
    rw [Nat.mul_one, show (Value.int .u8 0).cells = #[.int .u8 0] from rfl, toList_madeCells_one, List.getElem?_replicate, if_pos hi])
  rw [Nat.zero_add, ← add_zero_spot, hc]
  simp [List.getD_eq_getElem?_getD, List.getElem?_replicate, hi]
theorem slice_one (s : ByteArray) (w : World) (hs : 1 ≤ s.size) : (Instr.slice 9 (.string s) (some (.int .i64 1)) none none).run Try.prog w = .ok (.string (s.extract 1 s.size)) w := by
  simp [Instr.slice, Instr.sliceBounds, Instr.sliceBound, asIntOf, run_underlying Try.underlying9]
  omega
theorem long_is (n : Nat) : (strOfNums (List.replicate n 0)).size = n := by rw [strOfNums_size]; simp
theorem info_u8 : (Try.prog.info? 5).map (fun i => (i.zero, i.size, i.bytes)) = some (some (.int .u8 0), 1, 1) := by kernel_rfl
theorem cut_size (s : ByteArray) (n : Nat) (h : s.size = n + 1) : (s.extract 1 s.size).size = n := by simp [ByteArray.size_extract, h]

set_option maxRecDepth 100000 in
set_option maxHeartbeats 40000000 in
theorem walk (w : World) : Calls Try.prog 4 #[] w fun e w' => e = .returned (.bool true) ∧ Below w.heap.size w w' := by
  obtain ⟨i0, hi, hz0, hz1, hz2⟩ := info_parts info_u8
  have HI := Lib.hid hi
  have HZ0 := Lib.hid hz0
  have HZ1 := Lib.hid hz1
  have HZ2 := Lib.hid hz2
  clear hi hz0 hz1 hz2
  have B0 := Lib.hid (Below.refl w.heap.size w)
  have tok1 : True := trivial
  have tok2 : True := trivial
  go_enter Try.func4, Try.ntmps4
  go_wp2_with (first
    | (go_at_call 14; have _t := tok1; refine (new_bad 8 _ (by unfold okN; omega)).mono ?_; rintro e w' ⟨rfl, rfl⟩; clear tok1)
    | (go_at_call 14; have _t := tok2; refine (new_bad 0 _ (by unfold okN; omega)).mono ?_; rintro e w' ⟨rfl, rfl⟩; clear tok2)
    | (go_at_call 14; refine (new_S _ 7 ⟨by decide, by decide⟩).mono ?_; rintro e w1 ⟨p, m, rfl, t1, hp, hm, b1⟩; obtain ⟨hpl, hml⟩ := t1.lt; have TA1 := Lib.hid t1; have B1 := Lib.hid b1; clear t1 b1)
    | (refine wpList_make_full _ rfl _ _ 46 rfl w1.heap.size 5 i0 (.int .u8 0) 1 Try.underlying46 HI.out HZ0.out HZ1.out .i64 .i64 65537 65537 65537 rfl rfl rfl rfl (by rw [HZ2.out]; decide) (by decide) (Nat.le_refl _) ?_; intro w2 hown hgr; have hconv := conv_made _ _ _ _ hown; have hS := long_is 65537; have TA2 := Lib.hid (TA1.out.fr (Fr.grownNone hgr S0) (fun h => h) (fun h => h)); have B2 := Lib.hid (B1.out.trans (((Fr.grownNone hgr S0).below (Nat.le_refl _) (fun i h => h.elim)).mono (bchainSz B1.out))); generalize strOfNums (List.replicate 65537 0) = S at hconv hS; clear hown hgr))
  have hb2 := box_below w2 (.cells #[.int .i64 5, .int .i64 6] 30)
  have xb := Blk.new w2 30 #[.int .i64 5, .int .i64 6]
  have hg : w2.heap.size ≤ w2.heap.size := Nat.le_refl _
  have hsl := fun w => slice_one S w (by omega)
  have hT := cut_size S 65536 hS
  obtain ⟨T, hTT⟩ : ∃ T, T = S.extract 1 S.size := ⟨_, rfl⟩
  rw [← hTT] at hT
  have hsl' : ∀ w, (Instr.slice 9 (.string S) (some (.int .i64 1)) none none).run Try.prog w = .ok (.string T) w := fun w => by rw [hTT]; exact hsl w
  have HS := Lib.hid hS
  have HT := Lib.hid hT
  have TA3 := Lib.hid (TA2.out.below hb2)
  have B3 := Lib.hid (bchain B2.out hb2)
  have Xb3 := Lib.hid xb
  have hpw : p < w2.heap.size ∧ m < w2.heap.size := TA2.out.lt
  clear hconv hsl hS hT hTT xb hb2
  generalize (w2.alloc (.cells #[.int .i64 5, .int .i64 6] 30)) = w3 at *
  have y0 := Xb3.out.cell (i := 0) (v := .int .i64 5) rfl
  have y1 := Xb3.out.cell (i := 1) (v := .int .i64 6) rfl
  have P1 : Hid (prE (newS 7) 0 0 0 = 2) := Lib.hid (show prE (newS 7) 0 0 0 = 2 from by decide)
  have Q1 : Hid (prS (newS 7) 0 0 0 = newS 7) := Lib.hid (show prS (newS 7) 0 0 0 = newS 7 from rfl)
  have P2 : Hid (prE (newS 7) 1 7 0 = 2) := Lib.hid (show prE (newS 7) 1 7 0 = 2 from by decide)
  have Q2 : Hid (prS (newS 7) 1 7 0 = newS 7) := Lib.hid (show prS (newS 7) 1 7 0 = newS 7 from rfl)
  have P3 : Hid (prE (newS 7) 5 6 4097 = 2) := Lib.hid (show prE (newS 7) 5 6 4097 = 2 from by decide)
  have Q3 : Hid (prS (newS 7) 5 6 4097 = newS 7) := Lib.hid (show prS (newS 7) 5 6 4097 = newS 7 from rfl)
  have P4 : Hid (prE (newS 7) 5 6 (-1) = 2) := Lib.hid (show prE (newS 7) 5 6 (-1) = 2 from by decide)
  have Q4 : Hid (prS (newS 7) 5 6 (-1) = newS 7) := Lib.hid (show prS (newS 7) 5 6 (-1) = newS 7 from rfl)
  have P5 : Hid (prE (newS 7) 5 6 4096 = 0) := Lib.hid (show prE (newS 7) 5 6 4096 = 0 from by decide)
  have Q5 : Hid (prS (newS 7) 5 6 4096 = ⟨7, 5, 6, 0, []⟩) := Lib.hid (show prS (newS 7) 5 6 4096 = ⟨7, 5, 6, 0, []⟩ from rfl)
  have P6 : Hid (prE ⟨7, 5, 6, 0, []⟩ 5 5 0 = 8) := Lib.hid (show prE ⟨7, 5, 6, 0, []⟩ 5 5 0 = 8 from by decide)
  have Q6 : Hid (prS ⟨7, 5, 6, 0, []⟩ 5 5 0 = ⟨7, 5, 6, 0, []⟩) := Lib.hid (show prS ⟨7, 5, 6, 0, []⟩ 5 5 0 = ⟨7, 5, 6, 0, []⟩ from rfl)
  have F1 : Hid (foE 2 = 0) := Lib.hid (show foE 2 = 0 from by decide)
  have G1 : Hid (foS ⟨7, 5, 6, 0, []⟩ 2 = ⟨7, 5, 6, 2, []⟩) := Lib.hid (show foS ⟨7, 5, 6, 0, []⟩ 2 = ⟨7, 5, 6, 2, []⟩ from rfl)
  have F2 : Hid (foE 1 = 0) := Lib.hid (show foE 1 = 0 from by decide)
  have G2 : Hid (foS ⟨7, 5, 6, 2, []⟩ 1 = ⟨7, 5, 6, 2, []⟩) := Lib.hid (show foS ⟨7, 5, 6, 2, []⟩ 1 = ⟨7, 5, 6, 2, []⟩ from rfl)
  have F8 : Hid (foE 4097 = 2) := Lib.hid (show foE 4097 = 2 from by decide)
  have F9 : Hid (foE (-1) = 2) := Lib.hid (show foE (-1) = 2 from by decide)
  have F10 : Hid (foE 4096 = 0) := Lib.hid (show foE 4096 = 0 from by decide)
  have A1 : Hid (acE ⟨7, 5, 6, 2, []⟩ 1 0 4096 S = 2) := Lib.hid (show acE ⟨7, 5, 6, 2, []⟩ 1 0 4096 S = 2 from (by show accE 7 5 6 2 1 0 4096 S.size = 2; rw [HS.out]; decide))
  have N1 : Hid (acS ⟨7, 5, 6, 2, []⟩ 1 0 4096 S = ⟨7, 5, 6, 2, []⟩) := Lib.hid (acS_no (by rw [A1.out]; decide))
  have A2 : Hid (acE ⟨7, 5, 6, 2, []⟩ 1 0 (-1) S = 2) := Lib.hid (show acE ⟨7, 5, 6, 2, []⟩ 1 0 (-1) S = 2 from (by show accE 7 5 6 2 1 0 (-1) S.size = 2; rw [HS.out]; decide))
  have N2 : Hid (acS ⟨7, 5, 6, 2, []⟩ 1 0 (-1) S = ⟨7, 5, 6, 2, []⟩) := Lib.hid (acS_no (by rw [A2.out]; decide))
  have A3 : Hid (acE ⟨7, 5, 6, 2, []⟩ 1 0 0 S = 11) := Lib.hid (show acE ⟨7, 5, 6, 2, []⟩ 1 0 0 S = 11 from (by show accE 7 5 6 2 1 0 0 S.size = 11; rw [HS.out]; decide))
  have N3 : Hid (acS ⟨7, 5, 6, 2, []⟩ 1 0 0 S = ⟨7, 5, 6, 2, []⟩) := Lib.hid (acS_no (by rw [A3.out]; decide))
  have A4 : Hid (acE ⟨7, 5, 6, 2, []⟩ 1 0 0 T = 8) := Lib.hid (show acE ⟨7, 5, 6, 2, []⟩ 1 0 0 T = 8 from (by show accE 7 5 6 2 1 0 0 T.size = 8; rw [HT.out]; decide))
  have N4 : Hid (acS ⟨7, 5, 6, 2, []⟩ 1 0 0 T = ⟨7, 5, 6, 2, []⟩) := Lib.hid (acS_no (by rw [A4.out]; decide))
  have A5 : Hid (acE ⟨7, 5, 6, 2, []⟩ 5 6 1 ⟨#[]⟩ = 3) := Lib.hid (show acE ⟨7, 5, 6, 2, []⟩ 5 6 1 ⟨#[]⟩ = 3 from (by decide))
  have N5 : Hid (acS ⟨7, 5, 6, 2, []⟩ 5 6 1 ⟨#[]⟩ = ⟨7, 5, 6, 2, []⟩) := Lib.hid (acS_no (by rw [A5.out]; decide))
  have A6 : Hid (acE ⟨7, 5, 6, 2, []⟩ 5 6 4095 T = 0) := Lib.hid (show acE ⟨7, 5, 6, 2, []⟩ 5 6 4095 T = 0 from (by show accE 7 5 6 2 5 6 4095 T.size = 0; rw [HT.out]; decide))
  have N6 : Hid (acS ⟨7, 5, 6, 2, []⟩ 5 6 4095 T = ⟨7, 5, 6, 2, [(4095, (5, 6, T))]⟩) := Lib.hid ((acS_ok A6.out).trans rfl)
  have G8 : Hid (foS ⟨7, 5, 6, 2, [(4095, (5, 6, T))]⟩ 4097 = ⟨7, 5, 6, 2, [(4095, (5, 6, T))]⟩) := Lib.hid rfl
  have G9 : Hid (foS ⟨7, 5, 6, 2, [(4095, (5, 6, T))]⟩ (-1) = ⟨7, 5, 6, 2, [(4095, (5, 6, T))]⟩) := Lib.hid rfl
  have G10 : Hid (foS ⟨7, 5, 6, 2, [(4095, (5, 6, T))]⟩ 4096 = ⟨7, 5, 6, 4096, []⟩) := Lib.hid rfl
  have tok1 : True := trivial
  have tok2 : True := trivial
  have tok3 : True := trivial
  have tok4 : True := trivial
  have tok5 : True := trivial
  have tok6 : True := trivial
  go_wp2_with (first
    | (go_at_call 18; have _t := tok1; refine (promise_S p m _ _ 0 0 0 TA3.out).mono ?_; rintro e w4 ⟨vr0, rfl, r4, t4, f4⟩; rw [P1.out]; rw [Q1.out] at t4; have g4 := f4.mono (S' := S2 p m) (fun i e => .inl e); have Xb4 := Lib.hid (Xb3.out.fr g4 (fun e => by rcases e with e | e <;> omega)); have B4 := Lib.hid (Fr.upB B3.out g4 (fun i e => by rcases e with e | e <;> omega)); have TA4 := Lib.hid t4; have Rr04 := Lib.hid r4; clear t4 r4 f4 g4 tok1)
    | (go_at_call 18; have _t := tok2; refine (promise_S p m _ _ 1 7 0 TA4.out).mono ?_; rintro e w5 ⟨vr1, rfl, r5, t5, f5⟩; rw [P2.out]; rw [Q2.out] at t5; have g5 := f5.mono (S' := S2 p m) (fun i e => .inl e); have Xb5 := Lib.hid (Xb4.out.fr g5 (fun e => by rcases e with e | e <;> omega)); have B5 := Lib.hid (Fr.upB B4.out g5 (fun i e => by rcases e with e | e <;> omega)); have TA5 := Lib.hid t5; have Rr15 := Lib.hid r5; have xb5_0 := Xb5.out.cell (i := 0) (v := .int .i64 5) rfl; have xb5_1 := Xb5.out.cell (i := 1) (v := .int .i64 6) rfl; clear t5 r5 f5 g5 tok2)
    | (go_at_call 18; have _t := tok3; refine (promise_S p m _ _ 5 6 4097 TA5.out).mono ?_; rintro e w6 ⟨vr2, rfl, r6, t6, f6⟩; rw [P3.out]; rw [Q3.out] at t6; have g6 := f6.mono (S' := S2 p m) (fun i e => .inl e); have Xb6 := Lib.hid (Xb5.out.fr g6 (fun e => by rcases e with e | e <;> omega)); have B6 := Lib.hid (Fr.upB B5.out g6 (fun i e => by rcases e with e | e <;> omega)); have TA6 := Lib.hid t6; have Rr26 := Lib.hid r6; have xb6_0 := Xb6.out.cell (i := 0) (v := .int .i64 5) rfl; have xb6_1 := Xb6.out.cell (i := 1) (v := .int .i64 6) rfl; clear t6 r6 f6 g6 tok3)
    | (go_at_call 18; have _t := tok4; refine (promise_S p m _ _ 5 6 (-1) TA6.out).mono ?_; rintro e w7 ⟨vr3, rfl, r7, t7, f7⟩; rw [P4.out]; rw [Q4.out] at t7; have g7 := f7.mono (S' := S2 p m) (fun i e => .inl e); have Xb7 := Lib.hid (Xb6.out.fr g7 (fun e => by rcases e with e | e <;> omega)); have B7 := Lib.hid (Fr.upB B6.out g7 (fun i e => by rcases e with e | e <;> omega)); have TA7 := Lib.hid t7; have Rr37 := Lib.hid r7; have xb7_0 := Xb7.out.cell (i := 0) (v := .int .i64 5) rfl; have xb7_1 := Xb7.out.cell (i := 1) (v := .int .i64 6) rfl; clear t7 r7 f7 g7 tok4)
    | (go_at_call 18; have _t := tok5; refine (promise_S p m _ _ 5 6 4096 TA7.out).mono ?_; rintro e w8 ⟨vr4, rfl, r8, t8, f8⟩; rw [P5.out]; rw [Q5.out] at t8; have g8 := f8.mono (S' := S2 p m) (fun i e => .inl e); have Xb8 := Lib.hid (Xb7.out.fr g8 (fun e => by rcases e with e | e <;> omega)); have B8 := Lib.hid (Fr.upB B7.out g8 (fun i e => by rcases e with e | e <;> omega)); have TA8 := Lib.hid t8; have Rr48 := Lib.hid r8; clear t8 r8 f8 g8 tok5)
    | (go_at_call 18; refine (promise_S p m _ _ 5 5 0 TA8.out).mono ?_; rintro e w9 ⟨vr5, rfl, r9, t9, f9⟩; rw [P6.out]; rw [Q6.out] at t9; have g9 := f9.mono (S' := S2 p m) (fun i e => .inl e); have Xb9 := Lib.hid (Xb8.out.fr g9 (fun e => by rcases e with e | e <;> omega)); have B9 := Lib.hid (Fr.upB B8.out g9 (fun i e => by rcases e with e | e <;> omega)); have TA9 := Lib.hid t9; have Rr59 := Lib.hid r9; clear t9 r9 f9 g9)
    | (go_at_call 20; have _t := tok6; refine (forget_S p m _ _ 2 TA9.out).mono ?_; rintro e w10 ⟨rfl, t10, f10⟩; rw [F1.out]; rw [G1.out] at t10; have Xb10 := Lib.hid (Xb9.out.fr f10 (fun e => by rcases e with e | e <;> omega)); have B10 := Lib.hid (Fr.upB B9.out f10 (fun i e => by rcases e with e | e <;> omega)); have TA10 := Lib.hid t10; clear t10 f10 tok6)
    | (go_at_call 20; refine (forget_S p m _ _ 1 TA10.out).mono ?_; rintro e w11 ⟨rfl, t11, f11⟩; rw [F2.out]; rw [G2.out] at t11; have Xb11 := Lib.hid (Xb10.out.fr f11 (fun e => by rcases e with e | e <;> omega)); have B11 := Lib.hid (Fr.upB B10.out f11 (fun i e => by rcases e with e | e <;> omega)); have TA11 := Lib.hid t11; clear t11 f11)
    | (go_at_call 17; refine (base_S p m _ _ TA11.out).mono ?_; rintro e w' ⟨rfl, rfl⟩; skip))
  have b4 := box_below w11 (.cells #[.int .i64 1, .int .i64 0] 30)
  have Xl12 := Lib.hid (Blk.new w11 30 #[.int .i64 1, .int .i64 0])
  have Xb12 := Lib.hid (Xb11.out.bel b4)
  have TA12 := Lib.hid (TA11.out.below b4)
  have B12 := Lib.hid (bchain B11.out b4)
  have hpj : p < w11.heap.size ∧ m < w11.heap.size := TA11.out.lt
  clear b4
  generalize (w11.alloc (.cells #[.int .i64 1, .int .i64 0] 30)) = w12 at *
  have yl0 := Xl12.out.cell (i := 0) (v := .int .i64 1) rfl
  have yl1 := Xl12.out.cell (i := 1) (v := .int .i64 0) rfl
  have yb0 := Xb12.out.cell (i := 0) (v := .int .i64 5) rfl
  have yb1 := Xb12.out.cell (i := 1) (v := .int .i64 6) rfl
  have tok7 : True := trivial
  have tok8 : True := trivial
  have tok9 : True := trivial
  have tok10 : True := trivial
  have tok11 : True := trivial
  have tok12 : True := trivial
  have tok13 : True := trivial
  have tok14 : True := trivial
  simp only [List.append_eq, List.cons_append, List.nil_append]
  go_region_held3 (fun W => W.cell? ⟨w2.heap.size, 0, none⟩ = some (.int .i64 5) ∧ W.cell? ⟨w2.heap.size, 1, none⟩ = some (.int .i64 6) ∧ W.cell? ⟨w11.heap.size, 0, none⟩ = some (.int .i64 1) ∧ W.cell? ⟨w11.heap.size, 1, none⟩ = some (.int .i64 0))
    (first | exact ⟨by assumption, by assumption, by assumption, by assumption⟩ | go_keep)
    (first
      | (go_at_call 19; have _t := tok7; refine (accept_S p m _ _ 1 0 4096 S TA12.out.drew).mono ?_; rintro e w13 ⟨rfl, t13, f13⟩; rw [A1.out]; rw [N1.out] at t13; have g13' := Fr.of_drew f13; have Xb13 := Lib.hid (Xb12.out.fr g13' (fun e => by rcases e with e | e <;> omega)); have Xl13 := Lib.hid (Xl12.out.fr g13' (fun e => by rcases e with e | e <;> omega)); have B13 := Lib.hid (Fr.upB B12.out g13' (fun i e => by rcases e with e | e <;> omega)); have TA13 := Lib.hid t13; have xb13_0 := Xb13.out.cell (i := 0) (v := .int .i64 5) rfl; have xb13_1 := Xb13.out.cell (i := 1) (v := .int .i64 6) rfl; have xl13_0 := Xl13.out.cell (i := 0) (v := .int .i64 1) rfl; have xl13_1 := Xl13.out.cell (i := 1) (v := .int .i64 0) rfl; clear t13 f13 g13' tok7)
      | (go_at_call 19; have _t := tok8; refine (accept_S p m _ _ 1 0 (-1) S TA13.out).mono ?_; rintro e w14 ⟨rfl, t14, f14⟩; rw [A2.out]; rw [N2.out] at t14; have Xb14 := Lib.hid (Xb13.out.fr f14 (fun e => by rcases e with e | e <;> omega)); have Xl14 := Lib.hid (Xl13.out.fr f14 (fun e => by rcases e with e | e <;> omega)); have B14 := Lib.hid (Fr.upB B13.out f14 (fun i e => by rcases e with e | e <;> omega)); have TA14 := Lib.hid t14; have xb14_0 := Xb14.out.cell (i := 0) (v := .int .i64 5) rfl; have xb14_1 := Xb14.out.cell (i := 1) (v := .int .i64 6) rfl; have xl14_0 := Xl14.out.cell (i := 0) (v := .int .i64 1) rfl; have xl14_1 := Xl14.out.cell (i := 1) (v := .int .i64 0) rfl; clear t14 f14 tok8)
      | (go_at_call 19; have _t := tok9; refine (accept_S p m _ _ 1 0 0 S TA14.out).mono ?_; rintro e w15 ⟨rfl, t15, f15⟩; rw [A3.out]; rw [N3.out] at t15; have Xb15 := Lib.hid (Xb14.out.fr f15 (fun e => by rcases e with e | e <;> omega)); have Xl15 := Lib.hid (Xl14.out.fr f15 (fun e => by rcases e with e | e <;> omega)); have B15 := Lib.hid (Fr.upB B14.out f15 (fun i e => by rcases e with e | e <;> omega)); have TA15 := Lib.hid t15; have xb15_0 := Xb15.out.cell (i := 0) (v := .int .i64 5) rfl; have xb15_1 := Xb15.out.cell (i := 1) (v := .int .i64 6) rfl; have xl15_0 := Xl15.out.cell (i := 0) (v := .int .i64 1) rfl; have xl15_1 := Xl15.out.cell (i := 1) (v := .int .i64 0) rfl; clear t15 f15 tok9)
      | (go_at_call 19; have _t := tok10; refine (accept_S p m _ _ 1 0 0 T TA15.out).mono ?_; rintro e w16 ⟨rfl, t16, f16⟩; rw [A4.out]; rw [N4.out] at t16; have Xb16 := Lib.hid (Xb15.out.fr f16 (fun e => by rcases e with e | e <;> omega)); have Xl16 := Lib.hid (Xl15.out.fr f16 (fun e => by rcases e with e | e <;> omega)); have B16 := Lib.hid (Fr.upB B15.out f16 (fun i e => by rcases e with e | e <;> omega)); have TA16 := Lib.hid t16; have xb16_0 := Xb16.out.cell (i := 0) (v := .int .i64 5) rfl; have xb16_1 := Xb16.out.cell (i := 1) (v := .int .i64 6) rfl; have xl16_0 := Xl16.out.cell (i := 0) (v := .int .i64 1) rfl; have xl16_1 := Xl16.out.cell (i := 1) (v := .int .i64 0) rfl; clear t16 f16 tok10)
      | (go_at_call 19; have _t := tok11; refine (accept_S p m _ _ 5 6 1 ⟨#[]⟩ TA16.out).mono ?_; rintro e w17 ⟨rfl, t17, f17⟩; rw [A5.out]; rw [N5.out] at t17; have Xb17 := Lib.hid (Xb16.out.fr f17 (fun e => by rcases e with e | e <;> omega)); have Xl17 := Lib.hid (Xl16.out.fr f17 (fun e => by rcases e with e | e <;> omega)); have B17 := Lib.hid (Fr.upB B16.out f17 (fun i e => by rcases e with e | e <;> omega)); have TA17 := Lib.hid t17; have xb17_0 := Xb17.out.cell (i := 0) (v := .int .i64 5) rfl; have xb17_1 := Xb17.out.cell (i := 1) (v := .int .i64 6) rfl; have xl17_0 := Xl17.out.cell (i := 0) (v := .int .i64 1) rfl; have xl17_1 := Xl17.out.cell (i := 1) (v := .int .i64 0) rfl; clear t17 f17 tok11)
      | (go_at_call 19; refine (accept_S p m _ _ 5 6 4095 T TA17.out).mono ?_; rintro e w18 ⟨rfl, t18, f18⟩; rw [A6.out]; rw [N6.out] at t18; have Xb18 := Lib.hid (Xb17.out.fr f18 (fun e => by rcases e with e | e <;> omega)); have Xl18 := Lib.hid (Xl17.out.fr f18 (fun e => by rcases e with e | e <;> omega)); have B18 := Lib.hid (Fr.upB B17.out f18 (fun i e => by rcases e with e | e <;> omega)); have TA18 := Lib.hid t18; have xb18_0 := Xb18.out.cell (i := 0) (v := .int .i64 5) rfl; have xb18_1 := Xb18.out.cell (i := 1) (v := .int .i64 6) rfl; have xl18_0 := Xl18.out.cell (i := 0) (v := .int .i64 1) rfl; have xl18_1 := Xl18.out.cell (i := 1) (v := .int .i64 0) rfl; clear t18 f18)
      | (go_at_call 16; have _t := tok12; refine (list_S p m _ _ 3 TA18.out).mono ?_; rintro e w19 ⟨vu, rfl, r19, bl19⟩; have r19 : EntRow w19 w18.heap.size vu ([(4095, (5, 6, T))]) := r19; obtain ⟨A19, k19, rfl, _, _⟩ := r19.view; have TA19 := Lib.hid (TA18.out.below bl19); have Xb19 := Lib.hid (Xb18.out.bel bl19); have Xl19 := Lib.hid (Xl18.out.bel bl19); have B19 := Lib.hid (bchain B18.out bl19); have Ru19 := Lib.hid r19; have xb19_0 := Xb19.out.cell (i := 0) (v := .int .i64 5) rfl; have xb19_1 := Xb19.out.cell (i := 1) (v := .int .i64 6) rfl; have xl19_0 := Xl19.out.cell (i := 0) (v := .int .i64 1) rfl; have xl19_1 := Xl19.out.cell (i := 1) (v := .int .i64 0) rfl; clear bl19 r19 tok12)
      | (go_at_call 20; have _t := tok13; refine (forget_S p m _ _ 4097 TA19.out).mono ?_; rintro e w20 ⟨rfl, t20, f20⟩; rw [F8.out]; rw [G8.out] at t20; have Xb20 := Lib.hid (Xb19.out.fr f20 (fun e => by rcases e with e | e <;> omega)); have Xl20 := Lib.hid (Xl19.out.fr f20 (fun e => by rcases e with e | e <;> omega)); have B20 := Lib.hid (Fr.upB B19.out f20 (fun i e => by rcases e with e | e <;> omega)); have TA20 := Lib.hid t20; have xb20_0 := Xb20.out.cell (i := 0) (v := .int .i64 5) rfl; have xb20_1 := Xb20.out.cell (i := 1) (v := .int .i64 6) rfl; have xl20_0 := Xl20.out.cell (i := 0) (v := .int .i64 1) rfl; have xl20_1 := Xl20.out.cell (i := 1) (v := .int .i64 0) rfl; clear t20 f20 tok13)
      | (go_at_call 20; have _t := tok14; refine (forget_S p m _ _ (-1) TA20.out).mono ?_; rintro e w21 ⟨rfl, t21, f21⟩; rw [F9.out]; rw [G9.out] at t21; have Xb21 := Lib.hid (Xb20.out.fr f21 (fun e => by rcases e with e | e <;> omega)); have Xl21 := Lib.hid (Xl20.out.fr f21 (fun e => by rcases e with e | e <;> omega)); have B21 := Lib.hid (Fr.upB B20.out f21 (fun i e => by rcases e with e | e <;> omega)); have TA21 := Lib.hid t21; have xb21_0 := Xb21.out.cell (i := 0) (v := .int .i64 5) rfl; have xb21_1 := Xb21.out.cell (i := 1) (v := .int .i64 6) rfl; have xl21_0 := Xl21.out.cell (i := 0) (v := .int .i64 1) rfl; have xl21_1 := Xl21.out.cell (i := 1) (v := .int .i64 0) rfl; clear t21 f21 tok14)
      | (go_at_call 20; refine (forget_S p m _ _ 4096 TA21.out).mono ?_; rintro e w22 ⟨rfl, t22, f22⟩; rw [F10.out]; rw [G10.out] at t22; have Xb22 := Lib.hid (Xb21.out.fr f22 (fun e => by rcases e with e | e <;> omega)); have Xl22 := Lib.hid (Xl21.out.fr f22 (fun e => by rcases e with e | e <;> omega)); have B22 := Lib.hid (Fr.upB B21.out f22 (fun i e => by rcases e with e | e <;> omega)); have TA22 := Lib.hid t22; have xb22_0 := Xb22.out.cell (i := 0) (v := .int .i64 5) rfl; have xb22_1 := Xb22.out.cell (i := 1) (v := .int .i64 6) rfl; have xl22_0 := Xl22.out.cell (i := 0) (v := .int .i64 1) rfl; have xl22_1 := Xl22.out.cell (i := 1) (v := .int .i64 0) rfl; clear t22 f22)
      | (go_at_call 16; refine (list_S p m _ _ (-1) TA22.out).mono ?_; rintro e w23 ⟨vz, rfl, r23, bl23⟩; have r23 : EntRow w23 w22.heap.size vz ([]) := r23; obtain ⟨A23, k23, rfl, _, _⟩ := r23.view; have TA23 := Lib.hid (TA22.out.below bl23); have Xb23 := Lib.hid (Xb22.out.bel bl23); have Xl23 := Lib.hid (Xl22.out.bel bl23); have B23 := Lib.hid (bchain B22.out bl23); have Rz23 := Lib.hid r23; have xb23_0 := Xb23.out.cell (i := 0) (v := .int .i64 5) rfl; have xb23_1 := Xb23.out.cell (i := 1) (v := .int .i64 6) rfl; have xl23_0 := Xl23.out.cell (i := 0) (v := .int .i64 1) rfl; have xl23_1 := Xl23.out.cell (i := 1) (v := .int .i64 0) rfl; clear bl23 r23)
      | (go_at_call 13; refine (works_any _).mono ?_; rintro e wk ⟨rfl, bk⟩; have BK := Lib.hid (bchain B23.out bk); have k0 := bcell bk xb23_0; have k1 := bcell bk xb23_1; have k2 := bcell bk xl23_0; have k3 := bcell bk xl23_1; clear bk))
  go_wp2_with fail
  go_returns
  exact ⟨rfl, BK.out⟩
end Go.Proofs.Ytnbiihnfggcakaa.acceptKnown
