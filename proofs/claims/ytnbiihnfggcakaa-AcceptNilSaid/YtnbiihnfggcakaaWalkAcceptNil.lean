/- The walk of skaldlaw12.AcceptNil: it returns true, and writes nothing that was there. -/
import Derived.Test.YtnbiihnfggcakaaAccN
import Derived.OpenShut
set_option linter.unusedVariables false
set_option linter.unusedSimpArgs false
namespace Go.Proofs.Ytnbiihnfggcakaa.acceptNil
open Go.RowKit Go.Shelf
set_option maxRecDepth 100000 in
set_option maxHeartbeats 4000000 in
theorem walk (s : Stp) (w : World) (hs : okStp s) :
    Calls Try.prog 6 #[.agg (stpCells s).toArray] w fun e w' => e = .returned (.bool true) ∧ Below w.heap.size w w' := by
  obtain ⟨a, r, d, k, v⟩ := s
  have hE := fun (a b c d : Int) (w : World) => eqBal a b c d w
  have hG := eqGBal
  have hE2 := fun (s a b : Int) (v : ByteArray) (t c d : Int) (u : ByteArray) (w : World) => eqEnt s a b v t c d u w
  have hG2 := eqGEnt
  have q6 : entEq (0, 0, 0, ⟨#[]⟩) (0, 0, 0, ⟨#[]⟩) = true := (entEq_iff _ _).2 rfl
  have xs := Blk.new w 36 #[.int .i64 a, .int .i64 r, .int .i64 d, .int .i64 k, .string v]
  have b0 := box_below w (.cells #[.int .i64 a, .int .i64 r, .int .i64 d, .int .i64 k, .string v] 36)
  have hsi : StepsIn ((w.alloc (.cells #[.int .i64 a, .int .i64 r, .int .i64 d, .int .i64 k, .string v] 36)).alloc (.cells #[.int .i64 a, .int .i64 r, .int .i64 d, .int .i64 k, .string v] 36)) (.slice (some ⟨w.heap.size + 1, 0, none⟩) 1 1) [(a, r, d, k, v)] := by
    have := stepsIn_lit (w.alloc (.cells #[.int .i64 a, .int .i64 r, .int .i64 d, .int .i64 k, .string v] 36)) (a, r, d, k, v) hs
    rwa [World.size_alloc] at this
  have b1 := bchain b0 (box_below (w.alloc (.cells #[.int .i64 a, .int .i64 r, .int .i64 d, .int .i64 k, .string v] 36)) (.cells #[.int .i64 a, .int .i64 r, .int .i64 d, .int .i64 k, .string v] 36))
  have xs1 := xs.alloc (.cells #[.int .i64 a, .int .i64 r, .int .i64 d, .int .i64 k, .string v] 36)
  have HSI := Lib.hid hsi
  have HB1 := Lib.hid b1
  have HX1 := Lib.hid xs1
  clear hs b0 xs hsi b1 xs1
  go_enter Try.func6, Try.ntmps6
  cases hss : shortB [(a, r, d, k, v)] with
  | false =>
    go_wp2_with (first
      | (go_at_call 12; refine (short_any _ [(a, r, d, k, v)] _ HSI.out).mono ?_; rintro e w' ⟨rfl, rfl⟩)
      | (go_at_call 13; refine (works_any _).mono ?_; rintro e wk ⟨rfl, bk⟩))
    go_returns
    exact ⟨rfl, bchain HB1.out bk⟩
  | true =>
    go_wp2_with (first
      | (go_at_call 12; refine (short_any _ [(a, r, d, k, v)] _ HSI.out).mono ?_; rintro e w' ⟨rfl, rfl⟩))
    have ha : Blk (((w.alloc (.cells #[.int .i64 a, .int .i64 r, .int .i64 d, .int .i64 k, .string v] 36)).alloc (.cells #[.int .i64 a, .int .i64 r, .int .i64 d, .int .i64 k, .string v] 36)).alloc (.cells #[.int .i64 0, .int .i64 0, .int .i64 0, .map none, .int .i64 0] 56)) (w.heap.size + 1 + 1) 56 #[.int .i64 0, .int .i64 0, .int .i64 0, .map none, .int .i64 0] := by
      have := Blk.new ((w.alloc (.cells #[.int .i64 a, .int .i64 r, .int .i64 d, .int .i64 k, .string v] 36)).alloc (.cells #[.int .i64 a, .int .i64 r, .int .i64 d, .int .i64 k, .string v] 36)) 56 #[.int .i64 0, .int .i64 0, .int .i64 0, .map none, .int .i64 0]
      rwa [World.size_alloc, World.size_alloc] at this
    have hp : Blk ((((w.alloc (.cells #[.int .i64 a, .int .i64 r, .int .i64 d, .int .i64 k, .string v] 36)).alloc (.cells #[.int .i64 a, .int .i64 r, .int .i64 d, .int .i64 k, .string v] 36)).alloc (.cells #[.int .i64 0, .int .i64 0, .int .i64 0, .map none, .int .i64 0] 56)).alloc (.cells #[.pointer none, .pointer (some ⟨w.heap.size + 1 + 1, 0, none⟩)] 25)) (w.heap.size + 1 + 1 + 1) 25 #[.pointer none, .pointer (some ⟨w.heap.size + 1 + 1, 0, none⟩)] := by
      have := Blk.new (((w.alloc (.cells #[.int .i64 a, .int .i64 r, .int .i64 d, .int .i64 k, .string v] 36)).alloc (.cells #[.int .i64 a, .int .i64 r, .int .i64 d, .int .i64 k, .string v] 36)).alloc (.cells #[.int .i64 0, .int .i64 0, .int .i64 0, .map none, .int .i64 0] 56)) 25 #[.pointer none, .pointer (some ⟨w.heap.size + 1 + 1, 0, none⟩)]
      rwa [World.size_alloc, World.size_alloc, World.size_alloc] at this
    have ha2 := ha.alloc (.cells #[.pointer none, .pointer (some ⟨w.heap.size + 1 + 1, 0, none⟩)] 25)
    have hx2 := (HX1.out.alloc (.cells #[.int .i64 0, .int .i64 0, .int .i64 0, .map none, .int .i64 0] 56)).alloc (.cells #[.pointer none, .pointer (some ⟨w.heap.size + 1 + 1, 0, none⟩)] 25)
    have hb2 := bchain (bchain HB1.out (box_below _ (.cells #[.int .i64 0, .int .i64 0, .int .i64 0, .map none, .int .i64 0] 56))) (box_below _ (.cells #[.pointer none, .pointer (some ⟨w.heap.size + 1 + 1, 0, none⟩)] 25))
    clear ha
    generalize ((((w.alloc (.cells #[.int .i64 a, .int .i64 r, .int .i64 d, .int .i64 k, .string v] 36)).alloc (.cells #[.int .i64 a, .int .i64 r, .int .i64 d, .int .i64 k, .string v] 36)).alloc (.cells #[.int .i64 0, .int .i64 0, .int .i64 0, .map none, .int .i64 0] 56)).alloc (.cells #[.pointer none, .pointer (some ⟨w.heap.size + 1 + 1, 0, none⟩)] 25)) = w4 at *
    obtain ⟨g, hg⟩ : ∃ g, g = w.heap.size := ⟨_, rfl⟩
    rw [← hg] at ha2 hp hx2 ⊢
    have HA4 := Lib.hid ha2
    have HP4 := Lib.hid hp
    have HX4 := Lib.hid hx2
    have HB4 := Lib.hid hb2
    have HP : Hid (BadAcc w4 (.pointer (some ⟨g + 1 + 1, 0, none⟩))) := .inr ⟨_, rfl, ha2.cell rfl⟩
    clear ha2 hp hx2 hb2 hg
    go_loopw [5] (fun c wr => ∃ i : Nat, i ≤ 2 ∧ c = .int .i64 i ∧ Below w4.heap.size w4 wr) (fun c _ => 2 - (intOf c).toNat)
    case atStart => exact ⟨0, by omega, rfl, Below.refl _ _⟩
    case round =>
      obtain ⟨i, hi, rfl, hB⟩ := hrel
      have HX0 := Lib.hid (HX4.out.bel hB)
      have HB0 := Lib.hid hB
      have l0 := (HP4.out.bel hB).cell (i := 0) (v := .pointer none) rfl
      have l1 := (HP4.out.bel hB).cell (i := 1) (v := .pointer (some ⟨g + 1 + 1, 0, none⟩)) rfl
      have y01 := HX0.out.cell (i := 1) (v := .int .i64 r) rfl
      have y02 := HX0.out.cell (i := 2) (v := .int .i64 d) rfl
      have y03 := HX0.out.cell (i := 3) (v := .int .i64 k) rfl
      have y04 := HX0.out.cell (i := 4) (v := .string v) rfl
      by_cases e2 : i = 2
      · subst e2
        go_wp2_with (first
          | (go_at_call 13; refine (works_any _).mono ?_; rintro e wk ⟨rfl, bk⟩))
        go_returns
        exact ⟨rfl, bchain (HB4.out.trans (hB.mono (bchainSz HB4.out))) bk⟩
      by_cases e1 : i = 1
      · subst e1
        have HV0 := Lib.hid (show BadAcc wr (.pointer (some ⟨g + 1 + 1, 0, none⟩)) from HP.out.below hB)
        go_wp2_with (first
          | (go_at_call 18; refine (nil_promise _ r d k _ HV0.out).mono ?_; rintro e x1 ⟨rfl, c1⟩; have HX1 := Lib.hid (HX0.out.bel c1); have HV1 := Lib.hid (HV0.out.below c1); have HB1 := Lib.hid (HB0.out.trans (c1.mono (bchainSz HB0.out))); have y11 := HX1.out.cell (i := 1) (v := .int .i64 r) rfl; have y12 := HX1.out.cell (i := 2) (v := .int .i64 d) rfl; have y13 := HX1.out.cell (i := 3) (v := .int .i64 k) rfl; have y14 := HX1.out.cell (i := 4) (v := .string v) rfl; clear c1)
          | (go_at_call 22; refine (nil_accepted _ k _ HV1.out).mono ?_; rintro e x2 ⟨rfl, c2⟩; have c2' := bchain c2 (box_below x2 (.cells #[.int .i64 0, .int .i64 0, .int .i64 0, .string ⟨#[]⟩] 43)); have HE2 := Lib.hid (Blk.new x2 43 #[.int .i64 0, .int .i64 0, .int .i64 0, .string ⟨#[]⟩]); have HX2 := Lib.hid (HX1.out.bel c2'); have HV2 := Lib.hid (HV1.out.below c2'); have HB2 := Lib.hid (HB1.out.trans (c2'.mono (bchainSz HB1.out))); have y21 := HX2.out.cell (i := 1) (v := .int .i64 r) rfl; have y22 := HX2.out.cell (i := 2) (v := .int .i64 d) rfl; have y23 := HX2.out.cell (i := 3) (v := .int .i64 k) rfl; have y24 := HX2.out.cell (i := 4) (v := .string v) rfl; clear c2 c2')
          | (go_at_call 19; refine (nil_accept _ r d k v _ HV2.out).mono ?_; rintro e x3 ⟨rfl, c3⟩; have HX3 := Lib.hid (HX2.out.bel c3); have HV3 := Lib.hid (HV2.out.below c3); have HB3 := Lib.hid (HB2.out.trans (c3.mono (bchainSz HB2.out))); have y31 := HX3.out.cell (i := 1) (v := .int .i64 r) rfl; have y32 := HX3.out.cell (i := 2) (v := .int .i64 d) rfl; have y33 := HX3.out.cell (i := 3) (v := .int .i64 k) rfl; have y34 := HX3.out.cell (i := 4) (v := .string v) rfl; have HE3 := Lib.hid (HE2.out.bel c3); have n30 := HE3.out.cell (i := 0) (v := .int .i64 0) rfl; have n31 := HE3.out.cell (i := 1) (v := .int .i64 0) rfl; have n32 := HE3.out.cell (i := 2) (v := .int .i64 0) rfl; have n33 := HE3.out.cell (i := 3) (v := .string ⟨#[]⟩) rfl; clear c3)
          | (go_at_call 15; refine (nil_promised _ _ HV3.out).mono ?_; rintro e x4 ⟨rfl, c4⟩; have HX4 := Lib.hid (HX3.out.bel c4); have HV4 := Lib.hid (HV3.out.below c4); have HB4 := Lib.hid (HB3.out.trans (c4.mono (bchainSz HB3.out))); have y41 := HX4.out.cell (i := 1) (v := .int .i64 r) rfl; have y42 := HX4.out.cell (i := 2) (v := .int .i64 d) rfl; have y43 := HX4.out.cell (i := 3) (v := .int .i64 k) rfl; have y44 := HX4.out.cell (i := 4) (v := .string v) rfl; have HE4 := Lib.hid (HE3.out.bel c4); have n40 := HE4.out.cell (i := 0) (v := .int .i64 0) rfl; have n41 := HE4.out.cell (i := 1) (v := .int .i64 0) rfl; have n42 := HE4.out.cell (i := 2) (v := .int .i64 0) rfl; have n43 := HE4.out.cell (i := 3) (v := .string ⟨#[]⟩) rfl; clear c4)
          | (go_at_call 16; refine (nil_list _ k _ HV4.out).mono ?_; rintro e x5 ⟨rfl, c5⟩; have HX5 := Lib.hid (HX4.out.bel c5); have HV5 := Lib.hid (HV4.out.below c5); have HB5 := Lib.hid (HB4.out.trans (c5.mono (bchainSz HB4.out))); have y51 := HX5.out.cell (i := 1) (v := .int .i64 r) rfl; have y52 := HX5.out.cell (i := 2) (v := .int .i64 d) rfl; have y53 := HX5.out.cell (i := 3) (v := .int .i64 k) rfl; have y54 := HX5.out.cell (i := 4) (v := .string v) rfl; have HE5 := Lib.hid (HE4.out.bel c5); have n50 := HE5.out.cell (i := 0) (v := .int .i64 0) rfl; have n51 := HE5.out.cell (i := 1) (v := .int .i64 0) rfl; have n52 := HE5.out.cell (i := 2) (v := .int .i64 0) rfl; have n53 := HE5.out.cell (i := 3) (v := .string ⟨#[]⟩) rfl; clear c5)
          | (go_at_call 20; refine (nil_forget _ k _ HV5.out).mono ?_; rintro e x6 ⟨rfl, c6⟩; have HX6 := Lib.hid (HX5.out.bel c6); have HV6 := Lib.hid (HV5.out.below c6); have HB6 := Lib.hid (HB5.out.trans (c6.mono (bchainSz HB5.out))); have y61 := HX6.out.cell (i := 1) (v := .int .i64 r) rfl; have y62 := HX6.out.cell (i := 2) (v := .int .i64 d) rfl; have y63 := HX6.out.cell (i := 3) (v := .int .i64 k) rfl; have y64 := HX6.out.cell (i := 4) (v := .string v) rfl; have HE6 := Lib.hid (HE5.out.bel c6); have n60 := HE6.out.cell (i := 0) (v := .int .i64 0) rfl; have n61 := HE6.out.cell (i := 1) (v := .int .i64 0) rfl; have n62 := HE6.out.cell (i := 2) (v := .int .i64 0) rfl; have n63 := HE6.out.cell (i := 3) (v := .string ⟨#[]⟩) rfl; clear c6)
          | (go_at_call 17; refine (nil_base _ _ HV6.out).mono ?_; rintro e w' ⟨rfl, rfl⟩)
          | (go_at_call 28; refine (nil_copy _ _ HV6.out).mono ?_; rintro e x7 ⟨rfl, c7⟩; have HX7 := Lib.hid (HX6.out.bel c7); have HV7 := Lib.hid (HV6.out.below c7); have HB7 := Lib.hid (HB6.out.trans (c7.mono (bchainSz HB6.out))); have y71 := HX7.out.cell (i := 1) (v := .int .i64 r) rfl; have y72 := HX7.out.cell (i := 2) (v := .int .i64 d) rfl; have y73 := HX7.out.cell (i := 3) (v := .int .i64 k) rfl; have y74 := HX7.out.cell (i := 4) (v := .string v) rfl; have HE7 := Lib.hid (HE6.out.bel c7); have n70 := HE7.out.cell (i := 0) (v := .int .i64 0) rfl; have n71 := HE7.out.cell (i := 1) (v := .int .i64 0) rfl; have n72 := HE7.out.cell (i := 2) (v := .int .i64 0) rfl; have n73 := HE7.out.cell (i := 3) (v := .string ⟨#[]⟩) rfl; clear c7))
        go_roundw
        case rel => exact ⟨2, by omega, by go_num, HB7.out⟩
        case measure => simp [intOf]
      have e0 : i = 0 := by omega
      subst e0
      have HV0 := Lib.hid (show BadAcc wr (.pointer none) from .inl rfl)
      go_wp2_with (first
        | (go_at_call 18; refine (nil_promise _ r d k _ HV0.out).mono ?_; rintro e x1 ⟨rfl, c1⟩; have HX1 := Lib.hid (HX0.out.bel c1); have HV1 := Lib.hid (HV0.out.below c1); have HB1 := Lib.hid (HB0.out.trans (c1.mono (bchainSz HB0.out))); have y11 := HX1.out.cell (i := 1) (v := .int .i64 r) rfl; have y12 := HX1.out.cell (i := 2) (v := .int .i64 d) rfl; have y13 := HX1.out.cell (i := 3) (v := .int .i64 k) rfl; have y14 := HX1.out.cell (i := 4) (v := .string v) rfl; clear c1)
        | (go_at_call 22; refine (nil_accepted _ k _ HV1.out).mono ?_; rintro e x2 ⟨rfl, c2⟩; have c2' := bchain c2 (box_below x2 (.cells #[.int .i64 0, .int .i64 0, .int .i64 0, .string ⟨#[]⟩] 43)); have HE2 := Lib.hid (Blk.new x2 43 #[.int .i64 0, .int .i64 0, .int .i64 0, .string ⟨#[]⟩]); have HX2 := Lib.hid (HX1.out.bel c2'); have HV2 := Lib.hid (HV1.out.below c2'); have HB2 := Lib.hid (HB1.out.trans (c2'.mono (bchainSz HB1.out))); have y21 := HX2.out.cell (i := 1) (v := .int .i64 r) rfl; have y22 := HX2.out.cell (i := 2) (v := .int .i64 d) rfl; have y23 := HX2.out.cell (i := 3) (v := .int .i64 k) rfl; have y24 := HX2.out.cell (i := 4) (v := .string v) rfl; clear c2 c2')
        | (go_at_call 19; refine (nil_accept _ r d k v _ HV2.out).mono ?_; rintro e x3 ⟨rfl, c3⟩; have HX3 := Lib.hid (HX2.out.bel c3); have HV3 := Lib.hid (HV2.out.below c3); have HB3 := Lib.hid (HB2.out.trans (c3.mono (bchainSz HB2.out))); have y31 := HX3.out.cell (i := 1) (v := .int .i64 r) rfl; have y32 := HX3.out.cell (i := 2) (v := .int .i64 d) rfl; have y33 := HX3.out.cell (i := 3) (v := .int .i64 k) rfl; have y34 := HX3.out.cell (i := 4) (v := .string v) rfl; have HE3 := Lib.hid (HE2.out.bel c3); have n30 := HE3.out.cell (i := 0) (v := .int .i64 0) rfl; have n31 := HE3.out.cell (i := 1) (v := .int .i64 0) rfl; have n32 := HE3.out.cell (i := 2) (v := .int .i64 0) rfl; have n33 := HE3.out.cell (i := 3) (v := .string ⟨#[]⟩) rfl; clear c3)
        | (go_at_call 15; refine (nil_promised _ _ HV3.out).mono ?_; rintro e x4 ⟨rfl, c4⟩; have HX4 := Lib.hid (HX3.out.bel c4); have HV4 := Lib.hid (HV3.out.below c4); have HB4 := Lib.hid (HB3.out.trans (c4.mono (bchainSz HB3.out))); have y41 := HX4.out.cell (i := 1) (v := .int .i64 r) rfl; have y42 := HX4.out.cell (i := 2) (v := .int .i64 d) rfl; have y43 := HX4.out.cell (i := 3) (v := .int .i64 k) rfl; have y44 := HX4.out.cell (i := 4) (v := .string v) rfl; have HE4 := Lib.hid (HE3.out.bel c4); have n40 := HE4.out.cell (i := 0) (v := .int .i64 0) rfl; have n41 := HE4.out.cell (i := 1) (v := .int .i64 0) rfl; have n42 := HE4.out.cell (i := 2) (v := .int .i64 0) rfl; have n43 := HE4.out.cell (i := 3) (v := .string ⟨#[]⟩) rfl; clear c4)
        | (go_at_call 16; refine (nil_list _ k _ HV4.out).mono ?_; rintro e x5 ⟨rfl, c5⟩; have HX5 := Lib.hid (HX4.out.bel c5); have HV5 := Lib.hid (HV4.out.below c5); have HB5 := Lib.hid (HB4.out.trans (c5.mono (bchainSz HB4.out))); have y51 := HX5.out.cell (i := 1) (v := .int .i64 r) rfl; have y52 := HX5.out.cell (i := 2) (v := .int .i64 d) rfl; have y53 := HX5.out.cell (i := 3) (v := .int .i64 k) rfl; have y54 := HX5.out.cell (i := 4) (v := .string v) rfl; have HE5 := Lib.hid (HE4.out.bel c5); have n50 := HE5.out.cell (i := 0) (v := .int .i64 0) rfl; have n51 := HE5.out.cell (i := 1) (v := .int .i64 0) rfl; have n52 := HE5.out.cell (i := 2) (v := .int .i64 0) rfl; have n53 := HE5.out.cell (i := 3) (v := .string ⟨#[]⟩) rfl; clear c5)
        | (go_at_call 20; refine (nil_forget _ k _ HV5.out).mono ?_; rintro e x6 ⟨rfl, c6⟩; have HX6 := Lib.hid (HX5.out.bel c6); have HV6 := Lib.hid (HV5.out.below c6); have HB6 := Lib.hid (HB5.out.trans (c6.mono (bchainSz HB5.out))); have y61 := HX6.out.cell (i := 1) (v := .int .i64 r) rfl; have y62 := HX6.out.cell (i := 2) (v := .int .i64 d) rfl; have y63 := HX6.out.cell (i := 3) (v := .int .i64 k) rfl; have y64 := HX6.out.cell (i := 4) (v := .string v) rfl; have HE6 := Lib.hid (HE5.out.bel c6); have n60 := HE6.out.cell (i := 0) (v := .int .i64 0) rfl; have n61 := HE6.out.cell (i := 1) (v := .int .i64 0) rfl; have n62 := HE6.out.cell (i := 2) (v := .int .i64 0) rfl; have n63 := HE6.out.cell (i := 3) (v := .string ⟨#[]⟩) rfl; clear c6)
        | (go_at_call 17; refine (nil_base _ _ HV6.out).mono ?_; rintro e w' ⟨rfl, rfl⟩)
        | (go_at_call 28; refine (nil_copy _ _ HV6.out).mono ?_; rintro e x7 ⟨rfl, c7⟩; have HX7 := Lib.hid (HX6.out.bel c7); have HV7 := Lib.hid (HV6.out.below c7); have HB7 := Lib.hid (HB6.out.trans (c7.mono (bchainSz HB6.out))); have y71 := HX7.out.cell (i := 1) (v := .int .i64 r) rfl; have y72 := HX7.out.cell (i := 2) (v := .int .i64 d) rfl; have y73 := HX7.out.cell (i := 3) (v := .int .i64 k) rfl; have y74 := HX7.out.cell (i := 4) (v := .string v) rfl; have HE7 := Lib.hid (HE6.out.bel c7); have n70 := HE7.out.cell (i := 0) (v := .int .i64 0) rfl; have n71 := HE7.out.cell (i := 1) (v := .int .i64 0) rfl; have n72 := HE7.out.cell (i := 2) (v := .int .i64 0) rfl; have n73 := HE7.out.cell (i := 3) (v := .string ⟨#[]⟩) rfl; clear c7))
      go_roundw
      case rel => exact ⟨1, by omega, by go_num, HB7.out⟩
      case measure => simp [intOf]
end Go.Proofs.Ytnbiihnfggcakaa.acceptNil
