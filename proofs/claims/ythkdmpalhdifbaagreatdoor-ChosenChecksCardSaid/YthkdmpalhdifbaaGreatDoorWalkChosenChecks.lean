/- The walk of skaldlaw25.ChosenChecks: it returns true, and writes nothing that was there. -/
import Derived.Test.YthkdmpalhdifbaaGreatDoorRefJ
import Derived.Test.YthkdmpalhdifbaaGreatDoorChoX
import Derived.OpenShut
import Derived.Deep.DeepCutAuto
import Derived.Deep.CutBlock
import Derived.Deep.LoopGhost
import Derived.Deep.RegionHeld3
set_option linter.unusedVariables false
set_option linter.unusedSimpArgs false
namespace Go.Proofs.YthkdmpalhdifbaaGreatDoor.chosenChecks
open Go.RowKit Go.Shelf
set_option maxRecDepth 100000 in
set_option maxHeartbeats 4000000 in
theorem walk (v0 : Value) (L : List Vt) (n : Int) (s : Int) (W : World) (w0 : VotesIn W v0 L ∧ ∀ x ∈ L, okVt x) (w1 : (Lit.int .i64 n).wf = true) (w2 : (Lit.int .i64 s).wf = true) (ht : TabP W) :
    Calls Tryz.prog 4 #[v0, .int .i64 n, .int .i64 s] W fun e w' => e = .returned (.bool true) ∧ Below W.heap.size W w' := by
  have HV := Lib.hid w0.1
  have HSZ : Hid (∀ x ∈ L, x.v.size ≤ maxLen) := fun x hx => (w0.2 x hx).2.2.2.2
  have hw := @works_any
  have HW := Lib.hid hw
  clear w0 w1 w2 ht hw
  go_enter Tryz.func4, Tryz.ntmps4
  go_upto_region 1 with fail
  go_cut [31] (fun c wx => ∃ q, c = .bool q ∧ (q = false → L.length ≤ 60) ∧ Below W.heap.size W wx)
  case first =>
    go_wp2_with (go_at_call 7; refine (few_any v0 L _ HV.out HSZ.out).mono ?_; rintro e w2 ⟨q, rfl, hq, b2⟩; have HQ := Lib.hid hq; have B2 := Lib.hid b2; clear hq b2; cases q)
    · go_meet
      exact ⟨true, rfl, (fun h => by cases h), B2.out⟩
    · go_meet
      exact ⟨false, rfl, fun _ => (by first | exact HQ.out rfl | exact HQ.out trivial), B2.out⟩
  case rest =>
  obtain ⟨q, rfl, hq, hb⟩ := hcut
  obtain ⟨w2, rfl⟩ : ∃ w2 : World, w2 = wc := ⟨_, rfl⟩
  have B2 := Lib.hid hb
  have V2 := Lib.hid (HV.out.below hb)
  have HQ := Lib.hid hq
  clear hb hq HV
  cases q with
  | true =>
    go_wp2_with (go_at_call 8; refine (HW.out _).mono ?_; rintro e w6 ⟨rfl, b6⟩; have B6 := Lib.hid (bchain B2.out b6); clear b6)
    go_returns
    exact ⟨rfl, B6.out⟩
  | false =>
    have hl : L.length ≤ 1000 := by have := HQ.out rfl; omega
    go_upto_region 4 with (first
      | (go_at_call 14; refine (clone_any v0 L _ V2.out hl).mono ?_; rintro e w3 ⟨vg, rfl, h3, b3⟩; have G3 := Lib.hid (VotesIn.of_row h3); have B3 := Lib.hid (bchain B2.out b3); have V3 := Lib.hid (V2.out.below b3); clear h3 b3)
      | (go_at_call 9; refine (turned_any v0 L _ V3.out hl).mono ?_; rintro e w4 ⟨vr, rfl, h4, b4⟩; have R4 := Lib.hid h4; have B4 := Lib.hid (bchain B3.out b4); have V4 := Lib.hid (V3.out.below b4); have G4 := Lib.hid (G3.out.below b4); clear h4 b4))
    obtain ⟨ci, ce, c1, c2⟩ := chk_both n vg vr L hl
    obtain ⟨hv, hq, he, h1, h2⟩ := cho_both n vg vr L s hl
    obtain ⟨AR, ae, a1, a2⟩ := all_both n vg vr L hl
    obtain ⟨gq, gi, ge, g1, g2⟩ := agr_both n vg vr L hl
    have C1 := Lib.hid c1
    have C2 := Lib.hid c2
    have H1 := Lib.hid h1
    have H2 := Lib.hid h2
    have A1 := Lib.hid a1
    have A2 := Lib.hid a2
    have G1 := Lib.hid g1
    have G2 := Lib.hid g2
    clear c1 c2 h1 h2 a1 a2 g1 g2 V2 B2 V3 B3 G3
    go_upto_region 12 with (first
      | (go_at_call 15; refine (C1.out _ G4.out).mono ?_; rintro e w5 ⟨rfl, b5⟩; have B5 := Lib.hid (bchain B4.out b5); have V5 := Lib.hid (V4.out.below b5); have G5 := Lib.hid (G4.out.below b5); have R5 := Lib.hid (R4.out.below b5); clear b5 B4 V4 G4 R4)
      | (go_at_call 16; refine (C2.out _ R5.out).mono ?_; rintro e w6 ⟨rfl, b6⟩; have B6 := Lib.hid (bchain B5.out b6); have V6 := Lib.hid (V5.out.below b6); have G6 := Lib.hid (G5.out.below b6); have R6 := Lib.hid (R5.out.below b6); clear b6 B5 V5 G5 R5)
      | (go_at_call 17; refine (H1.out _ G6.out).mono ?_; rintro e w7 ⟨rfl, b7⟩; have B7 := Lib.hid (bchain B6.out b7); have V7 := Lib.hid (V6.out.below b7); have G7 := Lib.hid (G6.out.below b7); have R7 := Lib.hid (R6.out.below b7); clear b7 B6 V6 G6 R6)
      | (go_at_call 18; refine (H2.out _ R7.out).mono ?_; rintro e w8 ⟨rfl, b8⟩; have B8 := Lib.hid (bchain B7.out b8); have V8 := Lib.hid (V7.out.below b8); have G8 := Lib.hid (G7.out.below b8); have R8 := Lib.hid (R7.out.below b8); clear b8 B7 V7 G7 R7)
      | (go_at_call 19; refine (A1.out _ G8.out).mono ?_; rintro e w9 ⟨vx, rfl, x9, b9⟩; have X9 := Lib.hid x9; have B9 := Lib.hid (bchain B8.out b9); have V9 := Lib.hid (V8.out.below b9); have G9 := Lib.hid (G8.out.below b9); have R9 := Lib.hid (R8.out.below b9); clear b9 x9 B8 V8 G8 R8)
      | (go_at_call 20; refine (A2.out _ R9.out).mono ?_; rintro e w10 ⟨vy, rfl, y10, b10⟩; have Y10 := Lib.hid y10; have X10 := Lib.hid (X9.out.below b10); have B10 := Lib.hid (bchain B9.out b10); have V10 := Lib.hid (V9.out.below b10); have G10 := Lib.hid (G9.out.below b10); have R10 := Lib.hid (R9.out.below b10); clear b10 y10 B9 V9 G9 R9 X9)
      | (go_at_call 21; refine (G1.out _ G10.out).mono ?_; rintro e w11 ⟨rfl, b11⟩; have Y11 := Lib.hid (Y10.out.below b11); have X11 := Lib.hid (X10.out.below b11); have B11 := Lib.hid (bchain B10.out b11); have V11 := Lib.hid (V10.out.below b11); have G11 := Lib.hid (G10.out.below b11); have R11 := Lib.hid (R10.out.below b11); clear b11 B10 V10 G10 R10 X10 Y10)
      | (go_at_call 22; refine (G2.out _ R11.out).mono ?_; rintro e w12 ⟨rfl, b12⟩; have Y12 := Lib.hid (Y11.out.below b12); have X12 := Lib.hid (X11.out.below b12); have B12 := Lib.hid (bchain B11.out b12); have V12 := Lib.hid (V11.out.below b12); have G12 := Lib.hid (G11.out.below b12); clear b12 B11 V11 G11 R11 X11 Y11))
    go_wp2_with (first
      | (go_at_call 23; refine (equalEn_yes _ _ AR _ X12.out Y12.out).mono ?_; rintro e w13 ⟨rfl, b13⟩; have B13 := Lib.hid (bchain B12.out b13); have V13 := Lib.hid (V12.out.below b13); have G13 := Lib.hid (G12.out.below b13); clear b13)
      | (go_at_call 24; refine (equalVt_yes _ _ L _ G13.out V13.out).mono ?_; rintro e w14 ⟨rfl, b14⟩; have B14 := Lib.hid (bchain B13.out b14); clear b14)
      | (go_at_call 8; refine (HW.out _).mono ?_; rintro e w15 ⟨rfl, b15⟩; have B15 := Lib.hid (bchain B14.out b15); clear b15))
    go_returns
    exact ⟨rfl, B15.out⟩
end Go.Proofs.YthkdmpalhdifbaaGreatDoor.chosenChecks
