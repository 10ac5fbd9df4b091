/- The walk of skaldlaw25.ChosenSafes: it returns true, and writes nothing that was there. -/
import Derived.Test.YthkdmpalhdifbaaGreatDoorRefB
import Derived.Test.YthkdmpalhdifbaaGreatDoorChoX
import Derived.Test.YthkdmpalhdifbaaGreatDoorEqBal
import Derived.OpenShut
import Derived.Deep.DeepCutAuto
import Derived.Deep.CutBlock
import Derived.Deep.LoopGhost
import Derived.Deep.RegionHeld3
set_option linter.unusedVariables false
set_option linter.unusedSimpArgs false
namespace Go.Proofs.YthkdmpalhdifbaaGreatDoor.chosenSafes
open Go.RowKit Go.Shelf

theorem eqRv (a1 a2 a3 a4 : Int) (a5 : ByteArray) (w : World) : (Op.equalIn 10000 38 (.agg #[.int .i64 a1, .int .i64 a2, .int .i64 a3, .int .i64 a4, .string a5]) (.agg #[.int .i64 a1, .int .i64 a2, .int .i64 a3, .int .i64 a4, .string a5])).run Tryz.prog w = .ok true w := by
  have u3 := Tryz.underlying3
  have a3' := Tryz.isAgg3
  have z3 := Tryz.sizeOf3
  have u9 := Tryz.underlying9
  have a9 := Tryz.isAgg9
  have z9 := Tryz.sizeOf9
  have a23 := Tryz.isAgg24
  have z23 := Tryz.sizeOf24
  have hS : Tryz.prog.underlying 38 = some (.struct (Tryz.prog.fieldsOf 38)) := by kernel_rfl
  have hp : Tryz.prog.stoodInHeld 38 = false := by kernel_rfl
  have hE := fun w => eqBalN 9997 a2 a3 a2 a3 w
  rw [show (10000 : Nat) = 9999 + 1 from rfl, run_equalIn_agg w 9999 38 _ _ hS hp]
  simp only [Program.fieldsOf, Tryz.underlying38]
  go_simp
theorem eqGRv : Tryz.prog.eqGuardType Tryz.prog.depth 38 = false := by kernel_rfl

set_option maxRecDepth 100000 in
set_option maxHeartbeats 4000000 in
theorem walk (v0 : Value) (L : List Vt) (n : Int) (b : Int × Int) (s : Int) (val : ByteArray) (Q : Int) (W : World) (w0 : VotesIn W v0 L ∧ ∀ x ∈ L, okVt x) (w1 : (Lit.int .i64 n).wf = true) (w2 : in64 b.1 ∧ in64 b.2) (w3 : (Lit.int .i64 s).wf = true) (w4 : val.size ≤ maxLen) (w5 : (Lit.int .u64 Q).wf = true) (ht : TabP W) :
    Calls Tryz.prog 3 #[v0, .int .i64 n, .agg #[.int .i64 b.1, .int .i64 b.2], .int .i64 s, .string val, .int .u64 Q] W fun e w' => e = .returned (.bool true) ∧ Below W.heap.size W w' := by
  obtain ⟨r, d⟩ := b
  obtain ⟨Q, rfl⟩ : ∃ q : Nat, Q = (q : Int) := by
    simp [Lit.wf, IntKind.min, IntKind.max, IntKind.signed, IntKind.bits] at w5
    exact ⟨Q.toNat, by omega⟩
  have hb := box_below W (.cells #[.int .i64 r, .int .i64 d] 24)
  have kb := Blk.new W 24 #[.int .i64 r, .int .i64 d]
  have HB := Lib.hid hb
  have KB := Lib.hid kb
  have HV := Lib.hid (w0.1.below hb)
  have HSZ : Hid (∀ x ∈ L, x.v.size ≤ maxLen) := fun x hx => (w0.2 x hx).2.2.2.2
  have hvs : val.size ≤ 9223372036854775807 := by unfold maxLen at w4; exact w4
  have hw := @works_any
  have HW := Lib.hid hw
  clear hb kb w0 w1 w2 w3 w4 w5 ht hw
  simp only
  go_enter Tryz.func3, Tryz.ntmps3
  go_upto_region 1 with fail
  generalize (W.alloc (.cells #[.int .i64 r, .int .i64 d] 24)) = W1 at *
  obtain ⟨bb, hbb⟩ : ∃ bb, bb = W.heap.size := ⟨_, rfl⟩
  rw [← hbb] at KB ⊢
  clear hbb
  go_cut [31] (fun c wx => ∃ q, c = .bool q ∧ (q = false → L.length ≤ 60) ∧ Below W1.heap.size W1 wx)
  case first =>
    by_cases hv : 1000 < val.size
    · have hv1 : decide (1000 < val.size) = true := decide_eq_true hv
      have hv2 : decide ((val.size : Int) > 1000) = true := by rw [decide_eq_true_eq]; omega
      clear hv
      go_wp2_with (go_at_call 7; refine (few_any v0 L _ HV.out HSZ.out).mono ?_; rintro e w2 ⟨q, rfl, hq, b2⟩; have HQ := Lib.hid hq; have B2 := Lib.hid b2; clear hq b2; cases q)
      all_goals
        go_meet
        exact ⟨true, rfl, (fun h => by cases h), B2.out⟩
    · have hv1 : decide (1000 < val.size) = false := decide_eq_false hv
      have hv2 : decide ((val.size : Int) > 1000) = false := by rw [decide_eq_false_iff_not]; omega
      clear hv
      go_wp2_with (go_at_call 7; refine (few_any v0 L _ HV.out HSZ.out).mono ?_; rintro e w2 ⟨q, rfl, hq, b2⟩; have HQ := Lib.hid hq; have B2 := Lib.hid b2; clear hq b2; cases q)
      · go_meet
        exact ⟨true, rfl, (fun h => by cases h), B2.out⟩
      · go_meet
        exact ⟨false, rfl, fun _ => (by first | exact HQ.out rfl | exact HQ.out trivial), B2.out⟩
  case rest =>
  obtain ⟨q, rfl, hq, hb⟩ := hcut
  obtain ⟨w2, rfl⟩ : ∃ w2 : World, w2 = wc := ⟨_, rfl⟩
  have B2 := Lib.hid (bchain HB.out hb)
  have K2 := Lib.hid (KB.out.fr (Fr.of_below hb : Fr S0 _ _) (fun h => h))
  have V2 := Lib.hid (HV.out.below hb)
  have HQ := Lib.hid hq
  clear hb hq HB KB HV
  cases q with
  | true =>
    go_wp2_with (go_at_call 8; refine (HW.out _).mono ?_; rintro e w6 ⟨rfl, b6⟩; have B6 := Lib.hid (bchain B2.out b6); clear b6)
    go_returns
    exact ⟨rfl, B6.out⟩
  | false =>
    have hl : L.length ≤ 1000 := by have := HQ.out rfl; omega
    go_upto_region 4 with (go_at_call 9; refine (turned_any v0 L _ V2.out hl).mono ?_; rintro e w3 ⟨vr, rfl, h3, b3⟩; have R3 := Lib.hid h3; have B3 := Lib.hid (bchain B2.out b3); have K3 := Lib.hid (K2.out.fr (Fr.of_below b3 : Fr S0 _ _) (fun h => h)); have V3 := Lib.hid (V2.out.below b3); clear h3 b3)
    obtain ⟨sq, se, hs1, hs2⟩ := safe_both n v0 vr L r d s val hl
    have S1 := Lib.hid hs1
    have S2 := Lib.hid hs2
    obtain ⟨⟨ynd, yr, yd, ysl, yv⟩, hq, he, hh1, hh2⟩ := high_both n Q v0 vr L s hl
    have H1 := Lib.hid hh1
    have H2 := Lib.hid hh2
    clear hs1 hs2 hh1 hh2 K2 V2 B2
    have q0 := K3.out.cell (i := 0) (v := .int .i64 r) rfl
    have q1 := K3.out.cell (i := 1) (v := .int .i64 d) rfl
    go_upto_region 5 with (go_at_call 10; refine (S1.out _ V3.out).mono ?_; rintro e w4 ⟨rfl, b4⟩; have B4 := Lib.hid (bchain B3.out b4); have K4 := Lib.hid (K3.out.fr (Fr.of_below b4 : Fr S0 _ _) (fun h => h)); have V4 := Lib.hid (V3.out.below b4); have R4 := Lib.hid (R3.out.below b4); clear b4)
    clear q0 q1 K3 V3 R3 B3
    have q0 := K4.out.cell (i := 0) (v := .int .i64 r) rfl
    have q1 := K4.out.cell (i := 1) (v := .int .i64 d) rfl
    go_upto_region 6 with (go_at_call 11; refine (S2.out _ R4.out).mono ?_; rintro e w5 ⟨rfl, b5⟩; have B5 := Lib.hid (bchain B4.out b5); have V5 := Lib.hid (V4.out.below b5); have R5 := Lib.hid (R4.out.below b5); clear b5)
    clear q0 q1 K4 V4 R4 B4
    go_upto_region 7 with (go_at_call 12; refine (H1.out _ V5.out).mono ?_; rintro e w6 ⟨rfl, b6⟩; have B6 := Lib.hid (bchain B5.out b6); have R6 := Lib.hid (R5.out.below b6); clear b6)
    have bw := box_below w6 (.cells #[.int .i64 ynd, .int .i64 yr, .int .i64 yd, .int .i64 ysl, .string yv] 35)
    have KY := Lib.hid (Blk.new w6 35 #[.int .i64 ynd, .int .i64 yr, .int .i64 yd, .int .i64 ysl, .string yv])
    have R7 := Lib.hid (R6.out.below bw)
    have B7 := Lib.hid (bchain B6.out bw)
    generalize (w6.alloc (.cells #[.int .i64 ynd, .int .i64 yr, .int .i64 yd, .int .i64 ysl, .string yv] 35)) = W7 at *
    obtain ⟨by', hby⟩ : ∃ b', b' = w6.heap.size := ⟨_, rfl⟩
    rw [← hby] at KY ⊢
    clear hby bw R6 B6 V5 R5 B5
    go_upto_region 8 with (go_at_call 13; refine (H2.out _ R7.out).mono ?_; rintro e w8 ⟨rfl, b8⟩; have B8 := Lib.hid (bchain B7.out b8); have KY8 := Lib.hid (KY.out.fr (Fr.of_below b8 : Fr S0 _ _) (fun h => h)); clear b8)
    have bw := box_below w8 (.cells #[.int .i64 ynd, .int .i64 yr, .int .i64 yd, .int .i64 ysl, .string yv] 38)
    have KZ := Lib.hid (Blk.new w8 38 #[.int .i64 ynd, .int .i64 yr, .int .i64 yd, .int .i64 ysl, .string yv])
    have KY9 := Lib.hid (KY8.out.fr (Fr.of_below bw : Fr S0 _ _) (fun h => h))
    have B9 := Lib.hid (bchain B8.out bw)
    generalize (w8.alloc (.cells #[.int .i64 ynd, .int .i64 yr, .int .i64 yd, .int .i64 ysl, .string yv] 38)) = W9 at *
    obtain ⟨bz, hbz⟩ : ∃ b', b' = w8.heap.size := ⟨_, rfl⟩
    rw [← hbz] at KZ ⊢
    clear hbz bw B8 KY8 KY R7 B7
    have y0 := KY9.out.cell (i := 0) (v := .int .i64 ynd) rfl
    have y1 := KY9.out.cell (i := 1) (v := .int .i64 yr) rfl
    have y2 := KY9.out.cell (i := 2) (v := .int .i64 yd) rfl
    have y3 := KY9.out.cell (i := 3) (v := .int .i64 ysl) rfl
    have y4 := KY9.out.cell (i := 4) (v := .string yv) rfl
    have z0 := KZ.out.cell (i := 0) (v := .int .i64 ynd) rfl
    have z1 := KZ.out.cell (i := 1) (v := .int .i64 yr) rfl
    have z2 := KZ.out.cell (i := 2) (v := .int .i64 yd) rfl
    have z3 := KZ.out.cell (i := 3) (v := .int .i64 ysl) rfl
    have z4 := KZ.out.cell (i := 4) (v := .string yv) rfl
    have hGq := eqGRv
    have hEz : ∀ w : World, (Op.equalIn 10000 38 (.agg #[.int .i64 ynd, .int .i64 yr, .int .i64 yd, .int .i64 ysl, .string yv]) (.agg #[.int .i64 ynd, .int .i64 yr, .int .i64 yd, .int .i64 ysl, .string yv])).run Tryz.prog w = .ok true w := fun w => eqRv ynd yr yd ysl yv w
    go_wp2_with (go_at_call 8; refine (HW.out _).mono ?_; rintro e w6 ⟨rfl, b6⟩; have BX := Lib.hid (bchain B9.out b6); clear b6)
    go_returns
    exact ⟨rfl, BX.out⟩
end Go.Proofs.YthkdmpalhdifbaaGreatDoor.chosenSafes
