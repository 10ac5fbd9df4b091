/- The walk of skaldlaw17.StableRefuses: it returns true, and writes nothing that was there. -/
import Derived.Test.YtlfikhblmbidmaaGreatDoorTabF
import Derived.Test.YtlfikhblmbidmaaGreatDoorRefuW
import Derived.OpenShut
import Derived.Deep.DeepCutAuto
import Derived.Deep.CutBlock
import Derived.Deep.LoopGhost
import Derived.Deep.RegionHeld3
set_option linter.unusedVariables false
set_option linter.unusedSimpArgs false
namespace Go.Proofs.YtlfikhblmbidmaaGreatDoor.stableRefuses
open Go.RowKit Go.Shelf
theorem far_nat {a : Int} (h : (Lit.int .u16 a).wf = true) : 0 ≤ a ∧ a < 65536 := by
  simp [Lit.wf, IntKind.min, IntKind.max, IntKind.signed, IntKind.bits] at h
  omega
theorem bal {a b : World} {o : Obj} (h : Below a.heap.size a b) : Below a.heap.size a (b.alloc o) := h.alloc h.size _
theorem okb_no {r d : Int} (h : ¬ (1 ≤ r ∧ r ≤ 1073741824 ∧ 0 ≤ d ∧ d ≤ 6)) : okB r d = false := by
  rw [Bool.eq_false_iff]
  exact fun e => h ((okB_iff r d).1 e)

set_option maxRecDepth 100000 in
set_option maxHeartbeats 4000000 in
theorem walk (a0 : Int) (w0 : (Lit.int .u16 a0).wf = true) (w : World) (ht : TabP w) :
    Calls Tryz.prog 3 #[.int .u16 a0] w fun e w' => e = .returned (.bool true) ∧ Below w.heap.size w w' := by
  obtain ⟨m, rfl⟩ := Int.eq_ofNat_of_zero_le (far_nat w0).1
  have hm := (far_nat w0).2
  have HT := Lib.hid ht
  clear w0 ht
  have hE24 := fun (a b c d : Int) (w : World) => eqBal a b c d w
  have hG24 := eqGBal
  have hBz := fun w => bldBal0 w
  have hBo := fun (r : Int) w => bldBal1 r w
  have hBd := fun (r d : Int) w => bldBal r d w
  go_enter Tryz.func3, Tryz.ntmps3
  go_wp2_with fail
  have KA := Lib.hid (show Blk ((w.alloc (.cells #[.int .i64 3, .int .i64 1] 24)).alloc (.cells #[.int .i64 0, .int .i64 0, .int .i64 (1073741825 + (m : Int)), .int .i64 0, .int .i64 (-(m : Int)), .int .i64 0, .int .i64 1, .int .i64 (7 + (m : Int)), .int .i64 1, .int .i64 (-1 - (m : Int))] 24)) (w.heap.size + 1) 24 _ from blk_new1 w _ _ _)
  have KB := Lib.hid ((Blk.new w 24 #[.int .i64 3, .int .i64 1]).alloc (.cells #[.int .i64 0, .int .i64 0, .int .i64 (1073741825 + (m : Int)), .int .i64 0, .int .i64 (-(m : Int)), .int .i64 0, .int .i64 1, .int .i64 (7 + (m : Int)), .int .i64 1, .int .i64 (-1 - (m : Int))] 24))
  have HW0 := Lib.hid ((box_below w (.cells #[.int .i64 3, .int .i64 1] 24)).trans ((box_below (w.alloc (.cells #[.int .i64 3, .int .i64 1] 24)) (.cells #[.int .i64 0, .int .i64 0, .int .i64 (1073741825 + (m : Int)), .int .i64 0, .int .i64 (-(m : Int)), .int .i64 0, .int .i64 1, .int .i64 (7 + (m : Int)), .int .i64 1, .int .i64 (-1 - (m : Int))] 24)).mono (by simp)))
  generalize hS0 : ((w.alloc (.cells #[.int .i64 3, .int .i64 1] 24)).alloc (.cells #[.int .i64 0, .int .i64 0, .int .i64 (1073741825 + (m : Int)), .int .i64 0, .int .i64 (-(m : Int)), .int .i64 0, .int .i64 1, .int .i64 (7 + (m : Int)), .int .i64 1, .int .i64 (-1 - (m : Int))] 24)) = SS at *
  clear hS0
  have HS1 := Lib.hid (Below.refl SS.heap.size SS)
  have l0 := KA.out.lt
  have l1 := KB.out.lt
  refine wp_loop_rounds 6 ?_
  rw [rounds_succ]
  have x1 := (KA.out.of_block (HS1.out.block _ l0)).cell (i := 0) (v := .int .i64 0) rfl
  have y1 := (KA.out.of_block (HS1.out.block _ l0)).cell (i := 1) (v := .int .i64 0) rfl
  have BX1 := Lib.hid (Blk.new SS 24 #[.int .i64 0, .int .i64 0])
  go_wp2_with (first
    | (go_at_call 11; refine (sprom_no 0 0 _ (okb_no (by omega))).mono ?_; rintro e wp1 ⟨rfl, hb⟩; have HP1 := Lib.hid (bchain (bal (o := Obj.cells #[.int .i64 0, .int .i64 0] 24) HS1.out) hb); have kb := BX1.out.of_block (hb.block _ BX1.out.lt); have u1 := kb.cell (i := 0) (v := .int .i64 0) rfl; have v1 := kb.cell (i := 1) (v := .int .i64 0) rfl; clear hb kb)
    | (go_at_call 12; refine (sacc_no 0 0 0 _ _ (fun h => absurd ((okB_iff _ _).1 h.1) (by omega))).mono ?_; rintro e wq1 ⟨rfl, hb⟩; have HS2 := Lib.hid (bchain HP1.out hb); clear hb))
  rw [rounds_succ]
  have x2 := (KA.out.of_block (HS2.out.block _ l0)).cell (i := 2) (v := .int .i64 (1073741825 + (m : Int))) rfl
  have y2 := (KA.out.of_block (HS2.out.block _ l0)).cell (i := 3) (v := .int .i64 0) rfl
  have BX2 := Lib.hid (Blk.new wq1 24 #[.int .i64 (1073741825 + (m : Int)), .int .i64 0])
  go_wp2_with (first
    | (go_at_call 11; refine (sprom_no (1073741825 + (m : Int)) 0 _ (okb_no (by omega))).mono ?_; rintro e wp2 ⟨rfl, hb⟩; have HP2 := Lib.hid (bchain (bal (o := Obj.cells #[.int .i64 (1073741825 + (m : Int)), .int .i64 0] 24) HS2.out) hb); have kb := BX2.out.of_block (hb.block _ BX2.out.lt); have u2 := kb.cell (i := 0) (v := .int .i64 (1073741825 + (m : Int))) rfl; have v2 := kb.cell (i := 1) (v := .int .i64 0) rfl; clear hb kb)
    | (go_at_call 12; refine (sacc_no (1073741825 + (m : Int)) 0 0 _ _ (fun h => absurd ((okB_iff _ _).1 h.1) (by omega))).mono ?_; rintro e wq2 ⟨rfl, hb⟩; have HS3 := Lib.hid (bchain HP2.out hb); clear hb))
  rw [rounds_succ]
  have x3 := (KA.out.of_block (HS3.out.block _ l0)).cell (i := 4) (v := .int .i64 (-(m : Int))) rfl
  have y3 := (KA.out.of_block (HS3.out.block _ l0)).cell (i := 5) (v := .int .i64 0) rfl
  have BX3 := Lib.hid (Blk.new wq2 24 #[.int .i64 (-(m : Int)), .int .i64 0])
  go_wp2_with (first
    | (go_at_call 11; refine (sprom_no (-(m : Int)) 0 _ (okb_no (by omega))).mono ?_; rintro e wp3 ⟨rfl, hb⟩; have HP3 := Lib.hid (bchain (bal (o := Obj.cells #[.int .i64 (-(m : Int)), .int .i64 0] 24) HS3.out) hb); have kb := BX3.out.of_block (hb.block _ BX3.out.lt); have u3 := kb.cell (i := 0) (v := .int .i64 (-(m : Int))) rfl; have v3 := kb.cell (i := 1) (v := .int .i64 0) rfl; clear hb kb)
    | (go_at_call 12; refine (sacc_no (-(m : Int)) 0 0 _ _ (fun h => absurd ((okB_iff _ _).1 h.1) (by omega))).mono ?_; rintro e wq3 ⟨rfl, hb⟩; have HS4 := Lib.hid (bchain HP3.out hb); clear hb))
  rw [rounds_succ]
  have x4 := (KA.out.of_block (HS4.out.block _ l0)).cell (i := 6) (v := .int .i64 1) rfl
  have y4 := (KA.out.of_block (HS4.out.block _ l0)).cell (i := 7) (v := .int .i64 (7 + (m : Int))) rfl
  have BX4 := Lib.hid (Blk.new wq3 24 #[.int .i64 1, .int .i64 (7 + (m : Int))])
  go_wp2_with (first
    | (go_at_call 11; refine (sprom_no 1 (7 + (m : Int)) _ (okb_no (by omega))).mono ?_; rintro e wp4 ⟨rfl, hb⟩; have HP4 := Lib.hid (bchain (bal (o := Obj.cells #[.int .i64 1, .int .i64 (7 + (m : Int))] 24) HS4.out) hb); have kb := BX4.out.of_block (hb.block _ BX4.out.lt); have u4 := kb.cell (i := 0) (v := .int .i64 1) rfl; have v4 := kb.cell (i := 1) (v := .int .i64 (7 + (m : Int))) rfl; clear hb kb)
    | (go_at_call 12; refine (sacc_no 1 (7 + (m : Int)) 0 _ _ (fun h => absurd ((okB_iff _ _).1 h.1) (by omega))).mono ?_; rintro e wq4 ⟨rfl, hb⟩; have HS5 := Lib.hid (bchain HP4.out hb); clear hb))
  rw [rounds_succ]
  have x5 := (KA.out.of_block (HS5.out.block _ l0)).cell (i := 8) (v := .int .i64 1) rfl
  have y5 := (KA.out.of_block (HS5.out.block _ l0)).cell (i := 9) (v := .int .i64 (-1 - (m : Int))) rfl
  have BX5 := Lib.hid (Blk.new wq4 24 #[.int .i64 1, .int .i64 (-1 - (m : Int))])
  go_wp2_with (first
    | (go_at_call 11; refine (sprom_no 1 (-1 - (m : Int)) _ (okb_no (by omega))).mono ?_; rintro e wp5 ⟨rfl, hb⟩; have HP5 := Lib.hid (bchain (bal (o := Obj.cells #[.int .i64 1, .int .i64 (-1 - (m : Int))] 24) HS5.out) hb); have kb := BX5.out.of_block (hb.block _ BX5.out.lt); have u5 := kb.cell (i := 0) (v := .int .i64 1) rfl; have v5 := kb.cell (i := 1) (v := .int .i64 (-1 - (m : Int))) rfl; clear hb kb)
    | (go_at_call 12; refine (sacc_no 1 (-1 - (m : Int)) 0 _ _ (fun h => absurd ((okB_iff _ _).1 h.1) (by omega))).mono ?_; rintro e wq5 ⟨rfl, hb⟩; have HS6 := Lib.hid (bchain HP5.out hb); clear hb))
  rw [rounds_succ]
  go_wp2_with fail
  have KC := Lib.hid (Blk.new wq5 3 #[.int .i64 (4096 + (m : Int)), .int .i64 (-1 - (m : Int))])
  have HT1 := Lib.hid (bal (o := Obj.cells #[.int .i64 (4096 + (m : Int)), .int .i64 (-1 - (m : Int))] 3) HS6.out)
  refine wp_loop_rounds 3 ?_
  rw [rounds_succ]
  have z1 := KC.out.cell (i := 0) (v := .int .i64 (4096 + (m : Int))) rfl
  have g1 := (KB.out.of_block (HT1.out.block _ l1)).cell (i := 0) (v := .int .i64 3) rfl
  have h1 := (KB.out.of_block (HT1.out.block _ l1)).cell (i := 1) (v := .int .i64 1) rfl
  go_wp2_with (first
    | (go_at_call 12; refine (sacc_no 3 1 (4096 + (m : Int)) _ _ (fun h => absurd h.2 (by omega))).mono ?_; rintro e wr1 ⟨rfl, hb⟩; have HU1 := Lib.hid (bchain HT1.out hb); have HX1 := Lib.hid hb; clear hb)
    | (go_at_call 13; refine (choose_no (4096 + (m : Int)) _ _ (by omega)).mono ?_; rintro e ws1 ⟨rfl, hb⟩; have HT2 := Lib.hid (bchain HU1.out hb); have HC1 := Lib.hid (bchain HX1.out hb); clear hb))
  rw [rounds_succ]
  have z2 := (KC.out.of_block (HC1.out.block _ KC.out.lt)).cell (i := 1) (v := .int .i64 (-1 - (m : Int))) rfl
  have g2 := (KB.out.of_block (HT2.out.block _ l1)).cell (i := 0) (v := .int .i64 3) rfl
  have h2 := (KB.out.of_block (HT2.out.block _ l1)).cell (i := 1) (v := .int .i64 1) rfl
  go_wp2_with (first
    | (go_at_call 12; refine (sacc_no 3 1 (-1 - (m : Int)) _ _ (fun h => absurd h.2 (by omega))).mono ?_; rintro e wr2 ⟨rfl, hb⟩; have HU2 := Lib.hid (bchain HT2.out hb); have HX2 := Lib.hid hb; clear hb)
    | (go_at_call 13; refine (choose_no (-1 - (m : Int)) _ _ (by omega)).mono ?_; rintro e ws2 ⟨rfl, hb⟩; have HT3 := Lib.hid (bchain HU2.out hb); clear hb))
  rw [rounds_succ]
  have HF0 := Lib.hid (HT.out.below HW0.out)
  have HWB := Lib.hid (HW0.out.trans (HT3.out.mono (by omega)))
  clear KA KC HS1 HS2 HS3 HS4 HS5 HS6 HP1 HP2 HP3 HP4 HP5 HU1 HU2 HX1 HX2 HC1 BX1 BX2 BX3 BX4 BX5
  have KB2 := Lib.hid (KB.out.of_block (HT3.out.block _ l1))
  clear KB HT1 HT2
  go_upto_region 28 with (first
    | (go_at_call 14; refine (dnew_any _).mono ?_; rintro e x1 ⟨dp, dq, rfl, hd, hdp, hdq, hb⟩; have D1 := Lib.hid (show DkB ws2 dp dq _ _ (sD []) x1 from ⟨hd, (fun i hi => by rcases hi with rfl | rfl | e | e; exact hdp; exact hdq; cases e; cases e), hb⟩); have KB3 := Lib.hid (KB2.out.of_block (hb.block _ KB2.out.lt)); clear hd hb)
    | (go_at_call 15; (with_reducible refine (recover_nil _ _).mono ?_); rintro e x3 ⟨rfl, hb⟩; first | (have D3 := Lib.hid (D2.out.below hb); have N3 := Lib.hid (N2.out.below hb); clear hb N2 D2) | (have D4 := Lib.hid (D3.out.below hb); have N4 := Lib.hid (N3.out.below hb); clear hb N3 D3))
    | (go_at_call 15; refine (recover_some 3 ⟨by decide, by decide⟩ D1.out (by decide) (HT.out.below (HWB.out.trans (D1.out.bel.mono HWB.out.size))) frN (t := newN 3) rfl).mono ?_; rintro e x2 ⟨a, mm, l, k, rfl, hn, hb⟩; have D2 := Lib.hid (D1.out.below hb); have N2 := Lib.hid hn; clear hn hb D1)
    | (go_at_call 15; refine (recover_bad (8 + (m : Int)) (fun h => by unfold okN at h; omega) D4.out.at_ (sD_good (by decide))).mono ?_; rintro e x5 ⟨rfl, hb⟩; have D5 := Lib.hid (D4.out.below hb); have N5 := Lib.hid (N4.out.below hb); clear hb D4 N4)
    | (go_at_call 15; refine (recover_bad (-(m : Int)) (fun h => by unfold okN at h; omega) D5.out.at_ (sD_good (by decide))).mono ?_; rintro e x6 ⟨rfl, hb⟩; have D6 := Lib.hid (D5.out.below hb); have N6 := Lib.hid (N5.out.below hb); clear hb D5 N5)
    | (go_at_call 16; refine (write_nil _ _).mono ?_; rintro e x7 ⟨rfl, hb⟩; have D7 := Lib.hid (D6.out.below hb); have N7 := Lib.hid (N6.out.below hb); clear hb D6 N6)
    | (go_at_call 17; (with_reducible refine (compact_n1 _ _ _).mono ?_); rintro e x8 ⟨rfl, hb⟩; have D8 := Lib.hid (D7.out.below hb); have N8 := Lib.hid (N7.out.below hb); clear hb D7 N7)
    | (go_at_call 17; (with_reducible refine (compact_n2 _ D8.out.at_ ?_).mono ?_); exact sD_good (by decide); rintro e x9 ⟨rfl, hb⟩; have D9 := Lib.hid (D8.out.below hb); have N9 := Lib.hid (N8.out.below hb); clear hb D8 N8)
    | (go_at_call 17; (with_reducible refine (compact_n3 D9.out.at_ ?_ N9.out.a).mono ?_); exact sD_good (by decide); rintro e x10 ⟨rfl, hb⟩; have D10 := Lib.hid (D9.out.below hb); clear hb D9 N9))
  have KB10 := Lib.hid (KB2.out.of_block (D10.out.bel.block _ KB2.out.lt))
  have g3 := KB10.out.cell (i := 0) (v := .int .i64 3) rfl
  have h3 := KB10.out.cell (i := 1) (v := .int .i64 1) rfl
  have HFD : Hid (∀ X : World, Below ws2.heap.size ws2 X → FoursAt X) := fun X hb => HT.out.below (HWB.out.trans (hb.mono HWB.out.size))
  have HBD : Hid (∀ X : World, Below ws2.heap.size ws2 X → Below w.heap.size w X) := fun X hb => HWB.out.trans (hb.mono HWB.out.size)
  have HPH : Hid (∀ W : World, Calls Tryz.prog 11 #[.agg #[.int .i64 9, .int .i64 2]] W fun e w' => ∃ vo, e = .returned (.tuple #[vo, .int .i64 0]) ∧ w'.ownsRow W.heap.size 5 1 vo bH.length (bH.map u8V) ∧ Below W.heap.size W w') := fun W => by
    have := sprom_yes 9 2 W (by rfl)
    rw [bytesH] at this
    exact this
  have HPL : Hid (∀ W : World, Calls Tryz.prog 11 #[.agg #[.int .i64 3, .int .i64 1]] W fun e w' => ∃ vo, e = .returned (.tuple #[vo, .int .i64 0]) ∧ w'.ownsRow W.heap.size 5 1 vo bL.length (bL.map u8V) ∧ Below W.heap.size W w') := fun W => by
    have := sprom_yes 3 1 W (by rfl)
    rw [bytesL] at this
    exact this
  go_wp2_with (first
    | (go_at_call 11; (with_reducible refine (HPH.out _).mono ?_); rintro e y1 ⟨vh, rfl, hv, hb⟩; obtain ⟨Ah, nh, ch, rfl⟩ := row_shape hv; have RH1 := Lib.hid hv; have D11 := Lib.hid (D10.out.below hb); have q0 := bcell hb g3; have q1 := bcell hb h3; clear hb hv)
    | (go_at_call 11; (with_reducible refine (HPL.out _).mono ?_); rintro e y2 ⟨vl, rfl, hv, hb⟩; obtain ⟨Al, nl, cl, rfl⟩ := row_shape hv; have RL2 := Lib.hid hv; have D12 := Lib.hid (D11.out.below hb); have RH2 := Lib.hid (bs_on RH1.out hb); clear hb hv)
    | (go_at_call 16; (with_reducible refine (write_first (.slice Ah nh ch) bH D12.out ?_ ?_ ?_ ?_).mono ?_); exact HFD.out _ D12.out.bel; exact RH2.out; decide; decide; rintro e y3 ⟨rfl, v13, hd, hk⟩; have D13 := Lib.hid hd; have RL3 := Lib.hid (hk _ _ _ _ RL2.out); clear hd hk)
    | (go_at_call 15; (with_reducible refine (recover_none 2 ?_ D13.out ?_ ?_ frH recH2).mono ?_); exact ⟨by decide, by decide⟩; simp [frameB_length]; exact HFD.out _ D13.out.bel; rintro e y4 ⟨rfl, hb⟩; have D14 := Lib.hid (D13.out.below hb); have RL4 := Lib.hid (row_fr RL3.out (Fr.of_below hb : Fr Go.Proofs.YtlfikhblmbidmaaGreatDoor.S0 _ _) (fun _ _ e => e)); clear hb D13)
    | (go_at_call 15; (with_reducible refine (recover_some 3 ?_ D14.out ?_ ?_ frH recH3).mono ?_); exact ⟨by decide, by decide⟩; simp [frameB_length]; exact HFD.out _ D14.out.bel; rintro e y5 ⟨_, _, _, _, rfl, _, hb⟩; have D15 := Lib.hid (D14.out.below hb); have RL5 := Lib.hid (bs_on RL4.out hb); clear hb D14)
    | (go_at_call 16; (with_reducible refine (write_sD (.slice Al nl cl) bL D15.out ?_ ?_ ?_ ?_).mono ?_); exact HFD.out _ D15.out.bel; exact RL5.out; decide; simp [frameB_length]; rintro e y6 ⟨rfl, v16, hd, _⟩; have D16 := Lib.hid hd; clear hd)
    | (go_at_call 15; (with_reducible refine (recover_none 3 ?_ D16.out ?_ ?_ frL recL3).mono ?_); exact ⟨by decide, by decide⟩; simp [frameB_length]; exact HFD.out _ D16.out.bel; rintro e y7 ⟨rfl, hb⟩; have D17 := Lib.hid (D16.out.below hb); clear hb)
    | (go_at_call 18; refine (works_any _ (HFD.out _ D17.out.bel)).mono ?_; rintro e y8 ⟨rfl, hb⟩; have D18 := Lib.hid (D17.out.below hb); clear hb))
  go_returns
  exact ⟨rfl, HBD.out _ D18.out.bel⟩
end Go.Proofs.YtlfikhblmbidmaaGreatDoor.stableRefuses
