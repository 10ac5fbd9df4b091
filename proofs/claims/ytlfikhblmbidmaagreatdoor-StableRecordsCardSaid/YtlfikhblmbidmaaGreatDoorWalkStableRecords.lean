/- The walk of skaldlaw17.StableRecords: it returns true, and writes nothing that was there. -/
import Derived.Test.YtlfikhblmbidmaaGreatDoorR3G
import Derived.OpenShut
import Derived.Deep.DeepCutAuto
import Derived.Deep.CutBlock
import Derived.Deep.LoopGhost
import Derived.Deep.RegionHeld3
set_option linter.unusedVariables false
set_option linter.unusedSimpArgs false
namespace Go.Proofs.YtlfikhblmbidmaaGreatDoor.stableRecords
open Go.RowKit Go.Shelf
set_option maxRecDepth 100000 in
set_option maxHeartbeats 4000000 in
theorem walk (b : Int × Int) (slot : Int) (val : ByteArray) (v3 : Value) (zs : List Int) (w : World) (w0 : in64 b.1 ∧ in64 b.2) (w1 : (Lit.int .i64 slot).wf = true) (w2 : val.size ≤ maxLen) (w3 : BytesIn w v3 zs) (ht : TabP w) :
    Calls Tryz.prog 4 #[.agg #[.int .i64 b.1, .int .i64 b.2], .int .i64 slot, .string val, v3] w fun e w' => e = .returned (.bool true) ∧ Below w.heap.size w w' := by
  obtain ⟨r, d⟩ := b
  have HB := w3.bsIn
  obtain ⟨A3, c3, rfl, hc3, hm3⟩ := HB.shape
  have hE24 := fun (a b c d : Int) (w : World) => eqBal a b c d w
  have hG24 := eqGBal
  have hbx := box_below w (.cells #[.int .i64 r, .int .i64 d] 24)
  have HB0 := Lib.hid (HB.below hbx)
  have HT := Lib.hid ((show FoursAt w from ht).below hbx)
  have HW := Lib.hid hbx
  have x0 := (Blk.new w 24 #[.int .i64 r, .int .i64 d]).cell (i := 0) (v := .int .i64 r) rfl
  have x1 := (Blk.new w 24 #[.int .i64 r, .int .i64 d]).cell (i := 1) (v := .int .i64 d) rfl
  obtain ⟨bs, hbs⟩ : ∃ bs, bsOf zs = bs := ⟨_, rfl⟩
  rw [hbs] at HB0 hc3 ⊢
  clear w0 w1 w3 HB hbx ht
  have hm3' : c3 ≤ 9223372036854775807 := by unfold maxLen at hm3; omega
  have hv0 : val.size ≤ 9223372036854775807 := by unfold maxLen at w2; omega
  go_enter Tryz.func4, Tryz.ntmps4
  go_upto_region 1 with fail
  generalize hW1 : (w.alloc (.cells #[.int .i64 r, .int .i64 d] 24)) = W at *
  have HBE : Hid (∀ X : World, Below W.heap.size W X → Below w.heap.size w X) := fun X hb => HW.out.trans (hb.mono HW.out.size)
  have HFA : Hid (∀ X : World, Below W.heap.size W X → FoursAt X) := fun X hb => HT.out.below hb
  by_cases hv : 70000 < val.size
  case pos =>
    have hd : decide ((val.size : Int) > 70000) = true := decide_eq_true (by omega)
    go_wp2_with (go_at_call 18; refine (works_any _ HT.out).mono ?_; rintro e y1 ⟨rfl, hb⟩; have D1 := Lib.hid hb; clear hb)
    go_returns
    exact ⟨rfl, HBE.out _ D1.out⟩
  case neg =>
  have hd : decide ((val.size : Int) > 70000) = false := decide_eq_false (by omega)
  by_cases hl : 70000 < bs.length
  case pos =>
    have hd2 : decide ((bs.length : Int) > 70000) = true := decide_eq_true (by omega)
    go_wp2_with (go_at_call 18; refine (works_any _ HT.out).mono ?_; rintro e y1 ⟨rfl, hb⟩; have D1 := Lib.hid hb; clear hb)
    go_returns
    exact ⟨rfl, HBE.out _ D1.out⟩
  case neg =>
  have hd2 : decide ((bs.length : Int) > 70000) = false := decide_eq_false (by omega)
  obtain ⟨K, R, N, SL, V, E, hP⟩ := RPost.shape bs
  obtain ⟨e1, he1⟩ : ∃ e1, outE (okB r d) (proB r d) = e1 := ⟨_, rfl⟩
  obtain ⟨b1, hb1⟩ : ∃ b1, outB (okB r d) (proB r d) = b1 := ⟨_, rfl⟩
  obtain ⟨e2, he2⟩ : ∃ e2, outE (okB r d && slB slot) (accB r d slot val) = e2 := ⟨_, rfl⟩
  obtain ⟨b2, hb2⟩ : ∃ b2, outB (okB r d && slB slot) (accB r d slot val) = b2 := ⟨_, rfl⟩
  obtain ⟨e3, he3⟩ : ∃ e3, outE (slB slot) (choB slot val) = e3 := ⟨_, rfl⟩
  obtain ⟨b3, hb3⟩ : ∃ b3, outB (slB slot) (choB slot val) = b3 := ⟨_, rfl⟩
  have HP1 := Lib.hid (fun W => (prom_P r d W).mono fun e w' k => k.out he1 hb1)
  have HQ1 := Lib.hid (fun W => (rprom_P r d W).mono fun e w' k => k.out he1 hb1)
  have HP2 := Lib.hid (fun W => (acc_P r d slot val W (by omega)).mono fun e w' k => k.out he2 hb2)
  have HQ2 := Lib.hid (fun W => (racc_P r d slot val W (by omega)).mono fun e w' k => k.out he2 hb2)
  have HP3 := Lib.hid (fun W => (cho_P slot val W (by omega)).mono fun e w' k => k.out he3 hb3)
  have HQ3 := Lib.hid (fun W => (rcho_P slot val W (by omega)).mono fun e w' k => k.out he3 hb3)
  have HPP := Lib.hid (fun (u : Value) (W : World) (hu : BsIn W u bs) => (pparse_any u bs W hu (by omega)).mono (fun e w' k => hP W e w' k))
  have HPR := Lib.hid (fun (u : Value) (W : World) (hu : BsIn W u bs) => (rparse_any u bs W hu (by omega)).mono (fun e w' k => hP W e w' k))
  clear hP he1 hb1 he2 hb2 he3 hb3
  have G0 := Lib.hid (Below.refl W.heap.size W)
  go_upto_region 9 with (first
    | (go_at_call 11; (with_reducible refine (HP1.out _).mono ?_); rintro e y1 ⟨vo1, rfl, hv1, hb⟩; obtain ⟨A1, n1, rfl, _, _⟩ := hv1.shape; have V1 := Lib.hid hv1; have G1 := Lib.hid hb; have R1 := Lib.hid (HB0.out.below hb); have p10 := bcell hb x0; have p11 := bcell hb x1; clear hv1 hb)
    | (go_at_call 19; (with_reducible refine (HQ1.out _).mono ?_); rintro e y2 ⟨vo2, rfl, hv1, hb⟩; obtain ⟨A2, n2, rfl, _, _⟩ := hv1.shape; have V2 := Lib.hid hv1; have V21 := Lib.hid (V1.out.below hb); have G2 := Lib.hid (bchain G1.out hb); have R2 := Lib.hid (R1.out.below hb); have p20 := bcell hb p10; have p21 := bcell hb p11; clear hv1 hb V1)
    | (go_at_call 12; (with_reducible refine (HP2.out _).mono ?_); rintro e y3 ⟨vo3, rfl, hv1, hb⟩; obtain ⟨A3x, n3, rfl, _, _⟩ := hv1.shape; have V3 := Lib.hid hv1; have V31 := Lib.hid (V21.out.below hb); have V32 := Lib.hid (V2.out.below hb); have G3 := Lib.hid (bchain G2.out hb); have R3 := Lib.hid (R2.out.below hb); have p30 := bcell hb p20; have p31 := bcell hb p21; clear hv1 hb V21 V2)
    | (go_at_call 20; (with_reducible refine (HQ2.out _).mono ?_); rintro e y4 ⟨vo4, rfl, hv1, hb⟩; obtain ⟨A4, n4, rfl, _, _⟩ := hv1.shape; have V4 := Lib.hid hv1; have V41 := Lib.hid (V31.out.below hb); have V42 := Lib.hid (V32.out.below hb); have V43 := Lib.hid (V3.out.below hb); have G4 := Lib.hid (bchain G3.out hb); have R4 := Lib.hid (R3.out.below hb); clear hv1 hb V31 V32 V3)
    | (go_at_call 13; (with_reducible refine (HP3.out _).mono ?_); rintro e y5 ⟨vo5, rfl, hv1, hb⟩; obtain ⟨A5, n5, rfl, _, _⟩ := hv1.shape; have V5 := Lib.hid hv1; have V51 := Lib.hid (V41.out.below hb); have V52 := Lib.hid (V42.out.below hb); have V53 := Lib.hid (V43.out.below hb); have V54 := Lib.hid (V4.out.below hb); have G5 := Lib.hid (bchain G4.out hb); have R5 := Lib.hid (R4.out.below hb); clear hv1 hb V41 V42 V43 V4)
    | (go_at_call 21; (with_reducible refine (HQ3.out _).mono ?_); rintro e y6 ⟨vo6, rfl, hv1, hb⟩; obtain ⟨A6, n6, rfl, _, _⟩ := hv1.shape; have V6 := Lib.hid hv1; have V61 := Lib.hid (V51.out.below hb); have V62 := Lib.hid (V52.out.below hb); have V63 := Lib.hid (V53.out.below hb); have V64 := Lib.hid (V54.out.below hb); have V65 := Lib.hid (V5.out.below hb); have G6 := Lib.hid (bchain G5.out hb); have R6 := Lib.hid (R5.out.below hb); clear hv1 hb V51 V52 V53 V54 V5))
  clear HP1 HQ1 HP2 HQ2 HP3 HQ3
  go_upto_region 11 with (first
    | (go_at_call 22; (with_reducible refine (bequal_same _ _ b1 _ V61.out V62.out).mono ?_); rintro e y7 ⟨rfl, rfl⟩)
    | (go_at_call 22; (with_reducible refine (bequal_same _ _ b2 _ V63.out V64.out).mono ?_); rintro e y7 ⟨rfl, rfl⟩)
    | (go_at_call 22; (with_reducible refine (bequal_same _ _ b3 _ V65.out V6.out).mono ?_); rintro e y7 ⟨rfl, rfl⟩))
  clear V61 V62 V63 V64 V65 V6
  go_upto_region 13 with (first
    | (go_at_call 23; (with_reducible refine (bclone_any _ bs _ R6.out ?_).mono ?_); omega; rintro e y7 ⟨vo7, rfl, hv1, hb⟩; obtain ⟨A7, n7, c7, rfl⟩ := row_shape hv1; have V7 := Lib.hid (LRow.bsIn (LRow.of_row hv1)); have G7 := Lib.hid (bchain G6.out hb); have R7 := Lib.hid (R6.out.below hb); clear hv1 hb)
    | (go_at_call 24; (with_reducible refine (HPP.out _ _ R7.out).mono ?_); rintro e y8 ⟨rfl, hb⟩; have V8 := Lib.hid (V7.out.below hb); have G8 := Lib.hid (bchain G7.out hb); have R8 := Lib.hid (R7.out.below hb); clear hb V7))
  have HX8 := box_below y8 (.cells #[.int .i64 R, .int .i64 N] 24)
  have q0 := (Blk.new y8 24 #[.int .i64 R, .int .i64 N]).cell (i := 0) (v := .int .i64 R) rfl
  have q1 := (Blk.new y8 24 #[.int .i64 R, .int .i64 N]).cell (i := 1) (v := .int .i64 N) rfl
  have V9 := Lib.hid (V8.out.below HX8)
  have R9 := Lib.hid (R8.out.below HX8)
  have G9 := Lib.hid (bchain G8.out HX8)
  obtain ⟨kb, hkb⟩ : ∃ kb, y8.heap.size = kb := ⟨_, rfl⟩
  rw [hkb] at q0 q1 ⊢
  clear V8 R8 G8 HX8
  generalize (y8.alloc (.cells #[.int .i64 R, .int .i64 N] 24)) = y9 at *
  go_upto_region 14 with (go_at_call 25; (with_reducible refine (HPR.out _ _ V9.out).mono ?_); rintro e y10 ⟨rfl, hb⟩; have V10 := Lib.hid (V9.out.below hb); have G10 := Lib.hid (bchain G9.out hb); have R10 := Lib.hid (R9.out.below hb); have u0 := bcell hb q0; have u1 := bcell hb q1; clear hb V9)
  have HXA := box_below y10 (.cells #[.int .i64 R, .int .i64 N] 24)
  have s0 := (Blk.new y10 24 #[.int .i64 R, .int .i64 N]).cell (i := 0) (v := .int .i64 R) rfl
  have s1 := (Blk.new y10 24 #[.int .i64 R, .int .i64 N]).cell (i := 1) (v := .int .i64 N) rfl
  have t0 := bcell HXA u0
  have t1 := bcell HXA u1
  have V11 := Lib.hid (V10.out.below HXA)
  have R11 := Lib.hid (R10.out.below HXA)
  have G11 := Lib.hid (bchain G10.out HXA)
  clear V10 R10 G10 HXA u0 u1
  obtain ⟨lb, hlb⟩ : ∃ lb, y10.heap.size = lb := ⟨_, rfl⟩
  rw [hlb] at s0 s1 ⊢
  generalize (y10.alloc (.cells #[.int .i64 R, .int .i64 N] 24)) = y11 at *
  go_wp2_with (first
    | (go_at_call 22; (with_reducible refine (bequal_same _ _ bs _ R11.out V11.out).mono ?_); rintro e y12 ⟨rfl, rfl⟩)
    | (go_at_call 18; refine (works_any _ (HFA.out _ G11.out)).mono ?_; rintro e y13 ⟨rfl, hb⟩; have G13 := Lib.hid (bchain G11.out hb); clear hb))
  go_returns
  exact ⟨rfl, HBE.out _ G13.out⟩
end Go.Proofs.YtlfikhblmbidmaaGreatDoor.stableRecords
