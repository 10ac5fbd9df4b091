import Derived.Test.YtlfikhblmbidmaaGreatDoorPlyA
import Derived.Test.YtlfikhblmbidmaaGreatDoorR17S
import Derived.Deep.DeepCutAuto
import Derived.Deep.CutBlock
import Derived.Deep.RegionHeld3
set_option linter.all false
namespace Go.Proofs.YtlfikhblmbidmaaGreatDoor
open Go.RowKit Go.Maps
theorem LRow.below_ {X Y : World} {v : Value} {bs : List UInt8} (h : LRow X v bs) (b : Below X.heap.size X Y) : LRow Y v bs := h.fr (Fr.of_below b : Fr Go.Proofs.YtlfikhblmbidmaaGreatDoor.S0 X Y) (fun _ _ e => e)
def wrD (ds : DSt) (b : List UInt8) : DSt := { ds with b := ds.b ++ frameB b, safe := (ds.b ++ frameB b).length }
set_option maxRecDepth 100000 in
set_option maxHeartbeats 4000000 in
theorem wr_any {w X : World} {dp dq rp a m l k ra rq bd br bs : Nat} {dv dsv rv rsv rav rlv pv qv : Value} {ds : DSt} {rl : VL} {t u : NSt} {sc : Array Value} {b : List UInt8} {E : Int}
  (h : PS w X dp dq dv dsv rp rv rsv ds ds a m l k ra rav rq rlv rl t u bd br bs sc) (hF : FoursAt w) (hg : DGood ds) (hp : LRow X pv b) (hq : LRow X qv b) (hqd : ∀ i, qv.ownBlock = some i → ¬ dF dp dq dv dsv i)
  (hE : E = 0 → b.length ≤ 65536 ∧ ds.b.length + 8 + b.length ≤ 16777216) (hbl : b.length ≤ 65536) :
  Calls Tryz.prog 37 #[pv, .int .i64 E, qv, .int .i64 E, .pointer (some ⟨bd, 0, none⟩), .pointer (some ⟨br, 0, none⟩)] X fun e Y => e = .returned (.bool true) ∧
   ∃ dv' rv', PS w Y dp dq dv' dsv rp rv' rsv (if E = 0 then wrD ds b else ds) (if E = 0 then wrD ds b else ds) a m l k ra rav rq rlv rl t u bd br bs sc := by
 have P := Lib.hid h
 have HP := Lib.hid hp
 have HQ := Lib.hid hq
 have HQD := Lib.hid hqd
 have HFF := Lib.hid hF
 have G := Lib.hid hg
 clear h hp hq hqd hF hg
 have PD := Lib.hid (P.out.below ((Below.refl _ X).drew))
 have k0 := P.out.kd.cell (i := 0) (v := .pointer (some ⟨dp, 0, none⟩)) rfl
 have k1 := P.out.kr.cell (i := 0) (v := .pointer (some ⟨rp, 0, none⟩)) rfl
 have HPD := Lib.hid (HP.out.below_ ((Below.refl _ X).drew))
 have HQD2 := Lib.hid (HQ.out.below_ ((Below.refl _ X).drew))
 by_cases he : E = 0
 ·subst he
  obtain ⟨hb1, hfit⟩ := hE rfl
  have HW1 := Lib.hid (write_yes _ _ PD.out.two.d G.out (HFF.out.below PD.out.two.bel) (LRow.bsIn HPD.out) hb1 hfit)
  rw [if_pos rfl]
  clear hE
  go_enter Tryz.func37, Tryz.ntmps37
  go_wp2_with fail
  refine wp_region_held_drew (S := (fun Y => Y.cell? ⟨bd, 0, none⟩ = some (.pointer (some ⟨dp, 0, none⟩)) ∧ Y.cell? ⟨br, 0, none⟩ = some (.pointer (some ⟨rp, 0, none⟩)))) (by kernel_rfl) ?_ (fun hHeld => ?_)
  ·exact ⟨k0, k1⟩
  try dsimp only at hHeld
  refine hY 0 (some 11) hHeld ?_
  refine hY 1 (some 12) hHeld ?_
  refine hY 2 (some 13) hHeld ?_
  refine hY 3 (some 14) hHeld ?_
  refine hY 4 (some 15) hHeld ?_
  refine hY 5 (some 16) hHeld ?_
  refine wpAnyH_ready (rs := [6]) (by kernel_rfl) (by simp) ?_
  refine (AllReadyH.cons rfl (fun K' hK' => ?_) AllReadyH.nil)
  go_simp
  (refine (bequal_same _ _ b _ (LRow.bsIn HPD.out) (LRow.bsIn HQD2.out)).mono ?_; rintro e x7 ⟨rfl, rfl⟩)
  go_wp2_with fail
  refine hK'.out _ _ ?_ (fun hHeld => ?_)
  ·first | exact hHeld | exact ⟨x0, x1⟩ | go_keep
  clear hK' K'
  try dsimp only at hHeld
  try simp only [Act.put, List.setIfInBounds_toArray, List.set_cons_zero, List.set_cons_succ]
  refine hY 7 (some 18) hHeld ?_
  refine hY 8 (some 19) hHeld ?_
  refine hY 9 (some 20) hHeld ?_
  refine hY 10 (some 21) hHeld ?_
  refine hY 11 (some 22) hHeld ?_
  refine hY 12 (some 23) hHeld ?_
  refine hY 13 (some 24) hHeld ?_
  refine hY 15 (some 26) hHeld ?_
  refine hY 16 (some 27) hHeld ?_
  refine wpAnyH_ready (rs := [14]) (by kernel_rfl) (by simp) ?_
  refine (AllReadyH.cons rfl (fun K' hK' => ?_) AllReadyH.nil)
  go_simp
  (refine HW1.out.mono ?_; rintro e X3 ⟨rfl, dv3, hs⟩; have p3 := PD.out.dstep hs; have x0 := p3.kd.cell (i := 0) (v := .pointer (some ⟨dp, 0, none⟩)) rfl; have x1 := p3.kr.cell (i := 0) (v := .pointer (some ⟨rp, 0, none⟩)) rfl; have Q3 := Lib.hid (HQD2.out.fr hs.fr HQD.out); have P3 := Lib.hid p3; clear hs p3)
  go_wp2_with fail
  refine hK'.out _ _ ?_ (fun hHeld => ?_)
  ·first | exact hHeld | exact ⟨x0, x1⟩ | go_keep
  clear hK' K'
  try dsimp only at hHeld
  try simp only [Act.put, List.setIfInBounds_toArray, List.set_cons_zero, List.set_cons_succ]
  refine wpAnyH_ready (rs := [17]) (by kernel_rfl) (by simp) ?_
  refine (AllReadyH.cons rfl (fun K' hK' => ?_) AllReadyH.nil)
  go_simp
  (refine (rwrite_yes _ _ P3.out.two.r G.out (LRow.bsIn Q3.out) hb1 hfit).mono ?_; rintro e X4 ⟨rfl, rv4, hs⟩; have p4 := P3.out.rstep hs; have x0 := p4.kd.cell (i := 0) (v := .pointer (some ⟨dp, 0, none⟩)) rfl; have x1 := p4.kr.cell (i := 0) (v := .pointer (some ⟨rp, 0, none⟩)) rfl; have P4 := Lib.hid p4; clear hs p4)
  go_wp2_with fail
  refine hK'.out _ _ ?_ (fun hHeld => ?_)
  ·first | exact hHeld | exact ⟨x0, x1⟩ | go_keep
  clear hK' K'
  try dsimp only at hHeld
  try simp only [Act.put, List.setIfInBounds_toArray, List.set_cons_zero, List.set_cons_succ]
  refine hY 18 (some 29) hHeld ?_
  refine hY 19 (some 30) hHeld ?_
  refine hY 20 (some 31) hHeld ?_
  refine hY 21 (some 10) hHeld ?_
  refine wpAnyH_done (by kernel_rfl) ?_ _
  go_wp2_with fail
  go_returns
  exact ⟨rfl, _, _, P4.out⟩
 ·have h0 : (E != 0) = true := by simpa using he
  have h1 : (E == E) = true := by simp
  rw [if_neg he]
  clear hE
  go_enter Tryz.func37, Tryz.ntmps37
  go_wp2_with fail
  refine wp_region_held_drew (S := (fun Y => Y.cell? ⟨bd, 0, none⟩ = some (.pointer (some ⟨dp, 0, none⟩)) ∧ Y.cell? ⟨br, 0, none⟩ = some (.pointer (some ⟨rp, 0, none⟩)))) (by kernel_rfl) ?_ (fun hHeld => ?_)
  ·exact ⟨k0, k1⟩
  try dsimp only at hHeld
  refine hY 0 (some 11) hHeld ?_
  refine hY 1 (some 12) hHeld ?_
  refine hY 2 (some 13) hHeld ?_
  refine hY 3 (some 14) hHeld ?_
  refine hY 4 (some 15) hHeld ?_
  refine hY 5 (some 16) hHeld ?_
  refine wpAnyH_ready (rs := [6]) (by kernel_rfl) (by simp) ?_
  refine (AllReadyH.cons rfl (fun K' hK' => ?_) AllReadyH.nil)
  go_simp
  (refine (bequal_same _ _ b _ (LRow.bsIn HPD.out) (LRow.bsIn HQD2.out)).mono ?_; rintro e x7 ⟨rfl, rfl⟩)
  go_wp2_with fail
  refine hK'.out _ _ ?_ (fun hHeld => ?_)
  ·first | exact hHeld | go_keep
  clear hK' K'
  try dsimp only at hHeld
  try simp only [Act.put, List.setIfInBounds_toArray, List.set_cons_zero, List.set_cons_succ]
  refine hY 7 (some 18) hHeld ?_
  refine hY 8 (some 19) hHeld ?_
  refine hY 9 (some 20) hHeld ?_
  refine hY 10 (some 21) hHeld ?_
  refine hY 11 (some 22) hHeld ?_
  refine hN 12 (some 23) (wanted_f rfl rfl rfl) hHeld ?_
  refine hN 13 (some 24) (wanted_f rfl rfl rfl) hHeld ?_
  refine hN 14 (some 25) (wanted_f rfl rfl rfl) hHeld ?_
  refine hN 15 (some 26) (wanted_f rfl rfl rfl) hHeld ?_
  refine hN 16 (some 27) (wanted_f rfl rfl rfl) hHeld ?_
  refine hN 17 (some 28) (wanted_f rfl rfl rfl) hHeld ?_
  refine hN 18 (some 29) (wanted_f rfl rfl rfl) hHeld ?_
  refine hY 19 (some 30) hHeld ?_
  refine hY 20 (some 31) hHeld ?_
  refine hY 21 (some 10) hHeld ?_
  refine wpAnyH_done (by kernel_rfl) ?_ _
  go_wp2_with fail
  go_returns
  exact ⟨rfl, _, _, PD.out⟩
end Go.Proofs.YtlfikhblmbidmaaGreatDoor