/- The walk of skaldlaw17.StableCompacts: it returns true, and writes nothing that was there. -/
import Derived.Test.YtlfikhblmbidmaaGreatDoorKeepE
import Derived.OpenShut
import Derived.Deep.DeepCutAuto
import Derived.Deep.CutBlock
import Derived.Deep.LoopGhost
import Derived.Deep.RegionHeld3
set_option linter.unusedVariables false
set_option linter.unusedSimpArgs false
namespace Go.Proofs.YtlfikhblmbidmaaGreatDoor.stableCompacts
open Go.RowKit Go.Shelf
set_option maxRecDepth 100000 in
set_option maxHeartbeats 4000000 in
theorem walk (v0 : Value) (L : List Dd) (v1 : Value) (M : List Dd) (a2 : Int) (w : World) (w0 : DeedsIn w v0 L) (w1 : DeedsIn w v1 M) (w2 : (Lit.int .u8 a2).wf = true) (ht : TabP w) :
    Calls Tryz.prog 10 #[v0, v1, .int .u8 a2] w fun e w' => e = .returned (.bool true) ∧ Below w.heap.size w w' := by
  obtain ⟨fg, rfl⟩ := Int.eq_ofNat_of_zero_le (u8_wf w2).1
  have hle := (u8_wf w2).2
  obtain ⟨A, cap, rfl, hlc, hml, hok0, hc0⟩ := id w0
  obtain ⟨A1, cap1, rfl, hlc1, hml1, hok1, hc1⟩ := id w1
  have hml' : cap ≤ 9223372036854775807 := by unfold maxLen at hml; omega
  have hml1' : cap1 ≤ 9223372036854775807 := by unfold maxLen at hml1; omega
  obtain ⟨n0, hn0, hn0l⟩ : ∃ n0 : Nat, min (L.length : Int) 60 = (n0 : Int) ∧ n0 ≤ L.length ∧ n0 ≤ 60 := ⟨min L.length 60, by omega, by omega, by omega⟩
  obtain ⟨n1, hn1, hn1l⟩ : ∃ n1 : Nat, min (M.length : Int) 60 = (n1 : Int) ∧ n1 ≤ M.length ∧ n1 ≤ 60 := ⟨min M.length 60, by omega, by omega, by omega⟩
  have HD := Lib.hid (w0.take n0 hn0l.1)
  have HM := Lib.hid (w1.take n1 hn1l.1)
  have HT := Lib.hid (show FoursAt w from ht)
  have HFA : Hid (∀ X : World, Below w.heap.size w X → FoursAt X) := fun X hb => HT.out.below hb
  clear w0 w1 w2 ht hc0 hok0 hc1 hok1
  go_enter Tryz.func10, Tryz.ntmps10
  go_upto_region 4 with (first
    | (go_at_call 56; refine (fresh_any w HT.out).mono ?_; rintro e x1 ⟨np, a, m, l, k, p, q, rfl, hk⟩; have K1 := Lib.hid hk; clear hk)
    | (go_at_call 57; (with_reducible refine (kdo_any K1.out HT.out _ (L.take n0) HD.out ?_ ?_).mono ?_); (rw [List.length_take]; omega); decide; rintro e x2 ⟨rfl, v2, t, b, hk, hbl⟩; have hbl2 : b.length ≤ 10000 := (by rw [List.length_take] at hbl; simp at hbl; omega); have K2 := Lib.hid hk; clear hk hbl K1))
  have hkp := K2.out.hist.kept
  have HKP := Lib.hid hkp
  have y0 := K2.out.blk.cell (i := 0) (v := .pointer (some ⟨a, 0, none⟩)) rfl
  have HNB := Lib.hid (nd_nF K2.out.blk K2.out.ns)
  clear hkp
  obtain ⟨u1, hu1⟩ : ∃ u1 : Int, (fg : Int) % 12 = u1 := ⟨_, rfl⟩
  go_upto_region 5 with (go_at_call 44; (with_reducible refine (forget_S a m t.a _ _ K2.out.ns.a).mono ?_); rintro e x3 ⟨rfl, hs, hf⟩; have N3 := Lib.hid (K2.out.ns.withA hs hf (fun i e => e)); have hf2 : Fr (nF a m l k) x2 x3 := (hf.mono fun i e => (by rcases e with e | e; exact .inl e; exact .inr (.inl e))); have D3 := Lib.hid (K2.out.dk.node K2.out.ns hf2 K2.out.lo); have B3 := Lib.hid (K2.out.blk.fr hf2 HNB.out); clear hs hf hf2)
  have hbd : Below x3.heap.size x3 x3.drew := (Below.refl _ x3).drew
  have N4 := Lib.hid (N3.out.below hbd)
  have D4 := Lib.hid (D3.out.below hbd)
  have B4 := Lib.hid (B3.out.of_block (hbd.block _ B3.out.lt))
  have LO := Lib.hid K2.out.lo
  have NLO := Lib.hid K2.out.nlo
  have y1 := B4.out.cell (i := 1) (v := .pointer (some ⟨l, 0, none⟩)) rfl
  clear hbd N3 D3 B3 K2 y0
  refine wp_region_held_drew (S := (fun W => W.cell? ⟨np, 1, none⟩ = some (.pointer (some ⟨l, 0, none⟩)))) (by kernel_rfl) ?_ (fun hHeld => ?_)
  · exact y1
  try dsimp only at hHeld
  refine held_yes (i := 0) (some 40) (v := ?_) rfl rfl (by kernel_rfl) (by kernel_rfl) (by kernel_rfl) (fun _ _ _ h => h) (by rfl) ?_ hHeld ?_
  rotate_left
  · (intro w hSw; (try dsimp only at hSw); go_simp; all_goals with_reducible rfl)
  try simp only [Act.put, List.setIfInBounds_toArray, List.set_cons_zero, List.set_cons_succ]
  refine held_yes (i := 1) (some 41) (v := ?_) rfl rfl (by kernel_rfl) (by kernel_rfl) (by kernel_rfl) (fun _ _ _ h => h) (by rfl) ?_ hHeld ?_
  rotate_left
  · (intro w hSw; (try dsimp only at hSw); go_simp; all_goals with_reducible rfl)
  try simp only [Act.put, List.setIfInBounds_toArray, List.set_cons_zero, List.set_cons_succ]
  refine held_yes (i := 2) (some 42) (v := ?_) rfl rfl (by kernel_rfl) (by kernel_rfl) (by kernel_rfl) (fun _ _ _ h => h) (by rfl) ?_ hHeld ?_
  rotate_left
  · (intro w hSw; (try dsimp only at hSw); go_simp; all_goals with_reducible rfl)
  try simp only [Act.put, List.setIfInBounds_toArray, List.set_cons_zero, List.set_cons_succ]
  refine held_yes (i := 3) (some 43) (v := ?_) rfl rfl (by kernel_rfl) (by kernel_rfl) (by kernel_rfl) (fun _ _ _ h => h) (by rfl) ?_ hHeld ?_
  rotate_left
  · (intro w hSw; (try dsimp only at hSw); go_simp; all_goals with_reducible rfl)
  try simp only [Act.put, List.setIfInBounds_toArray, List.set_cons_zero, List.set_cons_succ]
  refine held_yes (i := 4) (some 44) (v := ?_) rfl rfl (by kernel_rfl) (by kernel_rfl) (by kernel_rfl) (fun _ _ _ h => h) (by rfl) ?_ hHeld ?_
  rotate_left
  · (intro w hSw; (try dsimp only at hSw); go_simp; all_goals with_reducible rfl)
  try simp only [Act.put, List.setIfInBounds_toArray, List.set_cons_zero, List.set_cons_succ]
  refine held_yes (i := 5) (some 45) (v := ?_) rfl rfl (by kernel_rfl) (by kernel_rfl) (by kernel_rfl) (fun _ _ _ h => h) (by rfl) ?_ hHeld ?_
  rotate_left
  · (intro w hSw; (try dsimp only at hSw); go_simp; all_goals with_reducible rfl)
  try simp only [Act.put, List.setIfInBounds_toArray, List.set_cons_zero, List.set_cons_succ]
  refine held_yes (i := 6) (some 46) (v := ?_) rfl rfl (by kernel_rfl) (by kernel_rfl) (by kernel_rfl) (fun _ _ _ h => h) (by rfl) ?_ hHeld ?_
  rotate_left
  · (intro w hSw; (try dsimp only at hSw); go_simp; all_goals with_reducible rfl)
  try simp only [Act.put, List.setIfInBounds_toArray, List.set_cons_zero, List.set_cons_succ]
  refine held_yes (i := 7) (some 47) (v := ?_) rfl rfl (by kernel_rfl) (by kernel_rfl) (by kernel_rfl) (fun _ _ _ h => h) (by rfl) ?_ hHeld ?_
  rotate_left
  · (intro w hSw; (try dsimp only at hSw); go_simp; all_goals with_reducible rfl)
  try simp only [Act.put, List.setIfInBounds_toArray, List.set_cons_zero, List.set_cons_succ]
  refine held_yes (i := 9) (some 49) (v := ?_) rfl rfl (by kernel_rfl) (by kernel_rfl) (by kernel_rfl) (fun _ _ _ h => h) (by rfl) ?_ hHeld ?_
  rotate_left
  · (intro w hSw; (try dsimp only at hSw); go_simp; all_goals with_reducible rfl)
  try simp only [Act.put, List.setIfInBounds_toArray, List.set_cons_zero, List.set_cons_succ]
  refine held_yes (i := 10) (some 50) (v := ?_) rfl rfl (by kernel_rfl) (by kernel_rfl) (by kernel_rfl) (fun _ _ _ h => h) (by rfl) ?_ hHeld ?_
  rotate_left
  · (intro w hSw; (try dsimp only at hSw); go_simp; all_goals with_reducible rfl)
  try simp only [Act.put, List.setIfInBounds_toArray, List.set_cons_zero, List.set_cons_succ]
  refine held_yes (i := 11) (some 51) (v := ?_) rfl rfl (by kernel_rfl) (by kernel_rfl) (by kernel_rfl) (fun _ _ _ h => h) (by rfl) ?_ hHeld ?_
  rotate_left
  · (intro w hSw; (try dsimp only at hSw); go_simp; all_goals with_reducible rfl)
  try simp only [Act.put, List.setIfInBounds_toArray, List.set_cons_zero, List.set_cons_succ]
  refine wpAnyH_ready (rs := [8]) (by kernel_rfl) (by simp) ?_
  refine (AllReadyH.cons rfl (fun K' hK' => ?_) AllReadyH.nil)
  go_simp
  (refine (lupto_any (m := k) (s := t.l) N4.out.l.at_).mono ?_; rintro e x5 ⟨rfl, rfl⟩)
  go_wp2_with fail
  refine hK'.out _ _ ?_ (fun hHeld => ?_)
  · first | exact hHeld | exact y5
  clear hK' K'
  try dsimp only at hHeld
  try simp only [Act.put, List.setIfInBounds_toArray, List.set_cons_zero, List.set_cons_succ]
  refine held_yes (i := 12) (some 52) (v := ?_) rfl rfl (by kernel_rfl) (by kernel_rfl) (by kernel_rfl) (fun _ _ _ h => h) (by rfl) ?_ hHeld ?_
  rotate_left
  · (intro w hSw; (try dsimp only at hSw); go_simp; all_goals with_reducible rfl)
  try simp only [Act.put, List.setIfInBounds_toArray, List.set_cons_zero, List.set_cons_succ]
  refine wpAnyH_ready (rs := [13]) (by kernel_rfl) (by simp) ?_
  refine (AllReadyH.cons rfl (fun K' hK' => ?_) AllReadyH.nil)
  go_simp
  (refine (lfor_any _ N4.out.l).mono ?_; rintro e x5 ⟨rfl, hs, hf⟩; have hf2 : Fr (nF a m l k) x3.drew x5 := (hf.mono fun i e => (by rcases e with e | e; exact .inr (.inr (.inl e)); exact .inr (.inr (.inr e)))); have N5 := Lib.hid (N4.out.withL hs hf); have D5 := Lib.hid (D4.out.node N4.out hf2 LO.out); have B5 := Lib.hid (B4.out.fr hf2 HNB.out); have y5 := B5.out.cell (i := 1) (v := .pointer (some ⟨l, 0, none⟩)) rfl; clear hs hf hf2)
  go_wp2_with fail
  refine hK'.out _ _ ?_ (fun hHeld => ?_)
  · first | exact hHeld | exact y5
  clear hK' K'
  try dsimp only at hHeld
  try simp only [Act.put, List.setIfInBounds_toArray, List.set_cons_zero, List.set_cons_succ]
  refine wpAnyH_done (by kernel_rfl) ?_ _
  clear y1 y5
  go_upto_region 6 with fail
  have hk1 := (HKP.out.trans (Kept.fo t u1)).trans (Kept.lfor ⟨foS t.a u1, t.l⟩ (min t.l.upto (IntKind.i64.wrap ((fg : Int).tmod 12))))
  obtain ⟨t1, ht1⟩ : ∃ t1 : NSt, (⟨foS t.a u1, lforS t.l (min t.l.upto (IntKind.i64.wrap ((fg : Int).tmod 12)))⟩ : NSt) = t1 := ⟨_, rfl⟩
  have hk1 : Kept (newN 3) t1 (b.length + 0 + 0) := by rw [← ht1]; exact hk1
  have N5 := Lib.hid (show NS x5 a m l k t1 by rw [← ht1]; exact N5.out)
  have hsn : (snapB t1).length ≤ 65536 := by
    have h1 := snap_len N5.out.a.good N5.out.l.good
    have h2 := hk1.len
    rw [body_new] at h2
    omega
  have hV := hk1.size (newN_L 3)
  have hLS : loadS 3 (snapB t1) = some t1 := by
    have h := loadS_snap N5.out.a.good N5.out.l.good hV
    rw [show t1.a.n = 3 from hk1.n] at h
    exact h
  obtain ⟨S, hS⟩ : ∃ S, snapB t1 = S := ⟨_, rfl⟩
  have HV := Lib.hid hV
  have HSN := Lib.hid hsn
  rw [hS] at hLS
  have HLS := Lib.hid hLS
  have HCK := Lib.hid (fun (X : World) (a m l k : Nat) (v sv : Value) (ds : DSt) (h : DiskAt X p q v sv ds) (hg : DGood ds) (hn : NS X a m l k t1) => compactK h hg hn hsn hV)
  rw [hS] at HCK HSN
  have hsl : S.length ≤ 65536 := HSN.out
  clear hk1 ht1 hsn hV hLS hS HKP hHeld
  have hbd : Below x5.heap.size x5 x5.drew := (Below.refl _ x5).drew
  have N6 := Lib.hid (N5.out.below hbd)
  have D6 := Lib.hid (D5.out.below hbd)
  have B6 := Lib.hid (B5.out.of_block (hbd.block _ B5.out.lt))
  have y0 := B6.out.cell (i := 0) (v := .pointer (some ⟨a, 0, none⟩)) rfl
  have y1 := B6.out.cell (i := 1) (v := .pointer (some ⟨l, 0, none⟩)) rfl
  have y2 := B6.out.cell (i := 2) (v := .pointer (some ⟨p, 0, none⟩)) rfl
  clear hbd N5 D5 B5 N4 D4 B4
  refine wp_region_held_drew (S := (fun W => W.cell? ⟨np, 0, none⟩ = some (.pointer (some ⟨a, 0, none⟩)) ∧ W.cell? ⟨np, 1, none⟩ = some (.pointer (some ⟨l, 0, none⟩)) ∧ W.cell? ⟨np, 2, none⟩ = some (.pointer (some ⟨p, 0, none⟩)))) (by kernel_rfl) ?_ (fun hHeld => ?_)
  · exact ⟨y0, y1, y2⟩
  try dsimp only at hHeld
  refine held_yes (i := 0) (some 54) (v := ?_) rfl rfl (by kernel_rfl) (by kernel_rfl) (by kernel_rfl) (fun _ _ _ h => h) (by rfl) ?_ hHeld ?_
  rotate_left
  · (intro w hSw; (try dsimp only at hSw); go_simp; all_goals with_reducible rfl)
  try simp only [Act.put, List.setIfInBounds_toArray, List.set_cons_zero, List.set_cons_succ]
  refine held_yes (i := 1) (some 55) (v := ?_) rfl rfl (by kernel_rfl) (by kernel_rfl) (by kernel_rfl) (fun _ _ _ h => h) (by rfl) ?_ hHeld ?_
  rotate_left
  · (intro w hSw; (try dsimp only at hSw); go_simp; all_goals with_reducible rfl)
  try simp only [Act.put, List.setIfInBounds_toArray, List.set_cons_zero, List.set_cons_succ]
  refine held_yes (i := 2) (some 56) (v := ?_) rfl rfl (by kernel_rfl) (by kernel_rfl) (by kernel_rfl) (fun _ _ _ h => h) (by rfl) ?_ hHeld ?_
  rotate_left
  · (intro w hSw; (try dsimp only at hSw); go_simp; all_goals with_reducible rfl)
  try simp only [Act.put, List.setIfInBounds_toArray, List.set_cons_zero, List.set_cons_succ]
  refine held_yes (i := 3) (some 57) (v := ?_) rfl rfl (by kernel_rfl) (by kernel_rfl) (by kernel_rfl) (fun _ _ _ h => h) (by rfl) ?_ hHeld ?_
  rotate_left
  · (intro w hSw; (try dsimp only at hSw); go_simp; all_goals with_reducible rfl)
  try simp only [Act.put, List.setIfInBounds_toArray, List.set_cons_zero, List.set_cons_succ]
  refine held_yes (i := 4) (some 58) (v := ?_) rfl rfl (by kernel_rfl) (by kernel_rfl) (by kernel_rfl) (fun _ _ _ h => h) (by rfl) ?_ hHeld ?_
  rotate_left
  · (intro w hSw; (try dsimp only at hSw); go_simp; all_goals with_reducible rfl)
  try simp only [Act.put, List.setIfInBounds_toArray, List.set_cons_zero, List.set_cons_succ]
  refine held_yes (i := 5) (some 59) (v := ?_) rfl rfl (by kernel_rfl) (by kernel_rfl) (by kernel_rfl) (fun _ _ _ h => h) (by rfl) ?_ hHeld ?_
  rotate_left
  · (intro w hSw; (try dsimp only at hSw); go_simp; all_goals with_reducible rfl)
  try simp only [Act.put, List.setIfInBounds_toArray, List.set_cons_zero, List.set_cons_succ]
  refine held_yes (i := 6) (some 60) (v := ?_) rfl rfl (by kernel_rfl) (by kernel_rfl) (by kernel_rfl) (fun _ _ _ h => h) (by rfl) ?_ hHeld ?_
  rotate_left
  · (intro w hSw; (try dsimp only at hSw); go_simp; all_goals with_reducible rfl)
  try simp only [Act.put, List.setIfInBounds_toArray, List.set_cons_zero, List.set_cons_succ]
  refine held_yes (i := 7) (some 61) (v := ?_) rfl rfl (by kernel_rfl) (by kernel_rfl) (by kernel_rfl) (fun _ _ _ h => h) (by rfl) ?_ hHeld ?_
  rotate_left
  · (intro w hSw; (try dsimp only at hSw); go_simp; all_goals with_reducible rfl)
  try simp only [Act.put, List.setIfInBounds_toArray, List.set_cons_zero, List.set_cons_succ]
  refine held_yes (i := 8) (some 62) (v := ?_) rfl rfl (by kernel_rfl) (by kernel_rfl) (by kernel_rfl) (fun _ _ _ h => h) (by rfl) ?_ hHeld ?_
  rotate_left
  · (intro w hSw; (try dsimp only at hSw); go_simp; all_goals with_reducible rfl)
  try simp only [Act.put, List.setIfInBounds_toArray, List.set_cons_zero, List.set_cons_succ]
  refine held_yes (i := 9) (some 63) (v := ?_) rfl rfl (by kernel_rfl) (by kernel_rfl) (by kernel_rfl) (fun _ _ _ h => h) (by rfl) ?_ hHeld ?_
  rotate_left
  · (intro w hSw; (try dsimp only at hSw); go_simp; all_goals with_reducible rfl)
  try simp only [Act.put, List.setIfInBounds_toArray, List.set_cons_zero, List.set_cons_succ]
  refine held_yes (i := 10) (some 64) (v := ?_) rfl rfl (by kernel_rfl) (by kernel_rfl) (by kernel_rfl) (fun _ _ _ h => h) (by rfl) ?_ hHeld ?_
  rotate_left
  · (intro w hSw; (try dsimp only at hSw); go_simp; all_goals with_reducible rfl)
  try simp only [Act.put, List.setIfInBounds_toArray, List.set_cons_zero, List.set_cons_succ]
  refine held_yes (i := 11) (some 65) (v := ?_) rfl rfl (by kernel_rfl) (by kernel_rfl) (by kernel_rfl) (fun _ _ _ h => h) (by rfl) ?_ hHeld ?_
  rotate_left
  · (intro w hSw; (try dsimp only at hSw); go_simp; all_goals with_reducible rfl)
  try simp only [Act.put, List.setIfInBounds_toArray, List.set_cons_zero, List.set_cons_succ]
  refine wpAnyH_ready (rs := [12]) (by kernel_rfl) (by simp) ?_
  refine (AllReadyH.cons rfl (fun K' hK' => ?_) AllReadyH.nil)
  go_simp
  ((with_reducible refine (HCK.out _ a m l k _ _ _ D6.out.at_ ?_ N6.out).mono ?_); (exact sK_good (by omega) (by decide)); rintro e x6 ⟨rfl, sv6, hs⟩; have D7 := Lib.hid (D6.out.step hs); have N7 := Lib.hid (hs.ns_ D6.out.at_ N6.out); have B7 := Lib.hid (hs.blk D6.out.at_ B6.out (by decide) (by decide) (by decide)); have z0 := B7.out.cell (i := 0) (v := .pointer (some ⟨a, 0, none⟩)) rfl; have z1 := B7.out.cell (i := 1) (v := .pointer (some ⟨l, 0, none⟩)) rfl; have z2 := B7.out.cell (i := 2) (v := .pointer (some ⟨p, 0, none⟩)) rfl; clear hs)
  go_wp2_with fail
  refine hK'.out _ _ ?_ (fun hHeld => ?_)
  · first | exact hHeld | exact ⟨z0, z1, z2⟩
  clear hK' K'
  try dsimp only at hHeld
  try simp only [Act.put, List.setIfInBounds_toArray, List.set_cons_zero, List.set_cons_succ]
  refine held_yes (i := 13) (some 67) (v := ?_) rfl rfl (by kernel_rfl) (by kernel_rfl) (by kernel_rfl) (fun _ _ _ h => h) (by rfl) ?_ hHeld ?_
  rotate_left
  · (intro w hSw; (try dsimp only at hSw); go_simp; all_goals with_reducible rfl)
  try simp only [Act.put, List.setIfInBounds_toArray, List.set_cons_zero, List.set_cons_succ]
  refine held_yes (i := 14) (some 68) (v := ?_) rfl rfl (by kernel_rfl) (by kernel_rfl) (by kernel_rfl) (fun _ _ _ h => h) (by rfl) ?_ hHeld ?_
  rotate_left
  · (intro w hSw; (try dsimp only at hSw); go_simp; all_goals with_reducible rfl)
  try simp only [Act.put, List.setIfInBounds_toArray, List.set_cons_zero, List.set_cons_succ]
  refine held_yes (i := 15) (some 69) (v := ?_) rfl rfl (by kernel_rfl) (by kernel_rfl) (by kernel_rfl) (fun _ _ _ h => h) (by rfl) ?_ hHeld ?_
  rotate_left
  · (intro w hSw; (try dsimp only at hSw); go_simp; all_goals with_reducible rfl)
  try simp only [Act.put, List.setIfInBounds_toArray, List.set_cons_zero, List.set_cons_succ]
  refine held_yes (i := 16) (some 70) (v := ?_) rfl rfl (by kernel_rfl) (by kernel_rfl) (by kernel_rfl) (fun _ _ _ h => h) (by rfl) ?_ hHeld ?_
  rotate_left
  · (intro w hSw; (try dsimp only at hSw); go_simp; all_goals with_reducible rfl)
  try simp only [Act.put, List.setIfInBounds_toArray, List.set_cons_zero, List.set_cons_succ]
  refine held_yes (i := 17) (some 71) (v := ?_) rfl rfl (by kernel_rfl) (by kernel_rfl) (by kernel_rfl) (fun _ _ _ h => h) (by rfl) ?_ hHeld ?_
  rotate_left
  · (intro w hSw; (try dsimp only at hSw); go_simp; all_goals with_reducible rfl)
  try simp only [Act.put, List.setIfInBounds_toArray, List.set_cons_zero, List.set_cons_succ]
  refine held_yes (i := 18) (some 72) (v := ?_) rfl rfl (by kernel_rfl) (by kernel_rfl) (by kernel_rfl) (fun _ _ _ h => h) (by rfl) ?_ hHeld ?_
  rotate_left
  · (intro w hSw; (try dsimp only at hSw); go_simp; all_goals with_reducible rfl)
  try simp only [Act.put, List.setIfInBounds_toArray, List.set_cons_zero, List.set_cons_succ]
  refine wpAnyH_ready (rs := [19]) (by kernel_rfl) (by simp) ?_
  refine (AllReadyH.cons rfl (fun K' hK' => ?_) AllReadyH.nil)
  go_simp
  (refine (dlen_any D7.out.at_).mono ?_; rintro e x7 ⟨rfl, rfl⟩)
  go_wp2_with fail
  refine hK'.out _ _ ?_ (fun hHeld => ?_)
  · first | exact hHeld | exact ⟨z0, z1, z2⟩
  clear hK' K'
  try dsimp only at hHeld
  try simp only [Act.put, List.setIfInBounds_toArray, List.set_cons_zero, List.set_cons_succ]
  refine held_yes (i := 20) (some 74) (v := ?_) rfl rfl (by kernel_rfl) (by kernel_rfl) (by kernel_rfl) (fun _ _ _ h => h) (by rfl) ?_ hHeld ?_
  rotate_left
  · (intro w hSw; (try dsimp only at hSw); go_simp; all_goals with_reducible rfl)
  try simp only [Act.put, List.setIfInBounds_toArray, List.set_cons_zero, List.set_cons_succ]
  refine held_yes (i := 21) (some 75) (v := ?_) rfl rfl (by kernel_rfl) (by kernel_rfl) (by kernel_rfl) (fun _ _ _ h => h) (by rfl) ?_ hHeld ?_
  rotate_left
  · (intro w hSw; (try dsimp only at hSw); go_simp; all_goals with_reducible rfl)
  try simp only [Act.put, List.setIfInBounds_toArray, List.set_cons_zero, List.set_cons_succ]
  refine wpAnyH_done (by kernel_rfl) ?_ _
  clear y0 y1 y2 N6 D6 B6 hHeld
  have K7 := Lib.hid (show KSt w x6 np a m l k p q (.slice none 0 0) sv6 t1 t1 [] S true from ⟨B7.out, N7.out, D7.out, Hist.new t1, hsl, LO.out, NLO.out⟩)
  clear B7 N7 D7 LO NLO HNB z0 z1
  go_upto_region 11 with (first
    | (go_at_call 15; (with_reducible refine (recover_snapK K7.out.dk ?_ hsl ?_ HLS.out K7.out.hist).mono ?_); decide; exact HFA.out _ K7.out.dk.bel; rintro e x8 ⟨a8, m8, l8, k8, rfl, hn, hlo, hb⟩; have K8 := Lib.hid (K7.out.below hb); have N8 := Lib.hid hn; clear hn hlo hb)
    | (go_at_call 59; (with_reducible refine (same_any K8.out.blk K8.out.ns N8.out).mono ?_); rintro e x9 ⟨rfl, hb⟩; have K9 := Lib.hid (K8.out.below hb); have N9 := Lib.hid (N8.out.below hb); clear hb K8 N8))
  clear hHeld z2 K7
  have e2 := K9.out.blk.cell (i := 2) (v := .pointer (some ⟨p, 0, none⟩)) rfl
  have hst8 : (sK ([] : List UInt8) S true).st.length ≤ 100000000 := by show S.length ≤ 100000000; omega
  go_upto_region 12 with (go_at_call 54; (with_reducible refine (dsnap_yes K9.out.dk.at_ rfl hst8).mono ?_); rintro e x10 ⟨vo, rfl, hv, hb⟩; obtain ⟨Av, nv, cv, rfl⟩ := row_shape hv; have R10 := Lib.hid hv; have K10 := Lib.hid (K9.out.below hb); have N10 := Lib.hid (N9.out.below hb); have e3 := bcell hb e2; clear hv hb)
  have hdlt : ∀ i, dF p q (.slice none 0 0) sv6 i → i < x9.heap.size := fun i hi => K9.out.dk.at_.lt hi
  have HDLT := Lib.hid hdlt
  have hrlo : ∀ g, (Value.slice Av nv cv).ownBlock = some g → x9.heap.size ≤ g := fun g hg => (row_lo R10.out hg).1
  have HRLO := Lib.hid hrlo
  clear hdlt hrlo e2 N9
  go_upto_region 14 with (go_at_call 17; (with_reducible refine (HCK.out _ a8 m8 l8 k8 _ _ _ K10.out.dk.at_ ?_ N10.out).mono ?_); (exact sK_good (by decide) hsl); rintro e x11 ⟨rfl, sv11, hs⟩; have K11 := Lib.hid (show KSt w x11 np a m l k p q (.slice none 0 0) sv11 t1 t1 [] S true from ⟨hs.blk K10.out.dk.at_ K10.out.blk (by decide) (by decide) (by decide), hs.ns_ K10.out.dk.at_ K10.out.ns, K10.out.dk.step hs, Hist.new t1, hsl, K10.out.lo, K10.out.nlo⟩); have R11 := Lib.hid (row_fr R10.out hs.fr (fun g hg e => by have := HDLT.out g e; have := HRLO.out g hg; omega)); clear hs)
  clear R10 K10 N10 HDLT HRLO K9 e3
  have e4 := K11.out.blk.cell (i := 2) (v := .pointer (some ⟨p, 0, none⟩)) rfl
  go_upto_region 15 with (go_at_call 54; (with_reducible refine (dsnap_yes K11.out.dk.at_ rfl hst8).mono ?_); rintro e x12 ⟨vo, rfl, hv, hb⟩; obtain ⟨Aw, nw, cw, rfl⟩ := row_shape hv; have R12 := Lib.hid (LRow.bsIn (LRow.of_row hv)); have Q12 := Lib.hid ((LRow.bsIn (LRow.of_row R11.out)).below hb); have K12 := Lib.hid (K11.out.below hb); clear hv hb)
  clear R11 K11 e4
  go_upto_region 17 with (first
    | (go_at_call 22; (with_reducible refine (bequal_same _ _ S _ Q12.out R12.out).mono ?_); rintro e x13 ⟨rfl, rfl⟩)
    | (go_at_call 57; (with_reducible refine (kdo_any K12.out HT.out _ (M.take n1) HM.out ?_ ?_).mono ?_); (rw [List.length_take]; omega); decide; rintro e x13 ⟨rfl, v13, t2, b2, hk, hbl⟩; have hbl2 : b2.length ≤ 10000 := (by rw [List.length_take] at hbl; simp at hbl; omega); have K13 := Lib.hid hk; clear hk hbl))
  clear R12 Q12 K12
  have e5 := K13.out.blk.cell (i := 2) (v := .pointer (some ⟨p, 0, none⟩)) rfl
  go_upto_region 18 with (go_at_call 51; (with_reducible refine (dtear_any (0 : Int) K13.out.dk.at_ (sK_good ?_ hsl) ?_ ?_).mono ?_); omega; exact HFA.out _ K13.out.dk.bel; decide; rintro e x14 ⟨rfl, v14, hs⟩; rw [K13.out.hist.torn] at hs; have K14 := Lib.hid (show KSt w x14 np a m l k p q v14 sv11 t1 t2 b2 S true from ⟨hs.blk K13.out.dk.at_ K13.out.blk (by decide) (by decide) (by decide), hs.ns_ K13.out.dk.at_ K13.out.ns, K13.out.dk.step hs, K13.out.hist, hsl, K13.out.lo, K13.out.nlo⟩); clear hs)
  clear K13 e5
  have e6 := K14.out.blk.cell (i := 2) (v := .pointer (some ⟨p, 0, none⟩)) rfl
  go_wp2_with (first
    | (go_at_call 15; (with_reducible refine (recover_snapK K14.out.dk ?_ hsl ?_ HLS.out K14.out.hist).mono ?_); omega; exact HFA.out _ K14.out.dk.bel; rintro e x15 ⟨a9, m9, l9, k9, rfl, hn, hlo, hb⟩; have K15 := Lib.hid (K14.out.below hb); have N15 := Lib.hid hn; clear hn hlo hb)
    | (go_at_call 59; (with_reducible refine (same_any K15.out.blk K15.out.ns N15.out).mono ?_); rintro e x16 ⟨rfl, hb⟩; have K16 := Lib.hid (K15.out.below hb); clear hb)
    | (go_at_call 18; refine (works_any _ (HFA.out _ K16.out.dk.bel)).mono ?_; rintro e x17 ⟨rfl, hb⟩; have K17 := Lib.hid (K16.out.below hb); clear hb))
  go_returns
  exact ⟨rfl, K17.out.dk.bel⟩
end Go.Proofs.YtlfikhblmbidmaaGreatDoor.stableCompacts
