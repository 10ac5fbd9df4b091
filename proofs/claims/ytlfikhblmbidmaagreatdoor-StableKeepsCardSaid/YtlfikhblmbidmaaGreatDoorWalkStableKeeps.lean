/- The walk of skaldlaw17.StableKeeps: it returns true, and writes nothing that was there. -/
import Derived.Test.YtlfikhblmbidmaaGreatDoorKeepC
import Derived.OpenShut
import Derived.Deep.DeepCutAuto
import Derived.Deep.CutBlock
import Derived.Deep.LoopGhost
import Derived.Deep.RegionHeld3
set_option linter.unusedVariables false
set_option linter.unusedSimpArgs false
namespace Go.Proofs.YtlfikhblmbidmaaGreatDoor.stableKeeps
open Go.RowKit Go.Shelf
set_option maxRecDepth 100000 in
set_option maxHeartbeats 4000000 in
theorem walk (v0 : Value) (L : List Dd) (x : Dd) (a2 : Int) (w : World) (w0 : DeedsIn w v0 L) (w1 : okDd x) (w2 : (Lit.int .u8 a2).wf = true) (ht : TabP w) :
    Calls Tryz.prog 9 #[v0, .agg (ddC x), .int .u8 a2] w fun e w' => e = .returned (.bool true) ∧ Below w.heap.size w w' := by
  obtain ⟨left, rfl⟩ := Int.eq_ofNat_of_zero_le (u8_wf w2).1
  have hle := (u8_wf w2).2
  obtain ⟨A, cap, rfl, hlc, hml, hok0, hc0⟩ := id w0
  have hml' : cap ≤ 9223372036854775807 := by unfold maxLen at hml; omega
  have hbx := box_below w (.cells (ddC x) 83)
  obtain ⟨n0, hn0, hn0l⟩ : ∃ n0 : Nat, min (L.length : Int) 60 = (n0 : Int) ∧ n0 ≤ L.length ∧ n0 ≤ 60 := ⟨min L.length 60, by omega, by omega, by omega⟩
  have HD := Lib.hid ((w0.below hbx).take n0 hn0l.1)
  have HT := Lib.hid ((show FoursAt w from ht).below hbx)
  have KX := Lib.hid (Blk.new w 83 (ddC x))
  have HBX := Lib.hid hbx
  have HOK := Lib.hid w1
  have ROK := Lib.hid (recD_ok x)
  have RLN := Lib.hid (recD_len x)
  have hz1 : (w.alloc (.cells (ddC x) 83)).heap.size = w.heap.size + 1 := by simp
  clear w0 w1 w2 ht hbx hc0 hok0
  go_enter Tryz.func9, Tryz.ntmps9
  go_upto_region 1 with fail
  have hkx : w.heap.size < (w.alloc (.cells (ddC x) 83)).heap.size := by omega
  generalize (w.alloc (.cells (ddC x) 83)) = W at *
  go_upto_region 9 with (first
    | (go_at_call 56; refine (fresh_any W HT.out).mono ?_; rintro e x1 ⟨np, a, m, l, k, p, q, rfl, hk⟩; have K1 := Lib.hid hk; clear hk)
    | (go_at_call 57; (with_reducible refine (kdo_any K1.out HT.out _ (L.take n0) HD.out ?_ ?_).mono ?_); (rw [List.length_take]; omega); decide; rintro e x2 ⟨rfl, v2, t, b, hk, hbl⟩; have hbl2 : b.length ≤ 10000 := (by rw [List.length_take] at hbl; simp at hbl; omega); have K2 := Lib.hid hk; have y2 := K2.out.blk.cell (i := 2) (v := .pointer (some ⟨p, 0, none⟩)) rfl; clear hk hbl K1)
    | (go_at_call 58; (with_reducible refine (dcopy_any K2.out.dk.at_ (sK_good ?_ ?_)).mono ?_); omega; decide; rintro e x3 ⟨p2, q2, v3, s3, rfl, hd, hlo, hb⟩; have D3 := Lib.hid (show DkB x2 p2 q2 v3 s3 (sK b [] false) x3 from ⟨hd, hlo, hb⟩); clear hd hlo hb)
    | (go_at_call 51; (with_reducible refine (dtear_any (left : Int) D3.out.at_ (sK_good ?_ ?_) ?_ ?_).mono ?_); omega; decide; exact HT.out.below (K2.out.dk.bel.trans (D3.out.bel.mono K2.out.dk.bel.size)); omega; rintro e x4 ⟨rfl, v4, hs⟩; rw [K2.out.hist.torn] at hs; have D4 := Lib.hid (D3.out.step hs); clear hs D3)
    | (go_at_call 15; (with_reducible refine (recover_hist D4.out ?_ ?_ K2.out.hist).mono ?_); omega; exact HT.out.below (K2.out.dk.bel.trans (D4.out.bel.mono K2.out.dk.bel.size)); rintro e x5 ⟨a5, m5, l5, k5, rfl, hn, hb⟩; have K5 := Lib.hid ((K2.out.below D4.out.bel).below hb); have N5 := Lib.hid hn; clear hn hb K2 D4)
    | (go_at_call 59; (with_reducible refine (same_any K5.out.blk K5.out.ns N5.out).mono ?_); rintro e x6 ⟨rfl, hb⟩; have K6 := Lib.hid (K5.out.below hb); clear hb K5 N5))
  have hB6 := K6.out.dk.bel
  go_cut [13, 14] (fun c g wx => ∃ nb a3 m3 l3 k3, c = .pointer (some ⟨nb, 0, none⟩) ∧ g = .int .i64 (b.length : Int) ∧ Blk wx nb 89 (ndC a3 l3 p) ∧ NS wx a3 m3 l3 k3 t ∧ (∀ i, nF a3 m3 l3 k3 i → x6.heap.size ≤ i) ∧ x6.heap.size ≤ nb ∧ Below x6.heap.size x6 wx)
  case first =>
    have z0 := K6.out.blk.cell (i := 0) (v := .pointer (some ⟨a, 0, none⟩)) rfl
    have z1 := K6.out.blk.cell (i := 1) (v := .pointer (some ⟨l, 0, none⟩)) rfl
    have z2 := K6.out.blk.cell (i := 2) (v := .pointer (some ⟨p, 0, none⟩)) rfl
    have hbd : Below x6.heap.size x6 x6.drew := (Below.refl _ x6).drew
    have HN7 := Lib.hid (K6.out.ns.below hbd)
    have HD7 := Lib.hid (K6.out.dk.at_.below hbd)
    refine wp_region_held_drew (S := (fun W => W.cell? ⟨np, 0, none⟩ = some (.pointer (some ⟨a, 0, none⟩)) ∧ W.cell? ⟨np, 1, none⟩ = some (.pointer (some ⟨l, 0, none⟩)) ∧ W.cell? ⟨np, 2, none⟩ = some (.pointer (some ⟨p, 0, none⟩)))) (by kernel_rfl) ?_ (fun hHeld => ?_)
    · exact ⟨z0, z1, z2⟩
    try dsimp only at hHeld
    refine held_yes (i := 0) (some 58) (v := ?_) rfl rfl (by kernel_rfl) (by kernel_rfl) (by kernel_rfl) (fun _ _ _ h => h) (by rfl) ?_ hHeld ?_
    rotate_left
    · (intro w hSw; (try dsimp only at hSw); go_simp; all_goals with_reducible rfl)
    try simp only [Act.put, List.setIfInBounds_toArray, List.set_cons_zero, List.set_cons_succ]
    refine held_yes (i := 1) (some 59) (v := ?_) rfl rfl (by kernel_rfl) (by kernel_rfl) (by kernel_rfl) (fun _ _ _ h => h) (by rfl) ?_ hHeld ?_
    rotate_left
    · (intro w hSw; (try dsimp only at hSw); go_simp; all_goals with_reducible rfl)
    try simp only [Act.put, List.setIfInBounds_toArray, List.set_cons_zero, List.set_cons_succ]
    refine held_yes (i := 2) (some 60) (v := ?_) rfl rfl (by kernel_rfl) (by kernel_rfl) (by kernel_rfl) (fun _ _ _ h => h) (by rfl) ?_ hHeld ?_
    rotate_left
    · (intro w hSw; (try dsimp only at hSw); go_simp; all_goals with_reducible rfl)
    try simp only [Act.put, List.setIfInBounds_toArray, List.set_cons_zero, List.set_cons_succ]
    refine held_yes (i := 3) (some 61) (v := ?_) rfl rfl (by kernel_rfl) (by kernel_rfl) (by kernel_rfl) (fun _ _ _ h => h) (by rfl) ?_ hHeld ?_
    rotate_left
    · (intro w hSw; (try dsimp only at hSw); go_simp; all_goals with_reducible rfl)
    try simp only [Act.put, List.setIfInBounds_toArray, List.set_cons_zero, List.set_cons_succ]
    refine held_yes (i := 5) (some 63) (v := ?_) rfl rfl (by kernel_rfl) (by kernel_rfl) (by kernel_rfl) (fun _ _ _ h => h) (by rfl) ?_ hHeld ?_
    rotate_left
    · (intro w hSw; (try dsimp only at hSw); go_simp; all_goals with_reducible rfl)
    try simp only [Act.put, List.setIfInBounds_toArray, List.set_cons_zero, List.set_cons_succ]
    refine held_yes (i := 6) (some 64) (v := ?_) rfl rfl (by kernel_rfl) (by kernel_rfl) (by kernel_rfl) (fun _ _ _ h => h) (by rfl) ?_ hHeld ?_
    rotate_left
    · (intro w hSw; (try dsimp only at hSw); go_simp; all_goals with_reducible rfl)
    try simp only [Act.put, List.setIfInBounds_toArray, List.set_cons_zero, List.set_cons_succ]
    refine held_yes (i := 7) (some 65) (v := ?_) rfl rfl (by kernel_rfl) (by kernel_rfl) (by kernel_rfl) (fun _ _ _ h => h) (by rfl) ?_ hHeld ?_
    rotate_left
    · (intro w hSw; (try dsimp only at hSw); go_simp; all_goals with_reducible rfl)
    try simp only [Act.put, List.setIfInBounds_toArray, List.set_cons_zero, List.set_cons_succ]
    refine held_yes (i := 8) (some 66) (v := ?_) rfl rfl (by kernel_rfl) (by kernel_rfl) (by kernel_rfl) (fun _ _ _ h => h) (by rfl) ?_ hHeld ?_
    rotate_left
    · (intro w hSw; (try dsimp only at hSw); go_simp; all_goals with_reducible rfl)
    try simp only [Act.put, List.setIfInBounds_toArray, List.set_cons_zero, List.set_cons_succ]
    refine held_yes (i := 10) (some 68) (v := ?_) rfl rfl (by kernel_rfl) (by kernel_rfl) (by kernel_rfl) (fun _ _ _ h => h) (by rfl) ?_ hHeld ?_
    rotate_left
    · (intro w hSw; (try dsimp only at hSw); go_simp; all_goals with_reducible rfl)
    try simp only [Act.put, List.setIfInBounds_toArray, List.set_cons_zero, List.set_cons_succ]
    refine held_yes (i := 11) (some 69) (v := ?_) rfl rfl (by kernel_rfl) (by kernel_rfl) (by kernel_rfl) (fun _ _ _ h => h) (by rfl) ?_ hHeld ?_
    rotate_left
    · (intro w hSw; (try dsimp only at hSw); go_simp; all_goals with_reducible rfl)
    try simp only [Act.put, List.setIfInBounds_toArray, List.set_cons_zero, List.set_cons_succ]
    refine held_yes (i := 12) (some 70) (v := ?_) rfl rfl (by kernel_rfl) (by kernel_rfl) (by kernel_rfl) (fun _ _ _ h => h) (by rfl) ?_ hHeld ?_
    rotate_left
    · (intro w hSw; (try dsimp only at hSw); go_simp; all_goals with_reducible rfl)
    try simp only [Act.put, List.setIfInBounds_toArray, List.set_cons_zero, List.set_cons_succ]
    refine held_yes (i := 13) (some 71) (v := ?_) rfl rfl (by kernel_rfl) (by kernel_rfl) (by kernel_rfl) (fun _ _ _ h => h) (by rfl) ?_ hHeld ?_
    rotate_left
    · (intro w hSw; (try dsimp only at hSw); go_simp; all_goals with_reducible rfl)
    try simp only [Act.put, List.setIfInBounds_toArray, List.set_cons_zero, List.set_cons_succ]
    refine held_yes (i := 16) (some 74) (v := ?_) rfl rfl (by kernel_rfl) (by kernel_rfl) (by kernel_rfl) (fun _ _ _ h => h) (by rfl) ?_ hHeld ?_
    rotate_left
    · (intro w hSw; (try dsimp only at hSw); go_simp; all_goals with_reducible rfl)
    try simp only [Act.put, List.setIfInBounds_toArray, List.set_cons_zero, List.set_cons_succ]
    refine held_yes (i := 17) (some 75) (v := ?_) rfl rfl (by kernel_rfl) (by kernel_rfl) (by kernel_rfl) (fun _ _ _ h => h) (by rfl) ?_ hHeld ?_
    rotate_left
    · (intro w hSw; (try dsimp only at hSw); go_simp; all_goals with_reducible rfl)
    try simp only [Act.put, List.setIfInBounds_toArray, List.set_cons_zero, List.set_cons_succ]
    refine held_yes (i := 18) (some 76) (v := ?_) rfl rfl (by kernel_rfl) (by kernel_rfl) (by kernel_rfl) (fun _ _ _ h => h) (by rfl) ?_ hHeld ?_
    rotate_left
    · (intro w hSw; (try dsimp only at hSw); go_simp; all_goals with_reducible rfl)
    try simp only [Act.put, List.setIfInBounds_toArray, List.set_cons_zero, List.set_cons_succ]
    refine held_yes (i := 19) (some 77) (v := ?_) rfl rfl (by kernel_rfl) (by kernel_rfl) (by kernel_rfl) (fun _ _ _ h => h) (by rfl) ?_ hHeld ?_
    rotate_left
    · (intro w hSw; (try dsimp only at hSw); go_simp; all_goals with_reducible rfl)
    try simp only [Act.put, List.setIfInBounds_toArray, List.set_cons_zero, List.set_cons_succ]
    refine wpAnyH_ready (rs := [4]) (by kernel_rfl) (by simp) ?_
    refine (AllReadyH.cons rfl (fun K' hK' => ?_) AllReadyH.nil)
    go_simp
    ((with_reducible refine (copy_S a m t.a _ ?_).mono ?_); exact HN7.out.a; rintro e x7 ⟨a3, m3, rfl, ha, ha1, ha2, hb7⟩; have y70 := bcell hb7 hHeld.1; have y71 := bcell hb7 hHeld.2.1; have y72 := bcell hb7 hHeld.2.2)
    go_wp2_with fail
    refine hK'.out _ _ ?_ (fun hHeld => ?_)
    · first | exact ⟨y70, y71, y72⟩ | exact ⟨y80, y81, y82⟩ | exact ⟨bcell HBA.out y80, bcell HBA.out y81, bcell HBA.out y82⟩
    clear hK' K'
    try dsimp only at hHeld
    try simp only [Act.put, List.setIfInBounds_toArray, List.set_cons_zero, List.set_cons_succ]
    refine wpAnyH_ready (rs := [9]) (by kernel_rfl) (by simp) ?_
    refine (AllReadyH.cons rfl (fun K' hK' => ?_) AllReadyH.nil)
    go_simp
    ((with_reducible refine (lcopy_any (m := k) (s := t.l) ?_).mono ?_); exact HN7.out.l.below hb7; rintro e x8 ⟨l3, k3, rfl, hl, hl1, hl2, hb8⟩; have y80 := bcell hb8 y70; have y81 := bcell hb8 y71; have y82 := bcell hb8 y72; have HD8 := Lib.hid ((HD7.out.below hb7).below hb8); have HBA := Lib.hid (box_below x8 (.cells (ndC a3 l3 p) 89)); have HD9 := Lib.hid (HD8.out.below HBA.out))
    go_wp2_with fail
    refine hK'.out _ _ ?_ (fun hHeld => ?_)
    · first | exact ⟨y70, y71, y72⟩ | exact ⟨y80, y81, y82⟩ | exact ⟨bcell HBA.out y80, bcell HBA.out y81, bcell HBA.out y82⟩
    clear hK' K'
    try dsimp only at hHeld
    try simp only [Act.put, List.setIfInBounds_toArray, List.set_cons_zero, List.set_cons_succ]
    refine held_yes (i := 14) (some 72) (v := ?_) rfl rfl (by kernel_rfl) (by kernel_rfl) (by kernel_rfl) (fun _ _ _ h => h) (by rfl) ?_ hHeld ?_
    rotate_left
    · (intro w hSw; (try dsimp only at hSw); go_simp; all_goals with_reducible rfl)
    try simp only [Act.put, List.setIfInBounds_toArray, List.set_cons_zero, List.set_cons_succ]
    refine wpAnyH_ready (rs := [15, 20]) (by kernel_rfl) (by simp) ?_
    refine (AllReadyH.cons rfl (fun K' hK' => ?_) (AllReadyH.cons rfl (fun K' hK' => ?_) AllReadyH.nil))
    · go_simp
      refine hK'.out _ _ ?_ (fun hHeld => ?_)
      · first | exact ⟨y70, y71, y72⟩ | exact ⟨y80, y81, y82⟩ | exact ⟨bcell HBA.out y80, bcell HBA.out y81, bcell HBA.out y82⟩
      clear hK' K'
      try dsimp only at hHeld
      try simp only [Act.put, List.setIfInBounds_toArray, List.set_cons_zero, List.set_cons_succ]
      refine wpAnyH_ready (rs := [20]) (by kernel_rfl) (by simp) ?_
      refine (AllReadyH.cons rfl (fun K' hK' => ?_) AllReadyH.nil)
      go_simp
      ((with_reducible refine (dlen_any (q := q) (v := v2) (sv := .slice none 0 0) (s := sK b [] false) ?_).mono ?_); (first | exact HD8.out | exact HD9.out); rintro e x9 ⟨rfl, rfl⟩)
      go_wp2_with fail
      refine hK'.out _ _ ?_ (fun hHeld => ?_)
      · first | exact ⟨y70, y71, y72⟩ | exact ⟨y80, y81, y82⟩ | exact ⟨bcell HBA.out y80, bcell HBA.out y81, bcell HBA.out y82⟩
      clear hK' K'
      try dsimp only at hHeld
      try simp only [Act.put, List.setIfInBounds_toArray, List.set_cons_zero, List.set_cons_succ]
      refine held_yes (i := 21) (some 13) (v := ?_) rfl rfl (by kernel_rfl) (by kernel_rfl) (by kernel_rfl) (fun _ _ _ h => h) (by rfl) ?_ hHeld ?_
      rotate_left
      · (intro w hSw; (try dsimp only at hSw); go_simp; all_goals with_reducible rfl)
      try simp only [Act.put, List.setIfInBounds_toArray, List.set_cons_zero, List.set_cons_succ]
      refine held_yes (i := 22) (some 14) (v := ?_) rfl rfl (by kernel_rfl) (by kernel_rfl) (by kernel_rfl) (fun _ _ _ h => h) (by rfl) ?_ hHeld ?_
      rotate_left
      · (intro w hSw; (try dsimp only at hSw); go_simp; all_goals with_reducible rfl)
      try simp only [Act.put, List.setIfInBounds_toArray, List.set_cons_zero, List.set_cons_succ]
      refine wpAnyH_done (by kernel_rfl) ?_ _
      (go_wp2_with fail; go_meet; have N9 : NS x8 a3 m3 l3 k3 ⟨t.a, t.l⟩ := ⟨ha.below hb8, hl, fun e => by have := ha.lt.2; omega⟩; have hsz7 := hb7.size; have hsz8 := hb8.size; exact ⟨x8.heap.size, a3, m3, l3, k3, rfl, rfl, Blk.new x8 _ _, N9.below HBA.out, (fun i hi => by rcases hi with rfl | rfl | rfl | rfl; exact ha1; exact ha2; exact Nat.le_trans hsz7 hl1; exact Nat.le_trans hsz7 hl2), Nat.le_trans hsz7 hsz8, hbd.trans ((hb7.trans (hb8.mono hsz7)).trans (HBA.out.mono (Nat.le_trans hsz7 hsz8)))⟩)
    · go_simp
      ((with_reducible refine (dlen_any (q := q) (v := v2) (sv := .slice none 0 0) (s := sK b [] false) ?_).mono ?_); (first | exact HD8.out | exact HD9.out); rintro e x9 ⟨rfl, rfl⟩)
      go_wp2_with fail
      refine hK'.out _ _ ?_ (fun hHeld => ?_)
      · first | exact ⟨y70, y71, y72⟩ | exact ⟨y80, y81, y82⟩ | exact ⟨bcell HBA.out y80, bcell HBA.out y81, bcell HBA.out y82⟩
      clear hK' K'
      try dsimp only at hHeld
      try simp only [Act.put, List.setIfInBounds_toArray, List.set_cons_zero, List.set_cons_succ]
      refine wpAnyH_ready (rs := [15]) (by kernel_rfl) (by simp) ?_
      refine (AllReadyH.cons rfl (fun K' hK' => ?_) AllReadyH.nil)
      go_simp
      refine hK'.out _ _ ?_ (fun hHeld => ?_)
      · first | exact ⟨y70, y71, y72⟩ | exact ⟨y80, y81, y82⟩ | exact ⟨bcell HBA.out y80, bcell HBA.out y81, bcell HBA.out y82⟩
      clear hK' K'
      try dsimp only at hHeld
      try simp only [Act.put, List.setIfInBounds_toArray, List.set_cons_zero, List.set_cons_succ]
      refine held_yes (i := 21) (some 13) (v := ?_) rfl rfl (by kernel_rfl) (by kernel_rfl) (by kernel_rfl) (fun _ _ _ h => h) (by rfl) ?_ hHeld ?_
      rotate_left
      · (intro w hSw; (try dsimp only at hSw); go_simp; all_goals with_reducible rfl)
      try simp only [Act.put, List.setIfInBounds_toArray, List.set_cons_zero, List.set_cons_succ]
      refine held_yes (i := 22) (some 14) (v := ?_) rfl rfl (by kernel_rfl) (by kernel_rfl) (by kernel_rfl) (fun _ _ _ h => h) (by rfl) ?_ hHeld ?_
      rotate_left
      · (intro w hSw; (try dsimp only at hSw); go_simp; all_goals with_reducible rfl)
      try simp only [Act.put, List.setIfInBounds_toArray, List.set_cons_zero, List.set_cons_succ]
      refine wpAnyH_done (by kernel_rfl) ?_ _
      (go_wp2_with fail; go_meet; have N9 : NS x8 a3 m3 l3 k3 ⟨t.a, t.l⟩ := ⟨ha.below hb8, hl, fun e => by have := ha.lt.2; omega⟩; have hsz7 := hb7.size; have hsz8 := hb8.size; exact ⟨x8.heap.size, a3, m3, l3, k3, rfl, rfl, Blk.new x8 _ _, N9.below HBA.out, (fun i hi => by rcases hi with rfl | rfl | rfl | rfl; exact ha1; exact ha2; exact Nat.le_trans hsz7 hl1; exact Nat.le_trans hsz7 hl2), Nat.le_trans hsz7 hsz8, hbd.trans ((hb7.trans (hb8.mono hsz7)).trans (HBA.out.mono (Nat.le_trans hsz7 hsz8)))⟩)
  case rest =>
  obtain ⟨nb, a3, m3, l3, k3, rfl, rfl, hnb, hn3, hlo3, hnblo, hb9⟩ := hcut
  have K9 := Lib.hid (K6.out.below hb9)
  have hx6 : ∀ i, nF a m l k i → i < x6.heap.size := fun i hi => K6.out.ns.lt hi
  have KX9 := KX.out.of_block (K9.out.dk.bel.block _ hkx)
  have d0 := KX9.cell (i := 0) (v := .int .u8 (x.1 : Int)) rfl
  have d1 := KX9.cell (i := 1) (v := .int .u8 (x.2.1 : Int)) rfl
  have d2 := KX9.cell (i := 2) (v := .int .u8 (x.2.2.1 : Int)) rfl
  have d3 := KX9.cell (i := 3) (v := .int .u8 (x.2.2.2.1 : Int)) rfl
  have d4 := KX9.cell (i := 4) (v := .int .u8 (x.2.2.2.2 : Int)) rfl
  have HNB := Lib.hid hnb
  have HN3 := Lib.hid hn3
  have HFA : Hid (∀ X : World, Below W.heap.size W X → FoursAt X) := fun X hb => HT.out.below hb
  have HBE : Hid (∀ X : World, Below W.heap.size W X → Below w.heap.size w X) := fun X hb => HBX.out.trans (hb.mono HBX.out.size)
  clear hnb hn3 KX9 hb9 hB6 K6 y2 HD
  go_upto_region 11 with (go_at_call 62; (with_reducible refine (record_any x HOK.out K9.out.blk K9.out.ns).mono ?_); rintro e x10 ⟨vo, rfl, hv, hns, hf⟩; obtain ⟨Ao, no', co, rfl⟩ := row_shape hv; have RV := Lib.hid hv; have N10 := Lib.hid hns; have F10 := Lib.hid hf; have NB10 := Lib.hid (HNB.out.fr hf (fun e => by have := hx6 _ e; omega)); have NW10 := Lib.hid (HN3.out.fr hf (fun i hi e => by have := hlo3 i hi; have := hx6 i e; omega)); have e2 := (K9.out.blk.fr hf (nd_nF K9.out.blk K9.out.ns)).cell (i := 2) (v := .pointer (some ⟨p, 0, none⟩)) rfl; clear hv hns hf)
  clear d0 d1 d2 d3 d4 HNB HN3
  by_cases hd : doE t (recD x) = 0
  case neg =>
    have hd' : decide (doE t (recD x) = 0) = false := by simpa using hd
    rw [hd']
    have hn3 := N10.out
    rw [doS_bad hd] at hn3
    have K10 := Lib.hid (K9.out.stays hn3 F10.out)
    clear hn3 hd'
    go_wp2_with (go_at_call 18; refine (works_any _ (HFA.out _ K10.out.dk.bel)).mono ?_; rintro e x11 ⟨rfl, hb⟩; have K11 := Lib.hid (K10.out.below hb); clear hb)
    go_returns
    exact ⟨rfl, HBE.out _ K11.out.dk.bel⟩
  case pos =>
  have hd' : decide (doE t (recD x) = 0) = true := by simpa using hd
  rw [hd']
  obtain ⟨B2, hB2⟩ : ∃ B2, b ++ frameB (recD x).bytes = B2 := ⟨_, rfl⟩
  have hB2l : B2.length = b.length + (8 + (recD x).bytes.length) := by rw [← hB2, List.length_append, frameB_length]
  have hrl := RLN.out
  have H2 := Lib.hid (K9.out.hist.step ROK.out (by omega) hd)
  rw [hB2] at H2
  have hG11 : Hid (DGood ⟨B2, b.length, [], false⟩) := ⟨by show b.length ≤ B2.length; omega, by show B2.length ≤ 16777216; omega, by show 0 ≤ 65536; omega⟩
  have D10 := Lib.hid (K9.out.dk.node K9.out.ns F10.out K9.out.lo)
  have BK10 := Lib.hid (K9.out.blk.fr F10.out (nd_nF K9.out.blk K9.out.ns))
  have hH1 := Lib.hid K9.out.hist
  clear K9 F10 hd'
  have hlen2 : (B2.length : Int) ≤ 100000 := by omega
  go_upto_region 17 with (first
    | (go_at_call 49; (with_reducible refine (dapp_yes (.slice Ao no' co) (recD x).bytes D10.out.at_ (sK_good ?_ ?_) ?_ ?_ ?_ ?_).mono ?_); omega; decide; exact HFA.out _ D10.out.bel; exact LRow.bsIn (LRow.of_row RV.out); omega; (show b.length + 8 + (recD x).bytes.length ≤ 16777216; omega); rintro e x11 ⟨rfl, v11, hs0⟩; have hs : DStep x10 p q v2 (.slice none 0 0) x11 v11 (.slice none 0 0) ⟨B2, b.length, [], false⟩ := (by rw [← hB2]; exact hs0); have D11 := Lib.hid (D10.out.step hs); have N11 := Lib.hid (hs.ns_ D10.out.at_ N10.out); have NW11 := Lib.hid (hs.ns_ D10.out.at_ NW10.out); have NB11 := Lib.hid (hs.blk D10.out.at_ NB10.out (by decide) (by decide) (by decide)); have BK11 := Lib.hid (hs.blk D10.out.at_ BK10.out (by decide) (by decide) (by decide)); have f2 := BK11.out.cell (i := 2) (v := .pointer (some ⟨p, 0, none⟩)) rfl; clear hs hs0 N10 NW10 NB10 BK10 D10)
    | (go_at_call 33; (with_reducible refine (dlen_any D11.out.at_).mono ?_); rintro e x12 ⟨rfl, rfl⟩)
    | (go_at_call 51; (with_reducible refine (dtear_any (left : Int) D11.out.at_ hG11.out ?_ ?_).mono ?_); exact HFA.out _ D11.out.bel; omega; rintro e x13 ⟨rfl, v13, hs⟩; have D13 := Lib.hid (D11.out.step hs); have N13 := Lib.hid (hs.ns_ D11.out.at_ N11.out); have NW13 := Lib.hid (hs.ns_ D11.out.at_ NW11.out); have NB13 := Lib.hid (hs.blk D11.out.at_ NB11.out (by decide) (by decide) (by decide)); have BK13 := Lib.hid (hs.blk D11.out.at_ BK11.out (by decide) (by decide) (by decide)); have g2 := BK13.out.cell (i := 2) (v := .pointer (some ⟨p, 0, none⟩)) rfl; clear hs N11 NW11 NB11 BK11 D11))
  have hD13 := D13.out
  by_cases hge : B2.length ≤ b.length + left
  case pos =>
    have hcond : decide ((B2.length : Int) ≤ (b.length : Int) + (left : Int)) = true := by simp; omega
    have hto : tornD ⟨B2, b.length, [], false⟩ (left : Int) = sD B2 := by
      rw [← hB2]
      exact Hist.torn_whole (t0 := newN 3) (by rw [hB2]; exact H2.out) [] false left (by rw [hB2]; exact hge)
    rw [hto] at hD13
    have D14 := Lib.hid hD13
    clear hD13 hto D13
    go_wp2_with (first
      | (go_at_call 15; (with_reducible refine (recover_hist D14.out ?_ ?_ H2.out).mono ?_); omega; exact HFA.out _ D14.out.bel; rintro e x15 ⟨a6, m6, l6, k6, rfl, hn, hb⟩; have D15 := Lib.hid (D14.out.below hb); have N15 := Lib.hid (N13.out.below hb); have NW15 := Lib.hid (NW13.out.below hb); have NB15 := Lib.hid (NB13.out.of_block (hb.block _ NB13.out.lt)); have BK15 := Lib.hid (BK13.out.of_block (hb.block _ BK13.out.lt)); have M15 := Lib.hid hn; clear hn hb)
      | (go_at_call 59; (with_reducible refine (same_any BK15.out N15.out M15.out).mono ?_); rintro e x16 ⟨rfl, hb⟩; have D16 := Lib.hid (D15.out.below hb); clear hb)
      | (go_at_call 18; refine (works_any _ (HFA.out _ D16.out.bel)).mono ?_; rintro e x17 ⟨rfl, hb⟩; have D17 := Lib.hid (D16.out.below hb); clear hb))
    go_returns
    exact ⟨rfl, HBE.out _ D17.out.bel⟩
  case neg =>
    have hcond : decide ((B2.length : Int) ≤ (b.length : Int) + (left : Int)) = false := by simp; omega
    have hto : tornD ⟨B2, b.length, [], false⟩ (left : Int) = sD b := by
      rw [← hB2]
      exact hH1.out.torn_part (by omega) [] false left (by rw [hB2]; omega)
    rw [hto] at hD13
    have D14 := Lib.hid hD13
    clear hD13 hto D13
    go_wp2_with (first
      | (go_at_call 15; (with_reducible refine (recover_hist D14.out ?_ ?_ hH1.out).mono ?_); omega; exact HFA.out _ D14.out.bel; rintro e x15 ⟨a6, m6, l6, k6, rfl, hn, hb⟩; have D15 := Lib.hid (D14.out.below hb); have N15 := Lib.hid (N13.out.below hb); have NW15 := Lib.hid (NW13.out.below hb); have NB15 := Lib.hid (NB13.out.of_block (hb.block _ NB13.out.lt)); have BK15 := Lib.hid (BK13.out.of_block (hb.block _ BK13.out.lt)); have M15 := Lib.hid hn; clear hn hb)
      | (go_at_call 59; (with_reducible refine (same_any NB15.out NW15.out M15.out).mono ?_); rintro e x16 ⟨rfl, hb⟩; have D16 := Lib.hid (D15.out.below hb); clear hb)
      | (go_at_call 18; refine (works_any _ (HFA.out _ D16.out.bel)).mono ?_; rintro e x17 ⟨rfl, hb⟩; have D17 := Lib.hid (D16.out.below hb); clear hb))
    go_returns
    exact ⟨rfl, HBE.out _ D17.out.bel⟩
end Go.Proofs.YtlfikhblmbidmaaGreatDoor.stableKeeps
