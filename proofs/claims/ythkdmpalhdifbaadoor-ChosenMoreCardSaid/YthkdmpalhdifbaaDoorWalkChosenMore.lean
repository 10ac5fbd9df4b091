/- The walk of skaldlaw25.ChosenMore: it returns true, and writes nothing that was there. -/
import Derived.Test.YthkdmpalhdifbaaDoorChoQM
import Derived.OpenShut
import Derived.Deep.DeepCutAuto
import Derived.Deep.CutBlock
import Derived.Deep.LoopGhost
import Derived.Deep.RegionHeld3
set_option linter.unusedVariables false
set_option linter.unusedSimpArgs false
namespace Go.Proofs.YthkdmpalhdifbaaDoor.chosenMore
open Go.RowKit Go.Shelf

set_option maxRecDepth 100000 in
set_option maxHeartbeats 4000000 in
theorem walk (x : Int) (v : Value) (zs : List Nat) (y : Int) (W : World) (w0 : (Lit.int .u8 x).wf = true) (w1 : NumsIn W v zs) (w2 : (Lit.int .u8 y).wf = true) (ht : TabP W) :
    Calls Tryd.prog 4 #[.int .u8 x, v, .int .u8 y] W fun e w' => e = .returned (.bool true) ∧ Below W.heap.size W w' := by
  obtain ⟨x, hx256, rfl⟩ := u8_nat w0
  obtain ⟨y, hy256, rfl⟩ := u8_nat w2
  have HN := Lib.hid w1
  have hw := @works_any
  have HW := Lib.hid hw
  obtain ⟨n, hn⟩ : ∃ n : Nat, n = 1 + x % 7 := ⟨_, rfl⟩
  have hn7 : 1 ≤ n ∧ n ≤ 7 := by omega
  have hxn : (1 : Int) + (x : Int) % 7 = (n : Int) := by omega
  clear w0 w1 w2 ht hw hn
  go_enter Tryd.func4, Tryd.ntmps4
  go_upto_region 3 with (go_at_call 11; refine (votes_any n v zs _ HN.out hn7).mono ?_; rintro e w1 ⟨vo, L, rfl, r1, o1, b1⟩; have R1 := Lib.hid (VtS.of_row r1).at; have OK := Lib.hid o1; have B1 := Lib.hid b1; clear r1 o1 b1)
  obtain ⟨A, hA, hAO, hL⟩ := OK.out.gather hn7
  have HA := Lib.hid hA
  have HAO := Lib.hid hAO
  have hL40 := OK.out.len
  obtain ⟨Ar, cap, rfl, hcap, hmax, _⟩ := R1.out
  have hml : cap ≤ 9223372036854775807 := by unfold maxLen at hmax; omega
  obtain ⟨c, hc⟩ : ∃ c, c = y % (L.length + 1) := ⟨_, rfl⟩
  have hcL : c ≤ L.length := by have := Nat.mod_lt y (show 0 < L.length + 1 by omega); omega
  have hyc : (y : Int).tmod ((L.length : Int) + 1) = (c : Int) := by
    have := remN y (L.length + 1) c (by rw [hc]; exact (Int.natCast_emod y (L.length + 1)).symm)
    simpa using this
  have hwl : IntKind.i64.wrap ((L.length : Int) + 1) = (L.length : Int) + 1 := by rw [IntKind.wrap_i64]; omega
  have hl0 : ¬ ((L.length : Int) + 1 = 0) := by omega
  have P1 := Lib.hid (VotesIn.take R1.out hcL)
  have OKp := Lib.hid (OK.out.sub (List.take_sublist c L))
  obtain ⟨Ap, hAp, hAOp, hLp⟩ := OKp.out.gather hn7
  have HAp := Lib.hid hAp
  have HAOp := Lib.hid hAOp
  clear hA hAO hAp hAOp hc HN hmax
  have hcc2 : c ≤ cap := by omega
  go_upto_region 4 with fail
  clear hyc hwl hl0
  go_upto_region 5 with (go_at_call 12; refine (all_yes n _ (L.take c) Ap _ P1.out hn7 hLp HAp.out).mono ?_; rintro e w2 ⟨va, out1, dif1, rfl, e2, p2, b2⟩; have E1 := Lib.hid e2; have PO1 := Lib.hid p2; have B2 := Lib.hid b2; clear b2 e2 p2)
  have R2 := Lib.hid (R1.out.below B2.out)
  have C2 := Lib.hid (bchain B1.out B2.out)
  clear R1 P1 B1 B2
  go_upto_region 6 with (go_at_call 12; refine (all_yes n _ L A _ R2.out hn7 hL HA.out).mono ?_; rintro e w3 ⟨vb, out, dif, rfl, e2, p2, b2⟩; have E3 := Lib.hid e2; have PO := Lib.hid p2; have B3 := Lib.hid b2; clear b2 e2 p2)
  have R3 := Lib.hid (R2.out.below B3.out)
  have F3 := Lib.hid (E1.out.below B3.out)
  have C3 := Lib.hid (bchain C2.out B3.out)
  have hle := more_len hn7 HAOp.out HAO.out (fun x hx => List.mem_of_mem_take hx) PO1.out PO.out
  have hle2 : ¬ ((out1.length : Int) > (out.length : Int)) := by omega
  have hle3 : decide (out.length < out1.length) = false := by rw [decide_eq_false_iff_not]; omega
  clear R2 E1 C2 B3 hle2
  obtain ⟨Aa, capa, rfl, hmla, hca⟩ := F3.out
  obtain ⟨Ab, capb, rfl, hmlb, hcb⟩ := E3.out
  have HCA := Lib.hid hca
  have HCB := Lib.hid hcb
  clear hca hcb
  go_upto_block 0 with fail
  clear hle3
  go_cut [] (fun wx => Below w3.heap.size w3 wx)
  case first =>
    go_wp2_with fail
    go_simp
    go_wp2_with fail
    go_loopg [78] out.length (fun g c wr => ∃ j, j ≤ out.length ∧ g = out.length - j ∧ c = .int .i64 j ∧ Below w3.heap.size w3 wr)
    case atStart => exact ⟨0, by omega, by omega, rfl, Below.refl _ _⟩
    case round =>
      obtain ⟨j, hj, rfl, rfl, hB⟩ := hrel
      have B := Lib.hid hB
      clear hB
      by_cases hlt : j < out.length
      case neg =>
        have e : j = out.length := by omega
        subst e
        go_wp2_with fail
        go_meet
        exact B.out
      case pos =>
        obtain ⟨b0, rfl, hb, hcc⟩ := HCB.out (by omega)
        obtain ⟨⟨fs, ⟨er, ed⟩, ev⟩, hx⟩ : ∃ x, out[j]? = some x := ⟨_, List.getElem?_eq_getElem hlt⟩
        obtain ⟨q0, q1, q2, q3⟩ := hcc j _ hx
        simp only at q0 q1 q2 q3
        have q0 := bcell B.out q0
        have q1 := bcell B.out q1
        have q2 := bcell B.out q2
        have q3 := bcell B.out q3
        have hpv := pok_val PO.out HAO.out.dst (List.mem_of_getElem? hx)
        have hsl : (decide (((fs.val : Nat) : Int) ≥ 0) && decide (((fs.val : Nat) : Int) < 4096)) = true := by
          have := fs.isLt
          simp; omega
        obtain ⟨S, hS⟩ : ∃ S : Int, ((fs.val : Nat) : Int) = S := ⟨_, rfl⟩
        simp only at hpv
        have hch := chosenF_eq hn7 HA.out hsl
        rw [hpv] at hch
        rw [hS] at q0 hch
        have CH := Lib.hid hch
        have HX := Lib.hid hx
        have HCC := Lib.hid hcc
        have HS := Lib.hid hS
        clear hx hcc hS hsl hpv hch
        go_upto_region 11 with fail
        have bw := box_below wr (.cells #[.int .i64 S, .int .i64 er, .int .i64 ed, .string ev] 40)
        have KX := Lib.hid (Blk.new wr 40 #[.int .i64 S, .int .i64 er, .int .i64 ed, .string ev])
        have B3 := Lib.hid (bchain B.out bw)
        generalize (wr.alloc (.cells #[.int .i64 S, .int .i64 er, .int .i64 ed, .string ev] 40)) = W3 at *
        obtain ⟨bx, hbx⟩ : ∃ bx, bx = wr.heap.size := ⟨_, rfl⟩
        rw [← hbx] at KX ⊢
        clear bw q0 q1 q2 q3 hbx B
        go_cut [95] (fun c wx => c = .bool false ∧ Below W3.heap.size W3 wx)
        case first =>
          by_cases hj0 : j = 0
          · have hj1 : decide (0 < j) = false := by rw [decide_eq_false_iff_not]; omega
            clear hj0
            refine wp_region_held_drew (S := (fun _ => True)) (by kernel_rfl) ?_ (fun hHeld => ?_)
            · exact trivial
            try dsimp only at hHeld
            refine held_yes (i := 0) (some 83) (v := ?_) rfl rfl (by kernel_rfl) (by kernel_rfl) (by kernel_rfl) (fun _ _ _ h => h) (by rfl) ?_ hHeld ?_
            rotate_left
            · (intro w hSw; (try dsimp only at hSw); go_simp; all_goals with_reducible rfl)
            try simp only [Act.put, List.setIfInBounds_toArray, List.set_cons_zero, List.set_cons_succ]
            refine held_yes (i := 1) (some 84) (v := ?_) rfl rfl (by kernel_rfl) (by kernel_rfl) (by kernel_rfl) (fun _ _ _ h => h) (by rfl) ?_ hHeld ?_
            rotate_left
            · (intro w hSw; (try dsimp only at hSw); go_simp; all_goals with_reducible rfl)
            try simp only [Act.put, List.setIfInBounds_toArray, List.set_cons_zero, List.set_cons_succ]
            refine held_yes (i := 2) (some 85) (v := ?_) rfl rfl (by kernel_rfl) (by kernel_rfl) (by kernel_rfl) (fun _ _ _ h => h) (by rfl) ?_ hHeld ?_
            rotate_left
            · (intro w hSw; (try dsimp only at hSw); go_simp; all_goals with_reducible rfl)
            try simp only [Act.put, List.setIfInBounds_toArray, List.set_cons_zero, List.set_cons_succ]
            refine held_no (i := 3) (some 86) rfl rfl (by kernel_rfl) (by kernel_rfl) (by kernel_rfl) (fun _ _ _ h => h) (wanted_t rfl rfl rfl) hHeld ?_
            try simp only [Act.put, List.setIfInBounds_toArray, List.set_cons_zero, List.set_cons_succ]
            refine held_no (i := 4) (some 87) rfl rfl (by kernel_rfl) (by kernel_rfl) (by kernel_rfl) (fun _ _ _ h => h) (wanted_t rfl rfl rfl) hHeld ?_
            try simp only [Act.put, List.setIfInBounds_toArray, List.set_cons_zero, List.set_cons_succ]
            refine held_no (i := 5) (some 88) rfl rfl (by kernel_rfl) (by kernel_rfl) (by kernel_rfl) (fun _ _ _ h => h) (wanted_t rfl rfl rfl) hHeld ?_
            try simp only [Act.put, List.setIfInBounds_toArray, List.set_cons_zero, List.set_cons_succ]
            refine held_no (i := 6) (some 89) rfl rfl (by kernel_rfl) (by kernel_rfl) (by kernel_rfl) (fun _ _ _ h => h) (wanted_t rfl rfl rfl) hHeld ?_
            try simp only [Act.put, List.setIfInBounds_toArray, List.set_cons_zero, List.set_cons_succ]
            refine held_no (i := 7) (some 90) rfl rfl (by kernel_rfl) (by kernel_rfl) (by kernel_rfl) (fun _ _ _ h => h) (wanted_t rfl rfl rfl) hHeld ?_
            try simp only [Act.put, List.setIfInBounds_toArray, List.set_cons_zero, List.set_cons_succ]
            refine held_no (i := 8) (some 91) rfl rfl (by kernel_rfl) (by kernel_rfl) (by kernel_rfl) (fun _ _ _ h => h) (wanted_t rfl rfl rfl) hHeld ?_
            try simp only [Act.put, List.setIfInBounds_toArray, List.set_cons_zero, List.set_cons_succ]
            refine held_no (i := 9) (some 92) rfl rfl (by kernel_rfl) (by kernel_rfl) (by kernel_rfl) (fun _ _ _ h => h) (wanted_t rfl rfl rfl) hHeld ?_
            try simp only [Act.put, List.setIfInBounds_toArray, List.set_cons_zero, List.set_cons_succ]
            refine held_no (i := 10) (some 93) rfl rfl (by kernel_rfl) (by kernel_rfl) (by kernel_rfl) (fun _ _ _ h => h) (wanted_t rfl rfl rfl) hHeld ?_
            try simp only [Act.put, List.setIfInBounds_toArray, List.set_cons_zero, List.set_cons_succ]
            refine held_no (i := 11) (some 94) rfl rfl (by kernel_rfl) (by kernel_rfl) (by kernel_rfl) (fun _ _ _ h => h) (wanted_t rfl rfl rfl) hHeld ?_
            try simp only [Act.put, List.setIfInBounds_toArray, List.set_cons_zero, List.set_cons_succ]
            refine held_yes (i := 12) (some 95) (v := ?_) rfl rfl (by kernel_rfl) (by kernel_rfl) (by kernel_rfl) (fun _ _ _ h => h) (by rfl) ?_ hHeld ?_
            rotate_left
            · (intro w hSw; (try dsimp only at hSw); go_simp; all_goals with_reducible rfl)
            try simp only [Act.put, List.setIfInBounds_toArray, List.set_cons_zero, List.set_cons_succ]
            refine wpAnyH_done (by kernel_rfl) ?_ _
            go_wp2_with fail
            go_meet
            exact ⟨rfl, (Below.refl _ _).drew⟩
          · have hj1 : decide (0 < j) = true := by rw [decide_eq_true_eq]; omega
            obtain ⟨q, hq⟩ : ∃ q, j = q + 1 := ⟨j - 1, by omega⟩
            have hjq : (j : Int) - 1 = (q : Int) := by omega
            have hwq : IntKind.i64.wrap (q : Int) = (q : Int) := by rw [IntKind.wrap_i64]; omega
            have hql : q < out.length := by omega
            obtain ⟨⟨fs', ⟨er', ed'⟩, ev'⟩, hx'⟩ : ∃ x, out[q]? = some x := ⟨_, List.getElem?_eq_getElem hql⟩
            obtain ⟨p0, _, _, _⟩ := HCC.out q _ hx'
            simp only at p0
            have p0 := bcell B3.out p0
            obtain ⟨S', hS'⟩ : ∃ S' : Int, ((fs'.val : Nat) : Int) = S' := ⟨_, rfl⟩
            rw [hS'] at p0
            have hlt2 : decide (S ≤ S') = false := by
              have h1 := List.pairwise_iff_getElem.1 PO.out.sorted q j hql hlt (by omega)
              have h2 := (List.getElem?_eq_some_iff.1 hx').2
              have h3 := (List.getElem?_eq_some_iff.1 HX.out).2
              rw [h2, h3] at h1
              simp only at h1
              have h4 := HS.out
              rw [decide_eq_false_iff_not]
              omega
            have x0 := KX.out.cell (i := 0) (v := .int .i64 S) rfl
            clear hj0 hq hx' hS'
            go_region_held3 (fun W => W.cell? ⟨bx, 0, none⟩ = some (.int .i64 S) ∧ W.cell? ⟨b0, q * 4, none⟩ = some (.int .i64 S'))
              (first | exact ⟨by assumption, by assumption⟩ | go_keep)
              (first | fail)
            go_wp2_with fail
            go_meet
            exact ⟨rfl, (Below.refl _ _).drew⟩
        case rest =>
        obtain ⟨rfl, hb4⟩ := hcut
        obtain ⟨w4, rfl⟩ : ∃ w4 : World, w4 = wc := ⟨_, rfl⟩
        have K4 := Lib.hid (KX.out.fr (Fr.of_below hb4 : Fr S0 _ _) (fun h => h))
        have C4 := Lib.hid (bchain B3.out hb4)
        have V4 := Lib.hid (R3.out.below C4.out)
        clear KX B3 hb4
        have x0 := K4.out.cell (i := 0) (v := .int .i64 S) rfl
        have x2 := K4.out.cell (i := 3) (v := .string ev) rfl
        go_upto_region 14 with (go_at_call 13; refine (chosen_any n _ L S _ V4.out hn7 hL).mono ?_; rw [CH.out]; rintro e w5 ⟨rfl, b5⟩; have B5 := Lib.hid b5; clear b5)
        have K5 := Lib.hid (K4.out.fr (Fr.of_below B5.out : Fr S0 _ _) (fun h => h))
        have C5 := Lib.hid (bchain C4.out B5.out)
        clear x0 x2 K4 C4 V4 B5
        have x2 := K5.out.cell (i := 3) (v := .string ev) rfl
        go_wp2_with fail
        go_roundg (out.length - (j + 1))
        case measure => omega
        case rel => exact ⟨j + 1, by omega, rfl, by go_num, C5.out⟩
  case rest =>
  have B3 := Lib.hid hcut
  obtain ⟨w4, rfl⟩ : ∃ w4 : World, w4 = wc := ⟨_, rfl⟩
  clear hcut
  go_upto_block 2 with fail
  go_cut [] (fun wx => Below w4.heap.size w4 wx)
  case first =>
    go_wp2_with fail
    go_loopg [120] out1.length (fun g c wr => ∃ j, j ≤ out1.length ∧ g = out1.length - j ∧ c = .int .i64 j ∧ Below w4.heap.size w4 wr)
    case atStart => exact ⟨0, by omega, by omega, rfl, Below.refl _ _⟩
    case round =>
      obtain ⟨j, hj, rfl, rfl, hB⟩ := hrel
      have B := Lib.hid hB
      clear hB
      by_cases hlt : j < out1.length
      case neg =>
        have e : j = out1.length := by omega
        subst e
        go_wp2_with fail
        go_meet
        exact B.out
      case pos =>
        obtain ⟨b0, rfl, hb, hcc⟩ := HCA.out (by omega)
        obtain ⟨⟨fs, ⟨er, ed⟩, ev⟩, hx⟩ : ∃ x, out1[j]? = some x := ⟨_, List.getElem?_eq_getElem hlt⟩
        obtain ⟨q0, q1, q2, q3⟩ := hcc j _ hx
        simp only at q0 q1 q2 q3
        have B4 := Lib.hid (bchain B3.out B.out)
        have q0 := bcell B4.out q0
        have q1 := bcell B4.out q1
        have q2 := bcell B4.out q2
        have q3 := bcell B4.out q3
        obtain ⟨hex, hno⟩ := more_at hn7 HAOp.out HAO.out (fun x hx => List.mem_of_mem_take hx) PO1.out PO.out (List.mem_of_getElem? hx)
        have hno : ∀ y ∈ out, ((y.1.val : Nat) : Int) = ((fs.val : Nat) : Int) → ¬ blt (er, ed) y.2.1 := hno
        simp only at hex
        obtain ⟨S, hS⟩ : ∃ S : Int, ((fs.val : Nat) : Int) = S := ⟨_, rfl⟩
        rw [hS] at q0 hex hno
        have HEX := Lib.hid hex
        have HNO := Lib.hid hno
        clear hx hcc hS hex hno
        go_upto_region 20 with fail
        have bw := box_below wr (.cells #[.int .i64 S, .int .i64 er, .int .i64 ed, .string ev] 40)
        have KX := Lib.hid (Blk.new wr 40 #[.int .i64 S, .int .i64 er, .int .i64 ed, .string ev])
        have B5 := Lib.hid (bchain B4.out bw)
        have D5 := Lib.hid (bchain B.out bw)
        generalize (wr.alloc (.cells #[.int .i64 S, .int .i64 er, .int .i64 ed, .string ev] 40)) = W5 at *
        obtain ⟨bx, hbx⟩ : ∃ bx, bx = wr.heap.size := ⟨_, rfl⟩
        rw [← hbx] at KX ⊢
        clear bw q0 q1 q2 q3 hbx B B4
        have EN5 := Lib.hid (E3.out.below B5.out)
        go_upto_region 21 with (go_at_call 14; refine (ixMore bx S er ed ev _ out _ KX.out EN5.out HEX.out).mono ?_; rintro e w6 ⟨rr, yy, rfl, hyy, hys, b6⟩; have HYY := Lib.hid hyy; have HYS := Lib.hid hys; have B6 := Lib.hid b6; clear hyy hys b6)
        obtain ⟨⟨ys, ⟨yr, yd⟩, yv⟩, hyy⟩ : ∃ y, yy = y := ⟨_, rfl⟩
        subst hyy
        have hrl := (List.getElem?_eq_some_iff.1 HYY.out).1
        have hnb : ¬ blt (er, ed) (yr, yd) := by
          have h0 := HNO.out _ (List.mem_of_getElem? HYY.out) HYS.out
          show ¬ ordB (er, ed) (yr, yd) < 0
          have h1 : 0 ≤ ordB (er, ed) (yr, yd) := by first | exact h0 | exact Int.not_lt.1 h0
          omega
        have hng : decide (ordB (yr, yd) (er, ed) > 0) = false := by
          rw [decide_eq_false_iff_not, ordB_gt]
          exact hnb
        have HNG := Lib.hid hng
        have C6 := Lib.hid (bchain B5.out B6.out)
        have D6 := Lib.hid (bchain D5.out B6.out)
        have K6 := Lib.hid (KX.out.fr (Fr.of_below B6.out : Fr S0 _ _) (fun h => h))
        obtain ⟨b1, rfl, hb1, hcc⟩ := HCB.out (by omega)
        obtain ⟨_, p1, p2, _⟩ := hcc rr _ HYY.out
        simp only at p1 p2
        have p1 := bcell C6.out p1
        have p2 := bcell C6.out p2
        have x1 := K6.out.cell (i := 1) (v := .int .i64 er) rfl
        have x2 := K6.out.cell (i := 2) (v := .int .i64 ed) rfl
        have hr0 : decide ((rr : Int) < 0) = false := by rw [decide_eq_false_iff_not]; omega
        clear hcc hng hnb KX B5 D5 B6 EN5
        go_cut [139] (fun c wx => c = .bool false ∧ Below w6.heap.size w6 wx)
        case first =>
          have C6 := Lib.hid (Below.refl w6.heap.size w6)
          go_region_held3 (fun W => W.cell? ⟨bx, 1, none⟩ = some (.int .i64 er) ∧ W.cell? ⟨bx, 2, none⟩ = some (.int .i64 ed) ∧ W.cell? ⟨b1, rr * 4 + 1, none⟩ = some (.int .i64 yr) ∧ W.cell? ⟨b1, rr * 4 + 2, none⟩ = some (.int .i64 yd))
            (first | exact ⟨by assumption, by assumption, by assumption, by assumption⟩ | exact ⟨bcell b7' x1, bcell b7' x2, bcell b7' p1, bcell b7' p2⟩ | go_keep)
            (first | (go_at_call 16; refine (order_any _ _ _ _ _).mono ?_; rintro e w7 ⟨rfl, b7'⟩; have B7 := Lib.hid b7'))
          go_wp2_with fail
          go_meet
          exact ⟨congrArg Value.bool HNG.out, bchain ((Below.refl _ _).drew) B7.out⟩
        case rest =>
        obtain ⟨rfl, hb7⟩ := hcut
        obtain ⟨w7, rfl⟩ : ∃ w7 : World, w7 = wc := ⟨_, rfl⟩
        have D7 := Lib.hid (bchain D6.out hb7)
        clear p1 p2 x1 x2 hb7
        go_wp2_with fail
        go_roundg (out1.length - (j + 1))
        case measure => omega
        case rel => exact ⟨j + 1, by omega, rfl, by go_num, D7.out⟩
  case rest =>
  have B4 := Lib.hid (bchain B3.out hcut)
  obtain ⟨w5, rfl⟩ : ∃ w5 : World, w5 = wc := ⟨_, rfl⟩
  have R5 := Lib.hid (R3.out.below B4.out)
  have C5 := Lib.hid (bchain C3.out B4.out)
  clear hcut B3 B4 R3 C3
  obtain ⟨ab, hab⟩ : ∃ ab, L.any (badV n L) = ab := ⟨_, rfl⟩
  obtain ⟨dv, hag, hdv0, hdv⟩ : ∃ dv, agreeF n L = (!ab, dv, 0) ∧ (ab = false → dv = 0) ∧ (ab = true → ∀ x ∈ L, badV n L x = true → dv ≤ x.sl) := by
    have h := agree_seen hn7 OK.out.poss HA.out HAO.out
    cases ab with
    | false => exact ⟨0, h.1 hab, fun _ => rfl, (fun h => by cases h)⟩
    | true => exact ⟨_, (h.2 hab).1, (fun h => by cases h), fun _ => (h.2 hab).2⟩
  have HAB := Lib.hid hab
  have HAG := Lib.hid hag
  have HDV := Lib.hid hdv
  have HDV0 := Lib.hid hdv0
  clear hab hag hdv hdv0
  go_upto_region 25 with (go_at_call 17; refine (agree_any n _ L _ R5.out hn7 hL).mono ?_; rw [HAG.out]; rintro e w6 ⟨rfl, b6⟩; have B6 := Lib.hid b6; clear b6)
  have R6 := Lib.hid (R5.out.below B6.out)
  have C6 := Lib.hid (bchain C5.out B6.out)
  clear R5 C5 B6
  go_cut [156] (fun c wx => c = .bool false ∧ wx = w6)
  case first =>
    cases ab with
    | false =>
      have hd0 := HDV0.out rfl
      subst hd0
      go_wp2_with fail
      go_meet
      exact ⟨rfl, rfl⟩
    | true =>
      go_wp2_with fail
      go_meet
      exact ⟨rfl, rfl⟩
  case rest =>
  obtain ⟨rfl, hw6⟩ := hcut
  subst hw6
  go_wp2_with fail
  go_loopg [159, 25] L.length (fun g c sn wr => ∃ j, j ≤ L.length ∧ g = L.length - j ∧ c = .int .i64 j ∧ sn = .bool ((L.take j).any (badV n L)) ∧ Below wc.heap.size wc wr)
  case atStart => exact ⟨0, by omega, by omega, rfl, rfl, Below.refl _ _⟩
  case round =>
    obtain ⟨j, hj, rfl, rfl, rfl, hB⟩ := hrel
    obtain ⟨wo, rfl⟩ : ∃ wo : World, wo = wr := ⟨_, rfl⟩
    have D7 := Lib.hid hB
    clear hB
    by_cases hlt : j < L.length
    case neg =>
      have e : j = L.length := by omega
      have hsn : (L.take j).any (badV n L) = ab := by rw [e, List.take_length]; exact HAB.out
      rw [hsn]
      have C7 := Lib.hid (bchain C6.out D7.out)
      clear hsn
      cases ab with
      | false =>
        go_wp2_with (go_at_call 8; refine (HW.out _).mono ?_; rintro e w7 ⟨rfl, b7⟩; have B7 := Lib.hid (bchain C7.out b7); clear b7)
        go_returns
        exact ⟨rfl, B7.out⟩
      | true =>
        go_wp2_with (go_at_call 8; refine (HW.out _).mono ?_; rintro e w7 ⟨rfl, b7⟩; have B7 := Lib.hid (bchain C7.out b7); clear b7)
        go_returns
        exact ⟨rfl, B7.out⟩
    case pos =>
    obtain ⟨any0, hany0⟩ : ∃ a, (L.take j).any (badV n L) = a := ⟨_, rfl⟩
    rw [hany0]
    have V7 := Lib.hid (R6.out.below D7.out)
    obtain ⟨Av, capv, ev', hcv, hmv, hcells⟩ := V7.out
    cases ev'
    obtain ⟨b0, off, rfl, hb, hcc⟩ := hcells (by omega)
    obtain ⟨⟨nd, r, d, sl, xv⟩, hx⟩ : ∃ x, L[j]? = some x := ⟨_, List.getElem?_eq_getElem hlt⟩
    have hxm := List.mem_of_getElem? hx
    have hsl := (alone_args (OK.out.poss.al _ hxm)).2.2
    obtain ⟨q0, q1, q2, q3, q4⟩ := hcc j _ hx
    simp only at q0 q1 q2 q3 q4 hsl
    have HX := Lib.hid hx
    have HXM := Lib.hid hxm
    have HSL := Lib.hid hsl
    have HCC := Lib.hid hcc
    have HANY0 := Lib.hid hany0
    have HANY : Hid ((L.take (j + 1)).any (badV n L) = (any0 || badV n L ⟨nd, r, d, sl, xv⟩)) := by
      rw [Hid, List.take_add_one, hx, List.any_append, hany0]
      simp
    clear hx hxm hsl hcc hcells hany0
    go_upto_region 31 with fail
    have bw := box_below wo (.cells #[.int .i64 nd, .int .i64 r, .int .i64 d, .int .i64 sl, .string xv] 25)
    have KX := Lib.hid (Blk.new wo 25 #[.int .i64 nd, .int .i64 r, .int .i64 d, .int .i64 sl, .string xv])
    have V8 := Lib.hid (V7.out.below bw)
    have D8 := Lib.hid (bchain D7.out bw)
    have B8 := Lib.hid bw
    generalize (wo.alloc (.cells #[.int .i64 nd, .int .i64 r, .int .i64 d, .int .i64 sl, .string xv] 25)) = W8 at *
    obtain ⟨bx, hbx⟩ : ∃ bx, bx = wo.heap.size := ⟨_, rfl⟩
    rw [← hbx] at KX ⊢
    clear bw q0 q1 q2 q3 q4 hbx V7 D7
    obtain ⟨Q, hQ⟩ : ∃ Q, nodesF (sl, r, d) L = Q := ⟨_, rfl⟩
    have HQn : Hid (Q < 2 ^ n) := by rw [Hid, ← hQ]; exact nodesF_lt hn7 OK.out.poss (fun x hx => hx) _
    have HQ := Lib.hid hQ
    clear hQ
    go_upto_block 6 with fail
    go_cut [28] (fun m wx => m = .int .u64 (Q : Int) ∧ Below W8.heap.size W8 wx)
    case first =>
      go_wp2_with fail
      go_loopg [165, 28] L.length (fun g c m wr => ∃ (k M : Nat), k ≤ L.length ∧ g = L.length - k ∧ c = .int .i64 k ∧ m = .int .u64 (M : Int) ∧ nodesF (sl, r, d) (L.take k) = M ∧ Below W8.heap.size W8 wr)
      case atStart => exact ⟨0, 0, by omega, by omega, rfl, rfl, rfl, Below.refl _ _⟩
      case round =>
        obtain ⟨k, M, hk, rfl, rfl, rfl, hM, hB⟩ := hrel
        have D9 := Lib.hid hB
        have HM := Lib.hid hM
        clear hB hM
        by_cases hkl : k < L.length
        case neg =>
          have e : k = L.length := by omega
          have hMQ : M = Q := by rw [← HM.out, ← HQ.out, e, List.take_length]
          subst hMQ
          go_wp2_with fail
          go_meet
          exact ⟨rfl, D9.out⟩
        case pos =>
          obtain ⟨⟨ynd, yr, yd, ysl, yv⟩, hy⟩ : ∃ y, L[k]? = some y := ⟨_, List.getElem?_eq_getElem hkl⟩
          have hya := (alone_r hn7 (OK.out.poss.al _ (List.mem_of_getElem? hy))).1
          obtain ⟨N, rfl⟩ : ∃ N : Nat, ynd = (N : Int) := ⟨ynd.toNat, by simp only at hya; omega⟩
          have hNn : N < n := by simp only at hya; omega
          have hMn : M < 2 ^ n := by rw [← HM.out]; exact nodesF_lt hn7 OK.out.poss (fun x hx => List.mem_of_mem_take hx) _
          have hmin : min N 64 = N := by omega
          have hbor := bitorN hn7 hMn hNn
          obtain ⟨p0, p1, p2, p3, p4⟩ := HCC.out k _ hy
          simp only at p0 p1 p2 p3 p4
          have B9 := bchain B8.out D9.out
          have p0 := bcell B9 p0
          have p1 := bcell B9 p1
          have p2 := bcell B9 p2
          have p3 := bcell B9 p3
          have p4 := bcell B9 p4
          have HNX := Lib.hid (nodesF_take (k := (sl, r, d)) hy)
          clear hy hya hMn B9
          go_upto_region 35 with fail
          have bw := box_below wr (.cells #[.int .i64 (N : Int), .int .i64 yr, .int .i64 yd, .int .i64 ysl, .string yv] 25)
          have KY := Lib.hid (Blk.new wr 25 #[.int .i64 (N : Int), .int .i64 yr, .int .i64 yd, .int .i64 ysl, .string yv])
          have DA := Lib.hid (bchain D9.out bw)
          generalize (wr.alloc (.cells #[.int .i64 (N : Int), .int .i64 yr, .int .i64 yd, .int .i64 ysl, .string yv] 25)) = WA at *
          obtain ⟨by', hby⟩ : ∃ bx, bx = wr.heap.size := ⟨_, rfl⟩
          rw [← hby] at KY ⊢
          have KXA := Lib.hid (KX.out.fr (Fr.of_below DA.out : Fr S0 _ _) (fun h => h))
          clear bw p0 p1 p2 p3 p4 hby D9
          have x1 := KXA.out.cell (i := 1) (v := .int .i64 r) rfl
          have x2 := KXA.out.cell (i := 2) (v := .int .i64 d) rfl
          have x3 := KXA.out.cell (i := 3) (v := .int .i64 sl) rfl
          have y0 := KY.out.cell (i := 0) (v := .int .i64 (N : Int)) rfl
          have y1 := KY.out.cell (i := 1) (v := .int .i64 yr) rfl
          have y2 := KY.out.cell (i := 2) (v := .int .i64 yd) rfl
          have y3 := KY.out.cell (i := 3) (v := .int .i64 ysl) rfl
          cases hs : (ysl == sl) with
          | false =>
            have hne : nodesF (sl, r, d) (L.take (k + 1)) = M := by
              rw [HNX.out, if_neg, HM.out]
              intro e
              have h1 : ysl = sl := (vbl_of e).1
              rw [h1] at hs
              simp at hs
            have HNE := Lib.hid hne
            clear hne
            go_wp2_with fail
            go_roundg (L.length - (k + 1))
            case measure => omega
            case rel => exact ⟨k + 1, M, by omega, rfl, by go_num, rfl, HNE.out, DA.out⟩
          | true =>
            obtain ⟨q, hq⟩ : ∃ q, (yr == r && yd == d) = q := ⟨_, rfl⟩
            have hEz : ∀ w : World, (Op.equalIn 10000 23 (.agg #[.int .i64 yr, .int .i64 yd]) (.agg #[.int .i64 r, .int .i64 d])).run Tryd.prog w = .ok q w := fun w => by rw [eqBal, hq]
            have hGq := eqGBal
            cases q with
            | false =>
              have hne : nodesF (sl, r, d) (L.take (k + 1)) = M := by
                rw [HNX.out, if_neg, HM.out]
                intro e
                have := (vbl_of e).2
                simp only [Prod.mk.injEq] at this
                rw [this.1, this.2] at hq
                simp at hq
              have HNE := Lib.hid hne
              clear hne hq
              go_wp2_with fail
              go_roundg (L.length - (k + 1))
              case measure => omega
              case rel => exact ⟨k + 1, M, by omega, rfl, by go_num, rfl, HNE.out, DA.out⟩
            | true =>
              have hne : nodesF (sl, r, d) (L.take (k + 1)) = M ||| 2 ^ N := by
                rw [HNX.out, if_pos, HM.out]
                · rfl
                · simp only [Bool.and_eq_true, beq_iff_eq] at hq hs
                  rw [vpl]
                  simp only
                  rw [hs, hq.1, hq.2]
              have HNE := Lib.hid hne
              clear hne hq
              go_wp2_with fail
              go_roundg (L.length - (k + 1))
              case measure => omega
              case rel => exact ⟨k + 1, M ||| 2 ^ N, by omega, rfl, by go_num, rfl, HNE.out, DA.out⟩
    case rest =>
    obtain ⟨rfl, hB⟩ := hcut
    obtain ⟨w9, rfl⟩ : ∃ w9 : World, w9 = wc := ⟨_, rfl⟩
    have K9 := Lib.hid (KX.out.fr (Fr.of_below hB : Fr S0 _ _) (fun h => h))
    have V9 := Lib.hid (V8.out.below hB)
    have D9 := Lib.hid (bchain D8.out hB)
    clear hB KX V8 D8 B8 HCC
    go_upto_block 8 with fail
    go_cut [31] (fun k wx => k = .int .i64 ((pop Q : Nat) : Int) ∧ wx = w9)
    case first =>
      go_wp2_with fail
      go_loopg [188, 31] n (fun g c k wr => ∃ i, i ≤ n ∧ g = n - i ∧ c = .int .i64 i ∧ k = .int .i64 ((((List.range i).countP fun i => Q.testBit i) : Nat) : Int) ∧ wr = w9)
      case atStart => exact ⟨0, by omega, by omega, rfl, rfl, rfl⟩
      case round =>
        obtain ⟨i, hi, rfl, rfl, rfl, hwr⟩ := hrel
        subst hwr
        obtain ⟨k, hk⟩ : ∃ k, ((List.range i).countP fun i => Q.testBit i) = k := ⟨_, rfl⟩
        have hki : k ≤ i := by rw [← hk]; exact Nat.le_trans List.countP_le_length (by simp)
        have HK := Lib.hid hk
        rw [hk]
        clear hk
        by_cases hlt3 : i < n
        case pos =>
          obtain ⟨tb, htb⟩ : ∃ tb, Q.testBit i = tb := ⟨_, rfl⟩
          have hbit := bit_one hn7 HQn.out (show i < 7 by omega) htb
          have HT : Hid (((List.range (i + 1)).countP fun i => Q.testBit i) = k + (if tb = true then 1 else 0)) := by
            rw [Hid, List.range_succ, List.countP_append, HK.out, List.countP_singleton, htb]
          clear htb
          have hw1 : IntKind.i64.wrap ((k : Int) + 1) = (k : Int) + 1 := by rw [IntKind.wrap_i64]; omega
          have hw0 : IntKind.i64.wrap (k : Int) = (k : Int) := by rw [IntKind.wrap_i64]; omega
          cases tb with
          | true =>
            simp only [if_true] at hbit
            go_wp2_with fail
            go_roundg (n - (i + 1))
            case measure => omega
            case rel => exact ⟨i + 1, by omega, rfl, by go_num, by rw [HT.out]; rfl, rfl⟩
          | false =>
            simp only [Bool.false_eq_true, if_false] at hbit
            go_wp2_with fail
            go_roundg (n - (i + 1))
            case measure => omega
            case rel => exact ⟨i + 1, by omega, rfl, by go_num, by rw [HT.out]; rfl, rfl⟩
        case neg =>
          have e : i = n := by omega
          subst e
          go_wp2_with fail
          go_meet
          exact ⟨by rw [pop_range hn7.2 HQn.out, HK.out], rfl⟩
    case rest =>
    obtain ⟨rfl, hw9⟩ := hcut
    subst hw9
    obtain ⟨P, hP⟩ : ∃ P, pop Q = P := ⟨_, rfl⟩
    have hPn : P ≤ n := by
      rw [← hP, pop_range hn7.2 HQn.out]
      exact Nat.le_trans List.countP_le_length (by simp)
    have hmj : maj Q n = decide (n < 2 * P) := by
      unfold maj
      rw [hP]
      by_cases h : n < 2 * P
      · rw [decide_eq_true h, decide_eq_true (by omega)]
      · rw [decide_eq_false h, decide_eq_false (by omega)]
    have MJ := Lib.hid hmj
    rw [hP]
    clear hmj hP
    obtain ⟨⟨ch, ci, ce⟩, hch⟩ : ∃ x, chosenF n L sl = x := ⟨_, rfl⟩
    have CH := Lib.hid hch
    have BD : Hid (badV n L ⟨nd, r, d, sl, xv⟩ = (decide (n < 2 * P) && !(ch.toList == xv.toList))) := by
      rw [Hid]
      unfold badV
      simp only
      rw [hch]
      rw [show vpl ⟨nd, r, d, sl, xv⟩ = (sl, r, d) from rfl, HQ.out, MJ.out]
    clear hch
    have x3 := K9.out.cell (i := 3) (v := .int .i64 sl) rfl
    go_upto_region 45 with (go_at_call 13; refine (chosen_any n _ L sl _ V9.out hn7 hL).mono ?_; rw [CH.out]; rintro e w10 ⟨rfl, ba⟩; have BA := Lib.hid ba; clear ba)
    have KA := Lib.hid (K9.out.fr (Fr.of_below BA.out : Fr S0 _ _) (fun h => h))
    have DA := Lib.hid (bchain D9.out BA.out)
    clear x3 K9 V9 D9 BA
    have x3 := KA.out.cell (i := 3) (v := .int .i64 sl) rfl
    have x4 := KA.out.cell (i := 4) (v := .string xv) rfl
    have hw2 : IntKind.i64.wrap (2 * (P : Int)) = 2 * (P : Int) := by rw [IntKind.wrap_i64]; omega
    by_cases hc : n < 2 * P
    case neg =>
      have BAD : Hid (badV n L ⟨nd, r, d, sl, xv⟩ = false) := by rw [Hid, BD.out, decide_eq_false hc]; rfl
      have hc1 : decide ((n : Int) < 2 * (P : Int)) = false := by rw [decide_eq_false_iff_not]; omega
      have hc2 : decide (n < 2 * P) = false := decide_eq_false hc
      clear hc
      go_wp2_with fail
      go_roundg (L.length - (j + 1))
      case measure => omega
      case rel => exact ⟨j + 1, by omega, rfl, by go_num, by rw [HANY.out, BAD.out]; simp, DA.out⟩
    case pos =>
      have hc1 : decide ((n : Int) < 2 * (P : Int)) = true := by rw [decide_eq_true_eq]; omega
      have hc2 : decide (n < 2 * P) = true := decide_eq_true hc
      cases he : (ch.toList == xv.toList) with
      | true =>
        have BAD : Hid (badV n L ⟨nd, r, d, sl, xv⟩ = false) := by rw [Hid, BD.out, he]; simp
        clear hc
        go_wp2_with fail
        go_roundg (L.length - (j + 1))
        case measure => omega
        case rel => exact ⟨j + 1, by omega, rfl, by go_num, by rw [HANY.out, BAD.out]; simp, DA.out⟩
      | false =>
        have BAD : Hid (badV n L ⟨nd, r, d, sl, xv⟩ = true) := by rw [Hid, BD.out, he, hc2]; rfl
        have hab : ab = true := by
          rw [← HAB.out]
          exact List.any_eq_true.2 ⟨_, HXM.out, BAD.out⟩
        subst hab
        have hdl := HDV.out rfl _ HXM.out BAD.out
        simp only at hdl
        have hd2 : decide (dv > sl) = false := by rw [decide_eq_false_iff_not]; omega
        clear hc hdl
        go_wp2_with fail
        go_roundg (L.length - (j + 1))
        case measure => omega
        case rel => exact ⟨j + 1, by omega, rfl, by go_num, by rw [HANY.out, BAD.out]; simp, DA.out⟩
end Go.Proofs.YthkdmpalhdifbaaDoor.chosenMore
