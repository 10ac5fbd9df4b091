/- The reference's reader (skaldref03): Uint. -/
import Derived.Test.YtlfikhblmbidmaaGreatDoorR3C
import Derived.Test.YtlfikhblmbidmaaGreatDoorUintP
import Derived.Deep.DeepCutAuto
import Derived.Deep.CutBlock
import Derived.Deep.LoopGhost
set_option linter.unusedVariables false
set_option linter.unusedSimpArgs false
namespace Go.Proofs.YtlfikhblmbidmaaGreatDoor
open Go.RowKit Go.Maps

set_option maxRecDepth 100000 in
set_option maxHeartbeats 2000000 in
theorem rruint (p : Nat) (v : Value) (s : Rd) (w : World) (h : RrAt w p v s) (hl : (s.getD []).length ≤ 100000000) :
    Calls Tryz.prog 175 #[.pointer (some ⟨p, 0, none⟩)] w fun e w' => ∃ v', e = .returned (.int .u64 ((rdU s).1 : Int)) ∧ RrStep w p w' v' (rdU s).2 := by
  have c0 := h.blk.cell (i := 0) (v := .bool true) rfl
  have c2 := h.blk.cell (i := 2) (v := .bool s.isNone) rfl
  cases s with
  | none =>
    have H := Lib.hid h
    clear h
    go_enter Tryz.func175, Tryz.ntmps175
    go_wp2_with (go_at_call 177; refine (rrvalid p w c0).mono ?_; rintro e w' ⟨rfl, rfl⟩)
    go_returns
    exact ⟨_, rfl, RrStep.refl H.out⟩
  | some b =>
    have hl : b.length ≤ 100000000 := hl
    obtain ⟨A, c, rfl, hle, hm, hcells⟩ : ∃ A c, v = .slice A b.length c ∧ b.length ≤ c ∧ c ≤ maxLen ∧ (0 < b.length → ∃ g off, A = some ⟨g, off, none⟩ ∧ g < w.heap.size ∧ ∀ i z, b[i]? = some z → w.cell? ⟨g, off + i, none⟩ = some (u8V z)) := by
      obtain ⟨A, c, e, h1, h2, h3⟩ := h.bs
      exact ⟨A, c, e, h1, h2, h3⟩
    have hm' : c ≤ 9223372036854775807 := by unfold maxLen at hm; omega
    have H := Lib.hid h
    have HC := Lib.hid hcells
    clear h hcells
    go_enter Tryz.func175, Tryz.ntmps175
    go_wp2_with (go_at_call 177; refine (rrvalid p w c0).mono ?_; rintro e w' ⟨rfl, rfl⟩)
    go_loopg [3, 4] 10 (fun g n i wr => ∃ k : Nat, k ≤ 10 ∧ k ≤ b.length ∧ g = 10 - k ∧ n = .int .u64 ((digs (b.take k) % 18446744073709551616 : Nat) : Int) ∧ i = .int .i64 k ∧ (∀ j x, j < k → b[j]? = some x → 128 ≤ x.toNat) ∧ wr = w)
    case atStart => exact ⟨0, by omega, by omega, rfl, by simp [digs], rfl, fun j x h => by omega, rfl⟩
    case round =>
      obtain ⟨k, hk, hkb, rfl, rfl, rfl, hlow, rfl⟩ := hrel
      have d0 := H.out.blk.cell (i := 0) (v := .bool true) rfl
      have d1 := H.out.blk.cell (i := 1) (v := .slice A b.length c) rfl
      have HLOW := Lib.hid hlow
      clear hlow
      by_cases hl1 : k < b.length
      case neg =>
        have hd1 : decide ((k : Int) < (b.length : Int)) = false := decide_eq_false (by omega)
        have HEND := Lib.hid (ref_end HLOW.out (by omega))
        go_wp2_with (go_at_call 176; refine (rrfail p _ _ _ H.out).mono ?_; rintro e w2 ⟨rfl, hs⟩; have HS := Lib.hid hs; clear hs)
        go_returns
        rw [HEND.out]
        exact ⟨_, rfl, HS.out⟩
      case pos =>
      by_cases hl2 : k < 10
      case neg =>
        have hd1 : decide ((k : Int) < (b.length : Int)) = true := decide_eq_true (by omega)
        have hd2 : decide ((k : Int) < 10) = false := decide_eq_false (by omega)
        have HEND := Lib.hid (ref_end HLOW.out (by omega))
        go_wp2_with (go_at_call 176; refine (rrfail p _ _ _ H.out).mono ?_; rintro e w2 ⟨rfl, hs⟩; have HS := Lib.hid hs; clear hs)
        go_returns
        rw [HEND.out]
        exact ⟨_, rfl, HS.out⟩
      case pos =>
        obtain ⟨g, off, rfl, hg, hc⟩ := HC.out (by omega)
        obtain ⟨x, hx⟩ : ∃ x, b[k]? = some x := ⟨_, List.getElem?_eq_getElem hl1⟩
        have hq : wr.cell? ⟨g, off + k, none⟩ = some (.int .u8 (x.toNat : Int)) := hc k x hx
        clear hc
        obtain ⟨M, hM⟩ : ∃ M, digs (b.take (k + 1)) % 18446744073709551616 = M := ⟨_, rfl⟩
        have hsum : IntKind.u64.wrap (((digs (b.take k) : Nat) : Int) % 18446744073709551616 + IntKind.u64.wrap ((x.toNat : Int) % 128 * 2 ^ (7 * k))) = (M : Int) := by
          have h1 := digs_step hx
          rw [show (128 : Nat) ^ k = 2 ^ (7 * k) by rw [Nat.pow_mul]] at h1
          obtain ⟨P, hP⟩ : ∃ P, x.toNat % 128 * 2 ^ (7 * k) = P := ⟨_, rfl⟩
          have h2 : (x.toNat : Int) % 128 * 2 ^ (7 * k) = (P : Int) := by rw [← hP]; push_cast; rfl
          rw [h2, IntKind.wrap_u64, IntKind.wrap_u64, ← hM, h1, hP]
          omega
        have hM64 : M < 18446744073709551616 := by omega
        have HM := Lib.hid hM
        have HX := Lib.hid hx
        go_upto_region 8 with fail
        try rw [hsum]
        clear hsum hM hx
        by_cases hx1 : x.toNat < 128
        case neg =>
          have hx1' : decide ((x.toNat : Int) < 128) = false := by simp; omega
          go_wp2_with fail
          go_roundg (10 - (k + 1))
          case measure => omega
          case rel =>
            refine ⟨k + 1, by omega, by omega, rfl, by rw [HM.out], by go_num, fun j y hj hy => ?_, rfl⟩
            by_cases e : j = k
            · subst e
              have := HX.out.symm.trans hy
              cases this
              omega
            · exact HLOW.out j y (by omega) hy
        case pos =>
          have hx1' : decide ((x.toNat : Int) < 128) = true := by simp; omega
          obtain ⟨K1, hK1⟩ : ∃ K1, k + 1 = K1 := ⟨_, rfl⟩
          have hw1 : IntKind.i64.wrap ((k : Int) + 1) = (K1 : Int) := by rw [IntKind.wrap_i64]; omega
          have hKc : K1 ≤ c := by omega
          have hKb : K1 ≤ b.length := by omega
          have HK1 := Lib.hid hK1
          have hcut : Hid (BsIn wr (.slice (some ⟨g, off, none⟩) K1 c) (b.take K1)) := by
            have hbs := H.out.bs
            obtain ⟨A', c', e, _, h2, h3⟩ := hbs
            cases e
            obtain ⟨g', off', e2, h4, h5⟩ := h3 (by show 0 < b.length; omega)
            cases e2
            have hl : (b.take K1).length = K1 := by rw [List.length_take]; omega
            refine ⟨_, c, by rw [hl], by rw [hl]; omega, h2, fun _ => ⟨g, off, rfl, h4, fun i z hz => ?_⟩⟩
            rw [List.getElem?_take] at hz
            split at hz
            · exact h5 i z hz
            · cases hz
          clear hK1
          have hbd : Below wr.heap.size wr wr.drew := (Below.refl _ wr).drew
          have e1 := bcell hbd d1
          obtain ⟨SB, hSB⟩ : ∃ t, sB (b.take K1) = t := ⟨_, rfl⟩
          obtain ⟨SA, hSA⟩ : ∃ t, sB (uintB M) = t := ⟨_, rfl⟩
          have HSA := Lib.hid hSA
          have HSB := Lib.hid hSB
          have hcv := conv_bs (hcut.out.below hbd)
          rw [hSB] at hcv
          clear hSA hSB
          have HN := Lib.hid (rnum_any (M + 1) M wr.drew (by omega) hM64)
          have HRD := Lib.hid (H.out.below hbd)
          go_upto_region 9 with fail
          refine wp_region_held_drew (S := (fun W => W.cell? ⟨p, 1, none⟩ = some (.slice (some ⟨g, off, none⟩) b.length c) ∧ (convert 26 9 (.slice (some ⟨g, off, none⟩) K1 c)).run Tryz.prog W = .ok (.string SB) W)) (by kernel_rfl) ?_ (fun hHeld => ?_)
          · exact ⟨e1, hcv⟩
          try dsimp only at hHeld
          refine held_yes (i := 0) (some 49) (v := ?_) rfl rfl (by kernel_rfl) (by kernel_rfl) (by kernel_rfl) (fun _ _ _ h => h) (by rfl) ?_ hHeld ?_
          rotate_left
          · (intro w hSw; (try dsimp only at hSw); go_simp; all_goals with_reducible rfl)
          try simp only [Act.put, List.setIfInBounds_toArray, List.set_cons_zero, List.set_cons_succ]
          refine held_yes (i := 3) (some 52) (v := ?_) rfl rfl (by kernel_rfl) (by kernel_rfl) (by kernel_rfl) (fun _ _ _ h => h) (by rfl) ?_ hHeld ?_
          rotate_left
          · (intro w hSw; (try dsimp only at hSw); go_simp; all_goals with_reducible rfl)
          try simp only [Act.put, List.setIfInBounds_toArray, List.set_cons_zero, List.set_cons_succ]
          refine held_yes (i := 4) (some 53) (v := ?_) rfl rfl (by kernel_rfl) (by kernel_rfl) (by kernel_rfl) (fun _ _ _ h => h) (by rfl) ?_ hHeld ?_
          rotate_left
          · (intro w hSw; (try dsimp only at hSw); go_simp; all_goals with_reducible rfl)
          try simp only [Act.put, List.setIfInBounds_toArray, List.set_cons_zero, List.set_cons_succ]
          refine held_yes (i := 5) (some 54) (v := ?_) rfl rfl (by kernel_rfl) (by kernel_rfl) (by kernel_rfl) (fun _ _ _ h => h) (by rfl) ?_ hHeld ?_
          rotate_left
          · (intro w hSw; (try dsimp only at hSw); go_simp; all_goals with_reducible rfl)
          try simp only [Act.put, List.setIfInBounds_toArray, List.set_cons_zero, List.set_cons_succ]
          refine held_yes (i := 6) (some 55) (v := ?_) rfl rfl (by kernel_rfl) (by kernel_rfl) (by kernel_rfl) (fun _ _ _ h => h) (by rfl) ?_ hHeld ?_
          rotate_left
          · (intro w hSw; (try dsimp only at hSw); go_simp; all_goals with_reducible rfl)
          try simp only [Act.put, List.setIfInBounds_toArray, List.set_cons_zero, List.set_cons_succ]
          refine held_yes (i := 7) (some 56) (v := ?_) rfl rfl (by kernel_rfl) (by kernel_rfl) (by kernel_rfl) (fun _ _ _ h => h) (by rfl) ?_ hHeld ?_
          rotate_left
          · (intro w hSw; (try dsimp only at hSw); go_simp; all_goals with_reducible rfl)
          try simp only [Act.put, List.setIfInBounds_toArray, List.set_cons_zero, List.set_cons_succ]
          refine held_yes (i := 8) (some 57) (v := ?_) rfl rfl (by kernel_rfl) (by kernel_rfl) (by kernel_rfl) (fun _ _ _ h => h) (by rfl) ?_ hHeld ?_
          rotate_left
          · (intro w hSw; (try dsimp only at hSw); go_simp; all_goals with_reducible rfl)
          try simp only [Act.put, List.setIfInBounds_toArray, List.set_cons_zero, List.set_cons_succ]
          refine held_yes (i := 9) (some 58) (v := ?_) rfl rfl (by kernel_rfl) (by kernel_rfl) (by kernel_rfl) (fun _ _ _ h => h) (by rfl) ?_ hHeld ?_
          rotate_left
          · (intro w hSw; (try dsimp only at hSw); go_simp; all_goals with_reducible rfl)
          try simp only [Act.put, List.setIfInBounds_toArray, List.set_cons_zero, List.set_cons_succ]
          refine held_yes (i := 10) (some 59) (v := ?_) rfl rfl (by kernel_rfl) (by kernel_rfl) (by kernel_rfl) (fun _ _ _ h => h) (by rfl) ?_ hHeld ?_
          rotate_left
          · (intro w hSw; (try dsimp only at hSw); go_simp; all_goals with_reducible rfl)
          try simp only [Act.put, List.setIfInBounds_toArray, List.set_cons_zero, List.set_cons_succ]
          refine wpAnyH_ready (rs := [1]) (by kernel_rfl) (by simp) ?_
          refine (AllReadyH.cons rfl (fun K' hK' => ?_) AllReadyH.nil)
          go_simp
          (refine HN.out.mono ?_; rintro e w2 ⟨vo, rfl, ho, hb⟩; obtain ⟨a9, c9, rfl⟩ := ho.shape; have HO := Lib.hid ho; have HB2 := Lib.hid hb; have f1 := bcell hb e1; have hcv2 := conv_bs (hcut.out.below (hbd.trans (hb.mono hbd.size))); rw [HSB.out] at hcv2; have hcv3 := conv_bs ho.bsIn; rw [HSA.out] at hcv3; clear hb ho)
          go_wp2_with fail
          refine hK'.out _ _ ?_ (fun hHeld => ?_)
          · first | exact hHeld | exact ⟨f1, hcv2⟩
          clear hK' K'
          try dsimp only at hHeld
          try simp only [Act.put, List.setIfInBounds_toArray, List.set_cons_zero, List.set_cons_succ]
          refine wpAnyH_ready (rs := [2]) (by kernel_rfl) (by simp) ?_
          refine (AllReadyH.cons rfl (fun K' hK' => ?_) AllReadyH.nil)
          go_simp
          refine hK'.out _ _ ?_ (fun hHeld => ?_)
          · first | exact hHeld | exact ⟨f1, hcv2⟩
          clear hK' K'
          try dsimp only at hHeld
          try simp only [Act.put, List.setIfInBounds_toArray, List.set_cons_zero, List.set_cons_succ]
          refine held_yes (i := 11) (some 60) (v := ?_) rfl rfl (by kernel_rfl) (by kernel_rfl) (by kernel_rfl) (fun _ _ _ h => h) (by rfl) ?_ hHeld ?_
          rotate_left
          · (intro w hSw; (try dsimp only at hSw); go_simp; all_goals with_reducible rfl)
          try simp only [Act.put, List.setIfInBounds_toArray, List.set_cons_zero, List.set_cons_succ]
          refine wpAnyH_done (by kernel_rfl) ?_ _
          have HR2 := Lib.hid (HRD.out.below HB2.out)
          have hfr : Fr (S1 p) wr w2 := Fr.of_below (hbd.trans (HB2.out.mono hbd.size))
          have hz1 := HR2.out.blk.frozen 1
          have HFR := Lib.hid hfr
          clear hcv3 hcv2 hHeld hfr
          by_cases heq : uintB M = b.take K1
          case pos =>
            have hcmp : (SA.toList == SB.toList) = true := by rw [← HSA.out, ← HSB.out, sB_eq]; simpa using heq
            have HY := Lib.hid (ref_yes (i := k) (by rw [HK1.out]; exact heq.symm) hM64)
            rw [HK1.out] at HY
            have HPUT : Hid (∀ (A : Option Addr) (c' : Nat), (b.length - K1 = 0 ∨ A = some ⟨g, off + K1, none⟩) → b.length - K1 ≤ c' → c' ≤ maxLen → RrStep w2 p (w2.setCell ⟨p, 1, none⟩ (.slice A (b.length - K1) c')) (.slice A (b.length - K1) c') (some (b.drop K1))) := fun A c' h1 h2 h3 => by
              obtain ⟨A', c'', e, _, _, h5⟩ := HR2.out.bs
              cases e
              obtain ⟨g', off', e2, h6, h7⟩ := h5 (by show 0 < b.length; omega)
              cases e2
              have := bs_sub (cap := 0) (i := K1) (n := b.length - K1) h6 (by show K1 + (b.length - K1) ≤ b.length; omega) h7 A c' h1 h2 h3
              rw [show ((some b).getD []) = b from rfl, List.take_of_length_le (by simp)] at this
              exact HR2.out.put (by simp) this
            clear heq
            simp only [hcmp, Bool.not_true]
            go_wp2_with fail
            · go_returns
              rw [HY.out]
              have h9 := HPUT.out (some ⟨g, off, none⟩) 0 (.inl (by omega)) (by omega) (by unfold maxLen; omega)
              exact ⟨rfl, _, HFR.out.trans h9.fr, h9.at_⟩
            · go_returns
              rw [HY.out]
              have h9 := HPUT.out (some ⟨g, off + K1, none⟩) (c - K1) (.inr rfl) (by omega) (by omega)
              exact ⟨rfl, _, HFR.out.trans h9.fr, h9.at_⟩
          case neg =>
            have hcmp : (SA.toList == SB.toList) = false := by rw [← HSA.out, ← HSB.out, sB_eq]; simpa using heq
            have HNO := Lib.hid (ref_no HX.out HLOW.out hx1 (by rw [HM.out, HK1.out]; exact heq))
            clear heq
            simp only [hcmp, Bool.not_false]
            go_wp2_with (go_at_call 176; refine (rrfail p _ _ _ HR2.out).mono ?_; rintro e w3 ⟨rfl, hs⟩; have HS := Lib.hid hs; clear hs)
            go_returns
            rw [HNO.out]
            exact ⟨_, rfl, ⟨HFR.out.trans HS.out.fr, HS.out.at_⟩⟩
end Go.Proofs.YtlfikhblmbidmaaGreatDoor
