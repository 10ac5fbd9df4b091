/- The walk of skaldlaw13.LearnNewer: it returns true, and writes nothing that was there. -/
import Derived.Test.YtnnadpbfidfhoaaLearnQ
import Derived.OpenShut
import Derived.Deep.DeepCutAuto
import Derived.Deep.CutBlock
import Derived.Deep.LoopGhost
import Derived.Deep.RegionHeld3
set_option linter.unusedVariables false
set_option linter.unusedSimpArgs false
namespace Go.Proofs.Ytnnadpbfidfhoaa.learnNewer
open Go.RowKit Go.Shelf
set_option maxRecDepth 100000 in
set_option maxHeartbeats 20000000 in
theorem walk (x : Int) (v1 : Value) (L : List (Nat × Nat)) (w : World) (w0 : (Lit.int .u8 x).wf = true) (hL : PairsIn w v1 L) :
    Calls Try.prog 4 #[.int .u8 x, v1] w fun e w' => e = .returned (.bool true) ∧ Below w.heap.size w w' := by
  obtain ⟨x, hx256, rfl⟩ := u8_nat w0
  obtain ⟨A0, cap0, rfl, hcap0, hmax0, hin, hc⟩ := hL
  have HC := Lib.hid hc
  have HIN := Lib.hid hin
  have hml : cap0 ≤ 9223372036854775807 := by unfold maxLen at hmax0; omega
  clear hc hin hmax0 w0
  obtain ⟨n, hn⟩ : ∃ n : Nat, n = 2 + x % 6 := ⟨_, rfl⟩
  have hn7 : 1 ≤ n ∧ n ≤ 7 := by omega
  have hn2 : 2 ≤ n := by omega
  have hxn : (2 : Int) + (x : Int) % 6 = (n : Int) := by omega
  clear hn
  obtain ⟨N, hN⟩ : ∃ N : Nat, N = min L.length 40 := ⟨_, rfl⟩
  have hN1 : N ≤ L.length ∧ N ≤ 40 := by omega
  have hN2 : min (L.length : Int) 40 = (N : Int) := by omega
  clear hN
  go_enter Try.func4, Try.ntmps4
  go_wp2_with (first
    | (go_at_call 11; refine (lnew_S n _ hn7).mono ?_; rintro e w1 ⟨p, m, rfl, t1, hp, hm, b1⟩; have T1 := Lib.hid t1; have B1 := Lib.hid b1; clear t1 b1))
  go_loopg [8, 9, 40] N (fun q u v c wr => ∃ (i g set : Nat) (K : KL), i ≤ N ∧ q = N - i ∧ u = .int .i64 g ∧ v = .int .u64 set ∧ c = .int .i64 i ∧ LS wr p m ⟨n, 0, K⟩ ∧ Nw n g set K ∧ Below w.heap.size w wr)
  case atStart => exact ⟨0, 0, 0, [], by omega, by omega, rfl, rfl, rfl, T1.out, .inl ⟨rfl, rfl, rfl⟩, B1.out⟩
  case round =>
    clear T1 B1
    obtain ⟨i, g, set, K, hi, rfl, rfl, rfl, rfl, ht, hw, hB⟩ := hrel
    have T := Lib.hid ht
    have NW := Lib.hid hw
    clear ht hw
    by_cases hlt : i < N
    · have hlt' : (i : Int) < (N : Int) := by omega
      obtain ⟨b, off, rfl, hb, hcells⟩ := HC.out (by omega)
      obtain ⟨⟨x2, y⟩, hs⟩ : ∃ s, L[i]? = some s := ⟨_, List.getElem?_eq_getElem (by omega)⟩
      obtain ⟨q0, q1⟩ := hcells i _ hs
      obtain ⟨ix, iy⟩ := HIN.out _ (List.mem_of_getElem? hs)
      simp only at q0 q1 ix iy
      have d0 := bcell hB q0
      have d1 := bcell hB q1
      clear q0 q1 hs hcells
      go_upto_region 9 with fail
      have bw := box_below wr (.cells #[.int .u8 (x2 : Int), .int .u8 (y : Int)] 43)
      have KA := Lib.hid (Blk.new wr 43 #[.int .u8 (x2 : Int), .int .u8 (y : Int)])
      have T1 := Lib.hid (T.out.below bw)
      have B1 := Lib.hid (hB.trans (bw.mono hB.size))
      generalize (wr.alloc (.cells #[.int .u8 (x2 : Int), .int .u8 (y : Int)] 43)) = W1 at *
      obtain ⟨b8, hb8⟩ : ∃ b8, b8 = wr.heap.size := ⟨_, rfl⟩
      rw [← hb8] at KA ⊢
      clear hb8 bw T hB d0 d1
      have y0 := KA.out.cell (i := 0) (v := .int .u8 (x2 : Int)) rfl
      have y1 := KA.out.cell (i := 1) (v := .int .u8 (y : Int)) rfl
      obtain ⟨r, hr⟩ : ∃ r : Nat, r = 1 + x2 % 16 := ⟨_, rfl⟩
      have hr1 : (1 : Int) + (x2 : Int) % 16 = (r : Int) := by omega
      have hr16 : 1 ≤ r ∧ r ≤ 16 := by omega
      obtain ⟨a, ha⟩ : ∃ a : Nat, a = y % n := ⟨_, rfl⟩
      have han : a < n := by rw [ha]; exact Nat.mod_lt _ (by omega)
      have hm2 : (y : Int) % (n : Int) = (a : Int) := by rw [ha]; exact (Int.natCast_emod y n).symm
      have HR1 := Lib.hid hr1
      have HM2 := Lib.hid hm2
      have hnn : n = 2 ∨ n = 3 ∨ n = 4 ∨ n = 5 ∨ n = 6 ∨ n = 7 := by omega
      clear ha hr hr1 hm2
      go_cut [12, 13] (fun u v wx => u = .int .i64 (r : Int) ∧ v = .int .i64 (a : Int) ∧ W1.drew = wx)
      case first =>
        rcases hnn with rfl | rfl | rfl | rfl | rfl | rfl
        · as_aux_lemma =>
            go_region_held3 (fun W => W.cell? ⟨b8, 0, none⟩ = some (.int .u8 (x2 : Int)) ∧ W.cell? ⟨b8, 1, none⟩ = some (.int .u8 (y : Int)))
              (first | exact ⟨by assumption, by assumption⟩ | go_keep)
              (first | fail)
            go_wp2_with fail
            go_meet
            exact ⟨by rw [wx16 x2 ix, HR1.out], by rw [wy64 y iy, rm2 y, HM2.out], rfl⟩
        · as_aux_lemma =>
            go_region_held3 (fun W => W.cell? ⟨b8, 0, none⟩ = some (.int .u8 (x2 : Int)) ∧ W.cell? ⟨b8, 1, none⟩ = some (.int .u8 (y : Int)))
              (first | exact ⟨by assumption, by assumption⟩ | go_keep)
              (first | fail)
            go_wp2_with fail
            go_meet
            exact ⟨by rw [wx16 x2 ix, HR1.out], by rw [wy64 y iy, rm3 y, HM2.out], rfl⟩
        · as_aux_lemma =>
            go_region_held3 (fun W => W.cell? ⟨b8, 0, none⟩ = some (.int .u8 (x2 : Int)) ∧ W.cell? ⟨b8, 1, none⟩ = some (.int .u8 (y : Int)))
              (first | exact ⟨by assumption, by assumption⟩ | go_keep)
              (first | fail)
            go_wp2_with fail
            go_meet
            exact ⟨by rw [wx16 x2 ix, HR1.out], by rw [wy64 y iy, rm4 y, HM2.out], rfl⟩
        · as_aux_lemma =>
            go_region_held3 (fun W => W.cell? ⟨b8, 0, none⟩ = some (.int .u8 (x2 : Int)) ∧ W.cell? ⟨b8, 1, none⟩ = some (.int .u8 (y : Int)))
              (first | exact ⟨by assumption, by assumption⟩ | go_keep)
              (first | fail)
            go_wp2_with fail
            go_meet
            exact ⟨by rw [wx16 x2 ix, HR1.out], by rw [wy64 y iy, rm5 y, HM2.out], rfl⟩
        · as_aux_lemma =>
            go_region_held3 (fun W => W.cell? ⟨b8, 0, none⟩ = some (.int .u8 (x2 : Int)) ∧ W.cell? ⟨b8, 1, none⟩ = some (.int .u8 (y : Int)))
              (first | exact ⟨by assumption, by assumption⟩ | go_keep)
              (first | fail)
            go_wp2_with fail
            go_meet
            exact ⟨by rw [wx16 x2 ix, HR1.out], by rw [wy64 y iy, rm6 y, HM2.out], rfl⟩
        · as_aux_lemma =>
            go_region_held3 (fun W => W.cell? ⟨b8, 0, none⟩ = some (.int .u8 (x2 : Int)) ∧ W.cell? ⟨b8, 1, none⟩ = some (.int .u8 (y : Int)))
              (first | exact ⟨by assumption, by assumption⟩ | go_keep)
              (first | fail)
            go_wp2_with fail
            go_meet
            exact ⟨by rw [wx16 x2 ix, HR1.out], by rw [wy64 y iy, rm7 y, HM2.out], rfl⟩
      case rest =>
        obtain ⟨rfl, rfl, rfl⟩ := hcut
        clear hnn HR1 HM2
        have T2 := Lib.hid T1.out.drew
        have B2 := Lib.hid B1.out.drew
        clear y0 y1 KA T1 B1
        generalize W1.drew = W2 at *
        obtain ⟨s0, hs0⟩ : ∃ s0 : Nat, s0 = (if g < r then 0 else set) := ⟨_, rfl⟩
        have HS0 := Lib.hid hs0
        have hs0l : s0 < 2 ^ n := by
          rw [hs0]
          split
          · exact Nat.pow_pos (by decide)
          · exact NW.out.lt.1
        have HSL := Lib.hid hs0l
        have hg16 := NW.out.lt.2
        clear hs0l
        go_upto_if 57 with fail
        go_cut [14] (fun v wx => v = .int .u64 (s0 : Int) ∧ W2 = wx)
        case first =>
          by_cases hgr : g < r
          · have hgr' : (g : Int) < (r : Int) := by omega
            rw [if_pos hgr] at hs0
            subst hs0
            clear hgr
            go_wp2_with fail
            go_meet
            exact ⟨rfl, rfl⟩
          · have hgr' : ¬ (g : Int) < (r : Int) := by omega
            rw [if_neg hgr] at hs0
            subst hs0
            clear hgr
            go_wp2_with fail
            go_meet
            exact ⟨rfl, rfl⟩
        case rest =>
          obtain ⟨rfl, rfl⟩ := hcut
          clear hs0
          go_upto_region 14 with fail
          have hv := bitorN hn7 HSL.out han
          rw [hv]
          clear hv
          obtain ⟨av, hav⟩ : ∃ av : Nat, av = s0 ||| 2 ^ a := ⟨_, rfl⟩
          have hvl : av < 2 ^ n := by rw [hav]; exact bit_ltN HSL.out han
          rw [← hav]
          have HAV := Lib.hid hav
          have HVL := Lib.hid hvl
          clear hav hvl
          go_upto_block 2 with fail
          go_cut [15] (fun v wx => v = .int .i64 (pop av : Int) ∧ W2 = wx)
          case first =>
            go_wp2_with fail
            go_loopg [15, 63] n (fun q v c wr => ∃ (j : Nat), j ≤ n ∧ q = n - j ∧ v = .int .i64 (cntB av j : Int) ∧ c = .int .i64 j ∧ W2 = wr)
            case atStart => exact ⟨0, by omega, by omega, rfl, rfl, rfl⟩
            case round =>
              obtain ⟨j, hj, rfl, rfl, rfl, rfl⟩ := hrel
              by_cases hjn : j < n
              · have hjn' : (j : Int) < (n : Int) := by omega
                skip
                go_wp2_with fail
                skip
                go_roundg (n - (j + 1))
                case measure => omega
                case rel => exact ⟨j + 1, by omega, rfl, by rw [cnt_step (x := av) (j := j) (Nat.lt_of_lt_of_le HVL.out (Nat.le_trans (Nat.pow_le_pow_right (by decide) hn7.2) (by decide))) (by omega)], by go_num, rfl⟩
              · have e : n = j := by omega
                subst e
                go_wp2_with fail
                go_meet
                exact ⟨by rw [cntB_pop0 n (by omega) av HVL.out], rfl⟩
          case rest =>
            obtain ⟨rfl, rfl⟩ := hcut
            have hpl := pop_le hn7 HVL.out
            have hcv := convR r W2 (by omega)
            have HCAT := Lib.hid (cr_vr r (by omega))
            have HAC := Lib.hid (adC7 (L := K) hn7 han hr16)
            by_cases ho : r < g
            · have ho1 : ¬ (g : Int) ≤ (r : Int) := by omega
              have HR := Lib.hid (nw_old NW.out hn7 han hr16 ho)
              have HF := Lib.hid (NW.out.fld (by omega))
              clear ho HAC
              as_aux_lemma =>
              go_wp2_with (first
                | (go_at_call 12; have bb := box_below W2 (.cells #[.int .u8 (97 + (r : Int))] 5); refine (add_S p m ⟨n, 0, K⟩ a r 0 7 _ _ (T2.out.below bb)).mono ?_; rw [HCAT.out, HR.out]; rintro e1 w5 ⟨rfl, t5, f5⟩; have T5 := Lib.hid t5; have B5 := Lib.hid (Fr.upB (bchain B2.out bb) f5 (fun i e => by rcases e with e | e <;> omega)); clear t5 f5 bb)
                | (go_at_call 14; refine (votes_S p m ⟨n, 0, K⟩ 7 _ T5.out ⟨by decide, by decide⟩).mono ?_; rw [HF.out.1, HF.out.2.1, HF.out.2.2.1]; rintro e1 w6 ⟨rfl, b6⟩; have bx := box_below w6 (.cells #[.int .i64 g, .int .i64 0] 31); have k0 := (Blk.new w6 31 #[.int .i64 g, .int .i64 0]).cell (i := 0) (v := .int .i64 g) rfl; have T6 := Lib.hid ((T5.out.below b6).below bx); have B6 := Lib.hid (bchain (bchain B5.out b6) bx); clear b6 bx)
                | (go_at_call 13; refine (chosen_S p m ⟨n, 0, K⟩ 7 _ T6.out ⟨by decide, by decide⟩).mono ?_; rw [HF.out.2.2.2.1]; rintro e1 w7 ⟨rfl, b7⟩; have T7 := Lib.hid (T6.out.below b7); have B7 := Lib.hid (bchain B6.out b7); have k1 := bcell b7 k0; clear b7)
                | (go_at_call 15; refine (open_S p m ⟨n, 0, K⟩ _ T7.out).mono ?_; rw [HF.out.2.2.2.2.2]; rintro e1 w8 ⟨v8, rfl, r8, b8⟩; have b9 := box_below w8 (.cells #[.int .i64 7] 3); have R8 := Lib.hid (r8.below b9); have T8 := Lib.hid ((T7.out.below b8).below b9); have B8 := Lib.hid (bchain (bchain B7.out b8) b9); clear b8 b9 r8)
                | (go_at_call 16; refine (equal_rows _ _ _ _ _ _ _ R8.out (lit_int w8 7) (by decide) (by decide)).mono ?_; rw [show decide (([7] : List Int) = [7]) = true from rfl]; rintro e1 w9 ⟨rfl, b9⟩; have T9 := Lib.hid (T8.out.below b9); have B9 := Lib.hid (bchain B8.out b9); clear b9))
              go_roundg (N - (i + 1))
              case measure => omega
              case rel => exact ⟨i + 1, g, set, K, by omega, rfl, rfl, rfl, by go_num, T9.out, NW.out, B9.out⟩
            · have ho1 : (g : Int) ≤ (r : Int) := by omega
              cases hmj : maj av n with
              | true =>
                have hm1 : (n : Int) < 2 * (pop av : Int) := by rw [maj_two] at hmj; have := of_decide_eq_true hmj; omega
                clear hmj
                go_wp2_with fail
                go_roundg (N - (i + 1))
                case measure => omega
                case rel => exact ⟨i + 1, g, set, K, by omega, rfl, rfl, rfl, by go_num, T2.out, NW.out, B2.out⟩
              | false =>
                have hm1 : ¬ (n : Int) < 2 * (pop av : Int) := by rw [maj_two] at hmj; have := of_decide_eq_false hmj; omega
                obtain ⟨K2, hr2, hn2⟩ := nw_new NW.out hn7 han hr16 ho (by rw [← HS0.out, ← HAV.out]; exact hmj)
                rw [← HS0.out, ← HAV.out] at hn2
                have HR := Lib.hid hr2
                have N2 := Lib.hid hn2
                have HF := Lib.hid (hn2.fld (by omega))
                clear ho HAC hmj hr2 hn2
                as_aux_lemma =>
                go_wp2_with (first
                  | (go_at_call 12; have bb := box_below W2 (.cells #[.int .u8 (97 + (r : Int))] 5); refine (add_S p m ⟨n, 0, K⟩ a r 0 7 _ _ (T2.out.below bb)).mono ?_; rw [HCAT.out, HR.out]; rintro e1 w5 ⟨rfl, t5, f5⟩; have T5 := Lib.hid t5; have B5 := Lib.hid (Fr.upB (bchain B2.out bb) f5 (fun i e => by rcases e with e | e <;> omega)); clear t5 f5 bb)
                  | (go_at_call 14; refine (votes_S p m ⟨n, 0, K2⟩ 7 _ T5.out ⟨by decide, by decide⟩).mono ?_; rw [HF.out.1, HF.out.2.1, HF.out.2.2.1]; rintro e1 w6 ⟨rfl, b6⟩; have bx := box_below w6 (.cells #[.int .i64 r, .int .i64 0] 31); have k0 := (Blk.new w6 31 #[.int .i64 r, .int .i64 0]).cell (i := 0) (v := .int .i64 r) rfl; have T6 := Lib.hid ((T5.out.below b6).below bx); have B6 := Lib.hid (bchain (bchain B5.out b6) bx); clear b6 bx)
                  | (go_at_call 13; refine (chosen_S p m ⟨n, 0, K2⟩ 7 _ T6.out ⟨by decide, by decide⟩).mono ?_; rw [HF.out.2.2.2.1]; rintro e1 w7 ⟨rfl, b7⟩; have T7 := Lib.hid (T6.out.below b7); have B7 := Lib.hid (bchain B6.out b7); have k1 := bcell b7 k0; clear b7)
                  | (go_at_call 15; refine (open_S p m ⟨n, 0, K2⟩ _ T7.out).mono ?_; rw [HF.out.2.2.2.2.2]; rintro e1 w8 ⟨v8, rfl, r8, b8⟩; have b9 := box_below w8 (.cells #[.int .i64 7] 3); have R8 := Lib.hid (r8.below b9); have T8 := Lib.hid ((T7.out.below b8).below b9); have B8 := Lib.hid (bchain (bchain B7.out b8) b9); clear b8 b9 r8)
                  | (go_at_call 16; refine (equal_rows _ _ _ _ _ _ _ R8.out (lit_int w8 7) (by decide) (by decide)).mono ?_; rw [show decide (([7] : List Int) = [7]) = true from rfl]; rintro e1 w9 ⟨rfl, b9⟩; have T9 := Lib.hid (T8.out.below b9); have B9 := Lib.hid (bchain B8.out b9); clear b9))
                go_roundg (N - (i + 1))
                case measure => omega
                case rel => exact ⟨i + 1, r, av, K2, by omega, rfl, rfl, rfl, by go_num, T9.out, N2.out, B9.out⟩
    · have e : i = N := by omega
      subst e
      clear hlt
      go_wp2_with (first
        | (go_at_call 10; refine (works_any _).mono ?_; rintro e wk ⟨rfl, bk⟩))
      go_returns
      exact ⟨rfl, hB.trans (bk.mono hB.size)⟩
end Go.Proofs.Ytnnadpbfidfhoaa.learnNewer
