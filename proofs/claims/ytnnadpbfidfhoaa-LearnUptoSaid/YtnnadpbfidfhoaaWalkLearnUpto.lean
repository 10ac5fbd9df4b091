/- The walk of skaldlaw13.LearnUpto: it returns true, and writes nothing that was there. -/
import Derived.Test.YtnnadpbfidfhoaaLearnU
import Derived.OpenShut
import Derived.Deep.DeepCutAuto
import Derived.Deep.CutBlock
import Derived.Deep.LoopGhost
import Derived.Deep.RegionHeld3
set_option linter.unusedVariables false
set_option linter.unusedSimpArgs false
namespace Go.Proofs.Ytnnadpbfidfhoaa.learnUpto
open Go.RowKit Go.Shelf
set_option maxRecDepth 100000 in
set_option maxHeartbeats 20000000 in
theorem walk (v0 : Value) (zs : List Int) (y mu : Int) (w : World) (hL : BytesIn w v0 zs) (w1 : (Lit.int .u8 y).wf = true) (w2 : (Lit.int .u8 mu).wf = true) :
    Calls Try.prog 6 #[v0, .int .u8 y, .int .u8 mu] w fun e w' => e = .returned (.bool true) ∧ Below w.heap.size w w' := by
  obtain ⟨y, hy256, rfl⟩ := u8_nat w1
  obtain ⟨mu, hmu256, rfl⟩ := u8_nat w2
  obtain ⟨A0, cap0, rfl, hcap0, hmax0, hin, hc⟩ := hL
  have HC := Lib.hid hc
  have HIN := Lib.hid hin
  have hml : cap0 ≤ 9223372036854775807 := by unfold maxLen at hmax0; omega
  clear hc hin hmax0 w1 w2
  obtain ⟨ev, hev⟩ : ∃ ev : Nat, ev = 2 + y % 16 := ⟨_, rfl⟩
  have hev1 : (2 : Int) + (y : Int) % 16 = (ev : Int) := by omega
  have hev2 : 2 ≤ ev ∧ ev ≤ 17 := by omega
  clear hev
  obtain ⟨N, hN⟩ : ∃ N : Nat, N = min zs.length 60 := ⟨_, rfl⟩
  have hN1 : N ≤ zs.length ∧ N ≤ 60 := by omega
  have hN2 : min (zs.length : Int) 60 = (N : Int) := by omega
  clear hN
  have hmk : ∀ W : World, (Instr.makeSlice 48 (.int .i64 100) (.int .i64 100)).run Try.prog W = .ok (.slice (some ⟨W.heap.size, 0, none⟩) 100 100) (W.alloc (.cells (Array.replicate 100 (.bool false)) 4)) := fun _ => by kernel_rfl
  go_enter Try.func6, Try.ntmps6
  go_upto_region 6 with (first
    | (go_at_call 11; refine (lnew_S 3 _ (by decide)).mono ?_; rintro e w1 ⟨p, m, rfl, t1, hp, hm, b1⟩; have T1 := Lib.hid t1; have B1 := Lib.hid b1; clear t1 b1))
  clear hmk
  have bw := box_below w1 (.cells (Array.replicate 100 (.bool false)) 4)
  have KA := Lib.hid (Bl.init w1)
  have hlt0 := T1.out.lt
  have hsz := B1.out.size
  have T2 := Lib.hid (T1.out.below bw)
  have B2 := Lib.hid (bchain B1.out bw)
  generalize (w1.alloc (.cells (Array.replicate 100 (.bool false)) 4)) = W2 at *
  obtain ⟨g, hg⟩ : ∃ g, g = w1.heap.size := ⟨_, rfl⟩
  rw [← hg] at KA hlt0 hsz ⊢
  clear hg bw T1 B1
  go_wp2_with fail
  go_loopg [2, 9, 10, 33] N (fun q u b l c wr => ∃ (i mm B last : Nat) (f : Nat → Bool) (K : KL), i ≤ N ∧ q = N - i ∧ mm < 256 ∧ u = .int .u8 mm ∧ b = .int .i64 B ∧ l = .int .i64 last ∧ c = .int .i64 i ∧ LS wr p m ⟨3, B, K⟩ ∧ UpR f B K ∧ Bl wr g f ∧ (∀ j, B ≤ j → j < last → f j = true) ∧ Below w.heap.size w wr)
  case atStart => exact ⟨0, mu, 0, 0, _, [], by omega, by omega, hmu256, rfl, rfl, rfl, rfl, T2.out, upR0, KA.out, fun j h1 h2 => absurd h2 (Nat.not_lt_zero _), B2.out⟩
  case round =>
    clear T2 B2 KA
    obtain ⟨i, mm, B, last, f, K, hi, rfl, hmm, rfl, rfl, rfl, rfl, ht, hu, hk, hla, hB⟩ := hrel
    have T := Lib.hid ht
    have UP := Lib.hid hu
    have KB := Lib.hid hk
    have LA := Lib.hid hla
    have hb45 := hu.b45
    clear ht hu hk hla
    by_cases hlt : i < N
    · have hlt' : (i : Int) < (N : Int) := by omega
      obtain ⟨b, off, rfl, hb, hcells⟩ := HC.out (by omega)
      obtain ⟨yy, hs⟩ : ∃ s, zs[i]? = some s := ⟨_, List.getElem?_eq_getElem (by omega)⟩
      have q0 := hcells i _ hs
      obtain ⟨ix, iy⟩ := HIN.out _ (List.mem_of_getElem? hs)
      obtain ⟨yn, rfl⟩ := Int.eq_ofNat_of_zero_le ix
      have d0 := bcell hB q0
      clear q0 hs hcells ix
      obtain ⟨s, hsd⟩ : ∃ s : Nat, s = yn % 40 := ⟨_, rfl⟩
      have hs40 : s < 40 := by omega
      have hys : (yn : Int) % 40 = (s : Int) := by omega
      clear hsd
      go_upto_if 43 with fail
      go_cut [15] (fun v wx => ∃ (f2 : Nat → Bool) (K2 : KL) (z : Int), v = .int .i64 z ∧ lnE ⟨3, B, K⟩ s (cr s) = z ∧ lnS ⟨3, B, K⟩ s (cr s) = ⟨3, B, K2⟩ ∧ UpR f2 B K2 ∧ (∀ j, f j = true → f2 j = true) ∧ Bl wx g f2 ∧ LS wx p m ⟨3, B, K⟩ ∧ Below w.heap.size w wx)
      case first =>
        by_cases hsb : s < B
        · have hsb' : (s : Int) < (B : Int) := by omega
          obtain ⟨l1, l2⟩ := UP.out.learn_old hs40 hsb
          have L1 := Lib.hid l1
          have L2 := Lib.hid l2
          clear l1 l2
          go_wp2_with fail
          go_meet
          exact ⟨f, K, 8, rfl, L1.out, L2.out, UP.out, fun _ h => h, KB.out, T.out, hB⟩
        · have hsb' : ¬ (s : Int) < (B : Int) := by omega
          obtain ⟨l1, K2, l2, l3⟩ := UP.out.learn_new T.out.good.srt hs40 hsb
          have L1 := Lib.hid l1
          have L2 := Lib.hid l2
          have L3 := Lib.hid l3
          clear l1 l2 l3
          have hfz := KB.out.frozen s
          have hcl := KB.out.cell (i := s) (by omega)
          go_wp2_with fail
          go_meet
          have hf6 : Fr (S1 g) wr (wr.setCell ⟨g, s, none⟩ (.bool true)) := (Fr.refl (S1 g) wr).setCell (p := ⟨g, s, none⟩) (.inl (show S1 g g from rfl)) _
          refine ⟨upd f s, K2, 0, rfl, L1.out, L2.out, L3.out, fun j h => by unfold upd; rw [h]; rfl, KB.out.set (by omega), T.out.fr hf6 ?_ ?_, Fr.upB hB hf6 (fun i e => by have e : i = g := e; omega)⟩
          · intro e; have e : p = g := e; omega
          · intro e; have e : m = g := e; omega
      case rest =>
        obtain ⟨f2, K2, z, rfl, l1, l2, l3, l4, k1, t1, b1⟩ := hcut
        obtain ⟨w2, rfl⟩ : ∃ w2 : World, w2 = wc := ⟨_, rfl⟩
        have L1 := Lib.hid l1
        have L2 := Lib.hid l2
        have U2 := Lib.hid l3
        have MO := Lib.hid l4
        have K1 := Lib.hid k1
        have T1 := Lib.hid t1
        have B1 := Lib.hid b1
        clear l1 l2 l3 l4 k1 t1 b1 T UP KB
        have hcv := convA s w2 (by omega)
        go_upto_if 64 with (first
          | (go_at_call 17; have bb := box_below w2 (.cells #[.int .u8 (97 + (s : Int))] 5); refine (learn_S p m ⟨3, B, K⟩ s (cr s) _ (T1.out.below bb)).mono ?_; rw [L1.out, L2.out]; rintro e3 w3 ⟨rfl, t3, f3⟩; have T3 := Lib.hid t3; have B3 := Lib.hid (Fr.upB (bchain B1.out bb) f3 (fun i e => by rcases e with e | e <;> omega)); have K3 := Lib.hid ((K1.out.bel bb).fr f3 (fun e => by rcases e with e | e <;> omega)); clear t3 f3 bb))
        clear T1 B1 K1 L1 L2 hcv
        go_cut [2, 9] (fun u v wx => ∃ (mm2 B2 : Nat) (K3 : KL), u = .int .u8 mm2 ∧ mm2 < 256 ∧ v = .int .i64 B2 ∧ B ≤ B2 ∧ UpR f2 B2 K3 ∧ LS wx p m ⟨3, B2, K3⟩ ∧ Bl wx g f2 ∧ Below w.heap.size w wx)
        case first =>
          cases hz : (((i : Int) + 1) % (ev : Int) == 0) with
          | true =>
            obtain ⟨k, hkd⟩ : ∃ k : Nat, k = mm % 45 := ⟨_, rfl⟩
            have hk45 : k ≤ 44 := by omega
            have hmk2 : (mm : Int) % 45 = (k : Int) := by omega
            clear hkd
            obtain ⟨B2, hB2⟩ : ∃ B2 : Nat, B2 = max B k := ⟨_, rfl⟩
            have hB3 : max (B : Int) (k : Int) = (B2 : Int) := by omega
            have hB4 : B ≤ B2 := by omega
            obtain ⟨g1, g2, g3⟩ := U2.out.forget (k := k) (by omega) hB2
            have G1 := Lib.hid g1
            have G2 := Lib.hid g2
            have G3 := Lib.hid g3
            clear hB2 g1 g2 g3
            go_wp2_with (first
              | (go_at_call 18; refine (forget_S p m ⟨3, B, K2⟩ k _ T3.out).mono ?_; rw [G1.out, G2.out]; rintro e4 w4 ⟨rfl, t4, f4⟩; have T4 := Lib.hid t4; have B4 := Lib.hid (Fr.upB B3.out f4 (fun i e => by rcases e with e | e <;> omega)); have K4 := Lib.hid (K3.out.fr f4 (fun e => by rcases e with e | e <;> omega)); clear t4 f4))
            go_meet
            exact ⟨(mm + 7) % 256, B2, cutL B2 K2, congrArg (Value.int .u8) (show ((mm : Int) + 7) % 256 = (((mm + 7) % 256 : Nat) : Int) by omega), by omega, rfl, hB4, G3.out, T4.out, K4.out, B4.out⟩
          | false =>
            go_wp2_with fail
            go_meet
            exact ⟨mm, B, K2, rfl, hmm, rfl, Nat.le_refl _, U2.out, T3.out, K3.out, B3.out⟩
        case rest =>
          obtain ⟨mm2, B2, K4, rfl, hm2, rfl, hBB, u4, t4, k4, b4⟩ := hcut
          obtain ⟨w4, rfl⟩ : ∃ w4 : World, w4 = wc := ⟨_, rfl⟩
          have U4 := Lib.hid u4
          have T4 := Lib.hid t4
          have K4' := Lib.hid k4
          have B4 := Lib.hid b4
          have hb2 := u4.b45
          clear u4 t4 k4 b4 U2 T3 K3 B3
          go_upto_block 2 with fail
          go_cut [16] (fun v wx => ∃ x : Nat, v = .int .i64 x ∧ B2 ≤ x ∧ x ≤ 45 ∧ (∀ j, B2 ≤ j → j < x → f2 j = true) ∧ f2 x = false ∧ w4 = wx)
          case first =>
            go_wp2_with fail
            go_loopg [16] (45 - B2) (fun q v wx => ∃ x : Nat, q = 45 - x ∧ v = .int .i64 x ∧ B2 ≤ x ∧ x ≤ 45 ∧ (∀ j, B2 ≤ j → j < x → f2 j = true) ∧ w4 = wx)
            case atStart => exact ⟨B2, rfl, rfl, Nat.le_refl _, by omega, fun j h1 h2 => absurd h1 (by omega), rfl⟩
            case round =>
              obtain ⟨x, rfl, rfl, hx1, hx2, hall, rfl⟩ := hrel
              have HA := Lib.hid hall
              have hcl := K4'.out.cell (i := x) (by omega)
              clear hall
              cases hfx : f2 x with
              | true =>
                have hx40 := U4.out.f40 x hfx
                rw [hfx] at hcl
                go_wp2_with fail
                go_roundg (45 - (x + 1))
                case measure => omega
                case rel =>
                  refine ⟨x + 1, rfl, by go_num, by omega, by omega, fun j h1 h2 => ?_, rfl⟩
                  by_cases e : j = x
                  · rw [e]; exact hfx
                  · exact HA.out j h1 (by omega)
              | false =>
                rw [hfx] at hcl
                go_wp2_with fail
                go_meet
                exact ⟨x, rfl, hx1, hx2, HA.out, hfx, rfl⟩
          case rest =>
            obtain ⟨x, rfl, hx1, hx2, hall, hfx, rfl⟩ := hcut
            have HA := Lib.hid hall
            have hlx : (last : Int) ≤ (x : Int) := by have := upto_grows LA.out MO.out hBB hx1 hfx; omega
            have hdx : decide (x < last) = false := decide_eq_false (by omega)
            have HFX := Lib.hid hfx
            clear hall LA hfx
            go_wp2_with (first
              | (go_at_call 19; refine (upto_S p m ⟨3, B2, K4⟩ _ T4.out).mono ?_; rintro e5 w5 ⟨⟨u5, rfl, hc5, hu5⟩, rfl⟩; obtain rfl := U4.out.upto hc5 hx1 (by omega) HA.out HFX.out; clear hc5 hu5))
            go_loopg [95] 45 (fun q c wx => ∃ j : Nat, j ≤ 45 ∧ q = 45 - j ∧ c = .int .i64 j ∧ LS wx p m ⟨3, B2, K4⟩ ∧ Bl wx g f2 ∧ Below w.heap.size w wx)
            case atStart => exact ⟨0, by omega, by omega, rfl, T4.out, K4'.out, B4.out⟩
            case round =>
              clear T4 K4' B4
              obtain ⟨j, hj, rfl, rfl, ht, hk, hB⟩ := hrel
              have T := Lib.hid ht
              have KB := Lib.hid hk
              have BB := Lib.hid hB
              clear ht hk hB
              by_cases hj45 : j < 45
              · have hj' : (j : Int) < 45 := by omega
                have hc0 := U4.out.c j (by omega)
                have HV := Lib.hid (U4.out.v j (by omega))
                have hcl := KB.out.cell (i := j) (by omega)
                clear hcl
                cases hfj : f2 j with
                | false =>
                  rw [hfj, Bool.false_and] at hc0
                  have C0 := Lib.hid hc0
                  have HFJ := Lib.hid hfj
                  clear hc0
                  go_wp2_with (first
                    | (go_at_call 13; refine (chosen_S p m ⟨3, B2, K4⟩ j _ T.out (by unfold in64; omega)).mono ?_; rw [C0.out]; rintro e6 w6 ⟨rfl, b6⟩; have T6 := Lib.hid (T.out.below b6); have K6 := Lib.hid (KB.out.bel b6); have B6 := Lib.hid (bchain BB.out b6); have hcl6 := K6.out.cell (i := j) (by omega); rw [hfj] at hcl6; clear b6))
                  go_roundg (45 - (j + 1))
                  case measure => omega
                  case rel => exact ⟨j + 1, by omega, rfl, by go_num, T6.out, K6.out, B6.out⟩
                | true =>
                  by_cases hbj : B2 ≤ j
                  · have hbj' : (B2 : Int) ≤ (j : Int) := by omega
                    rw [hfj, decide_eq_true hbj, Bool.and_true] at hc0
                    have hv0 := HV.out hc0
                    have C0 := Lib.hid hc0
                    have V0 := Lib.hid hv0
                    clear hc0 hv0 hbj
                    go_wp2_with (first
                      | (go_at_call 13; refine (chosen_S p m ⟨3, B2, K4⟩ j _ T.out (by unfold in64; omega)).mono ?_; rw [C0.out, V0.out]; rintro e6 w6 ⟨rfl, b6⟩; have T6 := Lib.hid (T.out.below b6); have K6 := Lib.hid (KB.out.bel b6); have B6 := Lib.hid (bchain BB.out b6); have hcl6 := K6.out.cell (i := j) (by omega); rw [hfj] at hcl6; have hcv := convA j w6 (by omega); clear b6))
                    go_roundg (45 - (j + 1))
                    case measure => omega
                    case rel => exact ⟨j + 1, by omega, rfl, by go_num, T6.out.below (box_below _ _), K6.out.bel (box_below _ _), bchain B6.out (box_below _ _)⟩
                  · have hbj' : ¬ (B2 : Int) ≤ (j : Int) := by omega
                    rw [hfj, decide_eq_false hbj, Bool.and_false] at hc0
                    have C0 := Lib.hid hc0
                    clear hc0 hbj
                    go_wp2_with (first
                      | (go_at_call 13; refine (chosen_S p m ⟨3, B2, K4⟩ j _ T.out (by unfold in64; omega)).mono ?_; rw [C0.out]; rintro e6 w6 ⟨rfl, b6⟩; have T6 := Lib.hid (T.out.below b6); have K6 := Lib.hid (KB.out.bel b6); have B6 := Lib.hid (bchain BB.out b6); have hcl6 := K6.out.cell (i := j) (by omega); rw [hfj] at hcl6; clear b6))
                    go_roundg (45 - (j + 1))
                    case measure => omega
                    case rel => exact ⟨j + 1, by omega, rfl, by go_num, T6.out, K6.out, B6.out⟩
              · have e : j = 45 := by omega
                subst e
                go_wp2_with fail
                go_roundg (N - (i + 1))
                case measure => omega
                case rel => exact ⟨i + 1, mm2, B2, x, f2, K4, by omega, rfl, hm2, rfl, rfl, rfl, by go_num, T.out, U4.out, KB.out, HA.out, BB.out⟩
    · have e : i = N := by omega
      subst e
      clear hlt
      go_wp2_with (first
        | (go_at_call 10; refine (works_any _).mono ?_; rintro e wk ⟨rfl, bk⟩))
      go_returns
      exact ⟨rfl, hB.trans (bk.mono hB.size)⟩
end Go.Proofs.Ytnnadpbfidfhoaa.learnUpto
