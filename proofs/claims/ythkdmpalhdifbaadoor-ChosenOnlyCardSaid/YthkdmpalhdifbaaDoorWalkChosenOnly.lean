/- The walk of skaldlaw25.ChosenOnly: it returns true, and writes nothing that was there. -/
import Derived.Test.YthkdmpalhdifbaaDoorChoYO
import Derived.OpenShut
import Derived.Deep.DeepCutAuto
import Derived.Deep.CutBlock
import Derived.Deep.LoopGhost
import Derived.Deep.RegionHeld3
set_option linter.unusedVariables false
set_option linter.unusedSimpArgs false
namespace Go.Proofs.YthkdmpalhdifbaaDoor.chosenOnly
open Go.RowKit Go.Shelf

set_option maxRecDepth 100000 in
set_option maxHeartbeats 2000000 in
theorem walk (x : Int) (v : Value) (zs : List Nat) (W : World) (w0 : (Lit.int .u8 x).wf = true) (w1 : NumsIn W v zs) (ht : TabP W) :
    Calls Tryd.prog 5 #[.int .u8 x, v] W fun e w' => e = .returned (.bool true) ∧ Below W.heap.size W w' := by
  obtain ⟨x, hx256, rfl⟩ := u8_nat w0
  have HN := Lib.hid w1
  have hw := @works_any
  have HW := Lib.hid hw
  obtain ⟨n, hn⟩ : ∃ n : Nat, n = 1 + x % 7 := ⟨_, rfl⟩
  have hn7 : 1 ≤ n ∧ n ≤ 7 := by omega
  have hxn : (1 : Int) + (x : Int) % 7 = (n : Int) := by omega
  have hc9 := chk9 hn7 9 (by omega)
  have C9 := Lib.hid hc9
  have hbz : ∀ w : World, (Instr.build 23 #[(0, .int .i64 9)]).run Tryd.prog w = .ok (balV 9 0) w := fun w => bldBal1 9 w
  clear w0 w1 ht hw hn hc9
  go_enter Tryd.func5, Tryd.ntmps5
  go_upto_region 3 with (go_at_call 11; refine (votes_any n v zs _ HN.out hn7).mono ?_; rintro e w1 ⟨vo, L, rfl, r1, o1, b1⟩; have R1 := Lib.hid (VtS.of_row r1); have OK := Lib.hid o1; have B1 := Lib.hid b1; clear r1 o1 b1)
  obtain ⟨A, hA, hAO, hL⟩ := OK.out.gather hn7
  have HA := Lib.hid hA
  have HAO := Lib.hid hAO
  clear hA hAO
  go_upto_block 0 with (go_at_call 12; refine (all_yes n _ L A _ R1.out.at hn7 hL HA.out).mono ?_; rintro e w2 ⟨vl, out, dif, rfl, e2, p2, b2⟩; have EN := Lib.hid e2; have PO := Lib.hid p2; have R2 := Lib.hid (R1.out.below b2).at; have B2 := Lib.hid (bchain B1.out b2); clear b2 e2 p2)
  have HV := Lib.hid (R1.out.at)
  obtain ⟨Al, capl, rfl, hml, hcells⟩ := EN.out
  have HC := Lib.hid hcells
  clear HN R1 B1 EN hcells HV
  go_wp2_with fail
  go_simp
  go_wp2_with fail
  go_loopg [33] out.length (fun g c wr => ∃ j, j ≤ out.length ∧ g = out.length - j ∧ c = .int .i64 j ∧ Below w2.heap.size w2 wr)
  case atStart => exact ⟨0, by omega, by omega, rfl, Below.refl _ _⟩
  case round =>
    obtain ⟨j, hj, rfl, rfl, hB⟩ := hrel
    have B := Lib.hid hB
    clear hB
    by_cases hlt : j < out.length
    case neg =>
      have e : j = out.length := by omega
      subst e
      have B3 := Lib.hid (bchain B2.out B.out)
      go_wp2_with (go_at_call 8; refine (HW.out _).mono ?_; rintro e w6 ⟨rfl, b6⟩; have B6 := Lib.hid (bchain B3.out b6); clear b6)
      go_returns
      exact ⟨rfl, B6.out⟩
    case pos =>
      obtain ⟨b0, rfl, hb, hcc⟩ := HC.out (by omega)
      obtain ⟨⟨s, ⟨er, ed⟩, ev⟩, hx⟩ : ∃ x, out[j]? = some x := ⟨_, List.getElem?_eq_getElem hlt⟩
      obtain ⟨q0, q1, q2, q3⟩ := hcc j _ hx
      simp only at q0 q1 q2 q3
      have q0 := bcell B.out q0
      have q1 := bcell B.out q1
      have q2 := bcell B.out q2
      have q3 := bcell B.out q3
      obtain ⟨⟨m, hm⟩, hmin⟩ := PO.out.mem _ (List.mem_of_getElem? hx)
      have hsl : (decide (((s.val : Nat) : Int) ≥ 0) && decide (((s.val : Nat) : Int) < 4096)) = true := by
        have := s.isLt
        simp; omega
      simp only at hm hmin
      obtain ⟨S, hS⟩ : ∃ S : Int, ((s.val : Nat) : Int) = S := ⟨_, rfl⟩
      rw [hS] at q0 hm hsl
      have HM := Lib.hid hm
      have HSL := Lib.hid hsl
      clear hx hcc hm hmin hS hsl
      go_upto_region 9 with fail
      have bw := box_below wr (.cells #[.int .i64 S, .int .i64 er, .int .i64 ed, .string ev] 40)
      have KX := Lib.hid (Blk.new wr 40 #[.int .i64 S, .int .i64 er, .int .i64 ed, .string ev])
      have B3 := Lib.hid (bchain B.out bw)
      generalize (wr.alloc (.cells #[.int .i64 S, .int .i64 er, .int .i64 ed, .string ev] 40)) = W3 at *
      obtain ⟨bx, hbx⟩ : ∃ bx, bx = wr.heap.size := ⟨_, rfl⟩
      rw [← hbx] at KX ⊢
      have V3 := Lib.hid (R2.out.below B3.out)
      clear bw q0 q1 q2 q3 hbx B
      obtain ⟨ot, hot⟩ : ∃ ot, L.any (pOnly S (er, ed) ev) = ot := ⟨_, rfl⟩
      have OT := Lib.hid hot
      clear hot
      go_upto_region 10 with (go_at_call 18; refine (cfOnly bx S er ed ev _ L _ KX.out V3.out).mono ?_; rw [OT.out]; rintro e w4 ⟨rfl, b4⟩; have B4 := Lib.hid b4; clear b4)
      have K4 := Lib.hid (KX.out.fr (Fr.of_below B4.out : Fr S0 _ _) (fun h => h))
      have V4 := Lib.hid (V3.out.below B4.out)
      have C4 := Lib.hid (bchain B3.out B4.out)
      clear KX V3 B3 B4
      have x0 := K4.out.cell (i := 0) (v := .int .i64 S) rfl
      have x3 := K4.out.cell (i := 3) (v := .string ev) rfl
      obtain ⟨s1, hs1⟩ : ∃ s1, safeL n A S ev (sortB (belowL A S (9, 0))).reverse = s1 := ⟨_, rfl⟩
      have hse : s1 = true ↔ SafeP n L S ev (9, 0) := by rw [← hs1]; exact safe_iff hn7 OK.out.poss HAO.out
      have hs2 : safeL n A S ⟨#[111, 116, 104, 101, 114]⟩ (sortB (belowL A S (9, 0))).reverse = false := by
        rw [Bool.eq_false_iff]
        intro h
        have hb9 : blt (er, ed) (9, 0) := by
          obtain ⟨_, _, ⟨y, hy, _, hyb⟩, _⟩ := at_spec HAO.out HM.out
          have := (OK.out.few y hy).1
          simp only [baOf, Prod.mk.injEq] at hyb
          rw [blt_def]
          simp only
          omega
        refine safe_other hn7 OK.out.poss HAO.out HM.out hb9 (fun y hy he => ?_) ((safe_iff hn7 OK.out.poss HAO.out).1 h)
        obtain ⟨k, _, hk⟩ := (OK.out.few y hy).2.2
        rw [hk] at he
        have := congrArg ByteArray.size he
        exact absurd this (by show ¬ (1 : Nat) = 5; decide)
      have S1 := Lib.hid hs1
      have SE := Lib.hid hse
      have S2 := Lib.hid hs2
      clear hs1 hse hs2
      go_upto_region 11 with (go_at_call 20; refine (safe_main n _ L A 9 0 S ev _ V4.out hn7 hL HA.out (by decide) C9.out HSL.out).mono ?_; rw [S1.out]; rintro e w5 ⟨rfl, b5⟩; have B5 := Lib.hid b5; clear b5)
      have K5 := Lib.hid (K4.out.fr (Fr.of_below B5.out : Fr S0 _ _) (fun h => h))
      have V5 := Lib.hid (V4.out.below B5.out)
      have C5 := Lib.hid (bchain C4.out B5.out)
      clear K4 V4 C4 B5 x0 x3
      have x0 := K5.out.cell (i := 0) (v := .int .i64 S) rfl
      go_upto_region 12 with (go_at_call 20; refine (safe_main n _ L A 9 0 S ⟨#[111, 116, 104, 101, 114]⟩ _ V5.out hn7 hL HA.out (by decide) C9.out HSL.out).mono ?_; rw [S2.out]; rintro e w6 ⟨rfl, b6⟩; have B6 := Lib.hid (bchain C5.out b6); clear b6)
      clear x0 K5 V5 C5
      cases ot with
      | true =>
        go_wp2_with fail
        go_roundg (out.length - (j + 1))
        case measure => omega
        case rel => exact ⟨j + 1, by omega, rfl, by go_num, B6.out⟩
      | false =>
        have hg : s1 = true := by
          rw [SE.out]
          have hp := pOnly_no OT.out
          exact safe_good hn7 OK.out.poss HAO.out HM.out (fun y hy => by
            have := (OK.out.few y hy).1
            rw [blt_def]
            simp only
            omega) (fun y hy hys hyb => hp y hy hys hyb)
        subst hg
        go_wp2_with fail
        go_roundg (out.length - (j + 1))
        case measure => omega
        case rel => exact ⟨j + 1, by omega, rfl, by go_num, B6.out⟩
end Go.Proofs.YthkdmpalhdifbaaDoor.chosenOnly
