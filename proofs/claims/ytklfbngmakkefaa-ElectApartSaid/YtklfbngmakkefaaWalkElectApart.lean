/- The walk of skaldlaw21.ElectApart: it returns true, and writes nothing that was there. -/
import Derived.Test.YtklfbngmakkefaaElectV
import Derived.OpenShut
import Derived.Deep.OwnRows
import Derived.Deep.DeepCutAuto
import Derived.Deep.CutBlock
import Derived.Deep.LoopGhost
set_option linter.unusedVariables false
set_option linter.unusedSimpArgs false
namespace Go.Proofs.Ytklfbngmakkefaa.electApart
open Go.RowKit Go.Shelf
set_option maxRecDepth 100000 in
set_option maxHeartbeats 4000000 in
theorem walk (a0 r d : Int) (w0 : (Lit.int .u8 a0).wf = true) (w1 : (Lit.int .u64 r).wf = true) (w2 : (Lit.int .u16 d).wf = true) (w : World) :
    Calls Try.prog 10 #[.int .u8 a0, .int .u64 r, .int .u16 d] w fun e w' => e = .returned (.bool true) ∧ Below w.heap.size w w' := by
  have h0 : 0 ≤ a0 ∧ a0 ≤ 255 := by simp [Lit.wf, IntKind.min, IntKind.max, IntKind.signed, IntKind.bits] at w0; omega
  have h1 : 0 ≤ r ∧ r ≤ 18446744073709551615 := by simp [Lit.wf, IntKind.min, IntKind.max, IntKind.signed, IntKind.bits] at w1; omega
  have h2 : 0 ≤ d ∧ d ≤ 65535 := by simp [Lit.wf, IntKind.min, IntKind.max, IntKind.signed, IntKind.bits] at w2; omega
  clear w0 w1 w2
  obtain ⟨K, hK⟩ : ∃ K : Nat, 2 + a0 % 6 = (K : Int) := ⟨(2 + a0 % 6).toNat, by omega⟩
  have hk1 : 1 ≤ (K : Int) := by omega
  have hk3 : 2 ≤ (K : Int) := by omega
  have hk2 : (K : Int) ≤ 7 := by omega
  have HK := Lib.hid hK
  clear hK
  go_enter Try.func10, Try.ntmps10
  go_upto_region 2 with fail
  rw [HK.out]
  obtain ⟨R, hR⟩ : ∃ R, r / 2 = R := ⟨_, rfl⟩
  have hR0 : 0 ≤ R := by omega
  have hR1 : R ≤ 9223372036854775807 := by omega
  rw [hR]
  clear hR h1
  have okn : okN (K : Int) := ⟨hk1, hk2⟩
  have oka : okA (K : Int) R d := ⟨hk1, hk2, hR0, h2.1⟩
  have oka1 : okA 1 R d := ⟨by omega, by omega, hR0, h2.1⟩
  have G1 : gapV (K : Int) = 4 := by unfold gapV gap1; rw [if_pos okn, if_neg (by omega)]
  have G2 : errN (K : Int) = 0 := by unfold errN; rw [if_pos okn]
  have P1 : apartV (K : Int) R d = decide (d < 4) := by unfold apartV apartB; rw [if_pos oka, decide_eq_false (by omega)]; rfl
  have P2 : apartE (K : Int) R d = 0 := by unfold apartE; rw [if_pos oka]
  have P3 : apartV 1 R d = true := by unfold apartV apartB; rw [if_pos oka1]; rfl
  have P4 : apartE 1 R d = 0 := by unfold apartE; rw [if_pos oka1]
  have HG := Lib.hid (And.intro G1 G2)
  have HP := Lib.hid (And.intro P1 P2)
  have HP2 := Lib.hid (And.intro P3 P4)
  clear G1 G2 P1 P2 P3 P4 okn oka oka1
  obtain ⟨f0, hf0⟩ : ∃ f0, fst (K : Int) R = f0 := ⟨_, rfl⟩
  have hfb : 0 ≤ f0 ∧ f0 < K := by rw [← hf0]; unfold fst; exact ⟨Int.emod_nonneg _ (by omega), Int.emod_lt_of_pos _ (by omega)⟩
  have HF := Lib.hid hf0
  have HPOS : Hid (∀ i : Nat, i < K → (nth K f0 i + R) % (K : Int) = i) := fun i hi => by rw [← hf0]; exact pos_nth hk1 hk2 i (by omega)
  have HBD : Hid (∀ i : Nat, 0 ≤ nth K f0 i ∧ nth K f0 i < K) := fun i => by rw [← hf0]; exact nth_bd hk1 i
  clear hf0
  cases hd : decide (d < 4)
  all_goals
    go_upto_region 7 with (first
      | (go_at_call 22; refine (order_yes _ _ _ hk1 hk2 hR0 hR1).mono ?_; unfold OrderPost; rw [HF.out, Int.toNat_natCast]; rintro e w2 ⟨v, rfl, ⟨g, cap, rfl, r1, r2, r3⟩, b2⟩; have HC := Lib.hid r3; have B2 := Lib.hid b2; clear r1 r3 b2)
      | (go_at_call 14; refine (gap_any _ _).mono ?_; rw [HG.out.1, HG.out.2]; rintro e w' ⟨rfl, rfl⟩)
      | (go_at_call 24; refine (apart_any _ _ _ _).mono ?_; rw [HP.out.1, HP.out.2, hd]; rintro e w3 ⟨rfl, b3⟩; have B3 := Lib.hid (bchain B2.out b3); have HC3 : Hid (∀ i, i < K → w3.cell? ⟨g, i, none⟩ = some (.int .i64 (nth K f0 i))) := (fun i hi => bcell b3 (HC.out i hi)); have hg3 : g < w3.heap.size := Nat.lt_of_lt_of_le r2 b3.size; clear b3))
    clear r2 HC B2
    go_wp2_with fail
    go_loopw [15, 16, 17, 18, 80] (fun _ _ _ _ c wr => ∃ i : Nat, i ≤ K ∧ c = .int .i64 i ∧ Below w3.heap.size w3 wr) (fun _ _ _ _ c _ => K - (intOf c).toNat)
    case atStart => exact ⟨0, by omega, rfl, Below.refl _ _⟩
    case round =>
      obtain ⟨i, hi, rfl, hB⟩ := hrel
      have HB := Lib.hid hB
      by_cases hlt : i < K
      · have hcell := bcell hB (HC3.out i hlt)
        have hps := HPOS.out i hlt
        have hbd := HBD.out i
        obtain ⟨x, hx⟩ : ∃ x, nth (K : Int) f0 i = x := ⟨_, rfl⟩
        rw [hx] at hcell hps hbd
        have hW : okW x R K := ⟨hk1, hk2, hbd.1, hbd.2, hR0⟩
        have HW := Lib.hid hW
        have HPS := Lib.hid hps
        clear hx hbd hps hW hB
        go_wp2_with (go_at_call 11; refine (wait_yes _ _ _ _ HW.out).mono ?_; rw [HPS.out]; rintro e w4 ⟨rfl, b4⟩; have B4 := Lib.hid (bchain HB.out b4); clear b4)
        go_roundw
        case rel => exact ⟨i + 1, by omega, by go_num, B4.out⟩
        case measure => simp [intOf]; omega
      · have e : i = K := by omega
        subst e
        have hBV : Below wr.heap.size wr (wr.alloc (.cells #[.slice (some ⟨g, 0, none⟩) i cap] 31)) := (Below.refl _ _).alloc (Nat.le_refl _) _
        have hgr : g < wr.heap.size := Nat.lt_of_lt_of_le hg3 hB.size
        have kv0 : (wr.alloc (.cells #[.slice (some ⟨g, 0, none⟩) i cap] 31)).cell? ⟨wr.heap.size, 0, none⟩ = some (.slice (some ⟨g, 0, none⟩) i cap) := by simp [go_sem]
        have HSV := Lib.hid (sorted_any wr.heap.size g i cap (nth (i : Int) f0) _ (by omega) kv0 (Nat.lt_of_lt_of_le hgr hBV.size) (fun j hj => bcell hBV (bcell hB (HC3.out j hj))))
        have HBV := Lib.hid (bchain (bchain B3.out hB) hBV)
        have hi1 : 1 ≤ i := by omega
        have HNS := Lib.hid (nodes_sorted (n := i) (f := f0) ⟨by omega, by omega⟩ hfb)
        clear hBV kv0 hB hgr HB
        go_wp2_with (first
          | (go_at_call 28; refine (values_any _ _ _ _).mono ?_; rintro e w' ⟨rfl, rfl⟩)
          | (go_at_call 27; refine HSV.out.mono ?_; rw [HNS.out]; rintro e w5 ⟨v5, rfl, r5, b5⟩; obtain ⟨g5, c5, rfl, h5, hc5⟩ := row_cells hi1 r5; have HC5 := Lib.hid hc5; have B5 := Lib.hid (bchain HBV.out b5); clear r5 b5 hc5))
        go_loopw [20, 21, 108] (fun _ _ c wr => ∃ j : Nat, j ≤ i ∧ c = .int .i64 j ∧ Below w5.heap.size w5 wr) (fun _ _ c _ => i - (intOf c).toNat)
        case atStart => exact ⟨0, by omega, rfl, Below.refl _ _⟩
        case round =>
          obtain ⟨j, hj, rfl, hB6⟩ := hrel
          have HB6 := Lib.hid hB6
          by_cases hlj : j < i
          · have hcell := bcell hB6 (HC5.out j hlj)
            clear hB6
            go_wp2_with fail
            go_roundw
            case rel => exact ⟨j + 1, by omega, by go_num, HB6.out⟩
            case measure => simp [intOf]; omega
          · have e : j = i := by omega
            subst e
            clear hB6
            go_wp2_with (first
              | (go_at_call 24; refine (apart_any _ _ _ _).mono ?_; rw [HP2.out.1, HP2.out.2]; rintro e w7 ⟨rfl, b7⟩; have B7 := Lib.hid (bchain (bchain B5.out HB6.out) b7); clear b7)
              | (go_at_call 13; refine (works_any _).mono ?_; rintro e w8 ⟨rfl, b8⟩; have B8 := Lib.hid (bchain B7.out b8); clear b8))
            go_ret
            exact ⟨rfl, B8.out⟩
end Go.Proofs.Ytklfbngmakkefaa.electApart
