/- The reference's Safe. -/
import Derived.Test.YthkdmpalhdifbaaGreatDoorRefC
import Derived.Test.YthkdmpalhdifbaaGreatDoorRefH
set_option linter.unusedVariables false
set_option linter.unusedSimpArgs false
namespace Go.Proofs.YthkdmpalhdifbaaGreatDoor
open Go.RowKit Go.Maps Go.Shelf Go.Lib

def setsB (n : Nat) (L : List Vt) (s : Int) (v : ByteArray) (b : Ba) : Bool := (List.range (2 ^ n)).any (goodSet n L s v b)
theorem setsB_iff {n : Nat} {L : List Vt} {s : Int} {v : ByteArray} {b : Ba} : setsB n L s v b = true ↔ ∃ Q, Q < 2 ^ n ∧ goodSet n L s v b Q = true := by
  unfold setsB
  rw [List.any_eq_true]
  exact ⟨fun ⟨Q, h1, h2⟩ => ⟨Q, by simpa using h1, h2⟩, fun ⟨Q, h1, h2⟩ => ⟨Q, by simpa using h1, h2⟩⟩
set_option maxRecDepth 100000 in
set_option maxHeartbeats 2000000 in
theorem rsafe_bad (n : Nat) (v : Value) (L : List Vt) (r d s : Int) (val : ByteArray) (i : Nat) (w : World) (h : VotesIn w v L) (hn : 1 ≤ n ∧ n ≤ 7) (hf : fbad n [] 0 L = some i) :
    Calls Tryz.prog 11 #[v, .int .i64 (n : Int), .agg #[.int .i64 r, .int .i64 d], .int .i64 s, .string val] w fun e w' => e = .returned (.tuple #[.bool false, .int .i64 2]) ∧ Below w.heap.size w w' := by
  have hb := box_below w (.cells #[.int .i64 r, .int .i64 d] 24)
  have HB := Lib.hid hb
  have HV := Lib.hid (h.below hb)
  have HF := Lib.hid hf
  clear h hb hf
  go_enter Tryz.func11, Tryz.ntmps11
  go_wp2_with (go_at_call 16; refine (rcheck_yes n _ L _ HV.out hn).mono ?_; rw [HF.out]; rintro e w2 ⟨rfl, b2⟩; have B2 := Lib.hid (bchain HB.out b2); clear b2; unfold chkV; simp only)
  go_returns
  exact ⟨rfl, B2.out⟩
set_option maxRecDepth 100000 in
set_option maxHeartbeats 2000000 in
theorem rsafe_arg (n : Nat) (v : Value) (L : List Vt) (r d s : Int) (val : ByteArray) (w : World) (h : VotesIn w v L) (hn : 1 ≤ n ∧ n ≤ 7) (hf : fbad n [] 0 L = none) (hv : valB n r d = false) :
    Calls Tryz.prog 11 #[v, .int .i64 (n : Int), .agg #[.int .i64 r, .int .i64 d], .int .i64 s, .string val] w fun e w' => e = .returned (.tuple #[.bool false, .int .i64 2]) ∧ Below w.heap.size w w' := by
  have hb := box_below w (.cells #[.int .i64 r, .int .i64 d] 24)
  have kb := Blk.new w 24 #[.int .i64 r, .int .i64 d]
  have HB := Lib.hid hb
  have KB := Lib.hid kb
  have HV := Lib.hid (h.below hb)
  have HF := Lib.hid hf
  have HVB := Lib.hid hv
  clear h hb hf kb hv
  go_enter Tryz.func11, Tryz.ntmps11
  go_wp2_with (first
    | (go_at_call 16; refine (rcheck_yes n _ L _ HV.out hn).mono ?_; rw [HF.out]; rintro e w2 ⟨rfl, b2⟩; have B2 := Lib.hid (bchain HB.out b2); have K2 := KB.out.fr (Fr.of_below b2 : Fr S0 _ _) (fun h => h); have q0 := K2.cell (i := 0) (v := .int .i64 r) rfl; have q1 := K2.cell (i := 1) (v := .int .i64 d) rfl; clear b2 K2; unfold chkV; simp only)
    | (go_at_call 40; refine (rlvalid_any _ _ _ _).mono ?_; rw [HVB.out]; rintro e w3 ⟨rfl, b3⟩; have B3 := Lib.hid (bchain B2.out b3); clear b3))
  go_returns
  exact ⟨rfl, B3.out⟩
set_option maxRecDepth 100000 in
set_option maxHeartbeats 2000000 in
theorem rsafe_range (n : Nat) (v : Value) (L : List Vt) (r d s : Int) (val : ByteArray) (w : World) (h : VotesIn w v L) (hn : 1 ≤ n ∧ n ≤ 7) (hf : fbad n [] 0 L = none) (hv : valB n r d = true) (hs : (decide (s ≥ 0) && decide (s < 4096)) = false) :
    Calls Tryz.prog 11 #[v, .int .i64 (n : Int), .agg #[.int .i64 r, .int .i64 d], .int .i64 s, .string val] w fun e w' => e = .returned (.tuple #[.bool false, .int .i64 3]) ∧ Below w.heap.size w w' := by
  have hb := box_below w (.cells #[.int .i64 r, .int .i64 d] 24)
  have kb := Blk.new w 24 #[.int .i64 r, .int .i64 d]
  have HB := Lib.hid hb
  have KB := Lib.hid kb
  have HV := Lib.hid (h.below hb)
  have HF := Lib.hid hf
  have HVB := Lib.hid hv
  clear h hb hf kb hv
  go_enter Tryz.func11, Tryz.ntmps11
  go_wp2_with (first
    | (go_at_call 16; refine (rcheck_yes n _ L _ HV.out hn).mono ?_; rw [HF.out]; rintro e w2 ⟨rfl, b2⟩; have B2 := Lib.hid (bchain HB.out b2); have K2 := KB.out.fr (Fr.of_below b2 : Fr S0 _ _) (fun h => h); have q0 := K2.cell (i := 0) (v := .int .i64 r) rfl; have q1 := K2.cell (i := 1) (v := .int .i64 d) rfl; clear b2 K2; unfold chkV; simp only)
    | (go_at_call 40; refine (rlvalid_any _ _ _ _).mono ?_; rw [HVB.out]; rintro e w3 ⟨rfl, b3⟩; have B3 := Lib.hid (bchain B2.out b3); clear b3)
    | (go_at_call 41; refine (risSlot_any _ _).mono ?_; rw [hs]; rintro e w' ⟨rfl, rfl⟩))
  go_returns
  exact ⟨rfl, B3.out⟩
set_option maxRecDepth 100000 in
set_option maxHeartbeats 4000000 in
theorem rsafe_yes (n : Nat) (v : Value) (L : List Vt) (r d s : Int) (val : ByteArray) (w : World) (h : VotesIn w v L) (hn : 1 ≤ n ∧ n ≤ 7) (hf : fbad n [] 0 L = none) (hP : Poss n L) (hv : valB n r d = true) (hs : (decide (s ≥ 0) && decide (s < 4096)) = true) :
    Calls Tryz.prog 11 #[v, .int .i64 (n : Int), .agg #[.int .i64 r, .int .i64 d], .int .i64 s, .string val] w fun e w' => e = .returned (.tuple #[.bool (setsB n L s val (r, d)), .int .i64 0]) ∧ Below w.heap.size w w' := by
  have hb := box_below w (.cells #[.int .i64 r, .int .i64 d] 24)
  have kb := Blk.new w 24 #[.int .i64 r, .int .i64 d]
  have HB := Lib.hid hb
  have KB := Lib.hid kb
  have HV := Lib.hid (h.below hb)
  have HV0 := Lib.hid h
  have HF := Lib.hid hf
  have HP := Lib.hid hP
  have HVB := Lib.hid hv
  clear h hb hf kb hv hP
  obtain ⟨A0, cap0, rfl, hcap0, hmax0, hc⟩ := HV0.out
  have HC := Lib.hid hc
  have hml : cap0 ≤ 9223372036854775807 := by unfold maxLen at hmax0; omega
  clear hc hmax0
  obtain ⟨P, hP⟩ : ∃ P : Nat, P = 2 ^ n := ⟨_, rfl⟩
  have hP128 : P ≤ 128 := by
    rw [hP]
    exact Nat.le_trans (Nat.pow_le_pow_right (by decide) hn.2) (by decide)
  have hwp : IntKind.u64.wrap ((2 : Int) ^ n) = (P : Int) := by
    have : ∀ k : Fin 8, IntKind.u64.wrap ((2 : Int) ^ k.val) = ((2 ^ k.val : Nat) : Int) := by decide +kernel
    rw [hP]
    exact this ⟨n, by omega⟩
  have HPP := Lib.hid hP
  clear hP
  go_enter Tryz.func11, Tryz.ntmps11
  go_upto_region 8 with (first
    | (go_at_call 16; refine (rcheck_yes n _ L _ HV.out hn).mono ?_; rw [HF.out]; rintro e w2 ⟨rfl, b2⟩; have B2 := Lib.hid (bchain HB.out b2); have K2 := Lib.hid (KB.out.fr (Fr.of_below b2 : Fr S0 _ _) (fun h => h)); have q0 := K2.out.cell (i := 0) (v := .int .i64 r) rfl; have q1 := K2.out.cell (i := 1) (v := .int .i64 d) rfl; clear b2; unfold chkV; simp only)
    | (go_at_call 40; refine (rlvalid_any _ _ _ _).mono ?_; rw [HVB.out]; rintro e w3 ⟨rfl, b3⟩; have B3 := Lib.hid (bchain B2.out b3); have K3 := Lib.hid (K2.out.fr (Fr.of_below b3 : Fr S0 _ _) (fun h => h)); have C3 := Lib.hid b3; clear b3)
    | (go_at_call 41; refine (risSlot_any _ _).mono ?_; rw [hs]; rintro e w' ⟨rfl, rfl⟩))
  clear q0 q1 K2 B2 C3
  obtain ⟨b0', hb0⟩ : ∃ b', b' = w.heap.size := ⟨_, rfl⟩
  rw [← hb0] at K3 ⊢
  have HB0E := Lib.hid hb0
  clear hb0
  go_wp2_with fail
  go_loopg [14] P (fun g c wr => ∃ S : Nat, S ≤ P ∧ g = P - S ∧ c = .int .u64 S ∧ (∀ Q, Q < S → goodSet n L s val (r, d) Q = false) ∧ Below w3.heap.size w3 wr)
  case atStart => exact ⟨0, by omega, by omega, rfl, (fun Q h => by omega), Below.refl _ _⟩
  case round =>
    obtain ⟨S, hS, rfl, rfl, hno, hB⟩ := hrel
    obtain ⟨wo, rfl⟩ : ∃ wo : World, wo = wr := ⟨_, rfl⟩
    have NO := Lib.hid hno
    have B := Lib.hid hB
    have C := Lib.hid (B3.out.trans (hB.mono B3.out.size))
    have K4 := Lib.hid (K3.out.fr (Fr.of_below hB : Fr S0 _ _) (fun h => h))
    clear hno hB
    by_cases hlt : S < P
    case neg =>
      have e : S = P := by omega
      have HR : Hid (setsB n L s val (r, d) = false) := by
        rw [Hid, Bool.eq_false_iff]
        intro h
        obtain ⟨Q, h1, h2⟩ := setsB_iff.1 h
        rw [NO.out Q (by have := HPP.out; omega)] at h2
        cases h2
      subst e
      go_wp2_with fail
      go_returns
      rw [HR.out]
      exact ⟨rfl, C.out⟩
    case pos =>
    have hSn : S < 2 ^ n := by have := HPP.out; omega
    have hws : IntKind.u64.wrap ((S : Int) + 1) = (S : Int) + 1 := by rw [IntKind.wrap_u64]; omega
    have HSN := Lib.hid hSn
    clear hSn
    go_upto_block 2 with fail
    go_cut [15] (fun k wx => k = .int .i64 ((pop S : Nat) : Int) ∧ wx = wo)
    case first =>
      go_wp2_with fail
      go_loopg [16, 15] n (fun g c k wr => ∃ i, i ≤ n ∧ g = n - i ∧ c = .int .i64 i ∧ k = .int .i64 ((((List.range i).countP fun i => S.testBit i) : Nat) : Int) ∧ wr = wo)
      case atStart => exact ⟨0, by omega, by omega, rfl, rfl, rfl⟩
      case round =>
        obtain ⟨i, hi, rfl, rfl, rfl, hwr⟩ := hrel
        subst hwr
        obtain ⟨k, hk⟩ : ∃ k, ((List.range i).countP fun i => S.testBit i) = k := ⟨_, rfl⟩
        have hki : k ≤ i := by rw [← hk]; exact Nat.le_trans List.countP_le_length (by simp)
        have HK := Lib.hid hk
        rw [hk]
        clear hk
        by_cases hlt3 : i < n
        case pos =>
          obtain ⟨tb, htb⟩ : ∃ tb, S.testBit i = tb := ⟨_, rfl⟩
          have hbit := bit_one hn HSN.out (show i < 7 by omega) htb
          have hmin : min i 64 = i := by omega
          have HT : Hid (((List.range (i + 1)).countP fun i => S.testBit i) = k + (if tb = true then 1 else 0)) := by
            rw [Hid, List.range_succ, List.countP_append, HK.out, List.countP_singleton, htb]
          clear htb
          have hw1 : IntKind.i64.wrap ((k : Int) + 1) = (k : Int) + 1 := by rw [IntKind.wrap_i64]; omega
          have hw0 : IntKind.i64.wrap (k : Int) = (k : Int) := by rw [IntKind.wrap_i64]; omega
          cases tb with
          | true =>
            simp only [if_true] at hbit
            go_wp2_with fail
            go_roundg (n - (i + 1))
            case measure => omega
            case rel => exact ⟨i + 1, by omega, rfl, by go_num, by rw [HT.out]; rfl, rfl⟩
          | false =>
            simp only [Bool.false_eq_true, if_false] at hbit
            go_wp2_with fail
            go_roundg (n - (i + 1))
            case measure => omega
            case rel => exact ⟨i + 1, by omega, rfl, by go_num, by rw [HT.out]; rfl, rfl⟩
        case neg =>
          have e : i = n := by omega
          subst e
          go_wp2_with fail
          go_meet
          exact ⟨by rw [pop_range hn.2 HSN.out, HK.out], rfl⟩
    case rest =>
    obtain ⟨rfl, hw9⟩ := hcut
    subst hw9
    obtain ⟨k, hk⟩ : ∃ k, pop S = k := ⟨_, rfl⟩
    have hkn : k ≤ n := by
      rw [← hk, pop_range hn.2 HSN.out]
      exact Nat.le_trans List.countP_le_length (by simp)
    have hmj : maj S n = decide (n < 2 * k) := by
      unfold maj
      rw [hk]
      by_cases h : n < 2 * k
      · rw [decide_eq_true h, decide_eq_true (by omega)]
      · rw [decide_eq_false h, decide_eq_false (by omega)]
    have MJ := Lib.hid hmj
    rw [hk]
    clear hmj hk
    have hw2 : IntKind.i64.wrap (2 * (k : Int)) = 2 * (k : Int) := by rw [IntKind.wrap_i64]; omega
    by_cases hc : n < 2 * k
    case neg =>
      have hc1 : decide (2 * (k : Int) ≤ (n : Int)) = true := by rw [decide_eq_true_eq]; omega
      have NO2 : Hid (∀ Q, Q < S + 1 → goodSet n L s val (r, d) Q = false) := fun Q hQ => by
        by_cases e : Q = S
        · subst e
          unfold goodSet
          rw [MJ.out, decide_eq_false hc]
          rfl
        · exact NO.out Q (by omega)
      clear hc
      go_wp2_with fail
      go_roundg (P - (S + 1))
      case measure => omega
      case rel => exact ⟨S + 1, by omega, rfl, by go_num, NO2.out, B.out⟩
    case pos =>
      have hc1 : decide (2 * (k : Int) ≤ (n : Int)) = false := by rw [decide_eq_false_iff_not]; omega
      have HMJ : Hid (maj S n = true) := by rw [Hid, MJ.out, decide_eq_true hc]
      clear hc MJ
      have q0 := K4.out.cell (i := 0) (v := .int .i64 r) rfl
      have q1 := K4.out.cell (i := 1) (v := .int .i64 d) rfl
      have VI : Hid (VotesIn wc (.slice A0 L.length cap0) L) := by
        have h1 := HV0.out.below (C.out.mono (Nat.le_refl _))
        exact h1
      go_upto_region 18 with (go_at_call 42; refine (rhighest_yes n S _ L s r d _ VI.out hn HP.out HSN.out).mono ?_; rintro e w5 ⟨o, rfl, ho, hop, b5⟩; have HO := Lib.hid ho; have HOP := Lib.hid hop; have B5 := Lib.hid b5; clear ho hop b5)
      clear q0 q1
      cases o with
      | none =>
        have HR : Hid (setsB n L s val (r, d) = true) := by
          rw [Hid, setsB_iff]
          refine ⟨S, HSN.out, ?_⟩
          unfold goodSet
          rw [HMJ.out, HO.out]
          rfl
        unfold idxV
        simp only
        go_wp2_with fail
        go_returns
        rw [HR.out]
        exact ⟨rfl, bchain C.out B5.out⟩
      | some p =>
        have hpl := HOP.out p rfl
        obtain ⟨⟨ynd, yr, yd, ysl, yv⟩, hy⟩ : ∃ y, L[p]? = some y := ⟨_, List.getElem?_eq_getElem hpl⟩
        obtain ⟨b, off, rfl, hb, hcc⟩ := HC.out (by omega)
        obtain ⟨_, _, _, _, p4⟩ := hcc p _ hy
        simp only at p4
        have C5 := Lib.hid (bchain C.out B5.out)
        have p4 := bcell C5.out p4
        have HY : Hid (highB S s (r, d) L = some ⟨ynd, yr, yd, ysl, yv⟩) := by rw [Hid, HO.out]; exact hy
        have HG : Hid (goodSet n L s val (r, d) S = (yv.toList == val.toList)) := by
          rw [Hid]
          unfold goodSet
          rw [HMJ.out, HY.out]
          rfl
        clear hcc hy
        unfold idxV
        simp only
        cases he : (yv.toList == val.toList) with
        | true =>
          have HR : Hid (setsB n L s val (r, d) = true) := by
            rw [Hid, setsB_iff]
            exact ⟨S, HSN.out, by rw [HG.out, he]⟩
          go_wp2_with fail
          go_returns
          rw [HR.out]
          exact ⟨rfl, C5.out⟩
        | false =>
          have NO2 : Hid (∀ Q, Q < S + 1 → goodSet n L s val (r, d) Q = false) := fun Q hQ => by
            by_cases e : Q = S
            · subst e
              rw [HG.out, he]
            · exact NO.out Q (by omega)
          go_wp2_with fail
          go_roundg (P - (S + 1))
          case measure => omega
          case rel => exact ⟨S + 1, by omega, rfl, by go_num, NO2.out, bchain B.out B5.out⟩
end Go.Proofs.YthkdmpalhdifbaaGreatDoor
