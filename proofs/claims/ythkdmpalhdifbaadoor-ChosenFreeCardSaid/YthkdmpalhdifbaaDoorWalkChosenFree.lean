/- The walk of skaldlaw25.ChosenFree: it returns true, and writes nothing that was there. -/
import Derived.Test.YthkdmpalhdifbaaDoorChoYF
import Derived.OpenShut
import Derived.Deep.DeepCutAuto
import Derived.Deep.CutBlock
import Derived.Deep.LoopGhost
import Derived.Deep.RegionHeld3
set_option linter.unusedVariables false
set_option linter.unusedSimpArgs false
namespace Go.Proofs.YthkdmpalhdifbaaDoor.chosenFree
open Go.RowKit Go.Shelf

theorem walkQ (s n : Nat) (hs : s < 256) (hn : 1 ≤ n ∧ n ≤ 7) : bits BinOp.and IntKind.u64 (s : Int) ((2 ^ n - 1 : Nat) : Int) = ((s &&& (2 ^ n - 1) : Nat) : Int) := by
  have h : 2 ^ n - 1 < 128 := by
    have := Nat.pow_le_pow_right (show 0 < 2 by decide) hn.2
    omega
  exact bitsAnd8 ⟨s, hs⟩ ⟨2 ^ n - 1, h⟩
set_option maxRecDepth 100000 in
set_option maxHeartbeats 4000000 in
theorem walk (x : Int) (v : Value) (zs : List Nat) (y : Int) (W : World) (w0 : (Lit.int .u8 x).wf = true) (w1 : NumsIn W v zs) (w2 : (Lit.int .u8 y).wf = true) (ht : TabP W) :
    Calls Tryd.prog 7 #[.int .u8 x, v, .int .u8 y] W fun e w' => e = .returned (.bool true) ∧ Below W.heap.size W w' := by
  obtain ⟨x, hx256, rfl⟩ := u8_nat w0
  obtain ⟨y, hy256, rfl⟩ := u8_nat w2
  have HN := Lib.hid w1
  have hw := @works_any
  have HW := Lib.hid hw
  obtain ⟨n, hn⟩ : ∃ n : Nat, n = 1 + x % 7 := ⟨_, rfl⟩
  have hn7 : 1 ≤ n ∧ n ≤ 7 := by omega
  have hxn : (1 : Int) + (x : Int) % 7 = (n : Int) := by omega
  have hc9 := chk9 hn7 9 (by omega)
  have C9 := Lib.hid hc9
  have hc1 := chk9 hn7 1 (by omega)
  have C1 := Lib.hid hc1
  have hb1 : ∀ w : World, (Instr.build 23 #[(0, .int .i64 1)]).run Tryd.prog w = .ok (balV 1 0) w := fun w => bldBal1 1 w
  have hb9 : ∀ w : World, (Instr.build 23 #[(0, .int .i64 9)]).run Tryd.prog w = .ok (balV 9 0) w := fun w => bldBal1 9 w
  have hff := full_free ⟨n, by omega⟩
  simp only at hff
  have hwq := walkQ y n hy256 hn7
  have hwy : IntKind.u64.wrap (y : Int) = (y : Int) := by rw [IntKind.wrap_u64]; omega
  obtain ⟨Q, hQ⟩ : ∃ Q, Q = y &&& (2 ^ n - 1) := ⟨_, rfl⟩
  have hQn : Q < 2 ^ n := by
    rw [hQ]
    have := Nat.and_le_right (n := y) (m := 2 ^ n - 1)
    have := Nat.two_pow_pos n
    omega
  rw [← hQ] at hwq
  clear w0 w1 w2 ht hw hn hc9 hc1 hQ
  go_enter Tryd.func7, Tryd.ntmps7
  go_upto_region 3 with (go_at_call 11; refine (votes_any n v zs _ HN.out hn7).mono ?_; rintro e w1 ⟨vo, L, rfl, r1, o1, b1⟩; have R1 := Lib.hid (VtS.of_row r1).at; have OK := Lib.hid o1; have B1 := Lib.hid b1; clear r1 o1 b1)
  obtain ⟨A, hA, hAO, hL⟩ := OK.out.gather hn7
  have HA := Lib.hid hA
  have HAO := Lib.hid hAO
  have hs1 : safeL n A 0 ⟨#[97, 110, 121, 116, 104, 105, 110, 103]⟩ (sortB (belowL A 0 (1, 0))).reverse = true := by
    rw [safe_iff hn7 OK.out.poss hAO]
    refine safe_first hn7 (fun x hx _ hb => ?_) _
    have := (OK.out.few x hx).1
    have h2 := (alone_r hn7 (OK.out.poss.al x hx)).2.2.1
    rw [blt_def] at hb
    simp only at hb
    omega
  have S1 := Lib.hid hs1
  clear hA hAO hs1
  go_upto_region 6 with (go_at_call 20; refine (safe_main n _ L A 1 0 0 ⟨#[97, 110, 121, 116, 104, 105, 110, 103]⟩ _ R1.out hn7 hL HA.out (by decide) C1.out (by decide)).mono ?_; rw [S1.out]; rintro e w2 ⟨rfl, b2⟩; have B2 := Lib.hid b2; clear b2)
  have R2 := Lib.hid (R1.out.below B2.out)
  have C2 := Lib.hid (bchain B1.out B2.out)
  clear R1 B1 B2 HN
  go_wp2_with fail
  go_loopg [49, 12] n (fun g c k wr => ∃ j, j ≤ n ∧ g = n - j ∧ c = .int .i64 j ∧ k = .int .i64 ((((List.range j).countP fun i => Q.testBit i) : Nat) : Int) ∧ wr = w2)
  case atStart => exact ⟨0, by omega, by omega, rfl, rfl, rfl⟩
  case round =>
    obtain ⟨j, hj, rfl, rfl, rfl, hwr⟩ := hrel
    subst hwr
    obtain ⟨k, hk⟩ : ∃ k, ((List.range j).countP fun i => Q.testBit i) = k := ⟨_, rfl⟩
    have hkj : k ≤ j := by rw [← hk]; exact Nat.le_trans List.countP_le_length (by simp)
    have HK := Lib.hid hk
    rw [hk]
    clear hk
    by_cases hlt : j < n
    case pos =>
      obtain ⟨tb, htb⟩ : ∃ tb, Q.testBit j = tb := ⟨_, rfl⟩
      have hbit := bit_one hn7 hQn (show j < 7 by omega) htb
      have HT : Hid (((List.range (j + 1)).countP fun i => Q.testBit i) = k + (if tb = true then 1 else 0)) := by
        rw [Hid, List.range_succ, List.countP_append, HK.out, List.countP_singleton, htb]
      clear htb
      have hw1 : IntKind.i64.wrap ((k : Int) + 1) = (k : Int) + 1 := by rw [IntKind.wrap_i64]; omega
      have hw0 : IntKind.i64.wrap (k : Int) = (k : Int) := by rw [IntKind.wrap_i64]; omega
      cases tb with
      | true =>
        simp only [if_true] at hbit
        go_wp2_with fail
        go_roundg (n - (j + 1))
        case measure => omega
        case rel => exact ⟨j + 1, by omega, rfl, by go_num, by rw [HT.out]; rfl, rfl⟩
      | false =>
        simp only [Bool.false_eq_true, if_false] at hbit
        go_wp2_with fail
        go_roundg (n - (j + 1))
        case measure => omega
        case rel => exact ⟨j + 1, by omega, rfl, by go_num, by rw [HT.out]; rfl, rfl⟩
    case neg =>
      have e : j = n := by omega
      subst e
      have hpop : k = pop Q := by rw [pop_range hn7.2 hQn]; exact HK.out.symm
      have hmj : maj Q j = decide (j < 2 * k) := by
        unfold maj
        rw [← hpop]
        by_cases h : j < 2 * k
        · rw [decide_eq_true h, decide_eq_true (by omega)]
        · rw [decide_eq_false h, decide_eq_false (by omega)]
      have MJ := Lib.hid hmj
      have hw2 : IntKind.i64.wrap (2 * (k : Int)) = 2 * (k : Int) := by rw [IntKind.wrap_i64]; omega
      clear hpop hmj
      by_cases hc : j < 2 * k
      case neg =>
        have hc2 : decide (2 * (k : Int) ≤ (j : Int)) = true := by rw [decide_eq_true_eq]; omega
        clear hc
        go_wp2_with (go_at_call 8; refine (HW.out _).mono ?_; rintro e w6 ⟨rfl, b6⟩; have B6 := Lib.hid (bchain C2.out b6); clear b6)
        go_returns
        exact ⟨rfl, B6.out⟩
      case pos =>
        have hc2 : decide (2 * (k : Int) ≤ (j : Int)) = false := by rw [decide_eq_false_iff_not]; omega
        have HMJ : Hid (maj Q j = true) := by rw [Hid, MJ.out, decide_eq_true hc]
        clear hc MJ HK
        obtain ⟨⟨⟨bnd, bbr, bd, bsl, bv⟩, is⟩, hh⟩ : ∃ h, highR Q 1 L = h := ⟨_, rfl⟩
        have HH := Lib.hid hh
        clear hh
        go_upto_region 16 with (go_at_call 23; refine (highest_yes j Q _ L A 1 _ R2.out hn7 hL HA.out OK.out.poss hQn (by decide)).mono ?_; rw [HH.out]; rintro e w3 ⟨rfl, b3⟩; have B3 := Lib.hid b3; clear b3)
        go_upto_region 17 with fail
        have bw := (box_below w3 (.cells #[.int .i64 bnd, .int .i64 bbr, .int .i64 bd, .int .i64 bsl, .string bv] 25)).alloc (by simp) (.cells #[.int .i64 9, .int .i64 0] 23)
        have KV := Lib.hid (Blk.alloc (Blk.new w3 25 #[.int .i64 bnd, .int .i64 bbr, .int .i64 bd, .int .i64 bsl, .string bv]) (.cells #[.int .i64 9, .int .i64 0] 23))
        have KB : Hid (Blk ((w3.alloc (.cells #[.int .i64 bnd, .int .i64 bbr, .int .i64 bd, .int .i64 bsl, .string bv] 25)).alloc (.cells #[.int .i64 9, .int .i64 0] 23)) (w3.heap.size + 1) 23 #[.int .i64 9, .int .i64 0]) := by
          have := Blk.new (w3.alloc (.cells #[.int .i64 bnd, .int .i64 bbr, .int .i64 bd, .int .i64 bsl, .string bv] 25)) 23 #[.int .i64 9, .int .i64 0]
          rwa [World.size_alloc] at this
        generalize ((w3.alloc (.cells #[.int .i64 bnd, .int .i64 bbr, .int .i64 bd, .int .i64 bsl, .string bv] 25)).alloc (.cells #[.int .i64 9, .int .i64 0] 23)) = W4 at *
        obtain ⟨b4, hb4⟩ : ∃ b4, b4 = w3.heap.size := ⟨_, rfl⟩
        obtain ⟨b5, hb5⟩ : ∃ b5, b5 = w3.heap.size + 1 := ⟨_, rfl⟩
        rw [← hb5] at KB ⊢
        rw [← hb4] at KV ⊢
        have D4 := Lib.hid (bchain B3.out bw)
        have R4 := Lib.hid (R2.out.below D4.out)
        have C4 := Lib.hid (bchain C2.out D4.out)
        clear hb4 hb5 bw R2 C2 B3 D4
        have x0 := KB.out.cell (i := 0) (v := .int .i64 9) rfl
        have x1 := KB.out.cell (i := 1) (v := .int .i64 0) rfl
        have v0 := KV.out.cell (i := 0) (v := .int .i64 bnd) rfl
        have v1 := KV.out.cell (i := 1) (v := .int .i64 bbr) rfl
        have v2 := KV.out.cell (i := 2) (v := .int .i64 bd) rfl
        have v3 := KV.out.cell (i := 3) (v := .int .i64 bsl) rfl
        have v4 := KV.out.cell (i := 4) (v := .string bv) rfl
        have hbelow : ∀ x ∈ L, blt (vbl x) (9, 0) := fun x hx => by
          have := (OK.out.few x hx).1
          rw [blt_def]
          simp only
          omega
        cases is with
        | false =>
          have hno : highL Q 1 L = none := by
            have h1 := HH.out
            unfold highR at h1
            cases hh : highL Q 1 L with
            | none => rfl
            | some y => rw [hh] at h1; cases h1
          have hz : bnd = 0 ∧ bbr = 0 ∧ bd = 0 ∧ bsl = 0 ∧ bv = ⟨#[]⟩ := by
            have h1 := HH.out
            unfold highR at h1
            rw [hno] at h1
            simp only [Prod.mk.injEq, Vt.mk.injEq] at h1
            obtain ⟨⟨rfl, rfl, rfl, rfl, rfl⟩, _⟩ := h1
            exact ⟨rfl, rfl, rfl, rfl, rfl⟩
          obtain ⟨rfl, rfl, rfl, rfl, rfl⟩ := hz
          have hs2 : safeL j A 1 ⟨#[97, 110, 121, 116, 104, 105, 110, 103]⟩ (sortB (belowL A 1 (9, 0))).reverse = true := by
            rw [safe_iff hn7 OK.out.poss HAO.out]
            exact safe_none HMJ.out hQn hno _
          have S2 := Lib.hid hs2
          have hGq := eqGVt
          have hEz : ∀ w : World, (Op.equalIn 10000 25 (.agg #[.int .i64 0, .int .i64 0, .int .i64 0, .int .i64 0, .string ⟨#[]⟩]) (.agg #[.int .i64 0, .int .i64 0, .int .i64 0, .int .i64 0, .string ⟨#[]⟩])).run Tryd.prog w = .ok true w := fun w => (eqVt ⟨0, 0, 0, 0, ⟨#[]⟩⟩ ⟨0, 0, 0, 0, ⟨#[]⟩⟩ w).trans (by rw [eqV_self])
          clear hno hs2 hbelow
          go_upto_region 21 with (go_at_call 20; refine (safe_main j _ L A 9 0 1 ⟨#[97, 110, 121, 116, 104, 105, 110, 103]⟩ _ R4.out hn7 hL HA.out (by decide) C9.out (by decide)).mono ?_; rw [S2.out]; rintro e w5 ⟨rfl, b5'⟩; have B5 := Lib.hid b5'; clear b5')
          have KV5 := Lib.hid (KV.out.fr (Fr.of_below B5.out : Fr S0 _ _) (fun h => h))
          have C5 := Lib.hid (bchain C4.out B5.out)
          clear x0 x1 v0 v1 v2 v3 v4 KV KB C4 B5
          have v0 := KV5.out.cell (i := 0) (v := .int .i64 0) rfl
          have v1 := KV5.out.cell (i := 1) (v := .int .i64 0) rfl
          have v2 := KV5.out.cell (i := 2) (v := .int .i64 0) rfl
          have v3 := KV5.out.cell (i := 3) (v := .int .i64 0) rfl
          have v4 := KV5.out.cell (i := 4) (v := .string ⟨#[]⟩) rfl
          go_wp2_with (go_at_call 8; refine (HW.out _).mono ?_; rintro e w6 ⟨rfl, b6⟩; have B6 := Lib.hid (bchain C5.out b6); clear b6)
          go_returns
          exact ⟨rfl, B6.out⟩
        | true =>
          have hso : highL Q 1 L = some ⟨bnd, bbr, bd, bsl, bv⟩ := by
            have h1 := HH.out
            unfold highR at h1
            cases hh : highL Q 1 L with
            | none => rw [hh] at h1; cases h1
            | some y => rw [hh] at h1; rw [← (Prod.mk.inj h1).1]
          have hs2 : safeL j A 1 bv (sortB (belowL A 1 (9, 0))).reverse = true := by
            rw [safe_iff hn7 OK.out.poss HAO.out]
            exact safe_high hn7 OK.out.poss HMJ.out hQn hbelow hso
          have hok := highL_ok Q 1 L
          rw [hso] at hok
          obtain ⟨hmem, hpick, _⟩ := hok
          have hnd := (alone_r hn7 (OK.out.poss.al _ hmem)).1
          obtain ⟨N, rfl⟩ : ∃ N : Nat, bnd = (N : Int) := ⟨bnd.toNat, by simp only at hnd; omega⟩
          have htb : Q.testBit N = true := by
            unfold hPick at hpick
            rw [Bool.and_eq_true] at hpick
            simpa using hpick.2
          have hbit := bit_one hn7 hQn (show N < 7 by simp only at hnd; omega) htb
          simp only [if_true] at hbit
          have hmin : min N 64 = N := by simp only at hnd; omega
          have S2 := Lib.hid hs2
          have HMEM := Lib.hid hmem
          clear hso hs2 hmem hpick htb hnd hbelow
          go_upto_region 23 with (go_at_call 20; refine (safe_main j _ L A 9 0 1 bv _ R4.out hn7 hL HA.out (by decide) C9.out (by decide)).mono ?_; rw [S2.out]; rintro e w5 ⟨rfl, b5'⟩; have B5 := Lib.hid b5'; clear b5')
          have KV5 := Lib.hid (KV.out.fr (Fr.of_below B5.out : Fr S0 _ _) (fun h => h))
          have R5 := Lib.hid (R4.out.below B5.out)
          have C5 := Lib.hid (bchain C4.out B5.out)
          clear x0 x1 v0 v1 v2 v3 v4 KV KB C4 B5 R4
          have v0 := KV5.out.cell (i := 0) (v := .int .i64 (N : Int)) rfl
          have v1 := KV5.out.cell (i := 1) (v := .int .i64 bbr) rfl
          have v2 := KV5.out.cell (i := 2) (v := .int .i64 bd) rfl
          have v3 := KV5.out.cell (i := 3) (v := .int .i64 bsl) rfl
          have v4 := KV5.out.cell (i := 4) (v := .string bv) rfl
          go_wp2_with (first
            | (go_at_call 24; refine (containsV ⟨N, bbr, bd, bsl, bv⟩ _ L _ R5.out HMEM.out).mono ?_; rintro e w6 ⟨rfl, b6⟩; have v6 := bcell b6 v0; have B6 := Lib.hid (bchain C5.out b6); clear b6)
            | (go_at_call 8; refine (HW.out _).mono ?_; rintro e w7 ⟨rfl, b7⟩; have B7 := Lib.hid (bchain B6.out b7); clear b7))
          go_returns
          exact ⟨rfl, B7.out⟩
end Go.Proofs.YthkdmpalhdifbaaDoor.chosenFree
