/- The reference's majority. -/
import Derived.Test.YthkdmpalhdifbaaGreatDoorNoF
import Derived.Deep.OwnRows
set_option linter.unusedVariables false
set_option linter.unusedSimpArgs false
namespace Go.Proofs.YthkdmpalhdifbaaGreatDoor
open Go.RowKit Go.Maps Go.Shelf

theorem info_bool : (Tryz.prog.info? 4).map (fun i => (i.zero, i.size, i.bytes)) = some (some (.bool false), 1, 1) := by kernel_rfl
theorem nodesF_zero {k : Pl} : nodesF k [] = 0 := rfl
set_option maxRecDepth 100000 in
set_option maxHeartbeats 4000000 in
theorem rmaj_any (n : Nat) (v : Value) (L : List Vt) (s r d : Int) (w : World) (h : VotesIn w v L) (hn : 1 ≤ n ∧ n ≤ 7) (hP : Poss n L) :
    Calls Tryz.prog 47 #[v, .int .i64 (n : Int), .agg #[.int .i64 r, .int .i64 d], .int .i64 s] w fun e w' => e = .returned (.bool (mjv n L (s, r, d))) ∧ Below w.heap.size w w' := by
  obtain ⟨A0, cap0, rfl, hcap0, hmax0, hc⟩ := h
  have HC := Lib.hid hc
  have HP := Lib.hid hP
  have hml : cap0 ≤ 9223372036854775807 := by unfold maxLen at hmax0; omega
  have hmk := fun W => run_make_row' (P := Tryz.prog) 142 4 (.bool false) 1 Tryz.underlying142 info_bool rfl .i64 .i64 n (by omega) (by omega) W
  have hb0 := box_below w (.cells #[.int .i64 r, .int .i64 d] 24)
  have kb0 := Blk.new w 24 #[.int .i64 r, .int .i64 d]
  have HB0 := Lib.hid hb0
  have KB0 := Lib.hid kb0
  clear hc hmax0 hP hb0 kb0
  go_enter Tryz.func47, Tryz.ntmps47
  go_upto_region 1 with fail
  generalize (w.alloc (.cells #[.int .i64 r, .int .i64 d] 24)) = W0 at *
  obtain ⟨bb, hbb⟩ : ∃ bb, bb = w.heap.size := ⟨_, rfl⟩
  rw [← hbb] at KB0 ⊢
  have hbw : w.heap.size ≤ bb := by omega
  clear hbb
  go_upto_region 2 with fail
  clear hmk
  have bs := box_below W0 (.cells (madeCells #[.bool false] n) 4)
  have hr0 := World.rowIs_made W0 (.bool false) n 4
  have R1 := Lib.hid hr0
  have B1 := Lib.hid (bchain HB0.out bs)
  have K1 := Lib.hid (KB0.out.fr (Fr.of_below bs : Fr S0 _ _) (fun h => h))
  have hbl := KB0.out.lt
  generalize (W0.alloc (.cells (madeCells #[.bool false] n) 4)) = W1 at *
  obtain ⟨gs, hgs⟩ : ∃ g, g = W0.heap.size := ⟨_, rfl⟩
  rw [← hgs] at R1 hbl ⊢
  clear hgs bs hr0 KB0 HB0
  have R2 : Hid (W1.rowIs gs 4 n (fun k => .bool ((nodesF (s, r, d) (L.take 0)).testBit k))) := R1.out.congr fun i _ => by rw [List.take_zero, nodesF_zero]; simp
  clear R1
  go_wp2_with fail
  go_loopg [10] L.length (fun g c wr => ∃ i, i ≤ L.length ∧ g = L.length - i ∧ c = .int .i64 i ∧ wr.rowIs gs 4 n (fun k => .bool ((nodesF (s, r, d) (L.take i)).testBit k)) ∧ Blk wr bb 24 #[.int .i64 r, .int .i64 d] ∧ Fr (S1 gs) W1 wr)
  case atStart => exact ⟨0, by omega, by omega, rfl, R2.out, K1.out, Fr.refl _ _⟩
  case round =>
    obtain ⟨i, hi, rfl, rfl, hrow, hkb, hfr⟩ := hrel
    obtain ⟨wo, rfl⟩ : ∃ wo : World, wo = wr := ⟨_, rfl⟩
    have R := Lib.hid hrow
    have K := Lib.hid hkb
    have F := Lib.hid hfr
    clear hrow hkb hfr R2 K1
    by_cases hlt : i < L.length
    case neg =>
      have e : i = L.length := by omega
      obtain ⟨S, hS⟩ : ∃ S, nodesF (s, r, d) L = S := ⟨_, rfl⟩
      have RS : Hid (wo.rowIs gs 4 n (fun k => .bool (S.testBit k))) := by
        have := R.out
        rw [e, List.take_length, hS] at this
        exact this
      have hSN : S < 2 ^ n := by rw [← hS]; exact nodesF_lt hn HP.out (fun x h => h) _
      have HSN := Lib.hid hSN
      have HS := Lib.hid hS
      clear hSN hS R
      subst e
      go_wp2_with fail
      go_loopg [12, 11] n (fun g c k wr => ∃ i, i ≤ n ∧ g = n - i ∧ c = .int .i64 i ∧ k = .int .i64 ((((List.range i).countP fun i => S.testBit i) : Nat) : Int) ∧ wr = wo)
      case atStart => exact ⟨0, by omega, by omega, rfl, rfl, rfl⟩
      case round =>
        obtain ⟨i, hi, rfl, rfl, rfl, hwr⟩ := hrel
        subst hwr
        obtain ⟨k, hk⟩ : ∃ k, ((List.range i).countP fun i => S.testBit i) = k := ⟨_, rfl⟩
        have hki : k ≤ i := by rw [← hk]; exact Nat.le_trans List.countP_le_length (by simp)
        have HK := Lib.hid hk
        rw [hk]
        clear hk
        by_cases hlt3 : i < n
        case pos =>
          obtain ⟨tb, htb⟩ : ∃ tb, S.testBit i = tb := ⟨_, rfl⟩
          have hcl := RS.out.cell (i := i) hlt3
          rw [htb] at hcl
          have HT : Hid (((List.range (i + 1)).countP fun i => S.testBit i) = k + (if tb = true then 1 else 0)) := by
            rw [Hid, List.range_succ, List.countP_append, HK.out, List.countP_singleton, htb]
          clear htb
          cases tb with
          | true =>
            go_wp2_with fail
            go_roundg (n - (i + 1))
            case measure => omega
            case rel => exact ⟨i + 1, by omega, rfl, by go_num, by rw [HT.out]; rfl, rfl⟩
          | false =>
            go_wp2_with fail
            go_roundg (n - (i + 1))
            case measure => omega
            case rel => exact ⟨i + 1, by omega, rfl, by go_num, by rw [HT.out]; rfl, rfl⟩
        case neg =>
          have e : i = n := by omega
          subst e
          have hw2 : IntKind.i64.wrap (2 * (k : Int)) = 2 * (k : Int) := by rw [IntKind.wrap_i64]; omega
          have HR : Hid (mjv i L (s, r, d) = decide (2 * (k : Int) > (i : Int))) := by
            rw [Hid]
            unfold mjv maj
            rw [HS.out, pop_range hn.2 HSN.out, HK.out]
            by_cases h : i < 2 * k
            · rw [decide_eq_true (show i / 2 < k by omega), decide_eq_true (by omega)]
            · rw [decide_eq_false (show ¬ i / 2 < k by omega), decide_eq_false (by omega)]
          go_wp2_with fail
          go_returns
          rw [HR.out]
          exact ⟨rfl, Fr.upB B1.out F.out (fun i e => by have e : i = gs := e; omega)⟩
    case pos =>
    obtain ⟨b, off, rfl, hb, hcells⟩ := HC.out (by omega)
    obtain ⟨⟨xnd, xr, xd, sl, xv⟩, hx⟩ : ∃ x, L[i]? = some x := ⟨_, List.getElem?_eq_getElem hlt⟩
    have hxa := (alone_r hn (HP.out.al _ (List.mem_of_getElem? hx))).1
    obtain ⟨N, rfl⟩ : ∃ N : Nat, xnd = (N : Int) := ⟨xnd.toNat, by simp only at hxa; omega⟩
    have hNn : N < n := by simp only at hxa; omega
    have HSN := Lib.hid (nodesF_take (k := (s, r, d)) hx)
    obtain ⟨q0, q1, q2, q3, q4⟩ := hcells i _ hx
    simp only at q0 q1 q2 q3 q4
    have hne : b ≠ gs := by omega
    have hF : ∀ o v, w.cell? ⟨b, o, none⟩ = some v → wo.cell? ⟨b, o, none⟩ = some v := fun o v h => F.out.cell (p := ⟨b, o, none⟩) (fun e => hne e) (bcell B1.out h)
    have q0 := hF _ _ q0
    have q1 := hF _ _ q1
    have q2 := hF _ _ q2
    have q3 := hF _ _ q3
    have y0 := K.out.cell (i := 0) (v := .int .i64 r) rfl
    have y1 := K.out.cell (i := 1) (v := .int .i64 d) rfl
    clear hx hcells hxa hF q4
    obtain ⟨q, hq⟩ : ∃ q, (xr == r && xd == d) = q := ⟨_, rfl⟩
    have hEz : ∀ w : World, (Op.equalIn 10000 24 (.agg #[.int .i64 xr, .int .i64 xd]) (.agg #[.int .i64 r, .int .i64 d])).run Tryz.prog w = .ok q w := fun w => by rw [eqBal, hq]
    have hGq := eqGBal
    obtain ⟨se, hse⟩ : ∃ se, (sl == s) = se := ⟨_, rfl⟩
    have HQ := Lib.hid hq
    have HSE := Lib.hid hse
    clear hq
    go_upto_region 5 with fail
    go_cut [36] (fun c wx => c = .bool (q && se) ∧ wo.grownBy wx none)
    case first =>
      cases q with
      | false =>
        refine wp_region_held_drew (S := (fun W => W.cell? ⟨b, off + i * 5 + 1, none⟩ = some (.int .i64 xr) ∧ W.cell? ⟨b, off + i * 5 + 2, none⟩ = some (.int .i64 xd) ∧ W.cell? ⟨bb, 0, none⟩ = some (.int .i64 r) ∧ W.cell? ⟨bb, 1, none⟩ = some (.int .i64 d))) (by kernel_rfl) ?_ (fun hHeld => ?_)
        · exact ⟨by assumption, by assumption, by assumption, by assumption⟩
        try dsimp only at hHeld
        refine held_yes (i := 0) (some 21) (v := ?_) rfl rfl (by kernel_rfl) (by kernel_rfl) (by kernel_rfl) (fun _ _ _ h => h) (by rfl) ?_ hHeld ?_
        rotate_left
        · (intro w hSw; (try dsimp only at hSw); go_simp; all_goals with_reducible rfl)
        try simp only [Act.put, List.setIfInBounds_toArray, List.set_cons_zero, List.set_cons_succ]
        refine held_yes (i := 1) (some 22) (v := ?_) rfl rfl (by kernel_rfl) (by kernel_rfl) (by kernel_rfl) (fun _ _ _ h => h) (by rfl) ?_ hHeld ?_
        rotate_left
        · (intro w hSw; (try dsimp only at hSw); go_simp; all_goals with_reducible rfl)
        try simp only [Act.put, List.setIfInBounds_toArray, List.set_cons_zero, List.set_cons_succ]
        refine held_yes (i := 2) (some 23) (v := ?_) rfl rfl (by kernel_rfl) (by kernel_rfl) (by kernel_rfl) (fun _ _ _ h => h) (by rfl) ?_ hHeld ?_
        rotate_left
        · (intro w hSw; (try dsimp only at hSw); go_simp; all_goals with_reducible rfl)
        try simp only [Act.put, List.setIfInBounds_toArray, List.set_cons_zero, List.set_cons_succ]
        refine held_yes (i := 3) (some 24) (v := ?_) rfl rfl (by kernel_rfl) (by kernel_rfl) (by kernel_rfl) (fun _ _ _ h => h) (by rfl) ?_ hHeld ?_
        rotate_left
        · (intro w hSw; (try dsimp only at hSw); go_simp; all_goals with_reducible rfl)
        try simp only [Act.put, List.setIfInBounds_toArray, List.set_cons_zero, List.set_cons_succ]
        refine held_yes (i := 4) (some 25) (v := ?_) rfl rfl (by kernel_rfl) (by kernel_rfl) (by kernel_rfl) (fun _ _ _ h => h) (by rfl) ?_ hHeld ?_
        rotate_left
        · (intro w hSw; (try dsimp only at hSw); go_simp; all_goals with_reducible rfl)
        try simp only [Act.put, List.setIfInBounds_toArray, List.set_cons_zero, List.set_cons_succ]
        refine held_yes (i := 5) (some 26) (v := ?_) rfl rfl (by kernel_rfl) (by kernel_rfl) (by kernel_rfl) (fun _ _ _ h => h) (by rfl) ?_ hHeld ?_
        rotate_left
        · (intro w hSw; (try dsimp only at hSw); go_simp; all_goals with_reducible rfl)
        try simp only [Act.put, List.setIfInBounds_toArray, List.set_cons_zero, List.set_cons_succ]
        refine held_yes (i := 6) (some 27) (v := ?_) rfl rfl (by kernel_rfl) (by kernel_rfl) (by kernel_rfl) (fun _ _ _ h => h) (by rfl) ?_ hHeld ?_
        rotate_left
        · (intro w hSw; (try dsimp only at hSw); go_simp; all_goals with_reducible rfl)
        try simp only [Act.put, List.setIfInBounds_toArray, List.set_cons_zero, List.set_cons_succ]
        refine held_yes (i := 7) (some 28) (v := ?_) rfl rfl (by kernel_rfl) (by kernel_rfl) (by kernel_rfl) (fun _ _ _ h => h) (by rfl) ?_ hHeld ?_
        rotate_left
        · (intro w hSw; (try dsimp only at hSw); go_simp; all_goals with_reducible rfl)
        try simp only [Act.put, List.setIfInBounds_toArray, List.set_cons_zero, List.set_cons_succ]
        refine held_no (i := 8) (some 29) rfl rfl (by kernel_rfl) (by kernel_rfl) (by kernel_rfl) (fun _ _ _ h => h) (wanted_t rfl rfl rfl) hHeld ?_
        try simp only [Act.put, List.setIfInBounds_toArray, List.set_cons_zero, List.set_cons_succ]
        refine held_no (i := 9) (some 30) rfl rfl (by kernel_rfl) (by kernel_rfl) (by kernel_rfl) (fun _ _ _ h => h) (wanted_t rfl rfl rfl) hHeld ?_
        try simp only [Act.put, List.setIfInBounds_toArray, List.set_cons_zero, List.set_cons_succ]
        refine held_no (i := 10) (some 31) rfl rfl (by kernel_rfl) (by kernel_rfl) (by kernel_rfl) (fun _ _ _ h => h) (wanted_t rfl rfl rfl) hHeld ?_
        try simp only [Act.put, List.setIfInBounds_toArray, List.set_cons_zero, List.set_cons_succ]
        refine held_no (i := 11) (some 32) rfl rfl (by kernel_rfl) (by kernel_rfl) (by kernel_rfl) (fun _ _ _ h => h) (wanted_t rfl rfl rfl) hHeld ?_
        try simp only [Act.put, List.setIfInBounds_toArray, List.set_cons_zero, List.set_cons_succ]
        refine held_no (i := 12) (some 33) rfl rfl (by kernel_rfl) (by kernel_rfl) (by kernel_rfl) (fun _ _ _ h => h) (wanted_t rfl rfl rfl) hHeld ?_
        try simp only [Act.put, List.setIfInBounds_toArray, List.set_cons_zero, List.set_cons_succ]
        refine held_no (i := 13) (some 34) rfl rfl (by kernel_rfl) (by kernel_rfl) (by kernel_rfl) (fun _ _ _ h => h) (wanted_t rfl rfl rfl) hHeld ?_
        try simp only [Act.put, List.setIfInBounds_toArray, List.set_cons_zero, List.set_cons_succ]
        refine held_no (i := 14) (some 35) rfl rfl (by kernel_rfl) (by kernel_rfl) (by kernel_rfl) (fun _ _ _ h => h) (wanted_t rfl rfl rfl) hHeld ?_
        try simp only [Act.put, List.setIfInBounds_toArray, List.set_cons_zero, List.set_cons_succ]
        refine held_yes (i := 15) (some 36) (v := ?_) rfl rfl (by kernel_rfl) (by kernel_rfl) (by kernel_rfl) (fun _ _ _ h => h) (by rfl) ?_ hHeld ?_
        rotate_left
        · (intro w hSw; (try dsimp only at hSw); go_simp; all_goals with_reducible rfl)
        try simp only [Act.put, List.setIfInBounds_toArray, List.set_cons_zero, List.set_cons_succ]
        refine wpAnyH_done (by kernel_rfl) ?_ _
        go_wp2_with fail
        go_meet
        exact ⟨rfl, grown_of ((Below.refl _ _).drew) none⟩
      | true =>
        go_region_held3 (fun W => W.cell? ⟨b, off + i * 5 + 1, none⟩ = some (.int .i64 xr) ∧ W.cell? ⟨b, off + i * 5 + 2, none⟩ = some (.int .i64 xd) ∧ W.cell? ⟨b, off + i * 5 + 3, none⟩ = some (.int .i64 sl) ∧ W.cell? ⟨bb, 0, none⟩ = some (.int .i64 r) ∧ W.cell? ⟨bb, 1, none⟩ = some (.int .i64 d))
          (first | exact ⟨by assumption, by assumption, by assumption, by assumption, by assumption⟩ | go_keep)
          (first | fail)
        go_wp2_with fail
        go_meet
        exact ⟨by simp, grown_of ((Below.refl _ _).drew) none⟩
    case rest =>
    obtain ⟨rfl, hgc⟩ := hcut
    obtain ⟨w2, rfl⟩ : ∃ w2 : World, w2 = wc := ⟨_, rfl⟩
    have f2 : Fr S0 wo w2 := Fr.of_grown hgc (fun i e => by cases e)
    have R2 : Hid (w2.rowIs gs 4 n (fun k => .bool ((nodesF (s, r, d) (L.take i)).testBit k))) := R.out.of_block (f2.block _ R.out.lt (fun h => h))
    have K2 := Lib.hid (K.out.fr f2 (fun h => h))
    have F2 := Lib.hid (F.out.trans (f2.mono (fun i h => h.elim)))
    have q0 := f2.cell (p := ⟨b, off + i * 5, none⟩) (fun h => h) q0
    clear q1 q2 q3 y0 y1 R K F f2 hgc hEz hse hGq
    cases hcc : (q && se) with
    | false =>
      have HN : Hid (nodesF (s, r, d) (L.take (i + 1)) = nodesF (s, r, d) (L.take i)) := by
        rw [Hid, HSN.out, if_neg]
        intro e
        simp only [Prod.mk.injEq] at e
        have h1 := HQ.out
        have h2 := HSE.out
        rw [e.2.1, e.2.2] at h1
        rw [e.1] at h2
        simp at h1 h2
        rw [h1, h2] at hcc
        cases hcc
      go_wp2_with fail
      go_roundg (L.length - (i + 1))
      case measure => omega
      case rel => exact ⟨i + 1, by omega, rfl, by go_num, by rw [HN.out]; exact R2.out, K2.out, F2.out⟩
    | true =>
      have HN : Hid (nodesF (s, r, d) (L.take (i + 1)) = nodesF (s, r, d) (L.take i) ||| 2 ^ N) := by
        rw [Hid, HSN.out, if_pos]
        · rfl
        · rw [Bool.and_eq_true] at hcc
          have h1 := HQ.out
          have h2 := HSE.out
          rw [hcc.1] at h1
          rw [hcc.2] at h2
          rw [Bool.and_eq_true, beq_iff_eq, beq_iff_eq] at h1
          rw [beq_iff_eq] at h2
          simp only [h1.1, h1.2, h2]
      have s0 := R2.out.cell (i := N) hNn
      have z0 := R2.out.frozen N
      go_wp2_with fail
      have R3 : Hid ((w2.setCell ⟨gs, N, none⟩ (.bool true)).rowIs gs 4 n (fun k => .bool ((nodesF (s, r, d) (L.take (i + 1))).testBit k))) := (R2.out.set N (.bool true)).congr fun j hj => by
        rw [HN.out, testBit_put]
        by_cases e : j = N
        · rw [if_pos e, e]; simp
        · rw [if_neg e, decide_eq_false (fun h => e h.symm), Bool.or_false]
      have K3 := Lib.hid (K2.out.setOther (p := ⟨gs, N, none⟩) (by show bb ≠ gs; omega) (.bool true))
      have F3 := Lib.hid (F2.out.setCell (p := ⟨gs, N, none⟩) (.inl rfl) (.bool true))
      go_roundg (L.length - (i + 1))
      case measure => omega
      case rel => exact ⟨i + 1, by omega, rfl, by go_num, R3.out, K3.out, F3.out⟩
end Go.Proofs.YthkdmpalhdifbaaGreatDoor
