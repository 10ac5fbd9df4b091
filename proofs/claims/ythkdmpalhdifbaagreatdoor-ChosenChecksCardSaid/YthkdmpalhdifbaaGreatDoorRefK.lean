/- The reference's Chosen, All and Agree. -/
import Derived.Test.YthkdmpalhdifbaaGreatDoorRefF
import Derived.Deep.AppendLies
set_option linter.unusedVariables false
set_option linter.unusedSimpArgs false
namespace Go.Proofs.YthkdmpalhdifbaaGreatDoor
open Go.RowKit Go.Maps Go.Shelf Go.Sort

abbrev ChkBad (n : Int) (v : Value) (i : Int) (w : World) : Prop := ∀ w' : World, Below w.heap.size w w' → Calls Tryz.prog 16 #[v, .int .i64 n] w' fun e w2 => e = .returned (.tuple #[.int .i64 i, .int .i64 2]) ∧ Below w'.heap.size w' w2
set_option maxRecDepth 100000 in
theorem rchosen_no (n : Int) (v : Value) (s i : Int) (w : World) (hg : ChkBad n v i w) :
    Calls Tryz.prog 18 #[v, .int .i64 n, .int .i64 s] w fun e w' => e = .returned (.tuple #[.string ⟨#[]⟩, .bool false, .int .i64 2]) ∧ Below w.heap.size w w' := by
  have HG := Lib.hid hg
  clear hg
  go_enter Tryz.func18, Tryz.ntmps18
  go_wp2_with (go_at_call 16; refine (HG.out _ (Below.refl _ _)).mono ?_; rintro e w2 ⟨rfl, b2⟩; have B2 := Lib.hid b2; clear b2)
  go_returns
  exact ⟨rfl, B2.out⟩
set_option maxRecDepth 100000 in
theorem rall_no (n : Int) (v : Value) (i : Int) (w : World) (hg : ChkBad n v i w) :
    Calls Tryz.prog 20 #[v, .int .i64 n] w fun e w' => e = .returned (.tuple #[.slice none 0 0, .int .i64 2]) ∧ Below w.heap.size w w' := by
  have HG := Lib.hid hg
  clear hg
  go_enter Tryz.func20, Tryz.ntmps20
  go_wp2_with (go_at_call 16; refine (HG.out _ (Below.refl _ _)).mono ?_; rintro e w2 ⟨rfl, b2⟩; have B2 := Lib.hid b2; clear b2)
  go_returns
  exact ⟨rfl, B2.out⟩
set_option maxRecDepth 100000 in
theorem ragree_no (n : Int) (v : Value) (i : Int) (w : World) (hg : ChkBad n v i w) :
    Calls Tryz.prog 22 #[v, .int .i64 n] w fun e w' => e = .returned (.tuple #[.bool false, .int .i64 0, .int .i64 2]) ∧ Below w.heap.size w w' := by
  have HG := Lib.hid hg
  clear hg
  go_enter Tryz.func22, Tryz.ntmps22
  go_wp2_with (go_at_call 16; refine (HG.out _ (Below.refl _ _)).mono ?_; rintro e w2 ⟨rfl, b2⟩; have B2 := Lib.hid b2; clear b2)
  go_returns
  exact ⟨rfl, B2.out⟩
set_option maxRecDepth 100000 in
theorem rchosen_range (n : Nat) (v : Value) (L : List Vt) (s : Int) (w : World) (h : VotesIn w v L) (hn : 1 ≤ n ∧ n ≤ 7) (hf : fbad n [] 0 L = none) (hs : (decide (s ≥ 0) && decide (s < 4096)) = false) :
    Calls Tryz.prog 18 #[v, .int .i64 (n : Int), .int .i64 s] w fun e w' => e = .returned (.tuple #[.string ⟨#[]⟩, .bool false, .int .i64 3]) ∧ Below w.heap.size w w' := by
  have HV := Lib.hid h
  have HF := Lib.hid hf
  clear h hf
  go_enter Tryz.func18, Tryz.ntmps18
  go_wp2_with (first
    | (go_at_call 16; refine (rcheck_yes n _ L _ HV.out hn).mono ?_; rw [HF.out]; rintro e w2 ⟨rfl, b2⟩; have B2 := Lib.hid b2; clear b2; unfold chkV; simp only)
    | (go_at_call 41; refine (risSlot_any _ _).mono ?_; rw [hs]; rintro e w' ⟨rfl, rfl⟩))
  go_returns
  exact ⟨rfl, B2.out⟩
set_option maxRecDepth 100000 in
set_option maxHeartbeats 2000000 in
theorem rchosen_ok (n : Nat) (v : Value) (L : List Vt) (A : GA) (s : Int) (w : World) (h : VotesIn w v L) (hn : 1 ≤ n ∧ n ≤ 7) (hf : fbad n [] 0 L = none) (hP : Poss n L) (hA0 : (gwalk n [] [] 0 L).1 = some A) (hA : AOk n L A) (hs : (decide (s ≥ 0) && decide (s < 4096)) = true) :
    Calls Tryz.prog 18 #[v, .int .i64 (n : Int), .int .i64 s] w fun e w' => e = .returned (.tuple #[.string (chosenF n L s).1, .bool (chosenF n L s).2.1, .int .i64 (chosenF n L s).2.2]) ∧ Below w.heap.size w w' := by
  have HV := Lib.hid h
  have HF := Lib.hid hf
  have HP := Lib.hid hP
  have HC0 : Hid (chosenF n L s = (match pickV n A s with | some v => (v, true, 0) | none => (⟨#[]⟩, false, 0))) := by rw [Hid]; unfold chosenF; rw [hA0, hs]; rfl
  have HFP : Hid (∀ o, FOne n L L s o → pickV n A s = firV L o) := fun o ho => first_pick hn hP hA ho
  obtain ⟨A0, cap0, rfl, hcap0, hmax0, hc⟩ := h
  have HC := Lib.hid hc
  have hml : cap0 ≤ 9223372036854775807 := by unfold maxLen at hmax0; omega
  clear hf hP hA0 hA hc hmax0
  go_enter Tryz.func18, Tryz.ntmps18
  go_upto_region 7 with (first
    | (go_at_call 16; refine (rcheck_yes n _ L _ HV.out hn).mono ?_; rw [HF.out]; rintro e w2 ⟨rfl, b2⟩; have B2 := Lib.hid b2; have V2 := Lib.hid (HV.out.below b2); clear b2; unfold chkV; simp only)
    | (go_at_call 41; refine (risSlot_any _ _).mono ?_; rw [hs]; rintro e w' ⟨rfl, rfl⟩)
    | (go_at_call 46; refine (rfirst_any n _ L s _ V2.out hn HP.out).mono ?_; rintro e w3 ⟨o, rfl, ho, b3⟩; have HO := Lib.hid ho; have B3 := Lib.hid (bchain B2.out b3); clear ho b3))
  cases o with
  | none =>
    have HR : Hid (chosenF n L s = (⟨#[]⟩, false, 0)) := by rw [Hid, HC0.out, HFP.out _ HO.out]; rfl
    unfold idxV
    simp only
    go_wp2_with fail
    go_returns
    rw [HR.out]
    exact ⟨rfl, B3.out⟩
  | some p =>
    have hpl := HO.out.lt
    obtain ⟨⟨ynd, yr, yd, ysl, yv⟩, hy⟩ : ∃ y, L[p]? = some y := ⟨_, List.getElem?_eq_getElem hpl⟩
    have HR : Hid (chosenF n L s = (yv, true, 0)) := by
      rw [Hid, HC0.out, HFP.out _ HO.out]
      unfold firV
      rw [Option.bind_some, hy]
      rfl
    obtain ⟨b, off, rfl, hb, hcc⟩ := HC.out (by omega)
    obtain ⟨_, _, _, _, p4⟩ := hcc p _ hy
    simp only at p4
    have p4 := bcell B3.out p4
    clear hcc hy
    unfold idxV
    simp only
    go_wp2_with fail
    go_returns
    rw [HR.out]
    exact ⟨rfl, B3.out⟩
set_option maxRecDepth 100000 in
set_option maxHeartbeats 4000000 in
theorem rall_ok (n : Nat) (v : Value) (L : List Vt) (w : World) (h : VotesIn w v L) (hn : 1 ≤ n ∧ n ≤ 7) (hf : fbad n [] 0 L = none) (hP : Poss n L) :
    Calls Tryz.prog 20 #[v, .int .i64 (n : Int)] w fun e w' => ∃ vo R, e = .returned (.tuple #[vo, .int .i64 0]) ∧ EnIn w' vo R ∧ RA n L 4096 R ∧ Below w.heap.size w w' := by
  obtain ⟨i0, hi, hz0, hz1, hz2⟩ := info_parts info_en
  have HI := Lib.hid hi
  have HZ0 := Lib.hid hz0
  have HZ1 := Lib.hid hz1
  have HZ2 := Lib.hid hz2
  have HV := Lib.hid h
  have HF := Lib.hid hf
  have HP := Lib.hid hP
  obtain ⟨A0, cap0, rfl, hcap0, hmax0, hc⟩ := h
  have HC := Lib.hid hc
  have hml : cap0 ≤ 9223372036854775807 := by unfold maxLen at hmax0; omega
  clear hf hP hc hmax0 hi hz0 hz1 hz2
  go_enter Tryz.func20, Tryz.ntmps20
  go_upto_region 4 with (go_at_call 16; refine (rcheck_yes n _ L _ HV.out hn).mono ?_; rw [HF.out]; rintro e w2 ⟨rfl, b2⟩; have B2 := Lib.hid b2; have V2 := Lib.hid (HV.out.below b2); clear b2; unfold chkV; simp only)
  go_wp2_with fail
  go_loopg [9, 8] 4096 (fun g c vo wr => ∃ (k : Nat) (R : List En), k ≤ 4096 ∧ g = 4096 - k ∧ c = .int .i64 k ∧ RA n L k R ∧ EnRow wr w2.heap.size vo R ∧ Below w2.heap.size w2 wr)
  case atStart => exact ⟨0, [], by omega, by omega, rfl, RA.nl, ⟨rfl, .inl ⟨rfl, rfl⟩⟩, Below.refl _ _⟩
  case round =>
    obtain ⟨k, R, hk, rfl, rfl, hra, hrow, hB⟩ := hrel
    obtain ⟨wo, rfl⟩ : ∃ wo : World, wo = wr := ⟨_, rfl⟩
    have HRA := Lib.hid hra
    have ROW := Lib.hid hrow
    have B := Lib.hid hB
    have hrl := hra.len
    clear hra hrow hB
    by_cases hlt : k < 4096
    case neg =>
      have e : k = 4096 := by omega
      subst e
      have EI := Lib.hid ROW.out.at
      go_wp2_with fail
      go_returns
      exact ⟨_, R, rfl, EI.out, HRA.out, bchain B2.out B.out⟩
    case pos =>
    have V3 := Lib.hid (V2.out.below B.out)
    go_upto_region 9 with (go_at_call 46; refine (rfirst_any n _ L k _ V3.out hn HP.out).mono ?_; rintro e w3 ⟨o, rfl, ho, b3⟩; have HO := Lib.hid ho; have B3 := Lib.hid (bchain B.out b3); have ROW3 := Lib.hid (World.ownsRow.kept ROW.out (grown_of b3 none) (by by_cases h : u8.ownBlock = none; exact .inl h; exact .inr h)); clear ho b3)
    cases o with
    | none =>
      have HRA2 := Lib.hid (HRA.out.skp HO.out)
      unfold idxV
      simp only
      go_wp2_with fail
      go_roundg (4096 - (k + 1))
      case measure => omega
      case rel => exact ⟨k + 1, R, by omega, rfl, by go_num, HRA2.out, ROW3.out, B3.out⟩
    | some p =>
      have hpl := HO.out.lt
      obtain ⟨⟨ynd, yr, yd, ysl, yv⟩, hy⟩ : ∃ y, L[p]? = some y := ⟨_, List.getElem?_eq_getElem hpl⟩
      have HRA2 : Hid (RA n L (k + 1) (R ++ [(⟨k, hlt⟩, (yr, yd), yv)])) := HRA.out.put hlt HO.out hy
      obtain ⟨b, off, rfl, hb, hcc⟩ := HC.out (by omega)
      obtain ⟨_, p1, p2, _, p4⟩ := hcc p _ hy
      simp only at p1 p2 p4
      have C3 := Lib.hid (bchain B2.out B3.out)
      have p1 := bcell C3.out p1
      have p2 := bcell C3.out p2
      have p4 := bcell C3.out p4
      have hvo : ∀ g, u8.ownBlock = some g → w2.heap.size ≤ g ∧ g < w3.heap.size := fun g hg => World.ownsRow.lt ROW3.out g hg
      have hb2 : b < w2.heap.size := by have := B2.out.size; omega
      have hw23 := B3.out.size
      have hB0 : ∀ w : World, (Instr.build 58 #[(0, .int .i64 (k : Int)), (1, .agg #[.int .i64 yr, .int .i64 yd]), (2, .string yv)]).run Tryz.prog w = .ok (enV (k, (yr, yd), yv)) w := fun w => run_build w 58 _ _ (by kernel_rfl)
      clear hcc hy hrl
      have hrl := HRA.out.len
      unfold idxV
      simp only
      go_upto_region 10 with fail
      have hb9 : Below w3.heap.size w3 (w3.alloc (.cells #[.int .i64 (k : Int), .int .i64 yr, .int .i64 yd, .string yv] 58)).drew := ((Below.refl _ _).alloc (Nat.le_refl _) _).drew
      have ROW9 := Lib.hid (World.ownsRow.kept ROW3.out (grown_of hb9 none) (by by_cases h : u8.ownBlock = none; exact .inl h; exact .inr h))
      have B9 := Lib.hid (bchain B3.out hb9)
      have hsz9 : (w3.alloc (.cells #[.int .i64 (k : Int), .int .i64 yr, .int .i64 yd, .string yv] 58)).drew.heap.size = w3.heap.size + 1 := by simp
      have HSZ9 := Lib.hid hsz9
      have r1 := bcell hb9 p1
      have r2 := bcell hb9 p2
      have r4 := bcell hb9 p4
      clear hb9 hsz9
      refine wp_region_held_drew (S := (fun W => W.cell? ⟨b, off + p * 5 + 1, none⟩ = some (.int .i64 yr) ∧ W.cell? ⟨b, off + p * 5 + 2, none⟩ = some (.int .i64 yd) ∧ W.cell? ⟨b, off + p * 5 + 4, none⟩ = some (.string yv))) (by kernel_rfl) ?_ (fun hHeld => ?_)
      · exact ⟨by assumption, by assumption, by assumption⟩
      try dsimp only at hHeld
      refine held_yes (i := 0) (some 30) (v := ?_) rfl rfl (by kernel_rfl) (by kernel_rfl) (by kernel_rfl) (fun _ _ _ h => h) (by rfl) ?_ hHeld ?_
      rotate_left
      · (intro w hSw; (try dsimp only at hSw); go_simp; all_goals with_reducible rfl)
      try simp only [Act.put, List.setIfInBounds_toArray, List.set_cons_zero, List.set_cons_succ]
      refine held_yes (i := 1) (some 31) (v := ?_) rfl rfl (by kernel_rfl) (by kernel_rfl) (by kernel_rfl) (fun _ _ _ h => h) (by rfl) ?_ hHeld ?_
      rotate_left
      · (intro w hSw; (try dsimp only at hSw); go_simp; all_goals with_reducible rfl)
      try simp only [Act.put, List.setIfInBounds_toArray, List.set_cons_zero, List.set_cons_succ]
      refine held_yes (i := 2) (some 32) (v := ?_) rfl rfl (by kernel_rfl) (by kernel_rfl) (by kernel_rfl) (fun _ _ _ h => h) (by rfl) ?_ hHeld ?_
      rotate_left
      · (intro w hSw; (try dsimp only at hSw); go_simp; all_goals with_reducible rfl)
      try simp only [Act.put, List.setIfInBounds_toArray, List.set_cons_zero, List.set_cons_succ]
      refine held_yes (i := 3) (some 33) (v := ?_) rfl rfl (by kernel_rfl) (by kernel_rfl) (by kernel_rfl) (fun _ _ _ h => h) (by rfl) ?_ hHeld ?_
      rotate_left
      · (intro w hSw; (try dsimp only at hSw); go_simp; all_goals with_reducible rfl)
      try simp only [Act.put, List.setIfInBounds_toArray, List.set_cons_zero, List.set_cons_succ]
      refine held_yes (i := 4) (some 34) (v := ?_) rfl rfl (by kernel_rfl) (by kernel_rfl) (by kernel_rfl) (fun _ _ _ h => h) (by rfl) ?_ hHeld ?_
      rotate_left
      · (intro w hSw; (try dsimp only at hSw); go_simp; all_goals with_reducible rfl)
      try simp only [Act.put, List.setIfInBounds_toArray, List.set_cons_zero, List.set_cons_succ]
      refine held_yes (i := 5) (some 35) (v := ?_) rfl rfl (by kernel_rfl) (by kernel_rfl) (by kernel_rfl) (fun _ _ _ h => h) (by rfl) ?_ hHeld ?_
      rotate_left
      · (intro w hSw; (try dsimp only at hSw); go_simp; all_goals with_reducible rfl)
      try simp only [Act.put, List.setIfInBounds_toArray, List.set_cons_zero, List.set_cons_succ]
      refine held_yes (i := 6) (some 36) (v := ?_) rfl rfl (by kernel_rfl) (by kernel_rfl) (by kernel_rfl) (fun _ _ _ h => h) (by rfl) ?_ hHeld ?_
      rotate_left
      · (intro w hSw; (try dsimp only at hSw); go_simp; all_goals with_reducible rfl)
      try simp only [Act.put, List.setIfInBounds_toArray, List.set_cons_zero, List.set_cons_succ]
      refine held_yes (i := 7) (some 37) (v := ?_) rfl rfl (by kernel_rfl) (by kernel_rfl) (by kernel_rfl) (fun _ _ _ h => h) (by rfl) ?_ hHeld ?_
      rotate_left
      · (intro w hSw; (try dsimp only at hSw); go_simp; all_goals with_reducible rfl)
      try simp only [Act.put, List.setIfInBounds_toArray, List.set_cons_zero, List.set_cons_succ]
      refine held_yes (i := 8) (some 38) (v := ?_) rfl rfl (by kernel_rfl) (by kernel_rfl) (by kernel_rfl) (fun _ _ _ h => h) (by rfl) ?_ hHeld ?_
      rotate_left
      · (intro w hSw; (try dsimp only at hSw); go_simp; all_goals with_reducible rfl)
      try simp only [Act.put, List.setIfInBounds_toArray, List.set_cons_zero, List.set_cons_succ]
      refine held_yes (i := 9) (some 39) (v := ?_) rfl rfl (by kernel_rfl) (by kernel_rfl) (by kernel_rfl) (fun _ _ _ h => h) (by rfl) ?_ hHeld ?_
      rotate_left
      · (intro w hSw; (try dsimp only at hSw); go_simp; all_goals with_reducible rfl)
      try simp only [Act.put, List.setIfInBounds_toArray, List.set_cons_zero, List.set_cons_succ]
      refine held_yes (i := 10) (some 40) (v := ?_) rfl rfl (by kernel_rfl) (by kernel_rfl) (by kernel_rfl) (fun _ _ _ h => h) (by rfl) ?_ hHeld ?_
      rotate_left
      · (intro w hSw; (try dsimp only at hSw); go_simp; all_goals with_reducible rfl)
      try simp only [Act.put, List.setIfInBounds_toArray, List.set_cons_zero, List.set_cons_succ]
      refine held_yes (i := 11) (some 41) (v := ?_) rfl rfl (by kernel_rfl) (by kernel_rfl) (by kernel_rfl) (fun _ _ _ h => h) (by rfl) ?_ hHeld ?_
      rotate_left
      · (intro w hSw; (try dsimp only at hSw); go_simp; all_goals with_reducible rfl)
      try simp only [Act.put, List.setIfInBounds_toArray, List.set_cons_zero, List.set_cons_succ]
      refine held_yes (i := 12) (some 42) (v := ?_) rfl rfl (by kernel_rfl) (by kernel_rfl) (by kernel_rfl) (fun _ _ _ h => h) (by rfl) ?_ hHeld ?_
      rotate_left
      · (intro w hSw; (try dsimp only at hSw); go_simp; all_goals with_reducible rfl)
      try simp only [Act.put, List.setIfInBounds_toArray, List.set_cons_zero, List.set_cons_succ]
      refine wpAnyH_ready (rs := [13]) (by kernel_rfl) (by simp) ?_
      refine (AllReadyH.cons rfl (fun K' hK' => ?_) AllReadyH.nil)
      go_simp
      refine hK'.out _ _ ?_ (fun hHeld => ?_)
      · exact ⟨by assumption, by assumption, by assumption⟩
      clear hK' K'
      try dsimp only at hHeld
      try simp only [Act.put, List.setIfInBounds_toArray, List.set_cons_zero, List.set_cons_succ]
      refine wpAnyH_ready (rs := [14]) (by kernel_rfl) (by simp) ?_
      refine (AllReadyH.cons rfl (fun K' hK' => ?_) AllReadyH.nil)
      (refine step_append_lies _ rfl _ _ 49 rfl w2.heap.size 58 i0 (enV (0, (0, 0), ⟨#[]⟩)) 4 40 Tryz.underlying49 HI.out HZ0.out HZ1.out HZ2.out rfl (by decide) u8 _ _ rfl ROW9.out ⟨w3.heap.size, 0, none⟩ 1 1 [.int .i64 (k : Int), .int .i64 yr, .int .i64 yd, .string yv] rfl rfl (fun j u hu => cells_newT w3 _ _ j u hu) (by simp [Value.oneCell']) (by decide) (by unfold maxLen; omega) (by omega) (by rw [HSZ9.out]; omega) _ rfl ?_; intro g2 cap2 wa hra hga hoa hla; change K' (Act.put _ (some 44) _) _; have HRB := Lib.hid hra; have HGA := Lib.hid hga; have fa0 : Fr (fun i => u8.ownBlock = some i) _ wa := Fr.of_grown hga (fun i e => e); have s1 := fa0.cell (p := ⟨b, off + p * 5 + 1, none⟩) (fun e => by have := hvo _ e; have e2 : (⟨b, off + p * 5 + 1, none⟩ : Addr).block = b := rfl; omega) r1; have s2 := fa0.cell (p := ⟨b, off + p * 5 + 2, none⟩) (fun e => by have := hvo _ e; have e2 : (⟨b, off + p * 5 + 2, none⟩ : Addr).block = b := rfl; omega) r2; have s4 := fa0.cell (p := ⟨b, off + p * 5 + 4, none⟩) (fun e => by have := hvo _ e; have e2 : (⟨b, off + p * 5 + 4, none⟩ : Addr).block = b := rfl; omega) r4; clear hra hga hoa fa0)
      refine hK'.out _ _ ?_ (fun hHeld => ?_)
      · exact ⟨by assumption, by assumption, by assumption⟩
      clear hK' K'
      try dsimp only at hHeld
      try simp only [Act.put, List.setIfInBounds_toArray, List.set_cons_zero, List.set_cons_succ]
      refine held_yes (i := 15) (some 8) (v := ?_) rfl rfl (by kernel_rfl) (by kernel_rfl) (by kernel_rfl) (fun _ _ _ h => h) (by rfl) ?_ hHeld ?_
      rotate_left
      · (intro w hSw; (try dsimp only at hSw); go_simp; all_goals with_reducible rfl)
      try simp only [Act.put, List.setIfInBounds_toArray, List.set_cons_zero, List.set_cons_succ]
      refine wpAnyH_done (by kernel_rfl) ?_ _
      have fa : Fr (fun i => u8.ownBlock = some i) _ wa := Fr.of_grown HGA.out (fun i e => e)
      have Ba := Lib.hid (Fr.upB B9.out fa (fun i e => by have := hvo i e; omega))
      have RB : Hid (EnRow wa w2.heap.size (.slice (some ⟨g2, 0, none⟩) (R.length + 1) cap2) (R ++ [(⟨k, hlt⟩, (yr, yd), yv)])) := by
        rw [Hid]
        unfold EnRow
        have e1 : flat encEn (R ++ [(⟨k, hlt⟩, (yr, yd), yv)]) = flat encEn R ++ [.int .i64 (k : Int), .int .i64 yr, .int .i64 yd, .string yv] := by unfold flat; rw [List.flatMap_append]; rfl
        rw [e1, List.length_append]
        exact HRB.out
      clear HRB HGA fa ROW9 B9 HSZ9
      go_wp2_with fail
      go_roundg (4096 - (k + 1))
      case measure => omega
      case rel => exact ⟨k + 1, _, by omega, rfl, by go_num, HRA2.out, RB.out, Ba.out⟩
end Go.Proofs.YthkdmpalhdifbaaGreatDoor
