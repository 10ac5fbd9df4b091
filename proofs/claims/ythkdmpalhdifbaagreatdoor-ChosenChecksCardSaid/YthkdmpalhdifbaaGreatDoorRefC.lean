/- The reference's Check. -/
import Derived.Test.YthkdmpalhdifbaaGreatDoorRefA
set_option linter.unusedVariables false
set_option linter.unusedSimpArgs false
namespace Go.Proofs.YthkdmpalhdifbaaGreatDoor
open Go.RowKit Go.Maps Go.Shelf

def chkV (o : Option Nat) : Value := match o with
  | none => .tuple #[.int .i64 0, .int .i64 0]
  | some i => .tuple #[.int .i64 (i : Int), .int .i64 2]
set_option maxRecDepth 100000 in
set_option maxHeartbeats 4000000 in
theorem rcheck_yes (n : Nat) (v : Value) (L : List Vt) (w : World) (h : VotesIn w v L) (hn : 1 ≤ n ∧ n ≤ 7) :
    Calls Tryz.prog 16 #[v, .int .i64 (n : Int)] w fun e w' => e = .returned (chkV (fbad n [] 0 L)) ∧ Below w.heap.size w w' := by
  obtain ⟨A0, cap0, rfl, hcap0, hmax0, hc⟩ := h
  have HC := Lib.hid hc
  have hml : cap0 ≤ 9223372036854775807 := by unfold maxLen at hmax0; omega
  have h1 : decide ((n : Int) < 1) = false := by rw [decide_eq_false_iff_not]; omega
  have h2 : decide ((n : Int) > 7) = false := by rw [decide_eq_false_iff_not]; omega
  have h1' : decide (n < 1) = false := by rw [decide_eq_false_iff_not]; omega
  have h2' : decide (7 < n) = false := by rw [decide_eq_false_iff_not]; omega
  have h3' : ¬ n = 0 := by omega
  clear hc hmax0
  go_enter Tryz.func16, Tryz.ntmps16
  go_wp2_with fail
  go_loopg [6] L.length (fun g c wr => ∃ i, i ≤ L.length ∧ g = L.length - i ∧ c = .int .i64 i ∧ fbad n [] 0 L = fbad n (L.take i) i (L.drop i) ∧ Below w.heap.size w wr)
  case atStart => exact ⟨0, by omega, by omega, rfl, rfl, Below.refl _ _⟩
  case round =>
    obtain ⟨i, hi, rfl, rfl, hfb, hB⟩ := hrel
    obtain ⟨wo, rfl⟩ : ∃ wo : World, wo = wr := ⟨_, rfl⟩
    have FB := Lib.hid hfb
    have B := Lib.hid hB
    clear hfb hB
    by_cases hlt : i < L.length
    case neg =>
      have e : i = L.length := by omega
      have HR : Hid (fbad n [] 0 L = none) := by rw [Hid, FB.out, e, List.drop_length]; rfl
      subst e
      go_wp2_with fail
      go_returns
      rw [HR.out]
      exact ⟨rfl, B.out⟩
    case pos =>
    obtain ⟨b, off, rfl, hb, hcells⟩ := HC.out (by omega)
    obtain ⟨⟨nd, r, d, sl, xv⟩, hx⟩ : ∃ x, L[i]? = some x := ⟨_, List.getElem?_eq_getElem hlt⟩
    have hfd := fbad_drop (n := n) hx
    obtain ⟨q0, q1, q2, q3, q4⟩ := hcells i _ hx
    simp only at q0 q1 q2 q3 q4
    have HCC := Lib.hid hcells
    have HFD := Lib.hid hfd
    have q0 := bcell B.out q0
    have q1 := bcell B.out q1
    have q2 := bcell B.out q2
    have q3 := bcell B.out q3
    have q4 := bcell B.out q4
    obtain ⟨al, hal⟩ : ∃ al, aloneB ⟨nd, r, d, sl, xv⟩ n = al := ⟨_, rfl⟩
    have HAL := Lib.hid hal
    have HX := Lib.hid hx
    clear hx hfd hcells hal
    cases al with
    | false =>
      have HR : Hid (fbad n [] 0 L = some i) := by
        rw [Hid, FB.out, HFD.out, if_neg]
        intro hf
        rw [hf.1] at HAL
        exact absurd HAL.out (by decide)
      go_wp2_with (go_at_call 43; refine (ralone_any nd r d sl xv n _).mono ?_; rw [ral_eq _ hn, HAL.out]; rintro e w2 ⟨rfl, b2⟩; have B2 := Lib.hid (bchain B.out b2); clear b2)
      go_returns
      rw [HR.out]
      exact ⟨rfl, B2.out⟩
    | true =>
      go_upto_region 8 with (go_at_call 43; refine (ralone_any nd r d sl xv n _).mono ?_; rw [ral_eq _ hn, HAL.out]; rintro e w2 ⟨rfl, b2⟩; have B2 := Lib.hid (bchain B.out b2); clear b2)
      clear q0 q1 q2 q3 q4
      go_wp2_with fail
      go_loopg [7] i (fun g c wr => ∃ k, k ≤ i ∧ g = i - k ∧ c = .int .i64 k ∧ (∀ y ∈ L.take k, Fit y ⟨nd, r, d, sl, xv⟩) ∧ Below w.heap.size w wr)
      case atStart => exact ⟨0, by omega, by omega, rfl, by simp, B2.out⟩
      case round =>
        obtain ⟨k, hk, rfl, rfl, hfit, hB⟩ := hrel
        have FT := Lib.hid hfit
        have B3 := Lib.hid hB
        clear hfit hB B B2
        by_cases hki : k < i
        case neg =>
          have e : k = i := by omega
          have HF : Hid (fbad n [] 0 L = fbad n (L.take (i + 1)) (i + 1) (L.drop (i + 1))) := by
            rw [Hid, FB.out, HFD.out, if_pos ⟨HAL.out, by rw [← e]; exact FT.out⟩]
          subst e
          go_wp2_with fail
          go_roundg (L.length - (k + 1))
          case measure => omega
          case rel => exact ⟨k + 1, by omega, rfl, by go_num, HF.out, B3.out⟩
        case pos =>
        have hbad : ∀ y, L[k]? = some y → ¬ Fit y ⟨nd, r, d, sl, xv⟩ → fbad n [] 0 L = some i := fun y hy hf => by
          rw [FB.out, HFD.out, if_neg]
          intro h
          refine hf (h.2 y ?_)
          exact (List.mem_take_iff_getElem.2 ⟨k, by omega, by rw [List.getElem?_eq_getElem (by omega)] at hy; exact Option.some.inj hy⟩ : y ∈ L.take i)
        obtain ⟨⟨ynd, yr, yd, ysl, yv⟩, hy⟩ : ∃ y, L[k]? = some y := ⟨_, List.getElem?_eq_getElem (by omega)⟩
        have HBAD := Lib.hid (hbad _ hy)
        obtain ⟨p0, p1, p2, p3, p4⟩ := HCC.out k _ hy
        obtain ⟨q0, q1, q2, q3, q4⟩ := HCC.out i _ HX.out
        simp only at p0 p1 p2 p3 p4 q0 q1 q2 q3 q4
        have p0 := bcell B3.out p0
        have p1 := bcell B3.out p1
        have p2 := bcell B3.out p2
        have p3 := bcell B3.out p3
        have p4 := bcell B3.out p4
        have q0 := bcell B3.out q0
        have q1 := bcell B3.out q1
        have q2 := bcell B3.out q2
        have q3 := bcell B3.out q3
        have q4 := bcell B3.out q4
        have HY := Lib.hid hy
        have hil : i < L.length := hlt
        have hkl : k < L.length := by omega
        clear hbad hy
        go_upto_region 11 with fail
        go_region_held3 (fun W => W.cell? ⟨b, off + i * 5 + 3, none⟩ = some (.int .i64 sl) ∧ W.cell? ⟨b, off + k * 5 + 3, none⟩ = some (.int .i64 ysl))
          (first | exact ⟨by assumption, by assumption⟩ | go_keep)
          (first | fail)
        cases hs : (ysl != sl) with
        | true =>
          have FT2 : Hid (∀ y ∈ L.take (k + 1), Fit y ⟨nd, r, d, sl, xv⟩) := fun y hy => by
            rcases (mem_takeS HY.out).1 hy with hy | rfl
            · exact FT.out y hy
            · intro e
              simp only at e
              rw [e] at hs
              simp at hs
          go_wp2_with fail
          go_roundg (i - (k + 1))
          case measure => omega
          case rel => exact ⟨k + 1, by omega, rfl, by go_num, FT2.out, B3.out.drew⟩
        | false =>
          have HS : Hid (ysl = sl) := by simpa [Hid] using hs
          go_upto_region 12 with fail
          have B4 := Lib.hid B3.out.drew
          obtain ⟨q, hq⟩ : ∃ q, (yr == r && yd == d) = q := ⟨_, rfl⟩
          have hEz : ∀ w : World, (Op.equalIn 10000 24 (.agg #[.int .i64 yr, .int .i64 yd]) (.agg #[.int .i64 r, .int .i64 d])).run Tryz.prog w = .ok q w := fun w => by rw [eqBal, hq]
          have hGq := eqGBal
          obtain ⟨ve, hve⟩ : ∃ ve, (yv.toList == xv.toList) = ve := ⟨_, rfl⟩
          have HQ := Lib.hid hq
          have HVE := Lib.hid hve
          clear hq
          go_cut [67] (fun c wx => c = .bool (q && !ve) ∧ Below wr.heap.size wr wx)
          case first =>
            cases q with
            | false =>
              refine wp_region_held_drew (S := (fun W => W.cell? ⟨b, off + i * 5 + 1, none⟩ = some (.int .i64 r) ∧ W.cell? ⟨b, off + i * 5 + 2, none⟩ = some (.int .i64 d) ∧ W.cell? ⟨b, off + k * 5 + 1, none⟩ = some (.int .i64 yr) ∧ W.cell? ⟨b, off + k * 5 + 2, none⟩ = some (.int .i64 yd))) (by kernel_rfl) ?_ (fun hHeld => ?_)
              · exact ⟨by assumption, by assumption, by assumption, by assumption⟩
              try dsimp only at hHeld
              refine held_yes (i := 0) (some 44) (v := ?_) rfl rfl (by kernel_rfl) (by kernel_rfl) (by kernel_rfl) (fun _ _ _ h => h) (by rfl) ?_ hHeld ?_
              rotate_left
              · (intro w hSw; (try dsimp only at hSw); go_simp; all_goals with_reducible rfl)
              try simp only [Act.put, List.setIfInBounds_toArray, List.set_cons_zero, List.set_cons_succ]
              refine held_yes (i := 1) (some 45) (v := ?_) rfl rfl (by kernel_rfl) (by kernel_rfl) (by kernel_rfl) (fun _ _ _ h => h) (by rfl) ?_ hHeld ?_
              rotate_left
              · (intro w hSw; (try dsimp only at hSw); go_simp; all_goals with_reducible rfl)
              try simp only [Act.put, List.setIfInBounds_toArray, List.set_cons_zero, List.set_cons_succ]
              refine held_yes (i := 2) (some 46) (v := ?_) rfl rfl (by kernel_rfl) (by kernel_rfl) (by kernel_rfl) (fun _ _ _ h => h) (by rfl) ?_ hHeld ?_
              rotate_left
              · (intro w hSw; (try dsimp only at hSw); go_simp; all_goals with_reducible rfl)
              try simp only [Act.put, List.setIfInBounds_toArray, List.set_cons_zero, List.set_cons_succ]
              refine held_yes (i := 3) (some 47) (v := ?_) rfl rfl (by kernel_rfl) (by kernel_rfl) (by kernel_rfl) (fun _ _ _ h => h) (by rfl) ?_ hHeld ?_
              rotate_left
              · (intro w hSw; (try dsimp only at hSw); go_simp; all_goals with_reducible rfl)
              try simp only [Act.put, List.setIfInBounds_toArray, List.set_cons_zero, List.set_cons_succ]
              refine held_yes (i := 4) (some 48) (v := ?_) rfl rfl (by kernel_rfl) (by kernel_rfl) (by kernel_rfl) (fun _ _ _ h => h) (by rfl) ?_ hHeld ?_
              rotate_left
              · (intro w hSw; (try dsimp only at hSw); go_simp; all_goals with_reducible rfl)
              try simp only [Act.put, List.setIfInBounds_toArray, List.set_cons_zero, List.set_cons_succ]
              refine held_yes (i := 5) (some 49) (v := ?_) rfl rfl (by kernel_rfl) (by kernel_rfl) (by kernel_rfl) (fun _ _ _ h => h) (by rfl) ?_ hHeld ?_
              rotate_left
              · (intro w hSw; (try dsimp only at hSw); go_simp; all_goals with_reducible rfl)
              try simp only [Act.put, List.setIfInBounds_toArray, List.set_cons_zero, List.set_cons_succ]
              refine held_yes (i := 6) (some 50) (v := ?_) rfl rfl (by kernel_rfl) (by kernel_rfl) (by kernel_rfl) (fun _ _ _ h => h) (by rfl) ?_ hHeld ?_
              rotate_left
              · (intro w hSw; (try dsimp only at hSw); go_simp; all_goals with_reducible rfl)
              try simp only [Act.put, List.setIfInBounds_toArray, List.set_cons_zero, List.set_cons_succ]
              refine held_yes (i := 7) (some 51) (v := ?_) rfl rfl (by kernel_rfl) (by kernel_rfl) (by kernel_rfl) (fun _ _ _ h => h) (by rfl) ?_ hHeld ?_
              rotate_left
              · (intro w hSw; (try dsimp only at hSw); go_simp; all_goals with_reducible rfl)
              try simp only [Act.put, List.setIfInBounds_toArray, List.set_cons_zero, List.set_cons_succ]
              refine held_yes (i := 8) (some 52) (v := ?_) rfl rfl (by kernel_rfl) (by kernel_rfl) (by kernel_rfl) (fun _ _ _ h => h) (by rfl) ?_ hHeld ?_
              rotate_left
              · (intro w hSw; (try dsimp only at hSw); go_simp; all_goals with_reducible rfl)
              try simp only [Act.put, List.setIfInBounds_toArray, List.set_cons_zero, List.set_cons_succ]
              refine held_yes (i := 9) (some 53) (v := ?_) rfl rfl (by kernel_rfl) (by kernel_rfl) (by kernel_rfl) (fun _ _ _ h => h) (by rfl) ?_ hHeld ?_
              rotate_left
              · (intro w hSw; (try dsimp only at hSw); go_simp; all_goals with_reducible rfl)
              try simp only [Act.put, List.setIfInBounds_toArray, List.set_cons_zero, List.set_cons_succ]
              refine held_yes (i := 10) (some 54) (v := ?_) rfl rfl (by kernel_rfl) (by kernel_rfl) (by kernel_rfl) (fun _ _ _ h => h) (by rfl) ?_ hHeld ?_
              rotate_left
              · (intro w hSw; (try dsimp only at hSw); go_simp; all_goals with_reducible rfl)
              try simp only [Act.put, List.setIfInBounds_toArray, List.set_cons_zero, List.set_cons_succ]
              refine held_yes (i := 11) (some 55) (v := ?_) rfl rfl (by kernel_rfl) (by kernel_rfl) (by kernel_rfl) (fun _ _ _ h => h) (by rfl) ?_ hHeld ?_
              rotate_left
              · (intro w hSw; (try dsimp only at hSw); go_simp; all_goals with_reducible rfl)
              try simp only [Act.put, List.setIfInBounds_toArray, List.set_cons_zero, List.set_cons_succ]
              refine held_no (i := 12) (some 56) rfl rfl (by kernel_rfl) (by kernel_rfl) (by kernel_rfl) (fun _ _ _ h => h) (wanted_t rfl rfl rfl) hHeld ?_
              try simp only [Act.put, List.setIfInBounds_toArray, List.set_cons_zero, List.set_cons_succ]
              refine held_no (i := 13) (some 57) rfl rfl (by kernel_rfl) (by kernel_rfl) (by kernel_rfl) (fun _ _ _ h => h) (wanted_t rfl rfl rfl) hHeld ?_
              try simp only [Act.put, List.setIfInBounds_toArray, List.set_cons_zero, List.set_cons_succ]
              refine held_no (i := 14) (some 58) rfl rfl (by kernel_rfl) (by kernel_rfl) (by kernel_rfl) (fun _ _ _ h => h) (wanted_t rfl rfl rfl) hHeld ?_
              try simp only [Act.put, List.setIfInBounds_toArray, List.set_cons_zero, List.set_cons_succ]
              refine held_no (i := 15) (some 59) rfl rfl (by kernel_rfl) (by kernel_rfl) (by kernel_rfl) (fun _ _ _ h => h) (wanted_t rfl rfl rfl) hHeld ?_
              try simp only [Act.put, List.setIfInBounds_toArray, List.set_cons_zero, List.set_cons_succ]
              refine held_no (i := 16) (some 60) rfl rfl (by kernel_rfl) (by kernel_rfl) (by kernel_rfl) (fun _ _ _ h => h) (wanted_t rfl rfl rfl) hHeld ?_
              try simp only [Act.put, List.setIfInBounds_toArray, List.set_cons_zero, List.set_cons_succ]
              refine held_no (i := 17) (some 61) rfl rfl (by kernel_rfl) (by kernel_rfl) (by kernel_rfl) (fun _ _ _ h => h) (wanted_t rfl rfl rfl) hHeld ?_
              try simp only [Act.put, List.setIfInBounds_toArray, List.set_cons_zero, List.set_cons_succ]
              refine held_no (i := 18) (some 62) rfl rfl (by kernel_rfl) (by kernel_rfl) (by kernel_rfl) (fun _ _ _ h => h) (wanted_t rfl rfl rfl) hHeld ?_
              try simp only [Act.put, List.setIfInBounds_toArray, List.set_cons_zero, List.set_cons_succ]
              refine held_no (i := 19) (some 63) rfl rfl (by kernel_rfl) (by kernel_rfl) (by kernel_rfl) (fun _ _ _ h => h) (wanted_t rfl rfl rfl) hHeld ?_
              try simp only [Act.put, List.setIfInBounds_toArray, List.set_cons_zero, List.set_cons_succ]
              refine held_no (i := 20) (some 64) rfl rfl (by kernel_rfl) (by kernel_rfl) (by kernel_rfl) (fun _ _ _ h => h) (wanted_t rfl rfl rfl) hHeld ?_
              try simp only [Act.put, List.setIfInBounds_toArray, List.set_cons_zero, List.set_cons_succ]
              refine held_no (i := 21) (some 65) rfl rfl (by kernel_rfl) (by kernel_rfl) (by kernel_rfl) (fun _ _ _ h => h) (wanted_t rfl rfl rfl) hHeld ?_
              try simp only [Act.put, List.setIfInBounds_toArray, List.set_cons_zero, List.set_cons_succ]
              refine held_no (i := 22) (some 66) rfl rfl (by kernel_rfl) (by kernel_rfl) (by kernel_rfl) (fun _ _ _ h => h) (wanted_t rfl rfl rfl) hHeld ?_
              try simp only [Act.put, List.setIfInBounds_toArray, List.set_cons_zero, List.set_cons_succ]
              refine held_yes (i := 23) (some 67) (v := ?_) rfl rfl (by kernel_rfl) (by kernel_rfl) (by kernel_rfl) (fun _ _ _ h => h) (by rfl) ?_ hHeld ?_
              rotate_left
              · (intro w hSw; (try dsimp only at hSw); go_simp; all_goals with_reducible rfl)
              try simp only [Act.put, List.setIfInBounds_toArray, List.set_cons_zero, List.set_cons_succ]
              refine wpAnyH_done (by kernel_rfl) ?_ _
              go_wp2_with fail
              go_meet
              exact ⟨rfl, ((Below.refl _ _).drew).drew⟩
            | true =>
              go_region_held3 (fun W => W.cell? ⟨b, off + i * 5 + 1, none⟩ = some (.int .i64 r) ∧ W.cell? ⟨b, off + i * 5 + 2, none⟩ = some (.int .i64 d) ∧ W.cell? ⟨b, off + i * 5 + 4, none⟩ = some (.string xv) ∧ W.cell? ⟨b, off + k * 5 + 1, none⟩ = some (.int .i64 yr) ∧ W.cell? ⟨b, off + k * 5 + 2, none⟩ = some (.int .i64 yd) ∧ W.cell? ⟨b, off + k * 5 + 4, none⟩ = some (.string yv))
                (first | exact ⟨by assumption, by assumption, by assumption, by assumption, by assumption, by assumption⟩ | go_keep)
                (first | fail)
              go_wp2_with fail
              go_meet
              exact ⟨by simp, ((Below.refl _ _).drew).drew⟩
          case rest =>
          obtain ⟨rfl, hb5⟩ := hcut
          obtain ⟨w5, rfl⟩ : ∃ w5 : World, w5 = wc := ⟨_, rfl⟩
          have B5 := Lib.hid (bchain B3.out hb5)
          have p0 := bcell hb5 p0
          have p1 := bcell hb5 p1
          have p2 := bcell hb5 p2
          have q0 := bcell hb5 q0
          have q1 := bcell hb5 q1
          have q2 := bcell hb5 q2
          clear hb5 B4 hEz hve
          cases hqv : (q && !ve) with
          | true =>
            have HR : Hid (fbad n [] 0 L = some i) := by
              refine HBAD.out (fun hf => ?_)
              rw [Bool.and_eq_true, Bool.not_eq_true'] at hqv
              have h1 := HQ.out
              have h2 := HVE.out
              rw [hqv.1] at h1
              rw [hqv.2] at h2
              have h3 := (hf HS.out).1 (by
                simp only [Bool.and_eq_true, beq_iff_eq] at h1
                simp only [h1.1, h1.2])
              simp only at h3
              rw [h3] at h2
              simp at h2
            go_wp2_with fail
            go_returns
            rw [HR.out]
            exact ⟨rfl, B5.out⟩
          | false =>
            have HQV := Lib.hid hqv
            go_upto_region 14 with fail
            obtain ⟨ne, hne⟩ : ∃ ne, (ynd == nd) = ne := ⟨_, rfl⟩
            obtain ⟨lt, hlt3⟩ : ∃ lt, decide (ordB (r, d) (yr, yd) < 0) = lt := ⟨_, rfl⟩
            have HNE := Lib.hid hne
            have HLT := Lib.hid hlt3
            clear hlt3 hqv
            go_cut [92] (fun c wx => c = .bool (ne && lt) ∧ Below w5.heap.size w5 wx)
            case first =>
              cases ne with
              | false =>
                refine wp_region_held_drew (S := (fun W => W.cell? ⟨b, off + i * 5, none⟩ = some (.int .i64 nd) ∧ W.cell? ⟨b, off + k * 5, none⟩ = some (.int .i64 ynd))) (by kernel_rfl) ?_ (fun hHeld => ?_)
                · exact ⟨by assumption, by assumption⟩
                try dsimp only at hHeld
                refine held_yes (i := 0) (some 69) (v := ?_) rfl rfl (by kernel_rfl) (by kernel_rfl) (by kernel_rfl) (fun _ _ _ h => h) (by rfl) ?_ hHeld ?_
                rotate_left
                · (intro w hSw; (try dsimp only at hSw); go_simp; all_goals with_reducible rfl)
                try simp only [Act.put, List.setIfInBounds_toArray, List.set_cons_zero, List.set_cons_succ]
                refine held_yes (i := 1) (some 70) (v := ?_) rfl rfl (by kernel_rfl) (by kernel_rfl) (by kernel_rfl) (fun _ _ _ h => h) (by rfl) ?_ hHeld ?_
                rotate_left
                · (intro w hSw; (try dsimp only at hSw); go_simp; all_goals with_reducible rfl)
                try simp only [Act.put, List.setIfInBounds_toArray, List.set_cons_zero, List.set_cons_succ]
                refine held_yes (i := 2) (some 71) (v := ?_) rfl rfl (by kernel_rfl) (by kernel_rfl) (by kernel_rfl) (fun _ _ _ h => h) (by rfl) ?_ hHeld ?_
                rotate_left
                · (intro w hSw; (try dsimp only at hSw); go_simp; all_goals with_reducible rfl)
                try simp only [Act.put, List.setIfInBounds_toArray, List.set_cons_zero, List.set_cons_succ]
                refine held_yes (i := 3) (some 72) (v := ?_) rfl rfl (by kernel_rfl) (by kernel_rfl) (by kernel_rfl) (fun _ _ _ h => h) (by rfl) ?_ hHeld ?_
                rotate_left
                · (intro w hSw; (try dsimp only at hSw); go_simp; all_goals with_reducible rfl)
                try simp only [Act.put, List.setIfInBounds_toArray, List.set_cons_zero, List.set_cons_succ]
                refine held_yes (i := 4) (some 73) (v := ?_) rfl rfl (by kernel_rfl) (by kernel_rfl) (by kernel_rfl) (fun _ _ _ h => h) (by rfl) ?_ hHeld ?_
                rotate_left
                · (intro w hSw; (try dsimp only at hSw); go_simp; all_goals with_reducible rfl)
                try simp only [Act.put, List.setIfInBounds_toArray, List.set_cons_zero, List.set_cons_succ]
                refine held_yes (i := 5) (some 74) (v := ?_) rfl rfl (by kernel_rfl) (by kernel_rfl) (by kernel_rfl) (fun _ _ _ h => h) (by rfl) ?_ hHeld ?_
                rotate_left
                · (intro w hSw; (try dsimp only at hSw); go_simp; all_goals with_reducible rfl)
                try simp only [Act.put, List.setIfInBounds_toArray, List.set_cons_zero, List.set_cons_succ]
                refine held_yes (i := 6) (some 75) (v := ?_) rfl rfl (by kernel_rfl) (by kernel_rfl) (by kernel_rfl) (fun _ _ _ h => h) (by rfl) ?_ hHeld ?_
                rotate_left
                · (intro w hSw; (try dsimp only at hSw); go_simp; all_goals with_reducible rfl)
                try simp only [Act.put, List.setIfInBounds_toArray, List.set_cons_zero, List.set_cons_succ]
                refine held_yes (i := 7) (some 76) (v := ?_) rfl rfl (by kernel_rfl) (by kernel_rfl) (by kernel_rfl) (fun _ _ _ h => h) (by rfl) ?_ hHeld ?_
                rotate_left
                · (intro w hSw; (try dsimp only at hSw); go_simp; all_goals with_reducible rfl)
                try simp only [Act.put, List.setIfInBounds_toArray, List.set_cons_zero, List.set_cons_succ]
                refine held_yes (i := 8) (some 77) (v := ?_) rfl rfl (by kernel_rfl) (by kernel_rfl) (by kernel_rfl) (fun _ _ _ h => h) (by rfl) ?_ hHeld ?_
                rotate_left
                · (intro w hSw; (try dsimp only at hSw); go_simp; all_goals with_reducible rfl)
                try simp only [Act.put, List.setIfInBounds_toArray, List.set_cons_zero, List.set_cons_succ]
                refine held_yes (i := 9) (some 78) (v := ?_) rfl rfl (by kernel_rfl) (by kernel_rfl) (by kernel_rfl) (fun _ _ _ h => h) (by rfl) ?_ hHeld ?_
                rotate_left
                · (intro w hSw; (try dsimp only at hSw); go_simp; all_goals with_reducible rfl)
                try simp only [Act.put, List.setIfInBounds_toArray, List.set_cons_zero, List.set_cons_succ]
                refine held_yes (i := 10) (some 79) (v := ?_) rfl rfl (by kernel_rfl) (by kernel_rfl) (by kernel_rfl) (fun _ _ _ h => h) (by rfl) ?_ hHeld ?_
                rotate_left
                · (intro w hSw; (try dsimp only at hSw); go_simp; all_goals with_reducible rfl)
                try simp only [Act.put, List.setIfInBounds_toArray, List.set_cons_zero, List.set_cons_succ]
                refine held_yes (i := 11) (some 80) (v := ?_) rfl rfl (by kernel_rfl) (by kernel_rfl) (by kernel_rfl) (fun _ _ _ h => h) (by rfl) ?_ hHeld ?_
                rotate_left
                · (intro w hSw; (try dsimp only at hSw); go_simp; all_goals with_reducible rfl)
                try simp only [Act.put, List.setIfInBounds_toArray, List.set_cons_zero, List.set_cons_succ]
                refine held_no (i := 12) (some 81) rfl rfl (by kernel_rfl) (by kernel_rfl) (by kernel_rfl) (fun _ _ _ h => h) (wanted_t rfl rfl rfl) hHeld ?_
                try simp only [Act.put, List.setIfInBounds_toArray, List.set_cons_zero, List.set_cons_succ]
                refine held_no (i := 13) (some 82) rfl rfl (by kernel_rfl) (by kernel_rfl) (by kernel_rfl) (fun _ _ _ h => h) (wanted_t rfl rfl rfl) hHeld ?_
                try simp only [Act.put, List.setIfInBounds_toArray, List.set_cons_zero, List.set_cons_succ]
                refine held_no (i := 14) (some 83) rfl rfl (by kernel_rfl) (by kernel_rfl) (by kernel_rfl) (fun _ _ _ h => h) (wanted_t rfl rfl rfl) hHeld ?_
                try simp only [Act.put, List.setIfInBounds_toArray, List.set_cons_zero, List.set_cons_succ]
                refine held_no (i := 15) (some 84) rfl rfl (by kernel_rfl) (by kernel_rfl) (by kernel_rfl) (fun _ _ _ h => h) (wanted_t rfl rfl rfl) hHeld ?_
                try simp only [Act.put, List.setIfInBounds_toArray, List.set_cons_zero, List.set_cons_succ]
                refine held_no (i := 16) (some 85) rfl rfl (by kernel_rfl) (by kernel_rfl) (by kernel_rfl) (fun _ _ _ h => h) (wanted_t rfl rfl rfl) hHeld ?_
                try simp only [Act.put, List.setIfInBounds_toArray, List.set_cons_zero, List.set_cons_succ]
                refine held_no (i := 17) (some 86) rfl rfl (by kernel_rfl) (by kernel_rfl) (by kernel_rfl) (fun _ _ _ h => h) (wanted_t rfl rfl rfl) hHeld ?_
                try simp only [Act.put, List.setIfInBounds_toArray, List.set_cons_zero, List.set_cons_succ]
                refine held_no (i := 18) (some 87) rfl rfl (by kernel_rfl) (by kernel_rfl) (by kernel_rfl) (fun _ _ _ h => h) (wanted_t rfl rfl rfl) hHeld ?_
                try simp only [Act.put, List.setIfInBounds_toArray, List.set_cons_zero, List.set_cons_succ]
                refine held_no (i := 19) (some 88) rfl rfl (by kernel_rfl) (by kernel_rfl) (by kernel_rfl) (fun _ _ _ h => h) (wanted_t rfl rfl rfl) hHeld ?_
                try simp only [Act.put, List.setIfInBounds_toArray, List.set_cons_zero, List.set_cons_succ]
                refine held_no (i := 20) (some 89) rfl rfl (by kernel_rfl) (by kernel_rfl) (by kernel_rfl) (fun _ _ _ h => h) (wanted_t rfl rfl rfl) hHeld ?_
                try simp only [Act.put, List.setIfInBounds_toArray, List.set_cons_zero, List.set_cons_succ]
                refine held_no (i := 21) (some 90) rfl rfl (by kernel_rfl) (by kernel_rfl) (by kernel_rfl) (fun _ _ _ h => h) (wanted_t rfl rfl rfl) hHeld ?_
                try simp only [Act.put, List.setIfInBounds_toArray, List.set_cons_zero, List.set_cons_succ]
                refine held_no (i := 22) (some 91) rfl rfl (by kernel_rfl) (by kernel_rfl) (by kernel_rfl) (fun _ _ _ h => h) (wanted_t rfl rfl rfl) hHeld ?_
                try simp only [Act.put, List.setIfInBounds_toArray, List.set_cons_zero, List.set_cons_succ]
                refine held_yes (i := 23) (some 92) (v := ?_) rfl rfl (by kernel_rfl) (by kernel_rfl) (by kernel_rfl) (fun _ _ _ h => h) (by rfl) ?_ hHeld ?_
                rotate_left
                · (intro w hSw; (try dsimp only at hSw); go_simp; all_goals with_reducible rfl)
                try simp only [Act.put, List.setIfInBounds_toArray, List.set_cons_zero, List.set_cons_succ]
                refine wpAnyH_done (by kernel_rfl) ?_ _
                go_wp2_with fail
                go_meet
                exact ⟨rfl, (Below.refl _ _).drew⟩
              | true =>
                go_region_held3 (fun W => W.cell? ⟨b, off + i * 5, none⟩ = some (.int .i64 nd) ∧ W.cell? ⟨b, off + i * 5 + 1, none⟩ = some (.int .i64 r) ∧ W.cell? ⟨b, off + i * 5 + 2, none⟩ = some (.int .i64 d) ∧ W.cell? ⟨b, off + k * 5, none⟩ = some (.int .i64 ynd) ∧ W.cell? ⟨b, off + k * 5 + 1, none⟩ = some (.int .i64 yr) ∧ W.cell? ⟨b, off + k * 5 + 2, none⟩ = some (.int .i64 yd))
                  (first | exact ⟨by assumption, by assumption, by assumption, by assumption, by assumption, by assumption⟩ | exact ⟨bcell b7 q0, bcell b7 q1, bcell b7 q2, bcell b7 p0, bcell b7 p1, bcell b7 p2⟩ | go_keep)
                  (first | (go_at_call 44; refine (rlbelow_any _ _ _ _ _).mono ?_; rw [HLT.out]; rintro e w7 ⟨rfl, b7⟩; have B7 := Lib.hid b7))
                go_wp2_with fail
                go_meet
                exact ⟨by simp, bchain ((Below.refl _ _).drew) B7.out⟩
            case rest =>
            obtain ⟨rfl, hb6⟩ := hcut
            obtain ⟨w6, rfl⟩ : ∃ w6 : World, w6 = wc := ⟨_, rfl⟩
            have B6 := Lib.hid (bchain B5.out hb6)
            clear hb6 hne p0 p1 p2 q0 q1 q2
            cases hnl : (ne && lt) with
            | true =>
              have HR : Hid (fbad n [] 0 L = some i) := by
                refine HBAD.out (fun hf => ?_)
                rw [Bool.and_eq_true] at hnl
                have h1 := HNE.out
                have h2 := HLT.out
                rw [hnl.1] at h1
                rw [hnl.2] at h2
                exact (hf HS.out).2 (eq_of_beq h1) (of_decide_eq_true h2)
              go_wp2_with fail
              go_returns
              rw [HR.out]
              exact ⟨rfl, B6.out⟩
            | false =>
              have FT2 : Hid (∀ y ∈ L.take (k + 1), Fit y ⟨nd, r, d, sl, xv⟩) := fun y hy => by
                rcases (mem_takeS HY.out).1 hy with hy | rfl
                · exact FT.out y hy
                · intro _
                  have h1 := HQV.out
                  refine ⟨fun e => ?_, fun e hl => ?_⟩
                  · simp only [Prod.mk.injEq] at e
                    have h2 := HQ.out
                    rw [e.1, e.2] at h2
                    simp only [beq_self_eq_true, Bool.and_self] at h2
                    rw [← h2, Bool.true_and, Bool.not_eq_false'] at h1
                    have h3 := HVE.out
                    rw [h1] at h3
                    exact toList_inj (eq_of_beq h3)
                  · simp only at e
                    have h2 := HNE.out
                    rw [e] at h2
                    simp only [beq_self_eq_true] at h2
                    rw [← h2, ← HLT.out, Bool.true_and] at hnl
                    exact of_decide_eq_false hnl hl
              go_wp2_with fail
              go_roundg (i - (k + 1))
              case measure => omega
              case rel => exact ⟨k + 1, by omega, rfl, by go_num, FT2.out, B6.out⟩
end Go.Proofs.YthkdmpalhdifbaaGreatDoor
