/- The walk of skaldlaw13.LearnStays: it returns true, and writes nothing that was there. -/
import Derived.Test.YtnnadpbfidfhoaaLearnP
import Derived.OpenShut
import Derived.Deep.DeepCutAuto
import Derived.Deep.CutBlock
import Derived.Deep.LoopGhost
import Derived.Deep.RegionHeld3
set_option linter.unusedVariables false
set_option linter.unusedSimpArgs false
namespace Go.Proofs.Ytnnadpbfidfhoaa.learnStays
open Go.RowKit Go.Shelf
theorem remN (y n a : Nat) (h : (y : Int) % (n : Int) = (a : Int)) : (y : Int).tmod (n : Int) = (a : Int) := by rw [Int.tmod_eq_emod_of_nonneg (by omega)]; exact h
set_option maxRecDepth 100000 in
set_option maxHeartbeats 20000000 in
theorem walk (x : Int) (voted : Bool) (v2 : Value) (L : List (Nat × Nat)) (w : World) (w0 : (Lit.int .u8 x).wf = true) (hL : PairsIn w v2 L) :
    Calls Try.prog 5 #[.int .u8 x, .bool voted, v2] w fun e w' => e = .returned (.bool true) ∧ Below w.heap.size w w' := by
  obtain ⟨x, hx256, rfl⟩ := u8_nat w0
  obtain ⟨A0, cap0, rfl, hcap0, hmax0, hin, hc⟩ := hL
  have HC := Lib.hid hc
  have HIN := Lib.hid hin
  have hml : cap0 ≤ 9223372036854775807 := by unfold maxLen at hmax0; omega
  clear hc hin hmax0 w0
  obtain ⟨n, hn⟩ : ∃ n : Nat, n = 1 + x % 7 := ⟨_, rfl⟩
  have hn7 : 1 ≤ n ∧ n ≤ 7 := by omega
  have hxn : (1 : Int) + (x : Int) % 7 = (n : Int) := by omega
  clear hn
  go_enter Try.func5, Try.ntmps5
  go_upto_if 35 with (first
    | (go_at_call 11; refine (lnew_S n _ hn7).mono ?_; rintro e w1 ⟨p, m, rfl, t1, hp, hm, b1⟩; have T1 := Lib.hid t1; have B1 := Lib.hid b1; clear t1 b1))
  go_cut [] (fun wx => ∃ e : Kn, LS wx p m ⟨n, 0, [(3, e)]⟩ ∧ Cho e (if voted = true then 8 else 0) ∧ Below w.heap.size w wx)
  case first =>
    cases voted with
    | true =>
      go_wp2_with fail
      go_loopg [37] n (fun g c wr => ∃ (i : Nat) (K : KL), i ≤ n ∧ g = n - i ∧ c = .int .i64 i ∧ LS wr p m ⟨n, 0, K⟩ ∧ Vot n i K ∧ Below w.heap.size w wr)
      case atStart => exact ⟨0, [], by omega, by omega, rfl, T1.out, .inl ⟨rfl, rfl⟩, B1.out⟩
      case round =>
        obtain ⟨i, K, hi, rfl, rfl, ht, hv, hB⟩ := hrel
        have T := Lib.hid ht
        have V := Lib.hid hv
        clear ht hv
        by_cases hlt : i < n
        · have hlt' : (i : Int) < (n : Int) := by omega
          obtain ⟨bo, K2, hR, hV2⟩ := V.out.step hn7 hlt
          have HR := Lib.hid hR
          have HV2 := Lib.hid hV2
          clear hR hV2
          go_wp2_with (first
            | (go_at_call 12; refine (add_S p m ⟨n, 0, K⟩ i 8 0 3 gd _ T.out).mono ?_; rw [HR.out]; rintro e w2 ⟨rfl, t2, f2⟩; have T2 := Lib.hid t2; have B2 := Lib.hid (Fr.upB hB f2 (fun i e => by rcases e with e | e <;> omega)); clear t2 f2))
          go_roundg (n - (i + 1))
          case measure => omega
          case rel => exact ⟨i + 1, K2, by omega, rfl, by go_num, T2.out, HV2.out, B2.out⟩
        · have e : n = i := by omega
          subst e
          obtain ⟨e, rfl, hcho⟩ := V.out.fin hn7
          have HCH := Lib.hid hcho
          clear hlt hcho hi
          go_wp2_with fail
          go_meet
          exact ⟨e, T.out, HCH.out, hB⟩
    | false =>
      go_wp2_with (first
        | (go_at_call 17; refine (learn_S p m ⟨n, 0, []⟩ 3 gd _ T1.out).mono ?_; rw [show lnE ⟨n, 0, []⟩ 3 gd = 0 from rfl, show lnS ⟨n, 0, []⟩ 3 gd = ⟨n, 0, [(3, ⟨true, gd, 0, 0, ⟨#[]⟩, 0⟩)]⟩ from rfl]; rintro e w2 ⟨rfl, t2, f2⟩; have T2 := Lib.hid t2; have B2 := Lib.hid (Fr.upB B1.out f2 (fun i e => by rcases e with e | e <;> omega)); clear t2 f2))
      go_meet
      exact ⟨_, T2.out, ⟨rfl, rfl, rfl, rfl, fun h => absurd h (by decide)⟩, B2.out⟩
  case rest =>
    obtain ⟨e0, t3, ch3, b3⟩ := hcut
    obtain ⟨w3, rfl⟩ : ∃ w3 : World, w3 = wc := ⟨_, rfl⟩
    have T3 := Lib.hid t3
    have C3 := Lib.hid ch3
    have B3 := Lib.hid b3
    clear t3 ch3 b3 T1 B1
    go_upto_if 53 with fail
    go_cut [13] (fun v wx => v = .int .i64 (if voted = true then 8 else 0) ∧ w3 = wx)
    case first =>
      cases voted with
      | true =>
        go_wp2_with fail
        go_meet
        exact ⟨rfl, rfl⟩
      | false =>
        go_wp2_with fail
        go_meet
        exact ⟨rfl, rfl⟩
    case rest =>
      obtain ⟨rfl, rfl⟩ := hcut
      have hg0 : (0 : Int) ≤ (if voted = true then 8 else 0) ∧ (if voted = true then (8 : Int) else 0) ≤ 16 := by split <;> omega
      generalize (if voted = true then (8 : Int) else 0) = g0 at *
      obtain ⟨N, hN⟩ : ∃ N : Nat, N = min L.length 40 := ⟨_, rfl⟩
      have hN1 : N ≤ L.length ∧ N ≤ 40 := by omega
      have hN2 : min (L.length : Int) 40 = (N : Int) := by omega
      clear hN
      go_wp2_with fail
      go_loopg [13, 60] N (fun g v c wr => ∃ (i : Nat) (e : Kn) (gg : Int), i ≤ N ∧ g = N - i ∧ v = .int .i64 gg ∧ (0 ≤ gg ∧ gg ≤ 16) ∧ c = .int .i64 i ∧ LS wr p m ⟨n, 0, [(3, e)]⟩ ∧ Cho e gg ∧ Below w.heap.size w wr)
      case atStart => exact ⟨0, e0, g0, by omega, by omega, rfl, hg0, rfl, T3.out, C3.out, B3.out⟩
      case round =>
        clear T3 C3 B3 hg0
        obtain ⟨i, e, gg, hi, rfl, rfl, hgg, rfl, ht, hch, hB⟩ := hrel
        have T := Lib.hid ht
        have CH := Lib.hid hch
        clear ht hch
        by_cases hlt : i < N
        · have hlt' : (i : Int) < (N : Int) := by omega
          obtain ⟨b, off, rfl, hb, hcells⟩ := HC.out (by omega)
          obtain ⟨⟨x2, y⟩, hs⟩ : ∃ s, L[i]? = some s := ⟨_, List.getElem?_eq_getElem (by omega)⟩
          obtain ⟨q0, q1⟩ := hcells i _ hs
          obtain ⟨ix, iy⟩ := HIN.out _ (List.mem_of_getElem? hs)
          simp only at q0 q1 ix iy
          have d0 := bcell hB q0
          have d1 := bcell hB q1
          clear q0 q1 hs hcells
          go_upto_region 21 with fail
          have bw := box_below wr (.cells #[.int .u8 (x2 : Int), .int .u8 (y : Int)] 43)
          have KA := Lib.hid (Blk.new wr 43 #[.int .u8 (x2 : Int), .int .u8 (y : Int)])
          have T1 := Lib.hid (T.out.below bw)
          have B1 := Lib.hid (hB.trans (bw.mono hB.size))
          generalize (wr.alloc (.cells #[.int .u8 (x2 : Int), .int .u8 (y : Int)] 43)) = W1 at *
          obtain ⟨b8, hb8⟩ : ∃ b8, b8 = wr.heap.size := ⟨_, rfl⟩
          rw [← hb8] at KA ⊢
          clear hb8 bw T hB d0 d1
          have y0 := KA.out.cell (i := 0) (v := .int .u8 (x2 : Int)) rfl
          have y1 := KA.out.cell (i := 1) (v := .int .u8 (y : Int)) rfl
          obtain ⟨r, hr⟩ : ∃ r : Nat, r = 1 + x2 % 16 := ⟨_, rfl⟩
          have hr1 : (1 : Int) + (x2 : Int) % 16 = (r : Int) := by omega
          have hr16 : (1 : Int) ≤ (r : Int) ∧ (r : Int) ≤ 16 := by omega
          obtain ⟨a, ha⟩ : ∃ a : Nat, a = y % n := ⟨_, rfl⟩
          have han : a < n := by rw [ha]; exact Nat.mod_lt _ (by omega)
          have hm2 : (y : Int) % (n : Int) = (a : Int) := by rw [ha]; exact (Int.natCast_emod y n).symm
          have HR1 := Lib.hid hr1
          have HM2 := Lib.hid hm2
          have hnn : n = 1 ∨ n = 2 ∨ n = 3 ∨ n = 4 ∨ n = 5 ∨ n = 6 ∨ n = 7 := by omega
          clear ha hr hr1 hm2
          go_cut [16, 17] (fun u v wx => u = .int .i64 (r : Int) ∧ v = .int .i64 (a : Int) ∧ W1.drew = wx)
          case first =>
            rcases hnn with rfl | rfl | rfl | rfl | rfl | rfl | rfl
            · as_aux_lemma =>
                go_region_held3 (fun W => W.cell? ⟨b8, 0, none⟩ = some (.int .u8 (x2 : Int)) ∧ W.cell? ⟨b8, 1, none⟩ = some (.int .u8 (y : Int)))
                  (first | exact ⟨by assumption, by assumption⟩ | go_keep)
                  (first | fail)
                go_wp2_with fail
                go_meet
                exact ⟨by rw [wx16 x2 ix, HR1.out], by rw [rm1 y, HM2.out], rfl⟩
            · as_aux_lemma =>
                go_region_held3 (fun W => W.cell? ⟨b8, 0, none⟩ = some (.int .u8 (x2 : Int)) ∧ W.cell? ⟨b8, 1, none⟩ = some (.int .u8 (y : Int)))
                  (first | exact ⟨by assumption, by assumption⟩ | go_keep)
                  (first | fail)
                go_wp2_with fail
                go_meet
                exact ⟨by rw [wx16 x2 ix, HR1.out], by rw [wy64 y iy, rm2 y, HM2.out], rfl⟩
            · as_aux_lemma =>
                go_region_held3 (fun W => W.cell? ⟨b8, 0, none⟩ = some (.int .u8 (x2 : Int)) ∧ W.cell? ⟨b8, 1, none⟩ = some (.int .u8 (y : Int)))
                  (first | exact ⟨by assumption, by assumption⟩ | go_keep)
                  (first | fail)
                go_wp2_with fail
                go_meet
                exact ⟨by rw [wx16 x2 ix, HR1.out], by rw [wy64 y iy, rm3 y, HM2.out], rfl⟩
            · as_aux_lemma =>
                go_region_held3 (fun W => W.cell? ⟨b8, 0, none⟩ = some (.int .u8 (x2 : Int)) ∧ W.cell? ⟨b8, 1, none⟩ = some (.int .u8 (y : Int)))
                  (first | exact ⟨by assumption, by assumption⟩ | go_keep)
                  (first | fail)
                go_wp2_with fail
                go_meet
                exact ⟨by rw [wx16 x2 ix, HR1.out], by rw [wy64 y iy, rm4 y, HM2.out], rfl⟩
            · as_aux_lemma =>
                go_region_held3 (fun W => W.cell? ⟨b8, 0, none⟩ = some (.int .u8 (x2 : Int)) ∧ W.cell? ⟨b8, 1, none⟩ = some (.int .u8 (y : Int)))
                  (first | exact ⟨by assumption, by assumption⟩ | go_keep)
                  (first | fail)
                go_wp2_with fail
                go_meet
                exact ⟨by rw [wx16 x2 ix, HR1.out], by rw [wy64 y iy, rm5 y, HM2.out], rfl⟩
            · as_aux_lemma =>
                go_region_held3 (fun W => W.cell? ⟨b8, 0, none⟩ = some (.int .u8 (x2 : Int)) ∧ W.cell? ⟨b8, 1, none⟩ = some (.int .u8 (y : Int)))
                  (first | exact ⟨by assumption, by assumption⟩ | go_keep)
                  (first | fail)
                go_wp2_with fail
                go_meet
                exact ⟨by rw [wx16 x2 ix, HR1.out], by rw [wy64 y iy, rm6 y, HM2.out], rfl⟩
            · as_aux_lemma =>
                go_region_held3 (fun W => W.cell? ⟨b8, 0, none⟩ = some (.int .u8 (x2 : Int)) ∧ W.cell? ⟨b8, 1, none⟩ = some (.int .u8 (y : Int)))
                  (first | exact ⟨by assumption, by assumption⟩ | go_keep)
                  (first | fail)
                go_wp2_with fail
                go_meet
                exact ⟨by rw [wx16 x2 ix, HR1.out], by rw [wy64 y iy, rm7 y, HM2.out], rfl⟩
          case rest =>
            obtain ⟨rfl, rfl, rfl⟩ := hcut
            clear hnn HR1 HM2
            have y1' : W1.drew.cell? ⟨b8, 1, none⟩ = some (.int .u8 (y : Int)) := y1
            have T2 := Lib.hid T1.out.drew
            have B2 := Lib.hid B1.out.drew
            clear y0 y1 KA T1 B1
            generalize W1.drew = W2 at *
            by_cases hy : y < 128
            · have hy' : decide ((y : Int) ≥ 128) = false := by simp; omega
              clear hy
              by_cases ho : (r : Int) < gg
              · have ho' : decide ((r : Int) < gg) = true := by simpa using ho
                have HR := Lib.hid (stay_old (n := n) CH.out hn7 han hr16 gd (by decide) ho)
                have C5 := CH
                have TOK : True := trivial
                clear ho
                as_aux_lemma =>
                  go_wp2_with (first
                    | (go_at_call 12; refine (add_S p m ⟨n, 0, [(3, e)]⟩ a r 0 3 gd _ T2.out).mono ?_; rw [HR.out]; rintro e1 w5 ⟨rfl, t5, f5⟩; have T5 := Lib.hid t5; have B5 := Lib.hid (Fr.upB B2.out f5 (fun i e => by rcases e with e | e <;> omega)); clear t5 f5)
                    | (go_at_call 13; refine (chosen_S p m ⟨n, 0, [(3, e)]⟩ 3 _ T5.out ⟨by decide, by decide⟩).mono ?_; rw [kget1, C5.out.c, C5.out.v]; rintro e1 w6 ⟨rfl, b6⟩; have T6 := Lib.hid (T5.out.below b6); have B6 := Lib.hid (bchain B5.out b6); clear b6)
                      | (go_at_call 17; have _t := TOK; refine (learn_S p m ⟨n, 0, [(3, e)]⟩ 3 bd _ T6.out).mono ?_; rw [(stay_lbad C5.out).1, (stay_lbad C5.out).2]; rintro e1 w7 ⟨rfl, t7, f7⟩; have T7 := Lib.hid t7; have B7 := Lib.hid (Fr.upB B6.out f7 (fun i e => by rcases e with e | e <;> omega)); clear t7 f7 TOK)
                      | (go_at_call 17; refine (learn_S p m ⟨n, 0, [(3, e)]⟩ 3 gd _ T7.out).mono ?_; rw [(stay_lgood C5.out).1, (stay_lgood C5.out).2]; rintro e1 w8 ⟨rfl, t8, f8⟩; have T8 := Lib.hid t8; have B8 := Lib.hid (Fr.upB B7.out f8 (fun i e => by rcases e with e | e <;> omega)); clear t8 f8)
                      | (go_at_call 15; refine (open_S p m ⟨n, 0, [(3, e)]⟩ _ T8.out).mono ?_; rw [stay_opn C5.out]; rintro e1 w9 ⟨v9, rfl, r9, b9⟩; obtain ⟨A9, k9, hv9, _, _⟩ := r9.view; simp only [List.length_nil] at hv9; subst hv9; have T9 := Lib.hid (T8.out.below b9); have B9 := Lib.hid (bchain B8.out b9); clear r9 b9))
                  go_roundg (N - (i + 1))
                  case measure => omega
                  case rel => exact ⟨i + 1, e, gg, by omega, rfl, rfl, by omega, by go_num, T9.out, C5.out, B9.out⟩
              · have ho' : decide ((r : Int) < gg) = false := by simpa using ho
                obtain ⟨e2, hr2, hc2⟩ := stay_good (n := n) CH.out hn7 han hr16 ho
                have HR := Lib.hid hr2
                have C5 := Lib.hid hc2
                have TOK : True := trivial
                clear ho hr2 hc2
                as_aux_lemma =>
                  go_wp2_with (first
                    | (go_at_call 12; refine (add_S p m ⟨n, 0, [(3, e)]⟩ a r 0 3 gd _ T2.out).mono ?_; rw [HR.out]; rintro e1 w5 ⟨rfl, t5, f5⟩; have T5 := Lib.hid t5; have B5 := Lib.hid (Fr.upB B2.out f5 (fun i e => by rcases e with e | e <;> omega)); clear t5 f5)
                    | (go_at_call 13; refine (chosen_S p m ⟨n, 0, [(3, e2)]⟩ 3 _ T5.out ⟨by decide, by decide⟩).mono ?_; rw [kget1, C5.out.c, C5.out.v]; rintro e1 w6 ⟨rfl, b6⟩; have T6 := Lib.hid (T5.out.below b6); have B6 := Lib.hid (bchain B5.out b6); clear b6)
                      | (go_at_call 17; have _t := TOK; refine (learn_S p m ⟨n, 0, [(3, e2)]⟩ 3 bd _ T6.out).mono ?_; rw [(stay_lbad C5.out).1, (stay_lbad C5.out).2]; rintro e1 w7 ⟨rfl, t7, f7⟩; have T7 := Lib.hid t7; have B7 := Lib.hid (Fr.upB B6.out f7 (fun i e => by rcases e with e | e <;> omega)); clear t7 f7 TOK)
                      | (go_at_call 17; refine (learn_S p m ⟨n, 0, [(3, e2)]⟩ 3 gd _ T7.out).mono ?_; rw [(stay_lgood C5.out).1, (stay_lgood C5.out).2]; rintro e1 w8 ⟨rfl, t8, f8⟩; have T8 := Lib.hid t8; have B8 := Lib.hid (Fr.upB B7.out f8 (fun i e => by rcases e with e | e <;> omega)); clear t8 f8)
                      | (go_at_call 15; refine (open_S p m ⟨n, 0, [(3, e2)]⟩ _ T8.out).mono ?_; rw [stay_opn C5.out]; rintro e1 w9 ⟨v9, rfl, r9, b9⟩; obtain ⟨A9, k9, hv9, _, _⟩ := r9.view; simp only [List.length_nil] at hv9; subst hv9; have T9 := Lib.hid (T8.out.below b9); have B9 := Lib.hid (bchain B8.out b9); clear r9 b9))
                  go_roundg (N - (i + 1))
                  case measure => omega
                  case rel => exact ⟨i + 1, e2, (r : Int), by omega, rfl, rfl, by omega, by go_num, T9.out, C5.out, B9.out⟩
            · have hy' : decide ((y : Int) ≥ 128) = true := by simp; omega
              clear hy
              by_cases ho : (r : Int) < gg
              · have ho' : decide ((r : Int) < gg) = true := by simpa using ho
                have HR := Lib.hid (stay_old (n := n) CH.out hn7 han hr16 bd (by decide) ho)
                have C5 := CH
                have TOK : True := trivial
                clear ho
                as_aux_lemma =>
                  go_wp2_with (first
                    | (go_at_call 12; refine (add_S p m ⟨n, 0, [(3, e)]⟩ a r 0 3 bd _ T2.out).mono ?_; rw [HR.out]; rintro e1 w5 ⟨rfl, t5, f5⟩; have T5 := Lib.hid t5; have B5 := Lib.hid (Fr.upB B2.out f5 (fun i e => by rcases e with e | e <;> omega)); clear t5 f5)
                    | (go_at_call 13; refine (chosen_S p m ⟨n, 0, [(3, e)]⟩ 3 _ T5.out ⟨by decide, by decide⟩).mono ?_; rw [kget1, C5.out.c, C5.out.v]; rintro e1 w6 ⟨rfl, b6⟩; have T6 := Lib.hid (T5.out.below b6); have B6 := Lib.hid (bchain B5.out b6); clear b6)
                      | (go_at_call 17; have _t := TOK; refine (learn_S p m ⟨n, 0, [(3, e)]⟩ 3 bd _ T6.out).mono ?_; rw [(stay_lbad C5.out).1, (stay_lbad C5.out).2]; rintro e1 w7 ⟨rfl, t7, f7⟩; have T7 := Lib.hid t7; have B7 := Lib.hid (Fr.upB B6.out f7 (fun i e => by rcases e with e | e <;> omega)); clear t7 f7 TOK)
                      | (go_at_call 17; refine (learn_S p m ⟨n, 0, [(3, e)]⟩ 3 gd _ T7.out).mono ?_; rw [(stay_lgood C5.out).1, (stay_lgood C5.out).2]; rintro e1 w8 ⟨rfl, t8, f8⟩; have T8 := Lib.hid t8; have B8 := Lib.hid (Fr.upB B7.out f8 (fun i e => by rcases e with e | e <;> omega)); clear t8 f8)
                      | (go_at_call 15; refine (open_S p m ⟨n, 0, [(3, e)]⟩ _ T8.out).mono ?_; rw [stay_opn C5.out]; rintro e1 w9 ⟨v9, rfl, r9, b9⟩; obtain ⟨A9, k9, hv9, _, _⟩ := r9.view; simp only [List.length_nil] at hv9; subst hv9; have T9 := Lib.hid (T8.out.below b9); have B9 := Lib.hid (bchain B8.out b9); clear r9 b9))
                  go_roundg (N - (i + 1))
                  case measure => omega
                  case rel => exact ⟨i + 1, e, gg, by omega, rfl, rfl, by omega, by go_num, T9.out, C5.out, B9.out⟩
              · have ho' : decide ((r : Int) < gg) = false := by simpa using ho
                have HR := Lib.hid (stay_bad (n := n) CH.out hn7 han hr16 ho)
                have C5 := CH
                have TOK : True := trivial
                clear ho
                as_aux_lemma =>
                  go_wp2_with (first
                    | (go_at_call 12; refine (add_S p m ⟨n, 0, [(3, e)]⟩ a r 0 3 bd _ T2.out).mono ?_; rw [HR.out]; rintro e1 w5 ⟨rfl, t5, f5⟩; have T5 := Lib.hid t5; have B5 := Lib.hid (Fr.upB B2.out f5 (fun i e => by rcases e with e | e <;> omega)); clear t5 f5)
                    | (go_at_call 13; refine (chosen_S p m ⟨n, 0, [(3, e)]⟩ 3 _ T5.out ⟨by decide, by decide⟩).mono ?_; rw [kget1, C5.out.c, C5.out.v]; rintro e1 w6 ⟨rfl, b6⟩; have T6 := Lib.hid (T5.out.below b6); have B6 := Lib.hid (bchain B5.out b6); clear b6)
                      | (go_at_call 17; have _t := TOK; refine (learn_S p m ⟨n, 0, [(3, e)]⟩ 3 bd _ T6.out).mono ?_; rw [(stay_lbad C5.out).1, (stay_lbad C5.out).2]; rintro e1 w7 ⟨rfl, t7, f7⟩; have T7 := Lib.hid t7; have B7 := Lib.hid (Fr.upB B6.out f7 (fun i e => by rcases e with e | e <;> omega)); clear t7 f7 TOK)
                      | (go_at_call 17; refine (learn_S p m ⟨n, 0, [(3, e)]⟩ 3 gd _ T7.out).mono ?_; rw [(stay_lgood C5.out).1, (stay_lgood C5.out).2]; rintro e1 w8 ⟨rfl, t8, f8⟩; have T8 := Lib.hid t8; have B8 := Lib.hid (Fr.upB B7.out f8 (fun i e => by rcases e with e | e <;> omega)); clear t8 f8)
                      | (go_at_call 15; refine (open_S p m ⟨n, 0, [(3, e)]⟩ _ T8.out).mono ?_; rw [stay_opn C5.out]; rintro e1 w9 ⟨v9, rfl, r9, b9⟩; obtain ⟨A9, k9, hv9, _, _⟩ := r9.view; simp only [List.length_nil] at hv9; subst hv9; have T9 := Lib.hid (T8.out.below b9); have B9 := Lib.hid (bchain B8.out b9); clear r9 b9))
                  go_roundg (N - (i + 1))
                  case measure => omega
                  case rel => exact ⟨i + 1, e, gg, by omega, rfl, rfl, by omega, by go_num, T9.out, C5.out, B9.out⟩
        · have e : i = N := by omega
          subst e
          clear hlt
          go_wp2_with (first
            | (go_at_call 10; refine (works_any _).mono ?_; rintro e wk ⟨rfl, bk⟩))
          go_returns
          exact ⟨rfl, hB.trans (bk.mono hB.size)⟩
end Go.Proofs.Ytnnadpbfidfhoaa.learnStays
