/- The walk of skaldlaw12.AcceptGrows: it returns true, and writes nothing that was there. -/
import Derived.Test.YtnbiihnfggcakaaAccR
import Derived.OpenShut
import Derived.Deep.DeepCutAuto
import Derived.Deep.CutBlock
import Derived.Deep.LoopGhost
set_option linter.unusedVariables false
set_option linter.unusedSimpArgs false
namespace Go.Proofs.Ytnbiihnfggcakaa.acceptGrows
open Go.RowKit Go.Shelf
set_option maxRecDepth 100000 in
set_option maxHeartbeats 200000000 in
theorem walk (v0 : Value) (L : List Stp) (w : World) (hL : StepsIn w v0 L) :
    Calls Try.prog 3 #[v0] w fun e w' => e = .returned (.bool true) ∧ Below w.heap.size w w' := by
  have HL := Lib.hid hL
  obtain ⟨A0, cap0, rfl, hcap0, hmax0, hin, hc⟩ := hL
  have HC := Lib.hid hc
  have hml : cap0 ≤ 9223372036854775807 := by unfold maxLen at hmax0; omega
  clear hc hin hmax0
  have B0 := Lib.hid (Below.refl w.heap.size w)
  go_enter Try.func3, Try.ntmps3
  cases hsl : shortB L with
  | false =>
    go_wp2_with (first
      | (go_at_call 12; refine (short_any _ _ _ HL.out).mono ?_; rintro e w' ⟨rfl, rfl⟩)
      | (go_at_call 13; refine (works_any _).mono ?_; rintro e wk ⟨rfl, bk⟩))
    go_returns
    exact ⟨rfl, bk⟩
  | true =>
    have hl80 := shortB_len hsl
    go_wp2_with (first
      | (go_at_call 12; refine (short_any _ _ _ HL.out).mono ?_; rintro e w' ⟨rfl, rfl⟩)
      | (go_at_call 14; refine (new_S _ 3 ⟨by decide, by decide⟩).mono ?_; rintro e w1 ⟨p, m, rfl, t1, hp, hm, b1⟩; have TA1 := Lib.hid t1; have B1 := Lib.hid b1; clear t1 b1))
    go_loopg [5] L.length (fun g c wr => ∃ (i : Nat), i ≤ L.length ∧ g = L.length - i ∧ c = .int .i64 i ∧ AS wr p m (fillS (L.take i)) ∧ Below w.heap.size w wr)
    case atStart => exact ⟨0, by omega, rfl, rfl, TA1.out, B1.out⟩
    case round =>
      obtain ⟨i, hi, rfl, rfl, ta, hB⟩ := hrel
      have T := Lib.hid ta
      clear ta
      by_cases hlt : i < L.length
      · obtain ⟨b, off, rfl, hb, hcells⟩ := HC.out (by omega)
        obtain ⟨⟨x, r, d, k, s⟩, hs⟩ : ∃ s, L[i]? = some s := ⟨_, List.getElem?_eq_getElem hlt⟩
        obtain ⟨q0, q1, q2, q3, q4⟩ := hcells i _ hs
        have HN := Lib.hid (fillS_succ hs)
        simp only at q0 q1 q2 q3 q4
        generalize fillS (L.take i) = st at *
        have tb := T.out.lt
        obtain ⟨wo, rfl⟩ : ∃ wo : World, wo = wr := ⟨_, rfl⟩
        clear hs hcells
        go_upto_block 2 with (first
          | (go_at_call 15; refine (promised_S p m st _ T.out).mono ?_; rintro e w2 ⟨rfl, bl2⟩; have hs2 := bl2.size; have B2 := Lib.hid (hB.trans (bl2.mono hB.size)); have T2 := Lib.hid (T.out.below bl2); clear bl2)
          | (go_at_call 16; refine (list_S p m st _ 0 T2.out).mono ?_; rintro e w3 ⟨vh, rfl, rh, bl3⟩; have hs3 := bl3.size; have B3 := Lib.hid (B2.out.trans (bl3.mono (bchainSz B2.out))); have T3 := Lib.hid (T2.out.below bl3); rw [listL_zero T2.out.good] at rh; have RH3 := Lib.hid rh; have bx := bchain B3.out (box_below w3 (.cells #[.int .i64 st.r, .int .i64 st.d] 30)); have d0 := bcell bx q0; have d1 := bcell bx q1; have d2 := bcell bx q2; have d3 := bcell bx q3; have d4 := bcell bx q4; have B4 := Lib.hid bx; clear rh bl3 bx)
          | (go_at_call 17; refine (base_S p m st _ T3.out).mono ?_; rintro e w' ⟨rfl, rfl⟩))
        have bx4 := box_below w3 (.cells #[.int .i64 st.r, .int .i64 st.d] 30)
        have T4 := Lib.hid (T3.out.below bx4)
        have R4 := Lib.hid (RH3.out.below bx4)
        have Q4 := Lib.hid (Blk.new w3 30 #[.int .i64 st.r, .int .i64 st.d])
        have hg3 : w2.heap.size ≤ w3.heap.size := hs3
        generalize (w3.alloc (.cells #[.int .i64 st.r, .int .i64 st.d] 30)) = w4 at *
        clear bx4
        go_cut [] (fun wx => ∃ nt : ASt, AS wx p m nt ∧ Grow st nt ∧ stepS st (x, r, d, k, s) = nt ∧ Fr (S2 p m) w4 wx)
        case first =>
          by_cases x0 : x = 0
          · have x0' : ((x : Int) == 0) = true := by simpa using x0
            have E : Hid (stepS st (x, r, d, k, s) = prS st r d k) := by simp [stepS, x0, Hid]
            clear x0
            go_wp2_with fail
            go_still_tail 11, (by kernel_rfl)
            go_wp2_with (go_at_call 18; refine (promise_S p m st _ r d k T4.out.drew).mono ?_; rintro e w5 ⟨vp, rfl, _, t5, f5⟩; have g5 := Fr.of_drew (f5.mono (S' := S2 p m) (fun i e => .inl e)); have T5 := Lib.hid t5; have F5 := Lib.hid g5; clear t5 f5 g5)
            go_meet
            exact ⟨_, T5.out, Grow.prom T4.out.good r d k, E.out, F5.out⟩
          have x0' : ((x : Int) == 0) = false := by simpa using x0
          by_cases x1 : x = 1
          · have x1' : ((x : Int) == 1) = true := by simpa using x1
            have E : Hid (stepS st (x, r, d, k, s) = acS st r d k s) := by simp [stepS, x1, Hid]
            clear x1 x0
            go_wp2_with fail
            go_still_tail 16, (by kernel_rfl)
            go_wp2_with (go_at_call 19; refine (accept_S p m st _ r d k s T4.out.drew).mono ?_; rintro e w5 ⟨rfl, t5, f5⟩; have g5 := Fr.of_drew f5; have T5 := Lib.hid t5; have F5 := Lib.hid g5; clear t5 f5 g5)
            go_meet
            exact ⟨_, T5.out, Grow.acc T4.out.good r d k s, E.out, F5.out⟩
          have x1' : ((x : Int) == 1) = false := by simpa using x1
          by_cases x2 : x = 2
          · have x2' : ((x : Int) == 2) = true := by simpa using x2
            have E : Hid (stepS st (x, r, d, k, s) = foS st k) := by simp [stepS, x2, Hid]
            clear x1 x0 x2
            go_wp2_with (go_at_call 20; refine (forget_S p m st _ k T4.out).mono ?_; rintro e w5 ⟨rfl, t5, f5⟩; have T5 := Lib.hid t5; have F5 := Lib.hid f5; clear t5 f5)
            go_meet
            exact ⟨_, T5.out, Grow.forg T4.out.good k, E.out, F5.out⟩
          have x2' : ((x : Int) == 2) = false := by simpa using x2
          have E : Hid (stepS st (x, r, d, k, s) = st) := by simp [stepS, x0, x1, x2, Hid]
          clear x1 x0 x2
          go_wp2_with fail
          go_meet
          exact ⟨_, T4.out, Grow.same T4.out.good, E.out, Fr.refl _ _⟩
        case rest =>
          obtain ⟨nt, t5, g5, e5, f5⟩ := hcut
          obtain ⟨w5, rfl⟩ : ∃ w5 : World, w5 = wc := ⟨_, rfl⟩
          have GS := Lib.hid T4.out.good
          have G := Lib.hid g5
          have T5 := Lib.hid t5
          have F5 := Lib.hid f5
          have E5 := Lib.hid e5
          clear t5 g5 e5 f5
          have R5 := Lib.hid (R4.out.fr F5.out (fun i e => by rcases e with e | e <;> omega))
          have Q5 := Lib.hid (Q4.out.fr F5.out (fun e => by rcases e with e | e <;> omega))
          have B5 := Lib.hid (Fr.upB B4.out F5.out (fun i e => by rcases e with e | e <;> omega))
          clear R4 Q4 B4 F5 T4 RH3 T3 T2 B3 B2 T d0 d1 d2 d3 d4
          have h1 : decide (ordB (nt.r, nt.d) (st.r, st.d) < 0) = false := by simp only [decide_eq_false_iff_not]; exact not_lt_of_le G.out.bal
          have h2 : decide (nt.base < st.base) = false := by have := G.out.base; simp only [decide_eq_false_iff_not]; omega
          have z0 := Q5.out.cell (i := 0) (v := .int .i64 st.r) rfl
          have z1 := Q5.out.cell (i := 1) (v := .int .i64 st.d) rfl
          go_wp2_with fail
          go_region_held3 (fun W => W.cell? ⟨w3.heap.size, 0, none⟩ = some (.int .i64 st.r) ∧ W.cell? ⟨w3.heap.size, 1, none⟩ = some (.int .i64 st.d))
            (first | exact ⟨by assumption, by assumption⟩ | go_keep)
            (first
              | (go_at_call 15; refine (promised_S p m nt _ T5.out.drew).mono ?_; rintro e w6 ⟨rfl, c6⟩; have c6' : Below w5.heap.size w5 w6 := (Below.refl _ _).drew.trans (c6.mono (by simp)); have y0 := bcell c6' z0; have y1 := bcell c6' z1; have C6 := Lib.hid c6'; have T6 := Lib.hid (T5.out.below c6'); clear c6 c6')
              | (go_at_call 21; refine (order_any _ _ _ _ _).mono ?_; rintro e w7 ⟨rfl, c7⟩; have x0 := bcell c7 y0; have x1 := bcell c7 y1; have C7 := Lib.hid (bchain C6.out c7); have T7 := Lib.hid (T6.out.below c7); clear c7)
              | (go_at_call 17; refine (base_S p m nt _ T7.out).mono ?_; rintro e w' ⟨rfl, rfl⟩))
          have R7 := Lib.hid (R5.out.below C7.out)
          have B7 := Lib.hid (B5.out.trans (C7.out.mono (bchainSz B5.out)))
          clear R5 Q5 B5 T5 T6 C6 C7 z0 z1 y0 y1 x0 x1 h1 h2
          obtain ⟨Ah, kh, rfl, hkh, hch⟩ := R7.out.view
          have HCH := Lib.hid hch
          have hLn := T7.out.good.len
          have hLs : st.L.length ≤ 4096 := GS.out.len
          clear hch R7
          go_wp2_with fail
          go_loopw [9] (fun c yr => ∃ j : Nat, j ≤ st.L.length ∧ c = .int .i64 j ∧ Below w7.heap.size w7 yr) (fun c _ => st.L.length - (intOf c).toNat)
          case atStart => exact ⟨0, by omega, rfl, Below.refl _ _⟩
          case round =>
            obtain ⟨j, hj, rfl, hY⟩ := hrel
            have TY := Lib.hid (T7.out.below hY)
            by_cases hjl : j < st.L.length
            · obtain ⟨gh, rfl, _, hgh, hcells⟩ := HCH.out (by omega)
              obtain ⟨⟨k2, e1, e2, e3⟩, hs⟩ : ∃ x, st.L[j]? = some x := ⟨_, List.getElem?_eq_getElem hjl⟩
              obtain ⟨m1, m2, m3, m4⟩ := hcells j _ _ hs
              have z1 := bcell hY m1
              have z2 := bcell hY m2
              have z3 := bcell hY m3
              have hmem := List.mem_of_getElem? hs
              have hi64 := in_of_good GS.out _ hmem
              have HI64 := Lib.hid hi64
              have hG := G.out.ents _ _ hmem
              clear hcells hs m1 m2 m3 m4 hmem hi64
              rcases hG with ⟨hlow, hnone⟩ | ⟨hlow, e', hsome, hle⟩
              · have hac := accdV_none hnone
                have HA := Lib.hid hac
                have hlow' : decide (k2 < nt.base) = true := by simpa using hlow
                clear hac hnone hlow
                go_wp2_with (first
                  | (go_at_call 22; refine (accepted_S p m nt _ k2 TY.out HI64.out).mono ?_; rintro e x1 ⟨rfl, bx⟩; rw [HA.out]; have bz := bx.trans ((box_below x1 (.cells #[.int .i64 0, .int .i64 0, .int .i64 0, .string ⟨#[]⟩] 43)).mono bx.size); have y1 := bcell bz z1; have TX := Lib.hid (TY.out.below bz); have BX := Lib.hid (hY.trans (bz.mono hY.size)); clear bx bz))
                generalize (x1.alloc (.cells #[.int .i64 0, .int .i64 0, .int .i64 0, .string ⟨#[]⟩] 43)) = x2 at *
                clear z1 z2 z3
                go_region_held3 (fun W => W.cell? ⟨gh, j * 4, none⟩ = some (.int .i64 k2))
                  (first | assumption | go_keep)
                  (first
                    | (go_at_call 17; refine (base_S p m nt _ TX.out.drew).mono ?_; rintro e w' ⟨rfl, rfl⟩))
                go_wp2_with fail
                go_roundw
                case rel => exact ⟨j + 1, by omega, by go_num, BX.out.drew⟩
                case measure => simp [intOf]; omega
              · obtain ⟨f1, f2, f3⟩ := e'
                have hac := accdV_some hsome
                have HA := Lib.hid hac
                have hlow' : decide (k2 < nt.base) = false := by simp; omega
                have hord : decide (ordB (f1, f2) (e1, e2) < 0) = false := by simp only [decide_eq_false_iff_not]; exact not_lt_of_le hle
                clear hac hsome hlow hle
                go_wp2_with (first
                  | (go_at_call 22; refine (accepted_S p m nt _ k2 TY.out HI64.out).mono ?_; rintro e x1 ⟨rfl, bx⟩; rw [HA.out]; have bz := bx.trans ((box_below x1 (.cells #[.int .i64 k2, .int .i64 f1, .int .i64 f2, .string f3] 43)).mono bx.size); have y1 := bcell bz z1; have y2 := bcell bz z2; have y3 := bcell bz z3; have TX := Lib.hid (TY.out.below bz); have BX := Lib.hid (hY.trans (bz.mono hY.size)); clear bx bz))
                have kb := Blk.new x1 43 #[.int .i64 k2, .int .i64 f1, .int .i64 f2, .string f3]
                have o1 := kb.cell (i := 1) (v := .int .i64 f1) rfl
                have o2 := kb.cell (i := 2) (v := .int .i64 f2) rfl
                generalize (x1.alloc (.cells #[.int .i64 k2, .int .i64 f1, .int .i64 f2, .string f3] 43)) = x2 at *
                clear z1 z2 z3 kb
                go_region_held3 (fun W => W.cell? ⟨gh, j * 4, none⟩ = some (.int .i64 k2))
                  (first | assumption | go_keep)
                  (first
                    | (go_at_call 17; refine (base_S p m nt _ TX.out.drew).mono ?_; rintro e w' ⟨rfl, rfl⟩))
                have c1 := bcell ((Below.refl x2.heap.size x2).drew) y2
                have c2 := bcell ((Below.refl x2.heap.size x2).drew) y3
                have c3 := bcell ((Below.refl x2.heap.size x2).drew) o1
                have c4 := bcell ((Below.refl x2.heap.size x2).drew) o2
                have BQ := Lib.hid BX.out.drew
                clear y1 y2 y3 o1 o2
                generalize x2.drew = x3 at *
                go_wp2_with fail
                go_region_held3 (fun W => W.cell? ⟨gh, j * 4 + 1, none⟩ = some (.int .i64 e1) ∧ W.cell? ⟨gh, j * 4 + 2, none⟩ = some (.int .i64 e2) ∧ W.cell? ⟨x1.heap.size, 1, none⟩ = some (.int .i64 f1) ∧ W.cell? ⟨x1.heap.size, 2, none⟩ = some (.int .i64 f2))
                  (first | exact ⟨by assumption, by assumption, by assumption, by assumption⟩ | go_keep)
                  (first
                    | (go_at_call 21; refine (order_any _ _ _ _ _).mono ?_; rintro e x4 ⟨rfl, c5⟩; have c5' : Below x3.heap.size x3 x4 := (Below.refl _ _).drew.trans (c5.mono (by simp)); have n1 := bcell c5' c1; have n2 := bcell c5' c2; have n3 := bcell c5' c3; have n4 := bcell c5' c4; have C5 := Lib.hid c5'; clear c5 c5'))
                go_wp2_with fail
                go_roundw
                case rel => exact ⟨j + 1, by omega, by go_num, BQ.out.trans (C5.out.mono (bchainSz2 BQ.out))⟩
                case measure => simp [intOf]; omega
            · have e : j = st.L.length := by omega
              subst e
              have B8 := Lib.hid (B7.out.trans (hY.mono (bchainSz2 B7.out)))
              have G8 := Lib.hid TY.out.good
              have hord0 : ∀ q ∈ nt.L, decide (ordB (q.2.1, q.2.2.1) (nt.r, nt.d) > 0) = false := fun q hq => by simp only [decide_eq_false_iff_not]; exact not_gt_of_le (G8.out.le q hq)
              have HORD := Lib.hid hord0
              clear hjl hord0 HCH
              obtain ⟨y0, rfl⟩ : ∃ y0 : World, y0 = wr := ⟨_, rfl⟩
              go_wp2_with (first
                | (go_at_call 16; refine (list_S p m nt _ 0 TY.out).mono ?_; rintro e y1 ⟨vm, rfl, rm, c1⟩; rw [listL_zero TY.out.good] at rm; have T9 := Lib.hid (TY.out.below c1); have B9 := Lib.hid (B8.out.trans (c1.mono (bchainSz2 B8.out))); have RM := Lib.hid rm; clear rm c1))
              obtain ⟨Am, km, rfl, hkm, hcm⟩ := RM.out.view
              have HCM := Lib.hid hcm
              have hLm : nt.L.length ≤ 4096 := G8.out.len
              clear hcm RM
              go_loopw [13] (fun c yr => ∃ j : Nat, j ≤ nt.L.length ∧ c = .int .i64 j ∧ Below y1.heap.size y1 yr) (fun c _ => nt.L.length - (intOf c).toNat)
              case atStart => exact ⟨0, by omega, rfl, Below.refl _ _⟩
              case round =>
                obtain ⟨j, hj, rfl, hY⟩ := hrel
                have TZ := Lib.hid (T9.out.below hY)
                by_cases hjl : j < nt.L.length
                · obtain ⟨gm, rfl, _, hgm, hcells⟩ := HCM.out (by omega)
                  obtain ⟨⟨k2, e1, e2, e3⟩, hs⟩ : ∃ x, nt.L[j]? = some x := ⟨_, List.getElem?_eq_getElem hjl⟩
                  obtain ⟨m1, m2, m3, m4⟩ := hcells j _ _ hs
                  have z1 := bcell hY m1
                  have z2 := bcell hY m2
                  have z3 := bcell hY m3
                  have hmem := List.mem_of_getElem? hs
                  have hb2 : decide (k2 < nt.base) = false := by have := (G8.out.slots _ hmem).1; simp at this ⊢; omega
                  have ho2 := HORD.out _ hmem
                  simp only at ho2
                  by_cases hj0 : j = 0
                  · subst hj0
                    clear m1 m2 m3 m4 hmem hs hcells
                    simp only [Nat.zero_mul, Nat.zero_add] at z1 z2 z3
                    go_wp2_with fail
                    refine wp_region_held_drew (S := (fun W => W.cell? ⟨gm, 0, none⟩ = some (.int .i64 k2) ∧ W.cell? ⟨gm, 1, none⟩ = some (.int .i64 e1) ∧ W.cell? ⟨gm, 2, none⟩ = some (.int .i64 e2))) (by kernel_rfl) ?_ (fun hHeld => ?_)
                    · exact ⟨z1, z2, z3⟩
                    try dsimp only at hHeld
                    refine held_yes (i := 0) (some 144) (v := ?_) rfl rfl (by kernel_rfl) (by kernel_rfl) (by kernel_rfl) (fun _ _ _ h => h) (by rfl) ?_ hHeld ?_
                    rotate_left
                    · (intro w hSw; (try dsimp only at hSw); go_simp; all_goals with_reducible rfl)
                    try simp only [Act.put, List.setIfInBounds_toArray, List.set_cons_zero, List.set_cons_succ]
                    refine held_yes (i := 1) (some 145) (v := ?_) rfl rfl (by kernel_rfl) (by kernel_rfl) (by kernel_rfl) (fun _ _ _ h => h) (by rfl) ?_ hHeld ?_
                    rotate_left
                    · (intro w hSw; (try dsimp only at hSw); go_simp; all_goals with_reducible rfl)
                    try simp only [Act.put, List.setIfInBounds_toArray, List.set_cons_zero, List.set_cons_succ]
                    refine held_yes (i := 2) (some 146) (v := ?_) rfl rfl (by kernel_rfl) (by kernel_rfl) (by kernel_rfl) (fun _ _ _ h => h) (by rfl) ?_ hHeld ?_
                    rotate_left
                    · (intro w hSw; (try dsimp only at hSw); go_simp; all_goals with_reducible rfl)
                    try simp only [Act.put, List.setIfInBounds_toArray, List.set_cons_zero, List.set_cons_succ]
                    refine held_yes (i := 3) (some 147) (v := ?_) rfl rfl (by kernel_rfl) (by kernel_rfl) (by kernel_rfl) (fun _ _ _ h => h) (by rfl) ?_ hHeld ?_
                    rotate_left
                    · (intro w hSw; (try dsimp only at hSw); go_simp; all_goals with_reducible rfl)
                    try simp only [Act.put, List.setIfInBounds_toArray, List.set_cons_zero, List.set_cons_succ]
                    refine held_yes (i := 4) (some 148) (v := ?_) rfl rfl (by kernel_rfl) (by kernel_rfl) (by kernel_rfl) (fun _ _ _ h => h) (by rfl) ?_ hHeld ?_
                    rotate_left
                    · (intro w hSw; (try dsimp only at hSw); go_simp; all_goals with_reducible rfl)
                    try simp only [Act.put, List.setIfInBounds_toArray, List.set_cons_zero, List.set_cons_succ]
                    refine held_yes (i := 5) (some 149) (v := ?_) rfl rfl (by kernel_rfl) (by kernel_rfl) (by kernel_rfl) (fun _ _ _ h => h) (by rfl) ?_ hHeld ?_
                    rotate_left
                    · (intro w hSw; (try dsimp only at hSw); go_simp; all_goals with_reducible rfl)
                    try simp only [Act.put, List.setIfInBounds_toArray, List.set_cons_zero, List.set_cons_succ]
                    refine wpAnyH_ready (rs := [6]) (by kernel_rfl) (by simp) ?_
                    refine AllReadyH.cons rfl (fun K' hK' => ?_) AllReadyH.nil
                    go_simp
                    (go_at_call 15; refine (promised_S p m nt _ TZ.out.drew).mono ?_; rintro e x5 ⟨rfl, c5⟩; have c5' : Below wr.heap.size wr x5 := (Below.refl _ _).drew.trans (c5.mono (by simp)); have n1 := bcell c5' z1; have n2 := bcell c5' z2; have n3 := bcell c5' z3; have C5 := Lib.hid c5'; have T5 := Lib.hid (TZ.out.below c5'); clear c5 c5')
                    go_wp2_with fail
                    refine hK'.out _ _ ?_ (fun hHeld => ?_)
                    · exact ⟨by assumption, by assumption, by assumption⟩
                    clear hK' K'
                    try dsimp only at hHeld
                    try simp only [Act.put, List.setIfInBounds_toArray, List.set_cons_zero, List.set_cons_succ]
                    refine wpAnyH_ready (rs := [7]) (by kernel_rfl) (by simp) ?_
                    refine AllReadyH.cons rfl (fun K' hK' => ?_) AllReadyH.nil
                    go_simp
                    (go_at_call 21; refine (order_any _ _ _ _ _).mono ?_; rintro e x6 ⟨rfl, c6⟩; have o1 := bcell c6 n1; have o2 := bcell c6 n2; have o3 := bcell c6 n3; have C6 := Lib.hid (bchain C5.out c6); have T6 := Lib.hid (T5.out.below c6); clear c6)
                    go_wp2_with fail
                    refine hK'.out _ _ ?_ (fun hHeld => ?_)
                    · exact ⟨by assumption, by assumption, by assumption⟩
                    clear hK' K'
                    try dsimp only at hHeld
                    try simp only [Act.put, List.setIfInBounds_toArray, List.set_cons_zero, List.set_cons_succ]
                    refine held_yes (i := 8) (some 152) (v := ?_) rfl rfl (by kernel_rfl) (by kernel_rfl) (by kernel_rfl) (fun _ _ _ h => h) (by rfl) ?_ hHeld ?_
                    rotate_left
                    · (intro w hSw; (try dsimp only at hSw); go_simp; all_goals with_reducible rfl)
                    try simp only [Act.put, List.setIfInBounds_toArray, List.set_cons_zero, List.set_cons_succ]
                    refine held_yes (i := 9) (some 153) (v := ?_) rfl rfl (by kernel_rfl) (by kernel_rfl) (by kernel_rfl) (fun _ _ _ h => h) (by rfl) ?_ hHeld ?_
                    rotate_left
                    · (intro w hSw; (try dsimp only at hSw); go_simp; all_goals with_reducible rfl)
                    try simp only [Act.put, List.setIfInBounds_toArray, List.set_cons_zero, List.set_cons_succ]
                    refine held_yes (i := 10) (some 154) (v := ?_) rfl rfl (by kernel_rfl) (by kernel_rfl) (by kernel_rfl) (fun _ _ _ h => h) (by rfl) ?_ hHeld ?_
                    rotate_left
                    · (intro w hSw; (try dsimp only at hSw); go_simp; all_goals with_reducible rfl)
                    try simp only [Act.put, List.setIfInBounds_toArray, List.set_cons_zero, List.set_cons_succ]
                    refine held_yes (i := 11) (some 155) (v := ?_) rfl rfl (by kernel_rfl) (by kernel_rfl) (by kernel_rfl) (fun _ _ _ h => h) (by rfl) ?_ hHeld ?_
                    rotate_left
                    · (intro w hSw; (try dsimp only at hSw); go_simp; all_goals with_reducible rfl)
                    try simp only [Act.put, List.setIfInBounds_toArray, List.set_cons_zero, List.set_cons_succ]
                    refine held_yes (i := 12) (some 156) (v := ?_) rfl rfl (by kernel_rfl) (by kernel_rfl) (by kernel_rfl) (fun _ _ _ h => h) (by rfl) ?_ hHeld ?_
                    rotate_left
                    · (intro w hSw; (try dsimp only at hSw); go_simp; all_goals with_reducible rfl)
                    try simp only [Act.put, List.setIfInBounds_toArray, List.set_cons_zero, List.set_cons_succ]
                    refine held_yes (i := 13) (some 157) (v := ?_) rfl rfl (by kernel_rfl) (by kernel_rfl) (by kernel_rfl) (fun _ _ _ h => h) (by rfl) ?_ hHeld ?_
                    rotate_left
                    · (intro w hSw; (try dsimp only at hSw); go_simp; all_goals with_reducible rfl)
                    try simp only [Act.put, List.setIfInBounds_toArray, List.set_cons_zero, List.set_cons_succ]
                    refine held_yes (i := 14) (some 158) (v := ?_) rfl rfl (by kernel_rfl) (by kernel_rfl) (by kernel_rfl) (fun _ _ _ h => h) (by rfl) ?_ hHeld ?_
                    rotate_left
                    · (intro w hSw; (try dsimp only at hSw); go_simp; all_goals with_reducible rfl)
                    try simp only [Act.put, List.setIfInBounds_toArray, List.set_cons_zero, List.set_cons_succ]
                    refine held_yes (i := 15) (some 159) (v := ?_) rfl rfl (by kernel_rfl) (by kernel_rfl) (by kernel_rfl) (fun _ _ _ h => h) (by rfl) ?_ hHeld ?_
                    rotate_left
                    · (intro w hSw; (try dsimp only at hSw); go_simp; all_goals with_reducible rfl)
                    try simp only [Act.put, List.setIfInBounds_toArray, List.set_cons_zero, List.set_cons_succ]
                    refine wpAnyH_ready (rs := [16]) (by kernel_rfl) (by simp) ?_
                    refine AllReadyH.cons rfl (fun K' hK' => ?_) AllReadyH.nil
                    go_simp
                    (go_at_call 17; refine (base_S p m nt _ T6.out).mono ?_; rintro e w' ⟨rfl, rfl⟩)
                    go_wp2_with fail
                    refine hK'.out _ _ ?_ (fun hHeld => ?_)
                    · exact ⟨by assumption, by assumption, by assumption⟩
                    clear hK' K'
                    try dsimp only at hHeld
                    try simp only [Act.put, List.setIfInBounds_toArray, List.set_cons_zero, List.set_cons_succ]
                    refine held_yes (i := 17) (some 161) (v := ?_) rfl rfl (by kernel_rfl) (by kernel_rfl) (by kernel_rfl) (fun _ _ _ h => h) (by rfl) ?_ hHeld ?_
                    rotate_left
                    · (intro w hSw; (try dsimp only at hSw); go_simp; all_goals with_reducible rfl)
                    try simp only [Act.put, List.setIfInBounds_toArray, List.set_cons_zero, List.set_cons_succ]
                    refine held_yes (i := 18) (some 162) (v := ?_) rfl rfl (by kernel_rfl) (by kernel_rfl) (by kernel_rfl) (fun _ _ _ h => h) (by rfl) ?_ hHeld ?_
                    rotate_left
                    · (intro w hSw; (try dsimp only at hSw); go_simp; all_goals with_reducible rfl)
                    try simp only [Act.put, List.setIfInBounds_toArray, List.set_cons_zero, List.set_cons_succ]
                    refine held_yes (i := 19) (some 163) (v := ?_) rfl rfl (by kernel_rfl) (by kernel_rfl) (by kernel_rfl) (fun _ _ _ h => h) (by rfl) ?_ hHeld ?_
                    rotate_left
                    · (intro w hSw; (try dsimp only at hSw); go_simp; all_goals with_reducible rfl)
                    try simp only [Act.put, List.setIfInBounds_toArray, List.set_cons_zero, List.set_cons_succ]
                    refine held_yes (i := 20) (some 164) (v := ?_) rfl rfl (by kernel_rfl) (by kernel_rfl) (by kernel_rfl) (fun _ _ _ h => h) (by rfl) ?_ hHeld ?_
                    rotate_left
                    · (intro w hSw; (try dsimp only at hSw); go_simp; all_goals with_reducible rfl)
                    try simp only [Act.put, List.setIfInBounds_toArray, List.set_cons_zero, List.set_cons_succ]
                    refine held_yes (i := 21) (some 165) (v := ?_) rfl rfl (by kernel_rfl) (by kernel_rfl) (by kernel_rfl) (fun _ _ _ h => h) (by rfl) ?_ hHeld ?_
                    rotate_left
                    · (intro w hSw; (try dsimp only at hSw); go_simp; all_goals with_reducible rfl)
                    try simp only [Act.put, List.setIfInBounds_toArray, List.set_cons_zero, List.set_cons_succ]
                    refine held_yes (i := 22) (some 166) (v := ?_) rfl rfl (by kernel_rfl) (by kernel_rfl) (by kernel_rfl) (fun _ _ _ h => h) (by rfl) ?_ hHeld ?_
                    rotate_left
                    · (intro w hSw; (try dsimp only at hSw); go_simp; all_goals with_reducible rfl)
                    try simp only [Act.put, List.setIfInBounds_toArray, List.set_cons_zero, List.set_cons_succ]
                    refine held_no (i := 23) (some 167) rfl rfl (by kernel_rfl) (by kernel_rfl) (by kernel_rfl) (fun _ _ _ h => h) (wanted_t rfl rfl rfl) hHeld ?_
                    try simp only [Act.put, List.setIfInBounds_toArray, List.set_cons_zero, List.set_cons_succ]
                    refine held_no (i := 24) (some 168) rfl rfl (by kernel_rfl) (by kernel_rfl) (by kernel_rfl) (fun _ _ _ h => h) (wanted_t rfl rfl rfl) hHeld ?_
                    try simp only [Act.put, List.setIfInBounds_toArray, List.set_cons_zero, List.set_cons_succ]
                    refine held_no (i := 25) (some 169) rfl rfl (by kernel_rfl) (by kernel_rfl) (by kernel_rfl) (fun _ _ _ h => h) (wanted_t rfl rfl rfl) hHeld ?_
                    try simp only [Act.put, List.setIfInBounds_toArray, List.set_cons_zero, List.set_cons_succ]
                    refine held_no (i := 26) (some 170) rfl rfl (by kernel_rfl) (by kernel_rfl) (by kernel_rfl) (fun _ _ _ h => h) (wanted_t rfl rfl rfl) hHeld ?_
                    try simp only [Act.put, List.setIfInBounds_toArray, List.set_cons_zero, List.set_cons_succ]
                    refine held_no (i := 27) (some 171) rfl rfl (by kernel_rfl) (by kernel_rfl) (by kernel_rfl) (fun _ _ _ h => h) (wanted_t rfl rfl rfl) hHeld ?_
                    try simp only [Act.put, List.setIfInBounds_toArray, List.set_cons_zero, List.set_cons_succ]
                    refine held_no (i := 28) (some 172) rfl rfl (by kernel_rfl) (by kernel_rfl) (by kernel_rfl) (fun _ _ _ h => h) (wanted_t rfl rfl rfl) hHeld ?_
                    try simp only [Act.put, List.setIfInBounds_toArray, List.set_cons_zero, List.set_cons_succ]
                    refine held_no (i := 29) (some 173) rfl rfl (by kernel_rfl) (by kernel_rfl) (by kernel_rfl) (fun _ _ _ h => h) (wanted_t rfl rfl rfl) hHeld ?_
                    try simp only [Act.put, List.setIfInBounds_toArray, List.set_cons_zero, List.set_cons_succ]
                    refine held_no (i := 30) (some 174) rfl rfl (by kernel_rfl) (by kernel_rfl) (by kernel_rfl) (fun _ _ _ h => h) (wanted_t rfl rfl rfl) hHeld ?_
                    try simp only [Act.put, List.setIfInBounds_toArray, List.set_cons_zero, List.set_cons_succ]
                    refine held_no (i := 31) (some 175) rfl rfl (by kernel_rfl) (by kernel_rfl) (by kernel_rfl) (fun _ _ _ h => h) (wanted_t rfl rfl rfl) hHeld ?_
                    try simp only [Act.put, List.setIfInBounds_toArray, List.set_cons_zero, List.set_cons_succ]
                    refine held_no (i := 32) (some 176) rfl rfl (by kernel_rfl) (by kernel_rfl) (by kernel_rfl) (fun _ _ _ h => h) (wanted_t rfl rfl rfl) hHeld ?_
                    try simp only [Act.put, List.setIfInBounds_toArray, List.set_cons_zero, List.set_cons_succ]
                    refine held_no (i := 33) (some 177) rfl rfl (by kernel_rfl) (by kernel_rfl) (by kernel_rfl) (fun _ _ _ h => h) (wanted_t rfl rfl rfl) hHeld ?_
                    try simp only [Act.put, List.setIfInBounds_toArray, List.set_cons_zero, List.set_cons_succ]
                    refine held_no (i := 34) (some 178) rfl rfl (by kernel_rfl) (by kernel_rfl) (by kernel_rfl) (fun _ _ _ h => h) (wanted_t rfl rfl rfl) hHeld ?_
                    try simp only [Act.put, List.setIfInBounds_toArray, List.set_cons_zero, List.set_cons_succ]
                    refine held_yes (i := 35) (some 179) (v := ?_) rfl rfl (by kernel_rfl) (by kernel_rfl) (by kernel_rfl) (fun _ _ _ h => h) (by rfl) ?_ hHeld ?_
                    rotate_left
                    · (intro w hSw; (try dsimp only at hSw); go_simp; all_goals with_reducible rfl)
                    try simp only [Act.put, List.setIfInBounds_toArray, List.set_cons_zero, List.set_cons_succ]
                    refine held_yes (i := 36) (some 180) (v := ?_) rfl rfl (by kernel_rfl) (by kernel_rfl) (by kernel_rfl) (fun _ _ _ h => h) (by rfl) ?_ hHeld ?_
                    rotate_left
                    · (intro w hSw; (try dsimp only at hSw); go_simp; all_goals with_reducible rfl)
                    try simp only [Act.put, List.setIfInBounds_toArray, List.set_cons_zero, List.set_cons_succ]
                    refine wpAnyH_done (by kernel_rfl) ?_ _
                    go_wp2_with fail
                    go_roundw
                    case rel => exact ⟨1, by omega, by go_num, hY.trans (C6.out.mono hY.size)⟩
                    case measure => simp [intOf]; omega
                  · obtain ⟨q, hq⟩ : ∃ q, j = q + 1 := ⟨j - 1, by omega⟩
                    have hql : q < nt.L.length := by omega
                    obtain ⟨⟨k3, g1, g2, g3⟩, hs3⟩ : ∃ x, nt.L[q]? = some x := ⟨_, List.getElem?_eq_getElem hql⟩
                    obtain ⟨l1, _, _, _⟩ := hcells q _ _ hs3
                    have z4 := bcell hY l1
                    have hlt3 : k3 < k2 := by
                      have h9 := List.pairwise_iff_getElem.1 G8.out.srt q j hql hjl (by omega)
                      rw [List.getElem?_eq_getElem hjl] at hs
                      rw [List.getElem?_eq_getElem hql] at hs3
                      rw [Option.some.inj hs, Option.some.inj hs3] at h9
                      exact h9
                    have iw : IntKind.i64.wrap (q : Int) = (q : Int) := IntWalk.i64_in _ (by omega)
                    have iq : (j : Int) - 1 = (q : Int) := by omega
                    have i4 : decide ((j : Int) > 0) = true := by simp; omega
                    have i7 : 0 < j := by omega
                    have i8 : decide (0 < j) = true := by simpa using i7
                    have i9 : decide ((0 : Int) < (j : Int)) = true := by simp; omega
                    clear hq
                    have hlt3' : decide (k2 ≤ k3) = false := by simp; omega
                    clear m1 m2 m3 m4 hmem hs hcells l1 hs3 hlt3 hj0
                    go_wp2_with fail
                    refine wp_region_held_drew (S := (fun W => W.cell? ⟨gm, j * 4, none⟩ = some (.int .i64 k2) ∧ W.cell? ⟨gm, j * 4 + 1, none⟩ = some (.int .i64 e1) ∧ W.cell? ⟨gm, j * 4 + 2, none⟩ = some (.int .i64 e2) ∧ W.cell? ⟨gm, q * 4, none⟩ = some (.int .i64 k3))) (by kernel_rfl) ?_ (fun hHeld => ?_)
                    · exact ⟨z1, z2, z3, z4⟩
                    try dsimp only at hHeld
                    refine held_yes (i := 0) (some 144) (v := ?_) rfl rfl (by kernel_rfl) (by kernel_rfl) (by kernel_rfl) (fun _ _ _ h => h) (by rfl) ?_ hHeld ?_
                    rotate_left
                    · (intro w hSw; (try dsimp only at hSw); go_simp; all_goals with_reducible rfl)
                    try simp only [Act.put, List.setIfInBounds_toArray, List.set_cons_zero, List.set_cons_succ]
                    refine held_yes (i := 1) (some 145) (v := ?_) rfl rfl (by kernel_rfl) (by kernel_rfl) (by kernel_rfl) (fun _ _ _ h => h) (by rfl) ?_ hHeld ?_
                    rotate_left
                    · (intro w hSw; (try dsimp only at hSw); go_simp; all_goals with_reducible rfl)
                    try simp only [Act.put, List.setIfInBounds_toArray, List.set_cons_zero, List.set_cons_succ]
                    refine held_yes (i := 2) (some 146) (v := ?_) rfl rfl (by kernel_rfl) (by kernel_rfl) (by kernel_rfl) (fun _ _ _ h => h) (by rfl) ?_ hHeld ?_
                    rotate_left
                    · (intro w hSw; (try dsimp only at hSw); go_simp; all_goals with_reducible rfl)
                    try simp only [Act.put, List.setIfInBounds_toArray, List.set_cons_zero, List.set_cons_succ]
                    refine held_yes (i := 3) (some 147) (v := ?_) rfl rfl (by kernel_rfl) (by kernel_rfl) (by kernel_rfl) (fun _ _ _ h => h) (by rfl) ?_ hHeld ?_
                    rotate_left
                    · (intro w hSw; (try dsimp only at hSw); go_simp; all_goals with_reducible rfl)
                    try simp only [Act.put, List.setIfInBounds_toArray, List.set_cons_zero, List.set_cons_succ]
                    refine held_yes (i := 4) (some 148) (v := ?_) rfl rfl (by kernel_rfl) (by kernel_rfl) (by kernel_rfl) (fun _ _ _ h => h) (by rfl) ?_ hHeld ?_
                    rotate_left
                    · (intro w hSw; (try dsimp only at hSw); go_simp; all_goals with_reducible rfl)
                    try simp only [Act.put, List.setIfInBounds_toArray, List.set_cons_zero, List.set_cons_succ]
                    refine held_yes (i := 5) (some 149) (v := ?_) rfl rfl (by kernel_rfl) (by kernel_rfl) (by kernel_rfl) (fun _ _ _ h => h) (by rfl) ?_ hHeld ?_
                    rotate_left
                    · (intro w hSw; (try dsimp only at hSw); go_simp; all_goals with_reducible rfl)
                    try simp only [Act.put, List.setIfInBounds_toArray, List.set_cons_zero, List.set_cons_succ]
                    refine wpAnyH_ready (rs := [6]) (by kernel_rfl) (by simp) ?_
                    refine AllReadyH.cons rfl (fun K' hK' => ?_) AllReadyH.nil
                    go_simp
                    (go_at_call 15; refine (promised_S p m nt _ TZ.out.drew).mono ?_; rintro e x5 ⟨rfl, c5⟩; have c5' : Below wr.heap.size wr x5 := (Below.refl _ _).drew.trans (c5.mono (by simp)); have n1 := bcell c5' z1; have n2 := bcell c5' z2; have n3 := bcell c5' z3; have n4 := bcell c5' z4; have C5 := Lib.hid c5'; have T5 := Lib.hid (TZ.out.below c5'); clear c5 c5')
                    go_wp2_with fail
                    refine hK'.out _ _ ?_ (fun hHeld => ?_)
                    · exact ⟨by assumption, by assumption, by assumption, by assumption⟩
                    clear hK' K'
                    try dsimp only at hHeld
                    try simp only [Act.put, List.setIfInBounds_toArray, List.set_cons_zero, List.set_cons_succ]
                    refine wpAnyH_ready (rs := [7]) (by kernel_rfl) (by simp) ?_
                    refine AllReadyH.cons rfl (fun K' hK' => ?_) AllReadyH.nil
                    go_simp
                    (go_at_call 21; refine (order_any _ _ _ _ _).mono ?_; rintro e x6 ⟨rfl, c6⟩; have o1 := bcell c6 n1; have o2 := bcell c6 n2; have o3 := bcell c6 n3; have o4 := bcell c6 n4; have C6 := Lib.hid (bchain C5.out c6); have T6 := Lib.hid (T5.out.below c6); clear c6)
                    go_wp2_with fail
                    refine hK'.out _ _ ?_ (fun hHeld => ?_)
                    · exact ⟨by assumption, by assumption, by assumption, by assumption⟩
                    clear hK' K'
                    try dsimp only at hHeld
                    try simp only [Act.put, List.setIfInBounds_toArray, List.set_cons_zero, List.set_cons_succ]
                    refine held_yes (i := 8) (some 152) (v := ?_) rfl rfl (by kernel_rfl) (by kernel_rfl) (by kernel_rfl) (fun _ _ _ h => h) (by rfl) ?_ hHeld ?_
                    rotate_left
                    · (intro w hSw; (try dsimp only at hSw); go_simp; all_goals with_reducible rfl)
                    try simp only [Act.put, List.setIfInBounds_toArray, List.set_cons_zero, List.set_cons_succ]
                    refine held_yes (i := 9) (some 153) (v := ?_) rfl rfl (by kernel_rfl) (by kernel_rfl) (by kernel_rfl) (fun _ _ _ h => h) (by rfl) ?_ hHeld ?_
                    rotate_left
                    · (intro w hSw; (try dsimp only at hSw); go_simp; all_goals with_reducible rfl)
                    try simp only [Act.put, List.setIfInBounds_toArray, List.set_cons_zero, List.set_cons_succ]
                    refine held_yes (i := 10) (some 154) (v := ?_) rfl rfl (by kernel_rfl) (by kernel_rfl) (by kernel_rfl) (fun _ _ _ h => h) (by rfl) ?_ hHeld ?_
                    rotate_left
                    · (intro w hSw; (try dsimp only at hSw); go_simp; all_goals with_reducible rfl)
                    try simp only [Act.put, List.setIfInBounds_toArray, List.set_cons_zero, List.set_cons_succ]
                    refine held_yes (i := 11) (some 155) (v := ?_) rfl rfl (by kernel_rfl) (by kernel_rfl) (by kernel_rfl) (fun _ _ _ h => h) (by rfl) ?_ hHeld ?_
                    rotate_left
                    · (intro w hSw; (try dsimp only at hSw); go_simp; all_goals with_reducible rfl)
                    try simp only [Act.put, List.setIfInBounds_toArray, List.set_cons_zero, List.set_cons_succ]
                    refine held_yes (i := 12) (some 156) (v := ?_) rfl rfl (by kernel_rfl) (by kernel_rfl) (by kernel_rfl) (fun _ _ _ h => h) (by rfl) ?_ hHeld ?_
                    rotate_left
                    · (intro w hSw; (try dsimp only at hSw); go_simp; all_goals with_reducible rfl)
                    try simp only [Act.put, List.setIfInBounds_toArray, List.set_cons_zero, List.set_cons_succ]
                    refine held_yes (i := 13) (some 157) (v := ?_) rfl rfl (by kernel_rfl) (by kernel_rfl) (by kernel_rfl) (fun _ _ _ h => h) (by rfl) ?_ hHeld ?_
                    rotate_left
                    · (intro w hSw; (try dsimp only at hSw); go_simp; all_goals with_reducible rfl)
                    try simp only [Act.put, List.setIfInBounds_toArray, List.set_cons_zero, List.set_cons_succ]
                    refine held_yes (i := 14) (some 158) (v := ?_) rfl rfl (by kernel_rfl) (by kernel_rfl) (by kernel_rfl) (fun _ _ _ h => h) (by rfl) ?_ hHeld ?_
                    rotate_left
                    · (intro w hSw; (try dsimp only at hSw); go_simp; all_goals with_reducible rfl)
                    try simp only [Act.put, List.setIfInBounds_toArray, List.set_cons_zero, List.set_cons_succ]
                    refine held_yes (i := 15) (some 159) (v := ?_) rfl rfl (by kernel_rfl) (by kernel_rfl) (by kernel_rfl) (fun _ _ _ h => h) (by rfl) ?_ hHeld ?_
                    rotate_left
                    · (intro w hSw; (try dsimp only at hSw); go_simp; all_goals with_reducible rfl)
                    try simp only [Act.put, List.setIfInBounds_toArray, List.set_cons_zero, List.set_cons_succ]
                    refine wpAnyH_ready (rs := [16]) (by kernel_rfl) (by simp) ?_
                    refine AllReadyH.cons rfl (fun K' hK' => ?_) AllReadyH.nil
                    go_simp
                    (go_at_call 17; refine (base_S p m nt _ T6.out).mono ?_; rintro e w' ⟨rfl, rfl⟩)
                    go_wp2_with fail
                    refine hK'.out _ _ ?_ (fun hHeld => ?_)
                    · exact ⟨by assumption, by assumption, by assumption, by assumption⟩
                    clear hK' K'
                    try dsimp only at hHeld
                    try simp only [Act.put, List.setIfInBounds_toArray, List.set_cons_zero, List.set_cons_succ]
                    refine held_yes (i := 17) (some 161) (v := ?_) rfl rfl (by kernel_rfl) (by kernel_rfl) (by kernel_rfl) (fun _ _ _ h => h) (by rfl) ?_ hHeld ?_
                    rotate_left
                    · (intro w hSw; (try dsimp only at hSw); go_simp; all_goals with_reducible rfl)
                    try simp only [Act.put, List.setIfInBounds_toArray, List.set_cons_zero, List.set_cons_succ]
                    refine held_yes (i := 18) (some 162) (v := ?_) rfl rfl (by kernel_rfl) (by kernel_rfl) (by kernel_rfl) (fun _ _ _ h => h) (by rfl) ?_ hHeld ?_
                    rotate_left
                    · (intro w hSw; (try dsimp only at hSw); go_simp; all_goals with_reducible rfl)
                    try simp only [Act.put, List.setIfInBounds_toArray, List.set_cons_zero, List.set_cons_succ]
                    refine held_yes (i := 19) (some 163) (v := ?_) rfl rfl (by kernel_rfl) (by kernel_rfl) (by kernel_rfl) (fun _ _ _ h => h) (by rfl) ?_ hHeld ?_
                    rotate_left
                    · (intro w hSw; (try dsimp only at hSw); go_simp; all_goals with_reducible rfl)
                    try simp only [Act.put, List.setIfInBounds_toArray, List.set_cons_zero, List.set_cons_succ]
                    refine held_yes (i := 20) (some 164) (v := ?_) rfl rfl (by kernel_rfl) (by kernel_rfl) (by kernel_rfl) (fun _ _ _ h => h) (by rfl) ?_ hHeld ?_
                    rotate_left
                    · (intro w hSw; (try dsimp only at hSw); go_simp; all_goals with_reducible rfl)
                    try simp only [Act.put, List.setIfInBounds_toArray, List.set_cons_zero, List.set_cons_succ]
                    refine held_yes (i := 21) (some 165) (v := ?_) rfl rfl (by kernel_rfl) (by kernel_rfl) (by kernel_rfl) (fun _ _ _ h => h) (by rfl) ?_ hHeld ?_
                    rotate_left
                    · (intro w hSw; (try dsimp only at hSw); go_simp; all_goals with_reducible rfl)
                    try simp only [Act.put, List.setIfInBounds_toArray, List.set_cons_zero, List.set_cons_succ]
                    refine held_yes (i := 22) (some 166) (v := ?_) rfl rfl (by kernel_rfl) (by kernel_rfl) (by kernel_rfl) (fun _ _ _ h => h) (by rfl) ?_ hHeld ?_
                    rotate_left
                    · (intro w hSw; (try dsimp only at hSw); go_simp; all_goals with_reducible rfl)
                    try simp only [Act.put, List.setIfInBounds_toArray, List.set_cons_zero, List.set_cons_succ]
                    refine held_yes (i := 23) (some 167) (v := ?_) rfl rfl (by kernel_rfl) (by kernel_rfl) (by kernel_rfl) (fun _ _ _ h => h) (by rfl) ?_ hHeld ?_
                    rotate_left
                    · (intro w hSw; (try dsimp only at hSw); go_simp; all_goals with_reducible rfl)
                    try simp only [Act.put, List.setIfInBounds_toArray, List.set_cons_zero, List.set_cons_succ]
                    refine held_yes (i := 24) (some 168) (v := ?_) rfl rfl (by kernel_rfl) (by kernel_rfl) (by kernel_rfl) (fun _ _ _ h => h) (by rfl) ?_ hHeld ?_
                    rotate_left
                    · (intro w hSw; (try dsimp only at hSw); go_simp; all_goals with_reducible rfl)
                    try simp only [Act.put, List.setIfInBounds_toArray, List.set_cons_zero, List.set_cons_succ]
                    refine held_yes (i := 25) (some 169) (v := ?_) rfl rfl (by kernel_rfl) (by kernel_rfl) (by kernel_rfl) (fun _ _ _ h => h) (by rfl) ?_ hHeld ?_
                    rotate_left
                    · (intro w hSw; (try dsimp only at hSw); go_simp; all_goals with_reducible rfl)
                    try simp only [Act.put, List.setIfInBounds_toArray, List.set_cons_zero, List.set_cons_succ]
                    refine held_yes (i := 26) (some 170) (v := ?_) rfl rfl (by kernel_rfl) (by kernel_rfl) (by kernel_rfl) (fun _ _ _ h => h) (by rfl) ?_ hHeld ?_
                    rotate_left
                    · (intro w hSw; (try dsimp only at hSw); go_simp; all_goals with_reducible rfl)
                    try simp only [Act.put, List.setIfInBounds_toArray, List.set_cons_zero, List.set_cons_succ]
                    refine held_yes (i := 27) (some 171) (v := ?_) rfl rfl (by kernel_rfl) (by kernel_rfl) (by kernel_rfl) (fun _ _ _ h => h) (by rfl) ?_ hHeld ?_
                    rotate_left
                    · (intro w hSw; (try dsimp only at hSw); go_simp; all_goals with_reducible rfl)
                    try simp only [Act.put, List.setIfInBounds_toArray, List.set_cons_zero, List.set_cons_succ]
                    refine held_yes (i := 28) (some 172) (v := ?_) rfl rfl (by kernel_rfl) (by kernel_rfl) (by kernel_rfl) (fun _ _ _ h => h) (by rfl) ?_ hHeld ?_
                    rotate_left
                    · (intro w hSw; (try dsimp only at hSw); go_simp; all_goals with_reducible rfl)
                    try simp only [Act.put, List.setIfInBounds_toArray, List.set_cons_zero, List.set_cons_succ]
                    refine held_yes (i := 29) (some 173) (v := ?_) rfl rfl (by kernel_rfl) (by kernel_rfl) (by kernel_rfl) (fun _ _ _ h => h) (by rfl) ?_ hHeld ?_
                    rotate_left
                    · (intro w hSw; (try dsimp only at hSw); go_simp; all_goals with_reducible rfl)
                    try simp only [Act.put, List.setIfInBounds_toArray, List.set_cons_zero, List.set_cons_succ]
                    refine held_yes (i := 30) (some 174) (v := ?_) rfl rfl (by kernel_rfl) (by kernel_rfl) (by kernel_rfl) (fun _ _ _ h => h) (by rfl) ?_ hHeld ?_
                    rotate_left
                    · (intro w hSw; (try dsimp only at hSw); go_simp; all_goals with_reducible rfl)
                    try simp only [Act.put, List.setIfInBounds_toArray, List.set_cons_zero, List.set_cons_succ]
                    refine held_yes (i := 31) (some 175) (v := ?_) rfl rfl (by kernel_rfl) (by kernel_rfl) (by kernel_rfl) (fun _ _ _ h => h) (by rfl) ?_ hHeld ?_
                    rotate_left
                    · (intro w hSw; (try dsimp only at hSw); go_simp; all_goals with_reducible rfl)
                    try simp only [Act.put, List.setIfInBounds_toArray, List.set_cons_zero, List.set_cons_succ]
                    refine held_yes (i := 32) (some 176) (v := ?_) rfl rfl (by kernel_rfl) (by kernel_rfl) (by kernel_rfl) (fun _ _ _ h => h) (by rfl) ?_ hHeld ?_
                    rotate_left
                    · (intro w hSw; (try dsimp only at hSw); go_simp; all_goals with_reducible rfl)
                    try simp only [Act.put, List.setIfInBounds_toArray, List.set_cons_zero, List.set_cons_succ]
                    refine held_yes (i := 33) (some 177) (v := ?_) rfl rfl (by kernel_rfl) (by kernel_rfl) (by kernel_rfl) (fun _ _ _ h => h) (by rfl) ?_ hHeld ?_
                    rotate_left
                    · (intro w hSw; (try dsimp only at hSw); go_simp; all_goals with_reducible rfl)
                    try simp only [Act.put, List.setIfInBounds_toArray, List.set_cons_zero, List.set_cons_succ]
                    refine held_yes (i := 34) (some 178) (v := ?_) rfl rfl (by kernel_rfl) (by kernel_rfl) (by kernel_rfl) (fun _ _ _ h => h) (by rfl) ?_ hHeld ?_
                    rotate_left
                    · (intro w hSw; (try dsimp only at hSw); go_simp; all_goals with_reducible rfl)
                    try simp only [Act.put, List.setIfInBounds_toArray, List.set_cons_zero, List.set_cons_succ]
                    refine held_yes (i := 35) (some 179) (v := ?_) rfl rfl (by kernel_rfl) (by kernel_rfl) (by kernel_rfl) (fun _ _ _ h => h) (by rfl) ?_ hHeld ?_
                    rotate_left
                    · (intro w hSw; (try dsimp only at hSw); go_simp; all_goals with_reducible rfl)
                    try simp only [Act.put, List.setIfInBounds_toArray, List.set_cons_zero, List.set_cons_succ]
                    refine held_yes (i := 36) (some 180) (v := ?_) rfl rfl (by kernel_rfl) (by kernel_rfl) (by kernel_rfl) (fun _ _ _ h => h) (by rfl) ?_ hHeld ?_
                    rotate_left
                    · (intro w hSw; (try dsimp only at hSw); go_simp; all_goals with_reducible rfl)
                    try simp only [Act.put, List.setIfInBounds_toArray, List.set_cons_zero, List.set_cons_succ]
                    refine wpAnyH_done (by kernel_rfl) ?_ _
                    go_wp2_with fail
                    go_roundw
                    case rel => exact ⟨j + 1, by omega, by go_num, hY.trans (C6.out.mono hY.size)⟩
                    case measure => simp [intOf]; omega
                · have e : j = nt.L.length := by omega
                  subst e
                  clear hjl
                  go_wp2_with fail
                  go_roundg (L.length - (i + 1))
                  case measure => omega
                  case rel => exact ⟨i + 1, by omega, rfl, by go_num, by rw [HN.out, E5.out]; exact TZ.out, B9.out.trans (hY.mono (bchainSz2 B9.out))⟩
      · have e : i = L.length := by omega
        subst e
        go_wp2_with (first
          | (go_at_call 13; refine (works_any _).mono ?_; rintro e wk ⟨rfl, bk⟩))
        go_returns
        exact ⟨rfl, hB.trans (bk.mono hB.size)⟩
end Go.Proofs.Ytnbiihnfggcakaa.acceptGrows
