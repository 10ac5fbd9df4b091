/- The walk of skaldlaw18.ClockAlone: it returns true, and writes nothing that was there. -/
import Derived.Test.YtmojdafegljghaaClockO
import Derived.OpenShut
set_option linter.unusedVariables false
set_option linter.unusedSimpArgs false
namespace Go.Proofs.Ytmojdafegljghaa.clockAlone
open Go.RowKit Go.Shelf
set_option maxRecDepth 100000 in
set_option maxHeartbeats 1000000 in
theorem walk (v0 : Value) (L : List (Int × Int × Int)) (id : Int) (w : World) (hL : StepsIn w v0 L) (w1 : (Lit.int .i64 id).wf = true) :
    Calls Try.prog 4 #[v0, .int .i64 id] w fun e w' => e = .returned (.bool true) ∧ Below w.heap.size w w' := by
  have hid := in64_wf w1
  clear w1
  obtain ⟨A, cap, rfl, hcap, hmax, hin, hc⟩ := hL
  have HC := Lib.hid hc
  have HIN := Lib.hid hin
  have HID := Lib.hid hid
  have HCM : Hid (L.length ≤ cap ∧ cap ≤ maxLen) := ⟨hcap, hmax⟩
  clear hid hcap hmax hin hc
  go_enter Try.func4, Try.ntmps4
  by_cases hlen : 100 < L.length
  · go_wp2_with fail
    refine (works_any _).mono ?_
    rintro e w4 ⟨rfl, hb4⟩
    go_wp2_with fail
    go_ret
    exact ⟨rfl, hb4⟩
  · go_wp2_with fail
    refine (new_S _).mono ?_
    rintro e w1 ⟨p, m, rfl, t1, hp, hm, b1⟩
    have hpm := t1.lt
    go_wp2_with fail
    refine (new_S _).mono ?_
    rintro e w2 ⟨p2, m2, rfl, t2, hp2, hm2, b2⟩
    have ht1 := t1.below b2
    obtain ⟨B, hBd⟩ : ∃ B, B = w1.heap.size := ⟨_, rfl⟩
    have hb1 := b1.size
    rw [← hBd] at hpm hp2 hm2 hb1
    have T1 := Lib.hid ht1
    have T2 := Lib.hid t2
    have bW := bchain b1 b2
    have hL100 : L.length ≤ 100 := by omega
    clear t1 t2 ht1 b1 b2 hBd
    go_wp2_with fail
    go_loopw [7] (fun c wr => ∃ (i : Nat) (now : Int) (M : List (Int × Int)), i ≤ L.length ∧ c = .int .i64 i ∧ TS wr p m now M ∧ TS wr p2 m2 now (one id M) ∧ 0 ≤ now ∧ now ≤ i ∧ M.length ≤ i ∧ Below w.heap.size w wr) (fun c _ => L.length - (intOf c).toNat)
    case atStart => exact ⟨0, 0, [], by omega, rfl, T1.out, T2.out, by simp, by simp, by simp, bW⟩
    case round =>
      obtain ⟨i, now, M, hi, rfl, ht1, ht2, hn0, hn1, hM, hB⟩ := hrel
      have T := Lib.hid ht1
      have U := Lib.hid ht2
      have HSRT := Lib.hid ht1.good.srt
      have hltp := ht1.lt
      have tok1 : True := trivial
      have tok2 : True := trivial
      have tok3 : True := trivial
      have hltq := ht2.lt
      clear ht1 ht2
      by_cases hlt : i < L.length
      · obtain ⟨b, off, rfl, hb, hcells⟩ := HC.out (by omega)
        obtain ⟨⟨x, y, z⟩, hs⟩ : ∃ s, L[i]? = some s := ⟨_, List.getElem?_eq_getElem hlt⟩
        obtain ⟨iy, iz⟩ := (HIN.out _ (List.mem_of_getElem? hs)).2
        obtain ⟨q0, q1, q2⟩ := hcells i x y z hs
        have d0 := bcell hB q0
        have d1 := bcell hB q1
        have d2 := bcell hB q2
        have HIY := Lib.hid iy
        clear q0 q1 q2 hs hcells iy iz
        by_cases x0 : x = 0
        · have x0' : ((x : Int) == 0) = true := by simpa using x0
          clear x0
          by_cases hy : y = id
          · have hy' : ((y : Int) == id) = true := by simpa using hy
            subst hy
            go_wp2_with fail
            have TA := Lib.hid (T.out.below (((Below.refl _ wr).alloc (Nat.le_refl _) (.cells #[.int .i64 x, .int .i64 y, .int .i64 z] 37))))
            have UA := Lib.hid (U.out.below (((Below.refl _ wr).alloc (Nat.le_refl _) (.cells #[.int .i64 x, .int .i64 y, .int .i64 z] 37))))
            have BA := hB.alloc hB.size (.cells #[.int .i64 x, .int .i64 y, .int .i64 z] 37)
            have KA : Hid (Blk (wr.alloc (.cells #[.int .i64 x, .int .i64 y, .int .i64 z] 37)) wr.heap.size 37 #[.int .i64 x, .int .i64 y, .int .i64 z]) := Blk.new _ _ _
            have hsA : wr.heap.size < (wr.alloc (.cells #[.int .i64 x, .int .i64 y, .int .i64 z] 37)).heap.size := by simp
            generalize wr.alloc (.cells #[.int .i64 x, .int .i64 y, .int .i64 z] 37) = W1 at *
            obtain ⟨b8, hb8⟩ : ∃ b8, b8 = wr.heap.size := ⟨_, rfl⟩
            rw [← hb8] at KA hsA hltp hltq ⊢
            clear hb8
            have k0 := KA.out.cell (i := 0) rfl
            have k1 := KA.out.cell (i := 1) rfl
            have k2 := KA.out.cell (i := 2) rfl
            have hnm : b8 ≠ m := by omega
            have hnm2 : b8 ≠ m2 := by omega
            have HS := Lib.hid (one_setS_same (now := now) (t := z) (id := y) HSRT.out)
            go_wp2_with (first
              | (go_at_call 12; have _t := tok1; refine (set_S p m y z now M _ TA.out HIY.out (by omega)).mono ?_; rintro e w3 ⟨rfl, tA1, f3⟩; have q1 := f3.cell (p := ⟨b8, 1, none⟩) (fun e => hnm e) k1; have q2 := f3.cell (p := ⟨b8, 2, none⟩) (fun e => hnm e) k2; have uB := UA.out.fr f3 (fun e => by have e : p2 = m := e; omega) (fun e => by have e : m2 = m := e; omega); clear tok1)
              | (go_at_call 12; refine (set_S p2 m2 y z now (one y M) _ uB HIY.out (Nat.lt_of_le_of_lt (one_len _ _) (by decide))).mono ?_; rintro e w4 ⟨rfl, tB, f4⟩; rw [← HS.out] at tB; have tA := tA1.fr f4 (fun e => by have e : p = m2 := e; omega) (fun e => by have e : m = m2 := e; omega))
              | (go_at_call 14; have _t := tok2; refine (left_S p m y now (setS now y z M) _ tA HIY.out).mono ?_; rintro e w5 ⟨rfl, rfl⟩; clear tok2)
              | (go_at_call 14; refine (left_S p2 m2 y now (one y (setS now y z M)) _ tB HIY.out).mono ?_; rintro e w5 ⟨he, rfl⟩; rw [leftV_one, get_one] at he; subst he))
            go_roundw
            case rel =>
              have hsl := len_setS_le now y z M
              exact ⟨i + 1, now, setS now y z M, by omega, by go_num, tA, tB, by omega, by omega, by omega, Fr.upB (Fr.upB BA f3 (fun j e => by have e : j = m := e; omega)) f4 (fun j e => by have e : j = m2 := e; omega)⟩
            case measure => simp [intOf]; omega
          · have hy' : ((y : Int) == id) = false := by simpa using hy
            go_wp2_with fail
            have TA := Lib.hid (T.out.below (((Below.refl _ wr).alloc (Nat.le_refl _) (.cells #[.int .i64 x, .int .i64 y, .int .i64 z] 37))))
            have UA := Lib.hid (U.out.below (((Below.refl _ wr).alloc (Nat.le_refl _) (.cells #[.int .i64 x, .int .i64 y, .int .i64 z] 37))))
            have BA := hB.alloc hB.size (.cells #[.int .i64 x, .int .i64 y, .int .i64 z] 37)
            have KA : Hid (Blk (wr.alloc (.cells #[.int .i64 x, .int .i64 y, .int .i64 z] 37)) wr.heap.size 37 #[.int .i64 x, .int .i64 y, .int .i64 z]) := Blk.new _ _ _
            have hsA : wr.heap.size < (wr.alloc (.cells #[.int .i64 x, .int .i64 y, .int .i64 z] 37)).heap.size := by simp
            generalize wr.alloc (.cells #[.int .i64 x, .int .i64 y, .int .i64 z] 37) = W1 at *
            obtain ⟨b8, hb8⟩ : ∃ b8, b8 = wr.heap.size := ⟨_, rfl⟩
            rw [← hb8] at KA hsA hltp hltq ⊢
            clear hb8
            have k0 := KA.out.cell (i := 0) rfl
            have k1 := KA.out.cell (i := 1) rfl
            have k2 := KA.out.cell (i := 2) rfl
            have hnm : b8 ≠ m := by omega
            have hnm2 : b8 ≠ m2 := by omega
            have HS := Lib.hid (one_setS_other (now := now) (t := z) HSRT.out (show id ≠ y from fun e => hy e.symm))
            clear hy
            go_wp2_with (first
              | (go_at_call 12; have _t := tok1; refine (set_S p m y z now M _ TA.out HIY.out (by omega)).mono ?_; rintro e w3 ⟨rfl, tA, f3⟩; have q1 := f3.cell (p := ⟨b8, 1, none⟩) (fun e => hnm e) k1; have q2 := f3.cell (p := ⟨b8, 2, none⟩) (fun e => hnm e) k2; have tB := UA.out.fr f3 (fun e => by have e : p2 = m := e; omega) (fun e => by have e : m2 = m := e; omega); rw [← HS.out] at tB; clear tok1)
              | (go_at_call 14; have _t := tok2; refine (left_S p m id now (setS now y z M) _ tA HID.out).mono ?_; rintro e w5 ⟨rfl, rfl⟩; clear tok2)
              | (go_at_call 14; refine (left_S p2 m2 id now (one id (setS now y z M)) _ tB HID.out).mono ?_; rintro e w5 ⟨he, rfl⟩; rw [leftV_one, get_one] at he; subst he))
            go_roundw
            case rel =>
              have hsl := len_setS_le now y z M
              exact ⟨i + 1, now, setS now y z M, by omega, by go_num, tA, tB, by omega, by omega, by omega, Fr.upB BA f3 (fun j e => by have e : j = m := e; omega)⟩
            case measure => simp [intOf]; omega
        · have x0' : ((x : Int) == 0) = false := by simpa using x0
          by_cases x1 : x = 1
          · have x1' : ((x : Int) == 1) = true := by simpa using x1
            clear x0 x1
            by_cases hy : y = id
            · have hy' : ((y : Int) == id) = true := by simpa using hy
              subst hy
              go_wp2_with fail
              have TA := Lib.hid (T.out.below (((Below.refl _ wr).alloc (Nat.le_refl _) (.cells #[.int .i64 x, .int .i64 y, .int .i64 z] 37))))
              have UA := Lib.hid (U.out.below (((Below.refl _ wr).alloc (Nat.le_refl _) (.cells #[.int .i64 x, .int .i64 y, .int .i64 z] 37))))
              have BA := hB.alloc hB.size (.cells #[.int .i64 x, .int .i64 y, .int .i64 z] 37)
              have KA : Hid (Blk (wr.alloc (.cells #[.int .i64 x, .int .i64 y, .int .i64 z] 37)) wr.heap.size 37 #[.int .i64 x, .int .i64 y, .int .i64 z]) := Blk.new _ _ _
              have hsA : wr.heap.size < (wr.alloc (.cells #[.int .i64 x, .int .i64 y, .int .i64 z] 37)).heap.size := by simp
              generalize wr.alloc (.cells #[.int .i64 x, .int .i64 y, .int .i64 z] 37) = W1 at *
              obtain ⟨b8, hb8⟩ : ∃ b8, b8 = wr.heap.size := ⟨_, rfl⟩
              rw [← hb8] at KA hsA hltp hltq ⊢
              clear hb8
              have k0 := KA.out.cell (i := 0) rfl
              have k1 := KA.out.cell (i := 1) rfl
              have k2 := KA.out.cell (i := 2) rfl
              have hnm : b8 ≠ m := by omega
              have hnm2 : b8 ≠ m2 := by omega
              have HS := Lib.hid (one_del_same (id := y) (L := M))
              have HGO : Hid ((get y (one y M)).isSome = (get y M).isSome) := by show _ = _; rw [get_one]
              go_wp2_with (first
                | (go_at_call 17; have _t := tok1; refine (stop_S p m y now M _ TA.out HIY.out).mono ?_; rintro e w3 ⟨rfl, tA1, f3⟩; have q1 := f3.cell (p := ⟨b8, 1, none⟩) (fun e => hnm e) k1; have uB := UA.out.fr f3 (fun e => by have e : p2 = m := e; omega) (fun e => by have e : m2 = m := e; omega); clear tok1)
                | (go_at_call 17; refine (stop_S p2 m2 y now (one y M) _ uB HIY.out).mono ?_; rintro e w4 ⟨he, tB, f4⟩; rw [HGO.out] at he; subst he; rw [← HS.out] at tB; have tA := tA1.fr f4 (fun e => by have e : p = m2 := e; omega) (fun e => by have e : m = m2 := e; omega))
                | (go_at_call 14; have _t := tok2; refine (left_S p m y now (del y M) _ tA HIY.out).mono ?_; rintro e w5 ⟨rfl, rfl⟩; clear tok2)
                | (go_at_call 14; refine (left_S p2 m2 y now (one y (del y M)) _ tB HIY.out).mono ?_; rintro e w5 ⟨he, rfl⟩; rw [leftV_one, get_one] at he; subst he))
              go_roundw
              case rel =>
                have hsl := len_del_le y M
                exact ⟨i + 1, now, del y M, by omega, by go_num, tA, tB, by omega, by omega, by omega, Fr.upB (Fr.upB BA f3 (fun j e => by have e : j = m := e; omega)) f4 (fun j e => by have e : j = m2 := e; omega)⟩
              case measure => simp [intOf]; omega
            · have hy' : ((y : Int) == id) = false := by simpa using hy
              go_wp2_with fail
              have TA := Lib.hid (T.out.below (((Below.refl _ wr).alloc (Nat.le_refl _) (.cells #[.int .i64 x, .int .i64 y, .int .i64 z] 37))))
              have UA := Lib.hid (U.out.below (((Below.refl _ wr).alloc (Nat.le_refl _) (.cells #[.int .i64 x, .int .i64 y, .int .i64 z] 37))))
              have BA := hB.alloc hB.size (.cells #[.int .i64 x, .int .i64 y, .int .i64 z] 37)
              have KA : Hid (Blk (wr.alloc (.cells #[.int .i64 x, .int .i64 y, .int .i64 z] 37)) wr.heap.size 37 #[.int .i64 x, .int .i64 y, .int .i64 z]) := Blk.new _ _ _
              have hsA : wr.heap.size < (wr.alloc (.cells #[.int .i64 x, .int .i64 y, .int .i64 z] 37)).heap.size := by simp
              generalize wr.alloc (.cells #[.int .i64 x, .int .i64 y, .int .i64 z] 37) = W1 at *
              obtain ⟨b8, hb8⟩ : ∃ b8, b8 = wr.heap.size := ⟨_, rfl⟩
              rw [← hb8] at KA hsA hltp hltq ⊢
              clear hb8
              have k0 := KA.out.cell (i := 0) rfl
              have k1 := KA.out.cell (i := 1) rfl
              have k2 := KA.out.cell (i := 2) rfl
              have hnm : b8 ≠ m := by omega
              have hnm2 : b8 ≠ m2 := by omega
              have HS := Lib.hid (one_del_other HSRT.out (show id ≠ y from fun e => hy e.symm))
              clear hy
              go_wp2_with (first
                | (go_at_call 17; have _t := tok1; refine (stop_S p m y now M _ TA.out HIY.out).mono ?_; rintro e w3 ⟨rfl, tA, f3⟩; have q1 := f3.cell (p := ⟨b8, 1, none⟩) (fun e => hnm e) k1; have tB := UA.out.fr f3 (fun e => by have e : p2 = m := e; omega) (fun e => by have e : m2 = m := e; omega); rw [← HS.out] at tB; clear tok1)
                | (go_at_call 14; have _t := tok2; refine (left_S p m id now (del y M) _ tA HID.out).mono ?_; rintro e w5 ⟨rfl, rfl⟩; clear tok2)
                | (go_at_call 14; refine (left_S p2 m2 id now (one id (del y M)) _ tB HID.out).mono ?_; rintro e w5 ⟨he, rfl⟩; rw [leftV_one, get_one] at he; subst he))
              go_roundw
              case rel =>
                have hsl := len_del_le y M
                exact ⟨i + 1, now, del y M, by omega, by go_num, tA, tB, by omega, by omega, by omega, Fr.upB BA f3 (fun j e => by have e : j = m := e; omega)⟩
              case measure => simp [intOf]; omega
          · have x1' : ((x : Int) == 1) = false := by simpa using x1
            clear x0 x1
            go_wp2_with fail
            have TA := Lib.hid (T.out.below (((Below.refl _ wr).alloc (Nat.le_refl _) (.cells #[.int .i64 x, .int .i64 y, .int .i64 z] 37))))
            have UA := Lib.hid (U.out.below (((Below.refl _ wr).alloc (Nat.le_refl _) (.cells #[.int .i64 x, .int .i64 y, .int .i64 z] 37))))
            have BA := hB.alloc hB.size (.cells #[.int .i64 x, .int .i64 y, .int .i64 z] 37)
            have KA : Hid (Blk (wr.alloc (.cells #[.int .i64 x, .int .i64 y, .int .i64 z] 37)) wr.heap.size 37 #[.int .i64 x, .int .i64 y, .int .i64 z]) := Blk.new _ _ _
            have hsA : wr.heap.size < (wr.alloc (.cells #[.int .i64 x, .int .i64 y, .int .i64 z] 37)).heap.size := by simp
            generalize wr.alloc (.cells #[.int .i64 x, .int .i64 y, .int .i64 z] 37) = W1 at *
            obtain ⟨b8, hb8⟩ : ∃ b8, b8 = wr.heap.size := ⟨_, rfl⟩
            rw [← hb8] at KA hsA hltp hltq ⊢
            clear hb8
            have k0 := KA.out.cell (i := 0) rfl
            have k1 := KA.out.cell (i := 1) rfl
            have k2 := KA.out.cell (i := 2) rfl
            have hnm : b8 ≠ m := by omega
            have hnm2 : b8 ≠ m2 := by omega
            go_wp2_with (first
              | (go_at_call 13; have _t := tok1; refine (tick_S p m now M _ TA.out (by omega)).mono ?_; rintro e w3 ⟨v11, rfl, r11, tA1, f3⟩; have hs3 := f3.size; have uB := UA.out.fr f3 (fun e => by rcases e with e | e <;> omega) (fun e => by rcases e with e | e <;> omega); clear tok1)
              | (go_at_call 13; refine (tick_S p2 m2 now (one id M) _ uB (by omega)).mono ?_; rintro e w4 ⟨v12, rfl, r12, tB1, f4⟩))
            have hs4 := f4.size
            have tA4 := tA1.fr f4 (fun e => by rcases e with e | e <;> omega) (fun e => by rcases e with e | e <;> omega)
            rw [← one_rest HSRT.out] at tB1
            have TA4 := Lib.hid tA4
            have TB4 := Lib.hid tB1
            have BB : Below w.heap.size w w4 := Fr.upB (Fr.upB BA f3 (fun j e => by rcases e with e | e <;> omega)) f4 (fun j e => by rcases e with e | e <;> omega)
            have r11' := r11.fr f4 (fun j e => by rcases e with e | e <;> omega)
            have hol := out_len now M
            rcases out_one now id HSRT.out with ⟨hmem, h12⟩ | ⟨hmem, h12⟩
            all_goals
              generalize hO : outT now M = O at *
              clear hO
              obtain ⟨A11, cap11, rfl, hk11, hc11⟩ := r11'.view
              have HC11 := Lib.hid hc11
              clear hc11 r11 r11' tA4 tB1 tA1 uB
            · have HMEM := Lib.hid hmem
              rw [h12] at r12
              obtain ⟨A12, cap12, rfl, hk12, hc12⟩ := r12.view
              obtain ⟨g12, rfl, _, _, hg12⟩ := hc12 (by simp)
              have d12 := hg12 0 id rfl
              clear hg12
              rw [show [id].length = 1 from rfl] at hk12 ⊢
              clear r12 hmem h12
              go_wp2_with fail
              go_loop [13, 14] (fun f c => ∃ k : Nat, k ≤ O.length ∧ f = .bool (seen id O k) ∧ c = .int .i64 k) (fun _ c => O.length - (intOf c).toNat)
              case atStart => exact ⟨0, by omega, by rw [seen_zero], rfl⟩
              case round =>
                obtain ⟨k, hk, rfl, rfl⟩ := hrel
                by_cases hkl : k < O.length
                · obtain ⟨g, rfl, _, _, hg⟩ := HC11.out (by omega)
                  obtain ⟨u, hu⟩ : ∃ u, O[k]? = some u := ⟨_, List.getElem?_eq_getElem hkl⟩
                  have du := hg k u hu
                  have HSX := Lib.hid (seen_succ (id := id) hu)
                  clear hg hu
                  cases hsn : seen id O k
                  · have HS1 : Hid (seen id O (k + 1) = (u == id)) := by show _ = _; rw [HSX.out, hsn]; rfl
                    clear hsn
                    go_wp2_with fail
                    go_round
                    case rel => exact ⟨k + 1, by omega, by rw [HS1.out], by go_num⟩
                    case measure => simp [intOf]; omega
                  · have HS1 : Hid (seen id O (k + 1) = true) := by show _ = _; rw [HSX.out, hsn]; rfl
                    clear hsn
                    go_wp2_with fail
                    go_round
                    case rel => exact ⟨k + 1, by omega, by rw [HS1.out], by go_num⟩
                    case measure => simp [intOf]; omega
                · have e : k = O.length := by omega
                  subst e
                  have hall : seen id O O.length = true := by rw [seen_all]; exact decide_eq_true HMEM.out
                  have HALL := Lib.hid hall
                  clear hall
                  rw [HALL.out]
                  go_wp2_with (first
                    | (go_at_call 14; have _t := tok2; refine (left_S p m id (now + 1) (restT now M) _ TA4.out HID.out).mono ?_; rintro e w5 ⟨rfl, rfl⟩; clear tok2)
                    | (go_at_call 14; refine (left_S p2 m2 id (now + 1) (one id (restT now M)) _ TB4.out HID.out).mono ?_; rintro e w5 ⟨he, rfl⟩; rw [leftV_one, get_one] at he; subst he))
                  go_roundw
                  case rel =>
                    have hsl := len_restT_le now M
                    exact ⟨i + 1, now + 1, restT now M, by omega, by go_num, TA4.out, TB4.out, by omega, by omega, by omega, BB⟩
                  case measure => simp [intOf]; omega
            · have HMEM := Lib.hid hmem
              rw [h12] at r12
              obtain ⟨A12, cap12, rfl, hk12, hc12⟩ := r12.view
              clear hc12
              rw [show ([] : List Int).length = 0 from rfl] at hk12 ⊢
              clear r12 hmem h12
              go_wp2_with fail
              go_loop [13, 14] (fun f c => ∃ k : Nat, k ≤ O.length ∧ f = .bool (seen id O k) ∧ c = .int .i64 k) (fun _ c => O.length - (intOf c).toNat)
              case atStart => exact ⟨0, by omega, by rw [seen_zero], rfl⟩
              case round =>
                obtain ⟨k, hk, rfl, rfl⟩ := hrel
                by_cases hkl : k < O.length
                · obtain ⟨g, rfl, _, _, hg⟩ := HC11.out (by omega)
                  obtain ⟨u, hu⟩ : ∃ u, O[k]? = some u := ⟨_, List.getElem?_eq_getElem hkl⟩
                  have du := hg k u hu
                  have HSX := Lib.hid (seen_succ (id := id) hu)
                  clear hg hu
                  cases hsn : seen id O k
                  · have HS1 : Hid (seen id O (k + 1) = (u == id)) := by show _ = _; rw [HSX.out, hsn]; rfl
                    clear hsn
                    go_wp2_with fail
                    go_round
                    case rel => exact ⟨k + 1, by omega, by rw [HS1.out], by go_num⟩
                    case measure => simp [intOf]; omega
                  · have HS1 : Hid (seen id O (k + 1) = true) := by show _ = _; rw [HSX.out, hsn]; rfl
                    clear hsn
                    go_wp2_with fail
                    go_round
                    case rel => exact ⟨k + 1, by omega, by rw [HS1.out], by go_num⟩
                    case measure => simp [intOf]; omega
                · have e : k = O.length := by omega
                  subst e
                  have hall : seen id O O.length = false := by rw [seen_all]; exact decide_eq_false HMEM.out
                  have HALL := Lib.hid hall
                  clear hall
                  rw [HALL.out]
                  go_wp2_with (first
                    | (go_at_call 14; have _t := tok2; refine (left_S p m id (now + 1) (restT now M) _ TA4.out HID.out).mono ?_; rintro e w5 ⟨rfl, rfl⟩; clear tok2)
                    | (go_at_call 14; refine (left_S p2 m2 id (now + 1) (one id (restT now M)) _ TB4.out HID.out).mono ?_; rintro e w5 ⟨he, rfl⟩; rw [leftV_one, get_one] at he; subst he))
                  go_roundw
                  case rel =>
                    have hsl := len_restT_le now M
                    exact ⟨i + 1, now + 1, restT now M, by omega, by go_num, TA4.out, TB4.out, by omega, by omega, by omega, BB⟩
                  case measure => simp [intOf]; omega
      · go_wp2_with (first
          | (go_at_call 15; have _t := tok3; refine (now_any p m now M _ T.out.tab).mono ?_; rintro e w3 ⟨rfl, rfl⟩; clear tok3)
          | (go_at_call 15; refine (now_any p2 m2 now _ _ U.out.tab).mono ?_; rintro e w3 ⟨rfl, rfl⟩)
          | (go_at_call 10; refine (works_any _).mono ?_; rintro e w7 ⟨rfl, b7⟩))
        go_ret
        exact ⟨rfl, bchain hB b7⟩
end Go.Proofs.Ytmojdafegljghaa.clockAlone
