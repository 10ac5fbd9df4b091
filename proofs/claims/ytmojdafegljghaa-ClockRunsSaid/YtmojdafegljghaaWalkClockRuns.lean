/- The walk of skaldlaw18.ClockRuns: it returns true, and writes nothing that was there. -/
import Derived.Test.YtmojdafegljghaaClockR
import Derived.OpenShut
set_option linter.unusedVariables false
set_option linter.unusedSimpArgs false
namespace Go.Proofs.Ytmojdafegljghaa.clockRuns
open Go.RowKit Go.Shelf
set_option maxRecDepth 100000 in
set_option maxHeartbeats 2000000 in
theorem walk (v0 : Value) (zs : List Int) (a : Int) (w : World) (hL : BytesIn w v0 zs) (w1 : (Lit.int .i64 a).wf = true) :
    Calls Try.prog 3 #[v0, .int .i64 a] w fun e w' => e = .returned (.bool true) ∧ Below w.heap.size w w' := by
  clear w1
  obtain ⟨A, cap, rfl, hcap, hmax, hin, hc⟩ := hL
  have HC := Lib.hid hc
  have HIN := Lib.hid hin
  have HCM : Hid (zs.length ≤ cap ∧ cap ≤ maxLen) := ⟨hcap, hmax⟩
  have HOD := Lib.hid (or_odd a)
  clear hcap hmax hin hc
  go_enter Try.func3, Try.ntmps3
  by_cases hlen : 60 < zs.length
  · go_wp2_with fail
    refine (works_any _).mono ?_
    rintro e w4 ⟨rfl, hb4⟩
    go_wp2_with fail
    go_ret
    exact ⟨rfl, hb4⟩
  · go_wp2_with fail
    generalize bits BinOp.or IntKind.i64 a 1 = B at *
    refine (new_S _).mono ?_
    rintro e w1 ⟨p, m, rfl, t1, hp, hm, b1⟩
    have T1 := Lib.hid t1
    have hz60 : zs.length ≤ 60 := by omega
    clear t1
    go_wp2_with fail
    go_loopw [6] (fun c wr => ∃ (i : Nat) (M : List (Int × Int)), i ≤ zs.length ∧ c = .int .i64 i ∧ TS wr p m 0 M ∧ M.length ≤ i ∧ Runs B zs i 0 M ∧ Below w.heap.size w wr) (fun c _ => zs.length - (intOf c).toNat)
    case atStart => exact ⟨0, [], by omega, rfl, T1.out, by simp, Runs.start _ _, b1⟩
    case round =>
      obtain ⟨i, M, hi, rfl, ht, hM, hR, hB⟩ := hrel
      have T := Lib.hid ht
      have HR := Lib.hid hR
      have HSRT := Lib.hid ht.good.srt
      clear ht hR
      by_cases hlt : i < zs.length
      · obtain ⟨b, off, rfl, hb, hcells⟩ := HC.out (by omega)
        obtain ⟨z, hz⟩ : ∃ z, zs[i]? = some z := ⟨_, List.getElem?_eq_getElem hlt⟩
        have d0 := bcell hB (hcells i z hz)
        obtain ⟨z0, z1⟩ := HIN.out z (List.mem_of_getElem? hz)
        have HD := Lib.hid (due_at hz)
        have hdz : 1 ≤ 1 + z % 60 ∧ 1 + z % 60 ≤ 1000000 := by omega
        have ho : okT (1 + z % 60) = true := by simpa [okT] using hdz
        have HE : Hid (setE (1 + z % 60) = 0) := by simp [setE, ho, Hid]
        have HS : Hid (setS 0 (idf B i) (1 + z % 60) M = put (idf B i) (0 + due zs i) M) := by
          show _ = _
          rw [HD.out]
          simp only [setS, ho, if_true]
        have HN := Lib.hid (HR.out.put HOD.out HSRT.out (by omega))
        clear hcells hz hdz ho
        go_wp2_with (go_at_call 12; refine (set_S p m _ _ 0 M _ T.out (idf_in B i) (by omega)).mono ?_; rintro e w2 ⟨he, t2, f2⟩; rw [HE.out] at he; subst he; rw [HS.out] at t2)
        go_roundw
        case rel =>
          have hsl := len_put_le (idf B i) (0 + due zs i) M
          exact ⟨i + 1, _, by omega, by go_num, t2, by omega, HN.out, Fr.upB hB f2 (fun j e => by have e : j = m := e; omega)⟩
        case measure => simp [intOf]; omega
      · have e : i = zs.length := by omega
        subst e
        obtain ⟨wo, rfl⟩ : ∃ wo : World, wo = wr := ⟨_, rfl⟩
        go_wp2_with fail
        go_loopw [7] (fun c wr => ∃ (n : Nat) (M : List (Int × Int)), n ≤ 61 ∧ c = .int .i64 ((n : Int) + 1) ∧ TS wr p m n M ∧ M.length ≤ 60 ∧ Runs B zs zs.length n M ∧ Below w.heap.size w wr) (fun c _ => 62 - (intOf c).toNat)
        case atStart => exact ⟨0, M, by omega, rfl, T.out, by omega, HR.out, hB⟩
        case round =>
          obtain ⟨n, M, hn, rfl, ht, hM, hR, hB⟩ := hrel
          have T := Lib.hid ht
          have HR := Lib.hid hR
          have HSRT := Lib.hid ht.good.srt
          clear ht hR
          by_cases hn60 : n < 61
          · have HO := Lib.hid (HR.out.out HSRT.out)
            have HCT := Lib.hid (HR.out.count HOD.out HSRT.out hz60)
            have HN := Lib.hid (HR.out.tick HSRT.out)
            have HAT : Hid (∀ (k : Nat) (x y : Int), (outT (↑n) M)[k]? = some y → (outT (↑n) M)[k + 1]? = some x → y < x) := fun k x y => out_at HSRT.out
            have hol : (outT (↑n) M).length ≤ 60 := Nat.le_trans (out_len _ M) hM
            go_wp2_with (go_at_call 13; refine (tick_S p m n M _ T.out (by omega)).mono ?_; rintro e w2 ⟨v8, rfl, r8, t2, f2⟩)
            generalize outT (↑n) M = O at *
            obtain ⟨A8, cap8, rfl, hk8, hc8⟩ := r8.view
            have HC8 := Lib.hid hc8
            have T2 := Lib.hid t2
            have hML := len_restT_le n M
            generalize restT (↑n) M = M2 at *
            have B2 : Below w.heap.size w w2 := Fr.upB hB f2 (fun j e => by rcases e with e | e <;> omega)
            clear hc8 r8 t2
            go_wp2_with fail
            obtain ⟨wq, rfl⟩ : ∃ wq : World, wq = w2 := ⟨_, rfl⟩
            go_loopw [9] (fun c wr => ∃ k : Nat, 1 ≤ k ∧ (k ≤ O.length ∨ k = 1) ∧ c = .int .i64 k ∧ Below wq.heap.size wq wr) (fun c _ => O.length + 1 - (intOf c).toNat)
            case atStart => exact ⟨1, by omega, .inr rfl, rfl, Below.refl _ _⟩
            case round =>
              obtain ⟨k, hk1, hk2, rfl, hBq⟩ := hrel
              by_cases hkl : k < O.length
              · obtain ⟨k', rfl⟩ : ∃ k', k = k' + 1 := ⟨k - 1, by omega⟩
                obtain ⟨g, rfl, _, _, hg⟩ := HC8.out (by omega)
                obtain ⟨x, hx⟩ : ∃ x, O[k' + 1]? = some x := ⟨_, List.getElem?_eq_getElem hkl⟩
                obtain ⟨y, hy⟩ : ∃ y, O[k']? = some y := ⟨_, List.getElem?_eq_getElem (by omega)⟩
                have dx := bcell hBq (hg _ x hx)
                have dy := bcell hBq (hg _ y hy)
                have hyx := HAT.out k' x y hy hx
                have cxy : decide (x ≤ y) = false := decide_eq_false (by omega)
                clear hg hx hy hyx
                go_wp2_with fail
                go_quiet (fail)
                go_wp2
                go_roundw
                case rel => exact ⟨k' + 1 + 1, by omega, by omega, by go_num, below_drewN hBq _⟩
                case measure => simp [intOf]; omega
              · obtain ⟨ws, rfl⟩ : ∃ ws : World, ws = wr := ⟨_, rfl⟩
                have TS2 := Lib.hid (T2.out.below hBq)
                have BS := bchain B2 hBq
                go_wp2_with fail
                go_loop [10, 11] (fun q c => ∃ j : Nat, j ≤ zs.length ∧ q = .int .i64 (cnt zs ((n : Int) + 1) j : Nat) ∧ c = .int .i64 j) (fun _ c => zs.length - (intOf c).toNat)
                case atStart => exact ⟨0, by omega, rfl, rfl⟩
                case round =>
                  obtain ⟨j, hj, rfl, rfl⟩ := hrel
                  by_cases hjl : j < zs.length
                  · obtain ⟨b, off, rfl, hb, hcells⟩ := HC.out (by omega)
                    obtain ⟨z, hz⟩ : ∃ z, zs[j]? = some z := ⟨_, List.getElem?_eq_getElem hjl⟩
                    have d0 := bcell BS (hcells j z hz)
                    obtain ⟨z0, z1⟩ := HIN.out z (List.mem_of_getElem? hz)
                    have HD := Lib.hid (due_at hz)
                    have hcl := cnt_le zs ((n : Int) + 1) j
                    clear hcells hz
                    by_cases hdn : due zs j = (n : Int) + 1
                    · have HCY := Lib.hid (cnt_yes hdn)
                      have hno : get (idf B j) M2 = none := HN.out.get_no HOD.out hz60 hjl (by omega)
                      have hLV : leftV (idf B j) ((n : Int) + 1) M2 = 0 := by unfold leftV; rw [hno]
                      have hIS : (get (idf B j) M2).isSome = false := by rw [hno]; rfl
                      have HLV := Lib.hid hLV
                      have HIS := Lib.hid hIS
                      have hmem : idf B j ∈ O := (HO.out _).2 ⟨j, hjl, rfl, hdn⟩
                      have HMEM := Lib.hid hmem
                      have hzn : 1 + z % 60 = (n : Int) + 1 := by rw [← HD.out]; exact hdn
                      clear hno hLV hIS hmem hdn
                      go_wp2_with (go_at_call 14; refine (left_S p m _ _ M2 _ TS2.out (idf_in B j)).mono ?_; rintro e w3 ⟨he, rfl⟩; rw [HLV.out, HIS.out] at he; subst he)
                      go_loop [15, 16] (fun f c => ∃ k : Nat, k ≤ O.length ∧ f = .bool (seen (idf B j) O k) ∧ c = .int .i64 k) (fun _ c => O.length - (intOf c).toNat)
                      case atStart => exact ⟨0, by omega, by rw [seen_zero], rfl⟩
                      case round =>
                        obtain ⟨k2, hk2', rfl, rfl⟩ := hrel
                        by_cases hkl2 : k2 < O.length
                        · obtain ⟨g, rfl, _, _, hg⟩ := HC8.out (by omega)
                          obtain ⟨u, hu⟩ : ∃ u, O[k2]? = some u := ⟨_, List.getElem?_eq_getElem hkl2⟩
                          have du := bcell hBq (hg k2 u hu)
                          have HSX := Lib.hid (seen_succ (id := idf B j) hu)
                          clear hg hu
                          cases hsn : seen (idf B j) O k2
                          · have HS1 : Hid (seen (idf B j) O (k2 + 1) = (u == idf B j)) := by show _ = _; rw [HSX.out, hsn]; rfl
                            clear hsn
                            go_wp2_with fail
                            go_round
                            case rel => exact ⟨k2 + 1, by omega, by rw [HS1.out]; rfl, by go_num⟩
                            case measure => simp [intOf]; omega
                          · have HS1 : Hid (seen (idf B j) O (k2 + 1) = true) := by show _ = _; rw [HSX.out, hsn]; rfl
                            clear hsn
                            go_wp2_with fail
                            go_round
                            case rel => exact ⟨k2 + 1, by omega, by rw [HS1.out], by go_num⟩
                            case measure => simp [intOf]; omega
                        · have e : k2 = O.length := by omega
                          subst e
                          have hall : seen (idf B j) O O.length = true := by rw [seen_all]; exact decide_eq_true HMEM.out
                          rw [hall]
                          clear hall
                          go_wp2_with fail
                          go_round
                          case rel => exact ⟨j + 1, by omega, by rw [HCY.out]; go_num, by go_num⟩
                          case measure => simp [intOf]; omega
                    · have HCN := Lib.hid (cnt_no hdn)
                      have hzn' : ¬ 1 + z % 60 = (n : Int) + 1 := by rw [← HD.out]; exact hdn
                      have hzn : ((1 + z % 60 : Int) == (n : Int) + 1) = false := by simpa using hzn'
                      by_cases hgt : (n : Int) + 1 < due zs j
                      · have hyes := HN.out.get_yes hjl hgt
                        have hLV : leftV (idf B j) ((n : Int) + 1) M2 = 1 + z % 60 - ((n : Int) + 1) := by unfold leftV; rw [hyes, ← HD.out]
                        have hIS : (get (idf B j) M2).isSome = true := by rw [hyes]; rfl
                        have HLV := Lib.hid hLV
                        have HIS := Lib.hid hIS
                        have hgz : (n : Int) + 1 < 1 + z % 60 := by rw [← HD.out]; exact hgt
                        clear hyes hLV hIS hdn hgt hzn'
                        go_wp2_with (go_at_call 14; refine (left_S p m _ _ M2 _ TS2.out (idf_in B j)).mono ?_; rintro e w3 ⟨he, rfl⟩; rw [HLV.out, HIS.out] at he; subst he)
                        go_round
                        case rel => exact ⟨j + 1, by omega, by rw [HCN.out], by go_num⟩
                        case measure => simp [intOf]; omega
                      · have hno := HN.out.get_no HOD.out hz60 hjl hgt
                        have hLV : leftV (idf B j) ((n : Int) + 1) M2 = 0 := by unfold leftV; rw [hno]
                        have hIS : (get (idf B j) M2).isSome = false := by rw [hno]; rfl
                        have HLV := Lib.hid hLV
                        have HIS := Lib.hid hIS
                        have hgz : ¬ (n : Int) + 1 < 1 + z % 60 := by rw [← HD.out]; exact hgt
                        clear hno hLV hIS hdn hgt hzn'
                        go_wp2_with (go_at_call 14; refine (left_S p m _ _ M2 _ TS2.out (idf_in B j)).mono ?_; rintro e w3 ⟨he, rfl⟩; rw [HLV.out, HIS.out] at he; subst he)
                        go_round
                        case rel => exact ⟨j + 1, by omega, by rw [HCN.out], by go_num⟩
                        case measure => simp [intOf]; omega
                  · have e : j = zs.length := by omega
                    subst e
                    rw [HCT.out]
                    go_wp2_with (go_at_call 15; refine (now_any p m _ M2 _ TS2.out.tab).mono ?_; rintro e w3 ⟨rfl, rfl⟩)
                    go_roundw
                    case rel => exact ⟨n + 1, M2, by omega, by go_num, TS2.out, by omega, HN.out, BS⟩
                    case measure => simp [intOf]; omega
          · have hM0 := HR.out.empty HSRT.out (by omega)
            subst hM0
            go_wp2_with (first
              | (go_at_call 16; refine (len_any p m _ _ _ T.out.tab).mono ?_; rintro e w3 ⟨rfl, rfl⟩)
              | (go_at_call 10; refine (works_any _).mono ?_; rintro e w4 ⟨rfl, hb4⟩))
            go_ret
            exact ⟨rfl, bchain hB hb4⟩
end Go.Proofs.Ytmojdafegljghaa.clockRuns
