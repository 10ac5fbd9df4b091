/- The walk of skaldlaw18.ClockSets: it returns true, and writes nothing that was there. -/
import Derived.Test.YtmojdafegljghaaPlayed
import Derived.OpenShut
set_option linter.unusedVariables false
set_option linter.unusedSimpArgs false
namespace Go.Proofs.Ytmojdafegljghaa.clockSets
open Go.RowKit Go.Shelf
theorem get_len {k : Int} : ∀ {M : List (Int × Int)}, Srt M → (get k M).isSome = true → (del k M).length + 1 = M.length
  | [], _, h => by simp [get] at h
  | x :: r, hs, h => by
    obtain ⟨h1, h2⟩ := List.pairwise_cons.1 hs
    by_cases e : x.1 = k
    · have hn : get k r = none := get_none.2 fun p hp => by have := h1 p hp; omega
      have hd : del k (x :: r) = r := by
        have : del k (x :: r) = del k r := by simp [del, e]
        rw [this, del_of_none hn]
      rw [hd]; rfl
    · have hg : (get k r).isSome = true := by simpa [get, e] using h
      have ih := get_len h2 hg
      have hd : del k (x :: r) = x :: del k r := by simp [del, e]
      rw [hd]; simp only [List.length_cons]; omega
theorem put_len_yes {k v : Int} {M : List (Int × Int)} (hs : Srt M) (h : (get k M).isSome = true) : (put k v M).length = M.length := by
  unfold put; rw [length_insS]; exact get_len hs h
theorem put_len_no {k v : Int} {M : List (Int × Int)} (h : (get k M).isSome = false) : (put k v M).length = M.length + 1 := by
  unfold put; rw [length_insS, del_of_none (by cases hx : get k M <;> simp_all)]
theorem leftV_put {k now t : Int} {M : List (Int × Int)} (hs : Srt M) : leftV k now (put k (now + t) M) = t := by
  unfold leftV; rw [get_put_same hs]; simp only; omega
theorem leftV_del {k now : Int} {M : List (Int × Int)} : leftV k now (del k M) = 0 := by
  unfold leftV; rw [get_del_same]
theorem isSome_put {k v : Int} {M : List (Int × Int)} (hs : Srt M) : (get k (put k v M)).isSome = true := by rw [get_put_same hs]; rfl
theorem isSome_del {k : Int} {M : List (Int × Int)} : (get k (del k M)).isSome = false := by rw [get_del_same]; rfl

theorem two_ints (w : World) (a b : Int) : IntRow (w.alloc (.cells #[.int .i64 a, .int .i64 b] 3)) w.heap.size (.slice (some ⟨w.heap.size, 0, none⟩) 2 2) [a, b] := lit_row w [a, b] (by simp [maxLen])

set_option maxRecDepth 100000 in
set_option maxHeartbeats 2000000 in
theorem walk (v0 : Value) (L : List (Int × Int × Int)) (id a b : Int) (w : World) (hL : StepsIn w v0 L) (w1 : (Lit.int .i64 id).wf = true) (w2 : (Lit.int .i64 a).wf = true) (w3 : (Lit.int .i64 b).wf = true) :
    Calls Try.prog 5 #[v0, .int .i64 id, .int .i64 a, .int .i64 b] w fun e w' => e = .returned (.bool true) ∧ Below w.heap.size w w' := by
  have hid := in64_wf w1
  clear w1 w2 w3
  have HL := Lib.hid hL
  obtain ⟨A, cap, rfl, hcap, hmax, _⟩ := hL
  have HID := Lib.hid hid
  have HCM : Hid (L.length ≤ cap ∧ cap ≤ maxLen) := ⟨hcap, hmax⟩
  clear hid hcap hmax
  go_enter Try.func5, Try.ntmps5
  by_cases hlen : 60 < L.length
  · go_wp2_with fail
    refine (works_any _).mono ?_
    rintro e w4 ⟨rfl, hb4⟩
    go_wp2_with fail
    go_ret
    exact ⟨rfl, hb4⟩
  · go_wp2_with fail
    refine (played_any _ L _ HL.out (by omega)).mono ?_
    rintro e w1 ⟨p, m, rfl, t1, hn1, hM1, hp, hm, b1⟩
    generalize (playS L).1 = now at t1 hn1
    generalize (playS L).2 = M at t1 hM1
    go_wp2_with fail
    refine (left_S p m id now M _ t1 HID.out).mono ?_
    rintro e w2 ⟨rfl, rfl⟩
    go_wp2_with fail
    refine (len_any p m now M _ t1.tab).mono ?_
    rintro e w2 ⟨rfl, rfl⟩
    have T1 := Lib.hid t1
    clear t1
    go_wp2_with fail
    have hrow := two_ints w1 a b
    have hbW : Below w.heap.size w (w1.alloc (.cells #[.int .i64 a, .int .i64 b] 3)) := b1.alloc b1.size _
    have htW : TS (w1.alloc (.cells #[.int .i64 a, .int .i64 b] 3)) p m now M := T1.out.below ((Below.refl _ _).alloc (Nat.le_refl _) _)
    obtain ⟨g, hg⟩ : ∃ g, g = w1.heap.size := ⟨_, rfl⟩
    have hpm := T1.out.lt
    have hneg : g ≠ p ∧ g ≠ m := by omega
    rw [← hg] at hrow ⊢
    generalize hW : w1.alloc (.cells #[.int .i64 a, .int .i64 b] 3) = W at *
    clear hW hg
    have hcell : ∀ i : Nat, i < 2 → ∃ t, W.cell? ⟨g, i, none⟩ = some (.int .i64 t) := by
      intro i hi
      have e := World.ownsRow.cellAt hrow i hi
      match i, hi with
      | 0, _ => exact ⟨a, e⟩
      | 1, _ => exact ⟨b, e⟩
    have HCELL := Lib.hid hcell
    have HTW := Lib.hid htW
    clear hcell hrow htW
    go_loopw [10, 11, 12, 38] (fun n ok sz c wr => ∃ (i : Nat) (M' : List (Int × Int)), i ≤ 2 ∧ n = .int .i64 (leftV id now M') ∧ ok = .bool (get id M').isSome ∧ sz = .int .i64 (M'.length : Int) ∧ c = .int .i64 i ∧ TS wr p m now M' ∧ M'.length ≤ 60 + i ∧ Below w.heap.size w wr ∧ Fr (S1 m) W wr) (fun _ _ _ c _ => 2 - (intOf c).toNat)
    case atStart => exact ⟨0, M, by omega, rfl, rfl, rfl, rfl, HTW.out, by omega, hbW, Fr.refl _ _⟩
    case round =>
      obtain ⟨i, M', hi, rfl, rfl, rfl, rfl, ht, hl', hB, hF⟩ := hrel
      have T := Lib.hid ht
      have HSRT := Lib.hid ht.good.srt
      clear ht
      by_cases hlt : i < 2
      · obtain ⟨t, hct⟩ := HCELL.out i hlt
        have d0 := hF.cell (p := ⟨g, i, none⟩) (fun e => hneg.2 e) hct
        clear hct
        by_cases ht : 1 ≤ t ∧ t ≤ 1000000
        · have ho : okT t = true := by simpa [okT] using ht
          have HE : Hid (setE t = 0) := by simp [setE, ho, Hid]
          have HS : Hid (setS now id t M' = put id (now + t) M') := by simp [setS, ho, Hid]
          clear ho
          obtain ⟨t1, t2⟩ := ht
          have HLP := Lib.hid (leftV_put (k := id) (now := now) (t := t) HSRT.out)
          have HIP := Lib.hid (isSome_put (k := id) (v := now + t) HSRT.out)
          cases hok : (get id M').isSome
          · have HLEN := Lib.hid (put_len_no (v := now + t) hok)
            clear hok
            go_wp2_with (first
              | (go_at_call 12; refine (set_S p m id t now M' _ T.out HID.out (by omega)).mono ?_; rintro e w2 ⟨he, t2, f2⟩; rw [HE.out] at he; subst he; rw [HS.out] at t2)
              | (go_at_call 14; refine (left_S p m id now _ _ t2 HID.out).mono ?_; rintro e w3 ⟨he, rfl⟩; rw [HLP.out, HIP.out] at he; subst he)
              | (go_at_call 16; refine (len_any p m now _ _ t2.tab).mono ?_; rintro e w3 ⟨he, rfl⟩; rw [HLEN.out] at he; subst he))
            go_roundw
            case rel =>
              have hln := HLEN.out
              exact ⟨i + 1, put id (now + t) M', by omega, by rw [HLP.out], by rw [HIP.out], by rw [HLEN.out]; try go_num, by go_num, t2, by omega, Fr.upB hB f2 (fun j e => by have e : j = m := e; omega), hF.trans f2⟩
            case measure => simp [intOf]; omega
          · have HLEN := Lib.hid (put_len_yes (v := now + t) HSRT.out hok)
            clear hok
            go_wp2_with (first
              | (go_at_call 12; refine (set_S p m id t now M' _ T.out HID.out (by omega)).mono ?_; rintro e w2 ⟨he, t2, f2⟩; rw [HE.out] at he; subst he; rw [HS.out] at t2)
              | (go_at_call 14; refine (left_S p m id now _ _ t2 HID.out).mono ?_; rintro e w3 ⟨he, rfl⟩; rw [HLP.out, HIP.out] at he; subst he)
              | (go_at_call 16; refine (len_any p m now _ _ t2.tab).mono ?_; rintro e w3 ⟨he, rfl⟩; rw [HLEN.out] at he; subst he))
            go_roundw
            case rel =>
              have hln := HLEN.out
              exact ⟨i + 1, put id (now + t) M', by omega, by rw [HLP.out], by rw [HIP.out], by rw [HLEN.out]; try go_num, by go_num, t2, by omega, Fr.upB hB f2 (fun j e => by have e : j = m := e; omega), hF.trans f2⟩
            case measure => simp [intOf]; omega
        · have ho : okT t = false := by simpa [okT] using ht
          have HE : Hid (setE t = 2) := by simp [setE, ho, Hid]
          have HS : Hid (setS now id t M' = M') := by simp [setS, ho, Hid]
          clear ho
          by_cases h1 : t < 1
          · clear ht
            go_wp2_with (first
              | (go_at_call 12; refine (set_S p m id t now M' _ T.out HID.out (by omega)).mono ?_; rintro e w2 ⟨he, t2, f2⟩; rw [HE.out] at he; subst he; rw [HS.out] at t2)
              | (go_at_call 14; refine (left_S p m id now _ _ t2 HID.out).mono ?_; rintro e w3 ⟨rfl, rfl⟩)
              | (go_at_call 16; refine (len_any p m now _ _ t2.tab).mono ?_; rintro e w3 ⟨rfl, rfl⟩))
            go_roundw
            case rel => exact ⟨i + 1, M', by omega, rfl, rfl, rfl, by go_num, t2, by omega, Fr.upB hB f2 (fun j e => by have e : j = m := e; omega), hF.trans f2⟩
            case measure => simp [intOf]; omega
          · have h2 : 1000000 < t := by omega
            have h1' : 1 ≤ t := by omega
            clear ht h1
            go_wp2_with (first
              | (go_at_call 12; refine (set_S p m id t now M' _ T.out HID.out (by omega)).mono ?_; rintro e w2 ⟨he, t2, f2⟩; rw [HE.out] at he; subst he; rw [HS.out] at t2)
              | (go_at_call 14; refine (left_S p m id now _ _ t2 HID.out).mono ?_; rintro e w3 ⟨rfl, rfl⟩)
              | (go_at_call 16; refine (len_any p m now _ _ t2.tab).mono ?_; rintro e w3 ⟨rfl, rfl⟩))
            go_roundw
            case rel => exact ⟨i + 1, M', by omega, rfl, rfl, rfl, by go_num, t2, by omega, Fr.upB hB f2 (fun j e => by have e : j = m := e; omega), hF.trans f2⟩
            case measure => simp [intOf]; omega
      · have hL2 : del id (del id M') = del id M' := del_of_none get_del_same
        have HIP := Lib.hid (isSome_del (k := id) (M := M'))
        have HIQ : Hid ((get id (del id (del id M'))).isSome = false) := isSome_del
        have HLP : Hid (leftV id now (del id (del id M')) = 0) := leftV_del
        have e2 : i = 2 := by omega
        subst e2
        cases hok : (get id M').isSome
        · have HOK := Lib.hid hok
          have hdl : (del id (del id M')).length = M'.length := by rw [hL2, del_of_none (by cases hx : get id M' <;> simp_all)]
          have HLQ := Lib.hid hdl
          clear hok hL2 hdl
          go_wp2_with (first
            | (go_at_call 17; refine (stop_S p m id now M' _ T.out HID.out).mono ?_; rintro e w2 ⟨he, t2, f2⟩; rw [HOK.out] at he; subst he)
            | (go_at_call 17; refine (stop_S p m id now _ _ t2 HID.out).mono ?_; rintro e w3 ⟨he, t3, f3⟩; rw [HIP.out] at he; subst he)
            | (go_at_call 14; refine (left_S p m id now _ _ t3 HID.out).mono ?_; rintro e w4 ⟨he, rfl⟩; rw [HLP.out, HIQ.out] at he; subst he)
            | (go_at_call 16; refine (len_any p m now _ _ t3.tab).mono ?_; rintro e w4 ⟨he, rfl⟩; rw [HLQ.out] at he; subst he)
            | (go_at_call 10; refine (works_any _).mono ?_; rintro e w5 ⟨rfl, hb5⟩))
          go_ret
          exact ⟨rfl, bchain (Fr.upB hB (f2.trans f3) (fun j e => by have e : j = m := e; omega)) hb5⟩
        · have HOK := Lib.hid hok
          have hpos : 1 ≤ M'.length := by have := get_len HSRT.out hok; omega
          have hdl : (del id (del id M')).length = M'.length - 1 := by rw [hL2]; have := get_len HSRT.out hok; omega
          have HLQ := Lib.hid hdl
          have hcast : ((M'.length - 1 : Nat) : Int) = (M'.length : Int) - 1 := by omega
          clear hok hL2 hdl
          go_wp2_with (first
            | (go_at_call 17; refine (stop_S p m id now M' _ T.out HID.out).mono ?_; rintro e w2 ⟨he, t2, f2⟩; rw [HOK.out] at he; subst he)
            | (go_at_call 17; refine (stop_S p m id now _ _ t2 HID.out).mono ?_; rintro e w3 ⟨he, t3, f3⟩; rw [HIP.out] at he; subst he)
            | (go_at_call 14; refine (left_S p m id now _ _ t3 HID.out).mono ?_; rintro e w4 ⟨he, rfl⟩; rw [HLP.out, HIQ.out] at he; subst he)
            | (go_at_call 16; refine (len_any p m now _ _ t3.tab).mono ?_; rintro e w4 ⟨he, rfl⟩; rw [HLQ.out, hcast] at he; subst he)
            | (go_at_call 10; refine (works_any _).mono ?_; rintro e w5 ⟨rfl, hb5⟩))
          go_ret
          exact ⟨rfl, bchain (Fr.upB hB (f2.trans f3) (fun j e => by have e : j = m := e; omega)) hb5⟩
end Go.Proofs.Ytmojdafegljghaa.clockSets
