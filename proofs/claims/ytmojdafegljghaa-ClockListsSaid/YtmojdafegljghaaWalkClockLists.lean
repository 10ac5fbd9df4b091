/- The walk of skaldlaw18.ClockLists: it returns true, and writes nothing that was there. -/
import Derived.Test.YtmojdafegljghaaPlayed
import Derived.OpenShut
set_option linter.unusedVariables false
set_option linter.unusedSimpArgs false
namespace Go.Proofs.Ytmojdafegljghaa.clockLists
open Go.RowKit Go.Shelf
def seen (id : Int) (xs : List Int) (i : Nat) : Bool := (xs.take i).any fun x => x == id
theorem seen_zero (id : Int) (xs : List Int) : seen id xs 0 = false := by simp [seen]
theorem seen_succ {id x : Int} {xs : List Int} {i : Nat} (h : xs[i]? = some x) : seen id xs (i + 1) = (seen id xs i || x == id) := by
  unfold seen; rw [take_snoc h]; simp
theorem seen_all (id : Int) (M : List (Int × Int)) : seen id (keys M) M.length = (get id M).isSome := by
  unfold seen get keys
  rw [List.take_of_length_le (by simp), Option.isSome_map, Bool.eq_iff_iff, List.find?_isSome, List.any_eq_true]
  simp
theorem at_get {now x e : Int} {M : List (Int × Int)} {i : Nat} (hg : Good now M) (h : M[i]? = some (x, e)) : get x M = some e := get_of_mem hg.srt (List.mem_of_getElem? h)
theorem at_lt {now x e y f : Int} {M : List (Int × Int)} {k : Nat} (hg : Good now M) (h : M[k]? = some (y, f)) (h' : M[k + 1]? = some (x, e)) : y < x := by
  obtain ⟨h1, e1⟩ := List.getElem?_eq_some_iff.1 h
  obtain ⟨h2, e2⟩ := List.getElem?_eq_some_iff.1 h'
  have := List.pairwise_iff_getElem.1 hg.srt k (k + 1) h1 h2 (by omega)
  rw [e1, e2] at this
  exact this
theorem keys_len (M : List (Int × Int)) : (keys M).length = M.length := by simp [keys]
theorem keys_at {M : List (Int × Int)} {i : Nat} {x e : Int} (h : M[i]? = some (x, e)) : (keys M)[i]? = some x := by simp [keys, h]

set_option maxRecDepth 100000 in
set_option maxHeartbeats 400000 in
theorem walk (v0 : Value) (L : List (Int × Int × Int)) (id : Int) (w : World) (hL : StepsIn w v0 L) (w1 : (Lit.int .i64 id).wf = true) :
    Calls Try.prog 6 #[v0, .int .i64 id] w fun e w' => e = .returned (.bool true) ∧ Below w.heap.size w w' := by
  have hid := in64_wf w1
  clear w1
  have HL := Lib.hid hL
  obtain ⟨A, cap, rfl, hcap, hmax, _⟩ := hL
  have HID := Lib.hid hid
  have HCM : Hid (L.length ≤ cap ∧ cap ≤ maxLen) := ⟨hcap, hmax⟩
  clear hid hcap hmax
  go_enter Try.func6, Try.ntmps6
  by_cases hlen : 100 < L.length
  · go_wp2_with fail
    refine (works_any _).mono ?_
    rintro e w4 ⟨rfl, hb4⟩
    go_wp2_with fail
    go_ret
    exact ⟨rfl, hb4⟩
  · go_wp2_with fail
    refine (played_any _ L _ HL.out (by omega)).mono ?_
    rintro e w1 ⟨p, m, rfl, t1, hn1, hM1, hp, hm, b1⟩
    generalize (playS L).1 = now at t1 hn1
    generalize (playS L).2 = M at t1 hM1
    go_wp2_with fail
    refine (ids_S p m now M _ t1).mono ?_
    rintro e w2 ⟨v6, rfl, r6, b2⟩
    have t2 := t1.below b2
    have hpm := t1.lt
    have T := Lib.hid t2
    have HG := Lib.hid t1.good
    have R6 := Lib.hid r6
    have HS6 := Lib.hid r6.lt
    obtain ⟨A6, cap6, rfl, hcap6, hc6⟩ := r6.view
    rw [keys_len] at hcap6 hc6 R6 HS6 ⊢
    have HC6 := Lib.hid hc6
    have bW : Below w.heap.size w w2 := bchain b1 b2
    have hw12 := b1.size
    have hM100 : M.length ≤ 100 := by omega
    clear t1 t2 r6 hc6
    go_wp2_with fail
    go_loopw [7, 8] (fun f c wr => ∃ i : Nat, i ≤ M.length ∧ f = .bool (seen id (keys M) i) ∧ c = .int .i64 i ∧ Below w2.heap.size w2 wr) (fun _ c _ => M.length - (intOf c).toNat)
    case atStart => exact ⟨0, by omega, by rw [seen_zero], rfl, Below.refl _ _⟩
    case round =>
      obtain ⟨i, hi, rfl, rfl, hB⟩ := hrel
      have t := T.out.below hB
      have TR := Lib.hid t
      clear t
      by_cases hlt : i < M.length
      · obtain ⟨g, rfl, _, _, hg⟩ := HC6.out (by omega)
        obtain ⟨⟨x, e⟩, hx⟩ : ∃ s, M[i]? = some s := ⟨_, List.getElem?_eq_getElem hlt⟩
        have d0 := bcell hB (hg i x (keys_at hx))
        have HSX := Lib.hid (seen_succ (id := id) (keys_at hx))
        have hgx := at_get HG.out hx
        have HIX : Hid (in64 x) := HG.out.ids _ (List.mem_of_getElem? hx)
        obtain ⟨e1, e2⟩ := HG.out.ends _ (List.mem_of_getElem? hx)
        have hLV : leftV x now M = e - now := by unfold leftV; rw [hgx]
        have hIS : (get x M).isSome = true := by rw [hgx]; rfl
        have HLV := Lib.hid hLV
        have HIS := Lib.hid hIS
        simp only at e1 e2
        have hn : 1 ≤ e - now := by omega
        have hn2 : e - now ≤ 1000000 := by omega
        generalize hen : e - now = n at *
        have cn1 : decide (n < 1) = false := decide_eq_false (by omega)
        have cn2 : decide (1000000 < n) = false := decide_eq_false (by omega)
        clear hgx hLV hIS e1 e2 hen
        cases i with
        | zero =>
          clear hx hg
          have CID : Hid (seen id (keys M) 0 = false → seen id (keys M) (0 + 1) = (x == id)) := fun h => by rw [HSX.out, h]; rfl
          have CIT : Hid (seen id (keys M) 0 = true → seen id (keys M) (0 + 1) = true) := fun h => by rw [HSX.out, h]; rfl
          cases hsn : seen id (keys M) 0
          · have HS1 := Lib.hid (CID.out hsn)
            clear hsn
            go_wp2_with (go_at_call 14; refine (left_S p m x now M _ TR.out HIX.out).mono ?_; rintro e w3 ⟨he, rfl⟩; rw [HLV.out, HIS.out] at he; subst he)
            go_quiet (fail)
            go_wp2
            go_roundw
            case rel => exact ⟨0 + 1, by omega, by rw [HS1.out], by go_num, below_drewN hB _⟩
            case measure => simp [intOf]; omega
          · have HS1 := Lib.hid (CIT.out hsn)
            clear hsn
            go_wp2_with (go_at_call 14; refine (left_S p m x now M _ TR.out HIX.out).mono ?_; rintro e w3 ⟨he, rfl⟩; rw [HLV.out, HIS.out] at he; subst he)
            go_quiet (fail)
            go_wp2
            go_roundw
            case rel => exact ⟨0 + 1, by omega, by rw [HS1.out], by go_num, below_drewN hB _⟩
            case measure => simp [intOf]; omega
        | succ k =>
          obtain ⟨⟨y, f⟩, hy⟩ : ∃ s, M[k]? = some s := ⟨_, List.getElem?_eq_getElem (by omega)⟩
          have dk := bcell hB (hg k y (keys_at hy))
          have hyx := at_lt HG.out hy hx
          have cxy : decide (x ≤ y) = false := decide_eq_false (by omega)
          clear hx hg hy hyx
          have CID : Hid (seen id (keys M) (k + 1) = false → seen id (keys M) (k + 1 + 1) = (x == id)) := fun h => by rw [HSX.out, h]; rfl
          have CIT : Hid (seen id (keys M) (k + 1) = true → seen id (keys M) (k + 1 + 1) = true) := fun h => by rw [HSX.out, h]; rfl
          cases hsn : seen id (keys M) (k + 1)
          · have HS1 := Lib.hid (CID.out hsn)
            clear hsn
            go_wp2_with (go_at_call 14; refine (left_S p m x now M _ TR.out HIX.out).mono ?_; rintro e w3 ⟨he, rfl⟩; rw [HLV.out, HIS.out] at he; subst he)
            go_quiet (fail)
            go_wp2
            go_roundw
            case rel => exact ⟨k + 1 + 1, by omega, by rw [HS1.out], by go_num, below_drewN hB _⟩
            case measure => simp [intOf]; omega
          · have HS1 := Lib.hid (CIT.out hsn)
            clear hsn
            go_wp2_with (go_at_call 14; refine (left_S p m x now M _ TR.out HIX.out).mono ?_; rintro e w3 ⟨he, rfl⟩; rw [HLV.out, HIS.out] at he; subst he)
            go_quiet (fail)
            go_wp2
            go_roundw
            case rel => exact ⟨k + 1 + 1, by omega, by rw [HS1.out], by go_num, below_drewN hB _⟩
            case measure => simp [intOf]; omega
      · have e : i = M.length := by omega
        subst e
        rw [seen_all]
        obtain ⟨wo, rfl⟩ : ∃ wo : World, wo = wr := ⟨_, rfl⟩
        have hws := hB.size
        go_wp2_with (first
          | (go_at_call 14; refine (left_S p m id now M _ TR.out HID.out).mono ?_; rintro e w3 ⟨rfl, rfl⟩)
          | (go_at_call 16; refine (len_any p m now M _ TR.out.tab).mono ?_; rintro e w3 ⟨rfl, rfl⟩)
          | (go_at_call 19; refine (ids_S p m now M _ TR.out).mono ?_; rintro e w3 ⟨v13, rfl, r13, b3⟩; have R13 := Lib.hid r13; have T3 := Lib.hid (TR.out.below b3); have hw3 := b3.size; clear r13))
        have hbl : ∀ g, A6 = some ⟨g, 0, none⟩ → ∃ cs, Blk w3 g 3 cs ∧ cs.size = cap6 := by
          intro g hg
          have r := row_fr (row_fr R6.out (Fr.of_below hB : Fr S0 w2 wo) (fun _ _ h => h)) (Fr.of_below b3 : Fr S0 wo w3) (fun _ _ h => h)
          rcases r.2 with ⟨hv, _⟩ | ⟨g', cap', cur, hv, _, hblk, _, _, hsz, _⟩
          · simp only [Value.slice.injEq] at hv
            rw [hg] at hv; cases hv.1
          · simp only [Value.slice.injEq] at hv
            rw [hg] at hv
            obtain ⟨h1, _, h3⟩ := hv
            cases h1
            exact ⟨cur, hblk, by omega⟩
        have HBL := Lib.hid hbl
        clear hbl
        go_loopw [14] (fun c wr => ∃ i : Nat, i ≤ M.length ∧ c = .int .i64 i ∧ Fr (fun k => w1.heap.size ≤ k ∧ k < w2.heap.size) w3 wr ∧ ∀ g, A6 = some ⟨g, 0, none⟩ → ∃ cs, Blk wr g 3 cs ∧ cs.size = cap6) (fun c _ => M.length - (intOf c).toNat)
        case atStart => exact ⟨0, by omega, rfl, Fr.refl _ _, HBL.out⟩
        case round =>
          obtain ⟨i, hi, rfl, hF, hbl⟩ := hrel
          have HB2 := Lib.hid hbl
          clear hbl
          by_cases hlt : i < M.length
          · obtain ⟨g, rfl, hga, hgb, hg⟩ := HC6.out (by omega)
            obtain ⟨cs, hblk, hsz⟩ := HB2.out g rfl
            obtain ⟨u, hu⟩ : ∃ u, cs[i]? = some u := ⟨_, Array.getElem?_eq_getElem (by omega)⟩
            have dc := hblk.cell hu
            have df := hblk.frozen i
            have HBK := Lib.hid hblk
            clear hg hblk hu
            go_wp2_with fail
            go_roundw
            case rel => exact ⟨i + 1, by omega, by go_num, hF.setCell (p := ⟨g, i, none⟩) (.inl ⟨hga, hgb⟩) _, fun g' hg' => by cases hg'; exact ⟨_, HBK.out.set i _, by simp; exact hsz⟩⟩
            case measure => simp [intOf]; omega
          · have e : i = M.length := by omega
            subst e
            have t4 := T3.out.fr hF (fun h => by omega) (fun h => by omega)
            have r13' := R13.out.fr hF (fun k hk => by omega)
            have T4 := Lib.hid t4
            have hw4 := hF.size
            have R13' := Lib.hid r13'
            have hk : (keys M).length ≤ 1000000000 := by rw [keys_len]; omega
            clear t4 r13'
            go_wp2_with (first
              | (go_at_call 19; refine (ids_S p m now M _ T4.out).mono ?_; rintro e w5 ⟨v14, rfl, r14, b5⟩; have R14 := Lib.hid r14; clear r14)
              | (go_at_call 20; refine (same_any _ _ _ _ (keys M) (keys M) _ R14.out (R13'.out.fr (Fr.of_below b5 : Fr S0 _ _) (fun k hk => hk.elim)) hk).mono ?_; rintro e w6 ⟨rfl, b6⟩)
              | (go_at_call 10; refine (works_any _).mono ?_; rintro e w7 ⟨rfl, b7⟩))
            go_ret
            exact ⟨rfl, bchain (bchain (bchain (Fr.upB (bchain (bchain bW hB) b3) hF (fun k hk => by omega)) b5) b6) b7⟩
end Go.Proofs.Ytmojdafegljghaa.clockLists
