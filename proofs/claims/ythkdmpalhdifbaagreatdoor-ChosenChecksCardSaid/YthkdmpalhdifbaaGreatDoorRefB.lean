/- Both sides tell the same: Safe, Highest; few and turned. -/
import Derived.Test.YthkdmpalhdifbaaGreatDoorRefU
import Derived.Test.YthkdmpalhdifbaaGreatDoorChoW
set_option linter.unusedVariables false
set_option linter.unusedSimpArgs false
namespace Go.Proofs.YthkdmpalhdifbaaGreatDoor
open Go.RowKit Go.Maps Go.Shelf Go.Lib

theorem chk_two {n : Nat} {r d : Int} (h : chkE n r d ≠ 0) : chkE n r d = 2 := by
  unfold chkE at h ⊢
  by_cases h1 : (n : Int) < 1 ∨ 7 < (n : Int)
  · rw [if_pos h1]
  · rw [if_neg h1] at h ⊢
    by_cases h2 : r = 0 ∧ d = 0
    · rw [if_pos h2] at h; exact absurd rfl h
    · rw [if_neg h2] at h ⊢
      by_cases h3 : r < 1 ∨ 1073741824 < r ∨ d < 0 ∨ (n : Int) ≤ d
      · rw [if_pos h3]
      · rw [if_neg h3] at h; exact absurd rfl h
theorem fbad_cases {n : Nat} {L : List Vt} (hn : 1 ≤ n ∧ n ≤ 7) : (∃ A, fbad n [] 0 L = none ∧ (gwalk n [] [] 0 L).1 = some A ∧ AOk n L A ∧ Poss n L) ∨ (∃ j : Nat, fbad n [] 0 L = some j ∧ gwalk n [] [] 0 L = (none, (j : Int))) := by
  rcases gwalk_spec hn (L := L) (P := []) (i := 0) (by simp) (AOk.nil n) TOk.nil with ⟨B, h1, h2, h3⟩ | ⟨j, h1, h2⟩
  · exact .inl ⟨B, h1, by rw [h2], h3, by have := (fbad_none (Poss.nil n)).1 h1; exact this⟩
  · exact .inr ⟨j, h1, h2⟩
abbrev SafeC (f : FuncId) (n : Int) (v : Value) (L : List Vt) (r d s : Int) (val : ByteArray) (q : Bool) (e : Int) : Prop :=
  ∀ w : World, VotesIn w v L → Calls Tryz.prog f #[v, .int .i64 n, .agg #[.int .i64 r, .int .i64 d], .int .i64 s, .string val] w fun x w' => x = .returned (.tuple #[.bool q, .int .i64 e]) ∧ Below w.heap.size w w'
theorem safe_both (n : Int) (v vr : Value) (L : List Vt) (r d s : Int) (val : ByteArray) (hl : L.length ≤ 1000) : ∃ q e, SafeC 10 n v L r d s val q e ∧ SafeC 11 n vr L r d s val q e := by
  by_cases hn : 1 ≤ n ∧ n ≤ 7
  · obtain ⟨k, rfl⟩ : ∃ k : Nat, n = (k : Int) := ⟨n.toNat, by omega⟩
    have hk : 1 ≤ k ∧ k ≤ 7 := by omega
    rcases fbad_cases (L := L) hk with ⟨A, h1, h2, h3, h4⟩ | ⟨j, h1, h2⟩
    · cases hv : valB k r d with
      | false =>
        refine ⟨false, 2, fun w h => ?_, fun w h => rsafe_arg k vr L r d s val w h hk h1 hv⟩
        have hvc := val_chk r d hk
        rw [hv] at hvc
        cases hz : (r == 0 && d == 0) with
        | true => exact safe_zero k v L A r d s val w h hk hl h2 hz
        | false =>
          rw [hz] at hvc
          simp only [Bool.not_false, Bool.true_and] at hvc
          exact safe_arg k v L A r d s val w h hk hl h2 hz (chk_two (of_decide_eq_false hvc.symm))
      | true =>
        have hvc := val_chk r d hk
        rw [hv] at hvc
        have hvc2 := hvc.symm
        rw [Bool.and_eq_true, Bool.not_eq_true', decide_eq_true_eq] at hvc2
        cases hs : (decide (s ≥ 0) && decide (s < 4096)) with
        | false => exact ⟨false, 3, fun w h => safe_range k v L A r d s val w h hk hl h2 hvc2.1 hvc2.2 hs, fun w h => rsafe_range k vr L r d s val w h hk h1 hv hs⟩
        | true =>
          refine ⟨setsB k L s val (r, d), 0, fun w h => ?_, fun w h => rsafe_yes k vr L r d s val w h hk h1 h4 hv hs⟩
          have e : safeL k A s val (sortB (belowL A s (r, d))).reverse = setsB k L s val (r, d) := by
            rw [Bool.eq_iff_iff, safe_iff hk h4 h3, setsB_iff, safe_sets hk h4 (show isZ (r, d) = false from hvc2.1)]
          rw [← e]
          exact safe_main k v L A r d s val w h hk hl h2 hvc2.1 hvc2.2 hs
    · refine ⟨false, 2, fun w h => safe_no k v r d s (j : Int) val w (fun w' hb => ?_), fun w h => rsafe_bad k vr L r d s val j w h hk h1⟩
      have := gather_none w' (h.below hb) hk hl (by rw [h2])
      rw [h2] at this
      exact this
  · exact ⟨false, 2, fun w h => safe_no n v r d s 0 val w (fun w' hb => gather_no n v L w' (h.below hb) hn), fun w h => rsafe_no n vr r d s 0 val w (fun w' hb => rcheck_no n vr w' hn)⟩
abbrev HighC (f : FuncId) (n : Int) (Q : Nat) (v : Value) (L : List Vt) (s : Int) (y : Vt) (q : Bool) (e : Int) : Prop :=
  ∀ w : World, VotesIn w v L → Calls Tryz.prog f #[v, .int .u64 (Q : Int), .int .i64 n, .int .i64 s] w fun x w' => x = .returned (.tuple #[vtV y, .bool q, .int .i64 e]) ∧ Below w.heap.size w w'
theorem high_both (n : Int) (Q : Nat) (v vr : Value) (L : List Vt) (s : Int) (hl : L.length ≤ 1000) : ∃ y q e, HighC 12 n Q v L s y q e ∧ HighC 13 n Q vr L s y q e := by
  by_cases hn : 1 ≤ n ∧ n ≤ 7
  · obtain ⟨k, rfl⟩ : ∃ k : Nat, n = (k : Int) := ⟨n.toNat, by omega⟩
    have hk : 1 ≤ k ∧ k ≤ 7 := by omega
    rcases fbad_cases (L := L) hk with ⟨A, h1, h2, h3, h4⟩ | ⟨j, h1, h2⟩
    · cases hq : ((Q : Int) / 2 ^ k != 0) with
      | true => exact ⟨⟨0, 0, 0, 0, ⟨#[]⟩⟩, false, 2, fun w h => highest_arg k Q v L A s w h hk hl h2 hq, fun w h => rhighest_arg k Q vr L s w h hk h1 hq⟩
      | false =>
        have hQ : Q < 2 ^ k := by
          have h5 : ((Q / 2 ^ k : Nat) : Int) = 0 := by
            have : ((Q : Int) / 2 ^ k) = 0 := by simpa using hq
            rw [← this]
            simp
          have h6 : Q / 2 ^ k = 0 := by omega
          exact Nat.lt_of_div_eq_zero (Nat.two_pow_pos k) h6
        cases hs : (decide (s ≥ 0) && decide (s < 4096)) with
        | false => exact ⟨⟨0, 0, 0, 0, ⟨#[]⟩⟩, false, 3, fun w h => highest_range k Q v L A s w h hk hl h2 hq hs, fun w h => rhighest_range k Q vr L s w h hk h1 hq hs⟩
        | true => exact ⟨_, _, 0, fun w h => highest_yes k Q v L A s w h hk hl h2 h4 hQ hs, fun w h => rhighest_ok k Q vr L s w h hk h1 h4 hQ hs⟩
    · refine ⟨⟨0, 0, 0, 0, ⟨#[]⟩⟩, false, 2, fun w h => highest_no k v Q s (j : Int) w (fun w' hb => ?_), fun w h => rhighest_bad k Q vr L s w h hk j h1⟩
      have := gather_none w' (h.below hb) hk hl (by rw [h2])
      rw [h2] at this
      exact this
  · exact ⟨⟨0, 0, 0, 0, ⟨#[]⟩⟩, false, 2, fun w h => highest_no n v Q s 0 w (fun w' hb => gather_no n v L w' (h.below hb) hn), fun w h => rhighest_no n Q vr s 0 w (fun w' hb => rcheck_no n vr w' hn)⟩

/-! ### few, turned -/
set_option maxRecDepth 100000 in
set_option maxHeartbeats 2000000 in
theorem few_any (v : Value) (L : List Vt) (w : World) (h : VotesIn w v L) (hsz : ∀ x ∈ L, x.v.size ≤ maxLen) :
    Calls Tryz.prog 7 #[v] w fun e w' => ∃ q, e = .returned (.bool q) ∧ (q = true → L.length ≤ 60) ∧ Below w.heap.size w w' := by
  obtain ⟨A0, cap0, rfl, hcap0, hmax0, hc⟩ := h
  have HC := Lib.hid hc
  have HSZ := Lib.hid hsz
  have hml : cap0 ≤ 9223372036854775807 := by unfold maxLen at hmax0; omega
  clear hc hmax0 hsz
  go_enter Tryz.func7, Tryz.ntmps7
  go_wp2_with fail
  go_loopg [8, 3] L.length (fun g c k wr => ∃ (j : Nat) (n : Int), j ≤ L.length ∧ g = L.length - j ∧ c = .int .i64 j ∧ k = .int .i64 n ∧ Below w.heap.size w wr)
  case atStart => exact ⟨0, 0, by omega, by omega, rfl, rfl, Below.refl _ _⟩
  case round =>
    obtain ⟨j, n, hj, rfl, rfl, rfl, hB⟩ := hrel
    have B := Lib.hid hB
    clear hB
    by_cases hlt : j < L.length
    case pos =>
      obtain ⟨b0, off, rfl, hb, hcc⟩ := HC.out (by omega)
      obtain ⟨⟨nd, r, d, sl, xv⟩, hx⟩ : ∃ x, L[j]? = some x := ⟨_, List.getElem?_eq_getElem hlt⟩
      have hvs : xv.size ≤ 9223372036854775807 := by have := HSZ.out _ (List.mem_of_getElem? hx); unfold maxLen at this; exact this
      obtain ⟨q0, q1, q2, q3, q4⟩ := hcc j _ hx
      simp only at q0 q1 q2 q3 q4
      have q0 := bcell B.out q0
      have q1 := bcell B.out q1
      have q2 := bcell B.out q2
      have q3 := bcell B.out q3
      have q4 := bcell B.out q4
      clear hx hcc
      go_wp2_with fail
      go_roundg (L.length - (j + 1))
      case measure => omega
      case rel => exact ⟨j + 1, _, by omega, rfl, by go_num, rfl, bchain B.out (box_below _ _)⟩
    case neg =>
      have e : j = L.length := by omega
      subst e
      by_cases h6 : L.length ≤ 60
      · have h61 : decide ((L.length : Int) ≤ 60) = true := by rw [decide_eq_true_eq]; omega
        have h62 : decide (L.length ≤ 60) = true := decide_eq_true h6
        have H6 := Lib.hid h6
        clear h6
        go_wp2_with fail
        go_returns
        exact ⟨_, rfl, fun _ => H6.out, B.out⟩
      · have h61 : decide ((L.length : Int) ≤ 60) = false := by rw [decide_eq_false_iff_not]; omega
        have h62 : decide (L.length ≤ 60) = false := decide_eq_false h6
        clear h6
        go_wp2_with fail
        go_returns
        exact ⟨_, rfl, (fun h => by cases h), B.out⟩
theorem VotesIn.of_row {w : World} {lo : Nat} {T : TypeId} {v : Value} {L : List Vt} (h : w.ownsRow lo T 5 v L.length (flat encVt L)) : VotesIn w v L := by
  rcases h.2 with ⟨rfl, hn⟩ | ⟨g, cap, cur, rfl, hb, hg, hle, hcap, hsz, htake⟩
  · exact ⟨none, 0, by rw [hn], by omega, by unfold maxLen; omega, fun h0 => by omega⟩
  · refine ⟨_, cap, rfl, hle, hcap, fun h0 => ⟨g, 0, rfl, (Array.getElem?_eq_some_iff.1 hg).1, fun i x hx => ?_⟩⟩
    have hB : Blk w g T cur := hg
    have hil : i < L.length := (List.getElem?_eq_some_iff.1 hx).1
    have hc : ∀ j, j < 5 → ∀ u, (encVt x)[j]? = some u → w.cell? ⟨g, i * 5 + j, none⟩ = some u := fun j hj u hu => by
      refine hB.cell ?_
      have h1 := flat_at (enc := encVt) (k := 5) (fun x => rfl) L i x hx j hj
      rw [hu, ← htake, List.getElem?_take, if_pos (by omega)] at h1
      rw [← Array.getElem?_toList]
      exact h1
    simp only [Nat.zero_add]
    exact ⟨hc 0 (by omega) _ rfl, hc 1 (by omega) _ rfl, hc 2 (by omega) _ rfl, hc 3 (by omega) _ rfl, hc 4 (by omega) _ rfl⟩
theorem info_rvt : (Tryz.prog.info? 38).map (fun i => (i.zero, i.size, i.bytes)) = some (some (vtV ⟨0, 0, 0, 0, ⟨#[]⟩⟩), 5, 48) := by kernel_rfl
set_option maxRecDepth 100000 in
set_option maxHeartbeats 4000000 in
theorem turned_any (v : Value) (L : List Vt) (w : World) (h : VotesIn w v L) (hl : L.length ≤ 1000) :
    Calls Tryz.prog 9 #[v] w fun e w' => ∃ vo, e = .returned vo ∧ VotesIn w' vo L ∧ Below w.heap.size w w' := by
  obtain ⟨A0, cap0, rfl, hcap0, hmax0, hc⟩ := h
  obtain ⟨i0, hi, hz0, hz1, hz2⟩ := info_parts info_rvt
  have HI := Lib.hid hi
  have HZ0 := Lib.hid hz0
  have HZ1 := Lib.hid hz1
  have HZ2 := Lib.hid hz2
  have HC := Lib.hid hc
  have hml : cap0 ≤ 9223372036854775807 := by unfold maxLen at hmax0; omega
  clear hc hmax0 hi hz0 hz1 hz2
  go_enter Tryz.func9, Tryz.ntmps9
  go_wp2_with fail
  go_loopg [8, 3] L.length (fun g c vo wr => ∃ (j : Nat), j ≤ L.length ∧ g = L.length - j ∧ c = .int .i64 j ∧ wr.ownsRow w.heap.size 38 5 vo (L.take j).length (flat encVt (L.take j)) ∧ Below w.heap.size w wr)
  case atStart => exact ⟨0, by omega, by omega, rfl, ⟨rfl, .inl ⟨rfl, rfl⟩⟩, Below.refl _ _⟩
  case round =>
    obtain ⟨j, hj, rfl, rfl, hrow, hB⟩ := hrel
    have ROW := Lib.hid hrow
    have B := Lib.hid hB
    clear hrow hB
    by_cases hlt : j < L.length
    case pos =>
      obtain ⟨b0, off, rfl, hb, hcc⟩ := HC.out (by omega)
      obtain ⟨⟨nd, r, d, sl, xv⟩, hx⟩ : ∃ x, L[j]? = some x := ⟨_, List.getElem?_eq_getElem hlt⟩
      obtain ⟨q0, q1, q2, q3, q4⟩ := hcc j _ hx
      simp only at q0 q1 q2 q3 q4
      have q0 := bcell B.out q0
      have q1 := bcell B.out q1
      have q2 := bcell B.out q2
      have q3 := bcell B.out q3
      have q4 := bcell B.out q4
      have HX := Lib.hid hx
      have htl : (L.take j).length = j := by rw [List.length_take]; omega
      clear hx hcc
      go_upto_region 5 with fail
      have bw := box_below wr (.cells #[.int .i64 nd, .int .i64 r, .int .i64 d, .int .i64 sl, .string xv] 35)
      have KX := Lib.hid (Blk.new wr 35 #[.int .i64 nd, .int .i64 r, .int .i64 d, .int .i64 sl, .string xv])
      have B3 := Lib.hid (bchain B.out bw)
      have ROW3 := Lib.hid (World.ownsRow.kept ROW.out (grown_of bw none) (by by_cases h : u3.ownBlock = none; exact .inl h; exact .inr h))
      generalize (wr.alloc (.cells #[.int .i64 nd, .int .i64 r, .int .i64 d, .int .i64 sl, .string xv] 35)) = W3 at *
      obtain ⟨bx, hbx⟩ : ∃ bx, bx = wr.heap.size := ⟨_, rfl⟩
      rw [← hbx] at KX ⊢
      clear bw q0 q1 q2 q3 q4 hbx
      have x0 := KX.out.cell (i := 0) (v := .int .i64 nd) rfl
      have x1 := KX.out.cell (i := 1) (v := .int .i64 r) rfl
      have x2 := KX.out.cell (i := 2) (v := .int .i64 d) rfl
      have x3 := KX.out.cell (i := 3) (v := .int .i64 sl) rfl
      have x4 := KX.out.cell (i := 4) (v := .string xv) rfl
      have hown3 : ∀ g, u3.ownBlock = some g → w.heap.size ≤ g ∧ g < W3.heap.size := fun g hg => World.ownsRow.lt ROW3.out g hg
      have hw3 := B3.out.size
      rw [htl] at ROW3
      go_wp2_with (first
        | (at_builtin; refine wpList_append_own_at _ rfl _ _ 28 rfl w.heap.size 38 i0 (vtV ⟨0, 0, 0, 0, ⟨#[]⟩⟩) 5 48 Tryz.underlying28 HI.out HZ0.out HZ1.out HZ2.out rfl (by decide) _ _ _ rfl (World.ownsRow.alloc ROW3.out _) ⟨W3.heap.size, 0, none⟩ 1 1 [.int .i64 nd, .int .i64 r, .int .i64 d, .int .i64 sl, .string xv] rfl rfl (cells_new _ _ _) (by simp [Value.oneCell']) (by unfold maxLen; omega) (by omega) (by simp; omega) ?_; intro v9 w9 hown' hgrow _ hoa; have HOWN := Lib.hid hown'; have HGR := Lib.hid hgrow; clear hown' hgrow hoa))
      have bl9 := box_below W3 (.cells #[.int .i64 nd, .int .i64 r, .int .i64 d, .int .i64 sl, .string xv] 38)
      have f9 : Fr (fun i => u3.ownBlock = some i) (W3.alloc (.cells #[.int .i64 nd, .int .i64 r, .int .i64 d, .int .i64 sl, .string xv] 38)) w9 := Fr.of_grown HGR.out (fun i e => e)
      have C9 := Lib.hid (Fr.upB (bchain B3.out bl9) f9 (fun i e => by have := hown3 i e; omega))
      have RW9 : Hid (w9.ownsRow w.heap.size 38 5 v9 (L.take (j + 1)).length (flat encVt (L.take (j + 1)))) := by
        have e0 : L.take (j + 1) = L.take j ++ [⟨nd, r, d, sl, xv⟩] := by rw [List.take_add_one, HX.out]; rfl
        have e1 : flat encVt (L.take j ++ [⟨nd, r, d, sl, xv⟩]) = flat encVt (L.take j) ++ [.int .i64 nd, .int .i64 r, .int .i64 d, .int .i64 sl, .string xv] := by unfold flat; rw [List.flatMap_append]; rfl
        rw [Hid, e0, List.length_append, htl, e1]
        exact HOWN.out
      go_roundg (L.length - (j + 1))
      case measure => omega
      case rel => exact ⟨j + 1, by omega, rfl, by go_num, RW9.out, C9.out⟩
    case neg =>
      have e : j = L.length := by omega
      have VI : Hid (VotesIn wr u3 L) := by
        have h := ROW.out
        rw [e, List.take_length] at h
        exact VotesIn.of_row h
      subst e
      go_wp2_with fail
      go_returns
      exact ⟨_, rfl, VI.out, B.out⟩
end Go.Proofs.YthkdmpalhdifbaaGreatDoor
