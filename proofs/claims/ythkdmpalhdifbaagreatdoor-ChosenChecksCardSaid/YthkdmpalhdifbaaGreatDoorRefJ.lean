/- slices.Equal of entries and of votes; both sides' Check, Chosen, All, Agree. -/
import Derived.Test.YthkdmpalhdifbaaGreatDoorRefG
import Derived.Test.YthkdmpalhdifbaaGreatDoorRefu
import Derived.Test.YthkdmpalhdifbaaGreatDoorEqBal
set_option linter.unusedVariables false
set_option linter.unusedSimpArgs false
namespace Go.Proofs.YthkdmpalhdifbaaGreatDoor
open Go.RowKit Go.Maps Go.Shelf Go.Sort

theorem eqEn (a1 a2 a3 : Int) (a4 : ByteArray) (w : World) : (Op.equalIn 10000 58 (.agg #[.int .i64 a1, .int .i64 a2, .int .i64 a3, .string a4]) (.agg #[.int .i64 a1, .int .i64 a2, .int .i64 a3, .string a4])).run Tryz.prog w = .ok true w := by
  have u3 := Tryz.underlying3
  have a3' := Tryz.isAgg3
  have z3 := Tryz.sizeOf3
  have u9 := Tryz.underlying9
  have a9 := Tryz.isAgg9
  have z9 := Tryz.sizeOf9
  have a23 := Tryz.isAgg24
  have z23 := Tryz.sizeOf24
  have hS : Tryz.prog.underlying 58 = some (.struct (Tryz.prog.fieldsOf 58)) := by kernel_rfl
  have hp : Tryz.prog.stoodInHeld 58 = false := by kernel_rfl
  have hE := fun w => eqBalN 9997 a2 a3 a2 a3 w
  rw [show (10000 : Nat) = 9999 + 1 from rfl, run_equalIn_agg w 9999 58 _ _ hS hp]
  simp only [Program.fieldsOf, Tryz.underlying58]
  go_simp
theorem eqGEn : Tryz.prog.eqGuardType Tryz.prog.depth 58 = false := by kernel_rfl
theorem eqVs (a1 a2 a3 a4 : Int) (a5 : ByteArray) (w : World) : (Op.equalIn 10000 35 (.agg #[.int .i64 a1, .int .i64 a2, .int .i64 a3, .int .i64 a4, .string a5]) (.agg #[.int .i64 a1, .int .i64 a2, .int .i64 a3, .int .i64 a4, .string a5])).run Tryz.prog w = .ok true w := by
  have u3 := Tryz.underlying3
  have a3' := Tryz.isAgg3
  have z3 := Tryz.sizeOf3
  have u9 := Tryz.underlying9
  have a9 := Tryz.isAgg9
  have z9 := Tryz.sizeOf9
  have a23 := Tryz.isAgg24
  have z23 := Tryz.sizeOf24
  have hS : Tryz.prog.underlying 35 = some (.struct (Tryz.prog.fieldsOf 35)) := by kernel_rfl
  have hp : Tryz.prog.stoodInHeld 35 = false := by kernel_rfl
  have hE := fun w => eqBalN 9997 a2 a3 a2 a3 w
  rw [show (10000 : Nat) = 9999 + 1 from rfl, run_equalIn_agg w 9999 35 _ _ hS hp]
  simp only [Program.fieldsOf, Tryz.underlying35]
  go_simp
theorem eqGVs : Tryz.prog.eqGuardType Tryz.prog.depth 35 = false := by kernel_rfl
set_option maxRecDepth 100000 in
set_option maxHeartbeats 2000000 in
theorem equalEn_yes (va vb : Value) (R : List En) (w : World) (ha : EnIn w va R) (hb : EnIn w vb R) :
    Calls Tryz.prog 23 #[va, vb] w fun e w' => e = .returned (.bool true) ∧ Below w.heap.size w w' := by
  obtain ⟨A1, c1, rfl, hm1, h1⟩ := ha
  obtain ⟨A2, c2, rfl, hm2, h2⟩ := hb
  have H1 := Lib.hid h1
  have H2 := Lib.hid h2
  have hGq := eqGEn
  clear h1 h2
  go_enter Tryz.func23, Tryz.ntmps23
  go_wp2_with fail
  go_loopg [13] R.length (fun g c wr => ∃ i, i ≤ R.length ∧ g = R.length - i ∧ c = .int .i64 i ∧ Below w.heap.size w wr)
  case atStart => exact ⟨0, by omega, by omega, rfl, Below.refl _ _⟩
  case round =>
    obtain ⟨i, hi, rfl, rfl, hB⟩ := hrel
    have B := Lib.hid hB
    clear hB
    by_cases hlt : i < R.length
    case neg =>
      have e : i = R.length := by omega
      subst e
      go_wp2_with fail
      go_returns
      exact ⟨rfl, B.out⟩
    case pos =>
    obtain ⟨b1, rfl, hb1, k1⟩ := H1.out (by omega)
    obtain ⟨b2, rfl, hb2, k2⟩ := H2.out (by omega)
    obtain ⟨⟨xs, ⟨xr, xd⟩, xv⟩, hx⟩ : ∃ x, R[i]? = some x := ⟨_, List.getElem?_eq_getElem hlt⟩
    obtain ⟨q0, q1, q2, q3⟩ := k1 i _ hx
    obtain ⟨p0, p1, p2, p3⟩ := k2 i _ hx
    simp only at q0 q1 q2 q3 p0 p1 p2 p3
    have q0 := bcell B.out q0
    have q1 := bcell B.out q1
    have q2 := bcell B.out q2
    have q3 := bcell B.out q3
    have p0 := bcell B.out p0
    have p1 := bcell B.out p1
    have p2 := bcell B.out p2
    have p3 := bcell B.out p3
    have hEz : ∀ w : World, (Op.equalIn 10000 58 (.agg #[.int .i64 ((xs.val : Nat) : Int), .int .i64 xr, .int .i64 xd, .string xv]) (.agg #[.int .i64 ((xs.val : Nat) : Int), .int .i64 xr, .int .i64 xd, .string xv])).run Tryz.prog w = .ok true w := fun w => eqEn _ xr xd xv w
    clear hx k1 k2
    go_wp2_with fail
    go_region_held3 (fun W => W.cell? ⟨b1, i * 4, none⟩ = some (.int .i64 ((xs.val : Nat) : Int)) ∧ W.cell? ⟨b1, i * 4 + 1, none⟩ = some (.int .i64 xr) ∧ W.cell? ⟨b1, i * 4 + 2, none⟩ = some (.int .i64 xd) ∧ W.cell? ⟨b1, i * 4 + 3, none⟩ = some (.string xv) ∧ W.cell? ⟨b2, i * 4, none⟩ = some (.int .i64 ((xs.val : Nat) : Int)) ∧ W.cell? ⟨b2, i * 4 + 1, none⟩ = some (.int .i64 xr) ∧ W.cell? ⟨b2, i * 4 + 2, none⟩ = some (.int .i64 xd) ∧ W.cell? ⟨b2, i * 4 + 3, none⟩ = some (.string xv))
      (first | exact ⟨by assumption, by assumption, by assumption, by assumption, by assumption, by assumption, by assumption, by assumption⟩ | go_keep)
      (first | fail)
    go_wp2_with fail
    go_roundg (R.length - (i + 1))
    case measure => omega
    case rel => exact ⟨i + 1, by omega, rfl, by go_num, B.out.drew⟩
set_option maxRecDepth 100000 in
set_option maxHeartbeats 2000000 in
theorem equalVt_yes (va vb : Value) (L : List Vt) (w : World) (ha : VotesIn w va L) (hb : VotesIn w vb L) :
    Calls Tryz.prog 24 #[va, vb] w fun e w' => e = .returned (.bool true) ∧ Below w.heap.size w w' := by
  obtain ⟨A1, c1, rfl, hl1, hm1, h1⟩ := ha
  obtain ⟨A2, c2, rfl, hl2, hm2, h2⟩ := hb
  have H1 := Lib.hid h1
  have H2 := Lib.hid h2
  have hGq := eqGVs
  have hml1 : c1 ≤ 9223372036854775807 := by unfold maxLen at hm1; omega
  have hml2 : c2 ≤ 9223372036854775807 := by unfold maxLen at hm2; omega
  clear h1 h2 hm1 hm2
  go_enter Tryz.func24, Tryz.ntmps24
  go_wp2_with fail
  go_loopg [13] L.length (fun g c wr => ∃ i, i ≤ L.length ∧ g = L.length - i ∧ c = .int .i64 i ∧ Below w.heap.size w wr)
  case atStart => exact ⟨0, by omega, by omega, rfl, Below.refl _ _⟩
  case round =>
    obtain ⟨i, hi, rfl, rfl, hB⟩ := hrel
    have B := Lib.hid hB
    clear hB
    by_cases hlt : i < L.length
    case neg =>
      have e : i = L.length := by omega
      subst e
      go_wp2_with fail
      go_returns
      exact ⟨rfl, B.out⟩
    case pos =>
    obtain ⟨b1, o1, rfl, hb1, k1⟩ := H1.out (by omega)
    obtain ⟨b2, o2, rfl, hb2, k2⟩ := H2.out (by omega)
    obtain ⟨⟨xn, xr, xd, xs, xv⟩, hx⟩ : ∃ x, L[i]? = some x := ⟨_, List.getElem?_eq_getElem hlt⟩
    obtain ⟨q0, q1, q2, q3, q4⟩ := k1 i _ hx
    obtain ⟨p0, p1, p2, p3, p4⟩ := k2 i _ hx
    simp only at q0 q1 q2 q3 q4 p0 p1 p2 p3 p4
    have q0 := bcell B.out q0
    have q1 := bcell B.out q1
    have q2 := bcell B.out q2
    have q3 := bcell B.out q3
    have q4 := bcell B.out q4
    have p0 := bcell B.out p0
    have p1 := bcell B.out p1
    have p2 := bcell B.out p2
    have p3 := bcell B.out p3
    have p4 := bcell B.out p4
    have hEz : ∀ w : World, (Op.equalIn 10000 35 (.agg #[.int .i64 xn, .int .i64 xr, .int .i64 xd, .int .i64 xs, .string xv]) (.agg #[.int .i64 xn, .int .i64 xr, .int .i64 xd, .int .i64 xs, .string xv])).run Tryz.prog w = .ok true w := fun w => eqVs _ xr xd _ xv w
    clear hx k1 k2
    go_wp2_with fail
    go_region_held3 (fun W => W.cell? ⟨b1, o1 + i * 5, none⟩ = some (.int .i64 xn) ∧ W.cell? ⟨b1, o1 + i * 5 + 1, none⟩ = some (.int .i64 xr) ∧ W.cell? ⟨b1, o1 + i * 5 + 2, none⟩ = some (.int .i64 xd) ∧ W.cell? ⟨b1, o1 + i * 5 + 3, none⟩ = some (.int .i64 xs) ∧ W.cell? ⟨b1, o1 + i * 5 + 4, none⟩ = some (.string xv) ∧ W.cell? ⟨b2, o2 + i * 5, none⟩ = some (.int .i64 xn) ∧ W.cell? ⟨b2, o2 + i * 5 + 1, none⟩ = some (.int .i64 xr) ∧ W.cell? ⟨b2, o2 + i * 5 + 2, none⟩ = some (.int .i64 xd) ∧ W.cell? ⟨b2, o2 + i * 5 + 3, none⟩ = some (.int .i64 xs) ∧ W.cell? ⟨b2, o2 + i * 5 + 4, none⟩ = some (.string xv))
      (first | exact ⟨by assumption, by assumption, by assumption, by assumption, by assumption, by assumption, by assumption, by assumption, by assumption, by assumption⟩ | go_keep)
      (first | fail)
    go_wp2_with fail
    go_roundg (L.length - (i + 1))
    case measure => omega
    case rel => exact ⟨i + 1, by omega, rfl, by go_num, B.out.drew⟩
/-! ### No number of nodes -/
set_option maxRecDepth 100000 in
theorem chosen_no (n : Int) (v : Value) (L : List Vt) (s : Int) (w : World) (h : VotesIn w v L) (hn : ¬ (1 ≤ n ∧ n ≤ 7)) :
    Calls Tryz.prog 17 #[v, .int .i64 n, .int .i64 s] w fun e w' => e = .returned (.tuple #[.string ⟨#[]⟩, .bool false, .int .i64 2]) ∧ Below w.heap.size w w' := by
  have hg := gather_no n v L w h hn
  clear hn
  go_enter Tryz.func17, Tryz.ntmps17
  go_wp2_with (go_at_call 33; refine hg.mono ?_; rintro e w1 ⟨rfl, b1⟩; have B1 := Lib.hid b1; clear b1)
  go_returns
  exact ⟨rfl, B1.out⟩
set_option maxRecDepth 100000 in
theorem all_no (n : Int) (v : Value) (L : List Vt) (w : World) (h : VotesIn w v L) (hn : ¬ (1 ≤ n ∧ n ≤ 7)) :
    Calls Tryz.prog 19 #[v, .int .i64 n] w fun e w' => e = .returned (.tuple #[.slice none 0 0, .int .i64 2]) ∧ Below w.heap.size w w' := by
  have hg := gather_no n v L w h hn
  clear hn
  go_enter Tryz.func19, Tryz.ntmps19
  go_wp2_with (go_at_call 33; refine hg.mono ?_; rintro e w1 ⟨rfl, b1⟩; have B1 := Lib.hid b1; clear b1)
  go_returns
  exact ⟨rfl, B1.out⟩
set_option maxRecDepth 100000 in
theorem agree_no (n : Int) (v : Value) (L : List Vt) (w : World) (h : VotesIn w v L) (hn : ¬ (1 ≤ n ∧ n ≤ 7)) :
    Calls Tryz.prog 21 #[v, .int .i64 n] w fun e w' => e = .returned (.tuple #[.bool false, .int .i64 0, .int .i64 2]) ∧ Below w.heap.size w w' := by
  have hg := gather_no n v L w h hn
  clear hn
  go_enter Tryz.func21, Tryz.ntmps21
  go_wp2_with (go_at_call 33; refine hg.mono ?_; rintro e w1 ⟨rfl, b1⟩; have B1 := Lib.hid b1; clear b1)
  go_returns
  exact ⟨rfl, B1.out⟩
/-! ### Both sides -/
abbrev ChkC (f : FuncId) (n : Int) (v : Value) (L : List Vt) (i e : Int) : Prop := ∀ w : World, VotesIn w v L → Calls Tryz.prog f #[v, .int .i64 n] w fun x w' => x = .returned (.tuple #[.int .i64 i, .int .i64 e]) ∧ Below w.heap.size w w'
abbrev ChoC (f : FuncId) (n : Int) (v : Value) (L : List Vt) (s : Int) (y : ByteArray) (q : Bool) (e : Int) : Prop := ∀ w : World, VotesIn w v L → Calls Tryz.prog f #[v, .int .i64 n, .int .i64 s] w fun x w' => x = .returned (.tuple #[.string y, .bool q, .int .i64 e]) ∧ Below w.heap.size w w'
abbrev AllC (f : FuncId) (n : Int) (v : Value) (L : List Vt) (R : List En) (e : Int) : Prop := ∀ w : World, VotesIn w v L → Calls Tryz.prog f #[v, .int .i64 n] w fun x w' => ∃ vo, x = .returned (.tuple #[vo, .int .i64 e]) ∧ EnIn w' vo R ∧ Below w.heap.size w w'
abbrev AgrC (f : FuncId) (n : Int) (v : Value) (L : List Vt) (q : Bool) (i e : Int) : Prop := ∀ w : World, VotesIn w v L → Calls Tryz.prog f #[v, .int .i64 n] w fun x w' => x = .returned (.tuple #[.bool q, .int .i64 i, .int .i64 e]) ∧ Below w.heap.size w w'
theorem enIn_none (w : World) : EnIn w (.slice none 0 0) [] := ⟨none, 0, rfl, by simp, fun h => absurd h (by simp)⟩
theorem chkBad_of {n : Nat} {v : Value} {L : List Vt} {j : Nat} {w : World} (h : VotesIn w v L) (hn : 1 ≤ n ∧ n ≤ 7) (hf : fbad n [] 0 L = some j) : ChkBad n v j w := fun w' hb => by
  have := rcheck_yes n v L w' (h.below hb) hn
  rw [hf] at this
  exact this
theorem chk_both (n : Int) (v vr : Value) (L : List Vt) (hl : L.length ≤ 1000) : ∃ i e, ChkC 15 n v L i e ∧ ChkC 16 n vr L i e := by
  by_cases hn : 1 ≤ n ∧ n ≤ 7
  · obtain ⟨k, rfl⟩ : ∃ k : Nat, n = (k : Int) := ⟨n.toNat, by omega⟩
    have hk : 1 ≤ k ∧ k ≤ 7 := by omega
    rcases fbad_cases (L := L) hk with ⟨A, h1, h2, h3, h4⟩ | ⟨j, h1, h2⟩
    · exact ⟨0, 0, fun w h => check_yes k v L A w h hk hl h2, fun w h => by have := rcheck_yes k vr L w h hk; rw [h1] at this; exact this⟩
    · exact ⟨j, 2, fun w h => check_bad k v L w h hk hl h2, fun w h => by have := rcheck_yes k vr L w h hk; rw [h1] at this; exact this⟩
  · exact ⟨0, 2, fun w h => check_no n v L w h hn, fun w h => rcheck_no n vr w hn⟩
theorem cho_both (n : Int) (v vr : Value) (L : List Vt) (s : Int) (hl : L.length ≤ 1000) : ∃ y q e, ChoC 17 n v L s y q e ∧ ChoC 18 n vr L s y q e := by
  by_cases hn : 1 ≤ n ∧ n ≤ 7
  · obtain ⟨k, rfl⟩ : ∃ k : Nat, n = (k : Int) := ⟨n.toNat, by omega⟩
    have hk : 1 ≤ k ∧ k ≤ 7 := by omega
    rcases fbad_cases (L := L) hk with ⟨A, h1, h2, h3, h4⟩ | ⟨j, h1, h2⟩
    · refine ⟨(chosenF k L s).1, (chosenF k L s).2.1, (chosenF k L s).2.2, fun w h => chosen_any k v L s w h hk hl, fun w h => ?_⟩
      cases hs : (decide (s ≥ 0) && decide (s < 4096)) with
      | false =>
        rw [chosenF_range h2 hs]
        exact rchosen_range k vr L s w h hk h1 hs
      | true => exact rchosen_ok k vr L A s w h hk h1 h4 h2 h3 hs
    · refine ⟨(chosenF k L s).1, (chosenF k L s).2.1, (chosenF k L s).2.2, fun w h => chosen_any k v L s w h hk hl, fun w h => ?_⟩
      rw [chosenF_bad (by rw [h2])]
      exact rchosen_no k vr s j w (chkBad_of h hk h1)
  · exact ⟨⟨#[]⟩, false, 2, fun w h => chosen_no n v L s w h hn, fun w h => rchosen_no n vr s 0 w (fun w' hb => rcheck_no n vr w' hn)⟩
theorem all_both (n : Int) (v vr : Value) (L : List Vt) (hl : L.length ≤ 1000) : ∃ R e, AllC 19 n v L R e ∧ AllC 20 n vr L R e := by
  by_cases hn : 1 ≤ n ∧ n ≤ 7
  · obtain ⟨k, rfl⟩ : ∃ k : Nat, n = (k : Int) := ⟨n.toNat, by omega⟩
    have hk : 1 ≤ k ∧ k ≤ 7 := by omega
    rcases fbad_cases (L := L) hk with ⟨A, h1, h2, h3, h4⟩ | ⟨j, h1, h2⟩
    · obtain ⟨R, hR⟩ := RA.ex k L 4096 (Nat.le_refl _)
      refine ⟨R, 0, fun w h => (all_yes k v L A w h hk hl h2).mono fun e w' ⟨vo, out, dif, he, ho, hp, hb⟩ => ?_, fun w h => (rall_ok k vr L w h hk h1 h4).mono fun e w' ⟨vo, R2, he, ho, hr, hb⟩ => ?_⟩
      · rw [all_eq hk h4 h3 hp hR]
        exact ⟨vo, he, ho, hb⟩
      · rw [RA.uniq h3 hR hr]
        exact ⟨vo, he, ho, hb⟩
    · exact ⟨[], 2, fun w h => (all_bad k v L w h hk hl (by rw [h2])).mono fun e w' ⟨he, hb⟩ => ⟨_, he, enIn_none _, hb⟩, fun w h => (rall_no k vr j w (chkBad_of h hk h1)).mono fun e w' ⟨he, hb⟩ => ⟨_, he, enIn_none _, hb⟩⟩
  · exact ⟨[], 2, fun w h => (all_no n v L w h hn).mono fun e w' ⟨he, hb⟩ => ⟨_, he, enIn_none _, hb⟩, fun w h => (rall_no n vr 0 w (fun w' hb => rcheck_no n vr w' hn)).mono fun e w' ⟨he, hb⟩ => ⟨_, he, enIn_none _, hb⟩⟩
theorem agr_both (n : Int) (v vr : Value) (L : List Vt) (hl : L.length ≤ 1000) : ∃ q i e, AgrC 21 n v L q i e ∧ AgrC 22 n vr L q i e := by
  by_cases hn : 1 ≤ n ∧ n ≤ 7
  · obtain ⟨k, rfl⟩ : ∃ k : Nat, n = (k : Int) := ⟨n.toNat, by omega⟩
    have hk : 1 ≤ k ∧ k ≤ 7 := by omega
    refine ⟨(agreeF k L).1, (agreeF k L).2.1, (agreeF k L).2.2, fun w h => agree_any k v L w h hk hl, fun w h => ?_⟩
    rcases fbad_cases (L := L) hk with ⟨A, h1, h2, h3, h4⟩ | ⟨j, h1, h2⟩
    · exact ragree_ok k vr L A w h hk h1 h4 h2 h3
    · rw [agreeF_bad (by rw [h2])]
      exact ragree_no k vr j w (chkBad_of h hk h1)
  · exact ⟨false, 0, 2, fun w h => agree_no n v L w h hn, fun w h => ragree_no n vr 0 w (fun w' hb => rcheck_no n vr w' hn)⟩
end Go.Proofs.YthkdmpalhdifbaaGreatDoor
