/- Both sides' Safe and Highest. -/
import Derived.Test.YthkdmpalhdifbaaGreatDoorRefT
import Derived.Test.YthkdmpalhdifbaaGreatDoorSafE
set_option linter.unusedVariables false
set_option linter.unusedSimpArgs false
namespace Go.Proofs.YthkdmpalhdifbaaGreatDoor
open Go.RowKit Go.Maps Go.Shelf Go.Lib

set_option maxRecDepth 100000 in
set_option maxHeartbeats 2000000 in
theorem rhighest_no (n : Int) (Q : Nat) (v : Value) (s i : Int) (w : World)
    (hg : ∀ w' : World, Below w.heap.size w w' → Calls Tryz.prog 16 #[v, .int .i64 n] w' fun e w2 => e = .returned (.tuple #[.int .i64 i, .int .i64 2]) ∧ Below w'.heap.size w' w2) :
    Calls Tryz.prog 13 #[v, .int .u64 (Q : Int), .int .i64 n, .int .i64 s] w fun e w' => e = .returned (.tuple #[vtV ⟨0, 0, 0, 0, ⟨#[]⟩⟩, .bool false, .int .i64 2]) ∧ Below w.heap.size w w' := by
  have HG := Lib.hid hg
  clear hg
  have hb := box_below w (.cells #[.int .i64 0, .int .i64 0, .int .i64 0, .int .i64 0, .string ⟨#[]⟩] 38)
  have kb := Blk.new w 38 #[.int .i64 0, .int .i64 0, .int .i64 0, .int .i64 0, .string ⟨#[]⟩]
  have HB := Lib.hid hb
  have KB := Lib.hid kb
  clear hb kb
  go_enter Tryz.func13, Tryz.ntmps13
  go_upto_region 2 with (go_at_call 16; refine (HG.out _ HB.out).mono ?_; rintro e w2 ⟨rfl, b2⟩; have B2 := Lib.hid b2; clear b2)
  have K2 := Lib.hid (KB.out.fr (Fr.of_below B2.out : Fr S0 _ _) (fun h => h))
  have D2 := Lib.hid (bchain HB.out B2.out)
  obtain ⟨br, hbr⟩ : ∃ br, br = w.heap.size := ⟨_, rfl⟩
  rw [← hbr] at K2 ⊢
  have hbw : w.heap.size ≤ br := by omega
  clear hbr KB B2
  have g0 := K2.out.set 0 (.int .i64 0)
  have g1 := g0.set 1 (.int .i64 0)
  have g2 := g1.set 2 (.int .i64 0)
  have g3 := g2.set 3 (.int .i64 0)
  have g4 := g3.set 4 (.string ⟨#[]⟩)
  have c0 := g0.cell (i := 0) (v := .int .i64 0) rfl
  have c1 := g1.cell (i := 1) (v := .int .i64 0) rfl
  have c2 := g2.cell (i := 2) (v := .int .i64 0) rfl
  have c3 := g3.cell (i := 3) (v := .int .i64 0) rfl
  have c4 := g4.cell (i := 4) (v := .string ⟨#[]⟩) rfl
  have d0 := K2.out.cell (i := 0) (v := .int .i64 0) rfl
  have d1 := K2.out.cell (i := 1) (v := .int .i64 0) rfl
  have d2 := K2.out.cell (i := 2) (v := .int .i64 0) rfl
  have d3 := K2.out.cell (i := 3) (v := .int .i64 0) rfl
  have d4 := K2.out.cell (i := 4) (v := .string ⟨#[]⟩) rfl
  have z0 := K2.out.frozen 0
  have z1 := K2.out.frozen 1
  have z2 := K2.out.frozen 2
  have z3 := K2.out.frozen 3
  have z4 := K2.out.frozen 4
  have F9 := Lib.hid ((((((Fr.refl (S1 br) w2).setCell (p := ⟨br, 0, none⟩) (.inl rfl) (.int .i64 0)).setCell (p := ⟨br, 1, none⟩) (.inl rfl) (.int .i64 0)).setCell (p := ⟨br, 2, none⟩) (.inl rfl) (.int .i64 0)).setCell (p := ⟨br, 3, none⟩) (.inl rfl) (.int .i64 0)).setCell (p := ⟨br, 4, none⟩) (.inl rfl) (.string ⟨#[]⟩))
  clear g0 g1 g2 g3 g4
  go_wp2_with fail
  refine bodyPost_ret (by simp [results, Tryz.results13, go_sem, c0, c1, c2, c3, c4]; try rfl) rfl ?_
  exact ⟨rfl, Fr.upB D2.out F9.out (fun i e => by have e : i = br := e; omega)⟩
set_option maxRecDepth 100000 in
theorem rcheck_no (n : Int) (v : Value) (w : World) (hn : ¬ (1 ≤ n ∧ n ≤ 7)) :
    Calls Tryz.prog 16 #[v, .int .i64 n] w fun e w' => e = .returned (.tuple #[.int .i64 0, .int .i64 2]) ∧ Below w.heap.size w w' := by
  by_cases h : n < 1
  · have h1 := decide_eq_true h
    clear hn h
    go_enter Tryz.func16, Tryz.ntmps16
    go_wp2_with fail
    go_returns
    exact ⟨rfl, Below.refl _ _⟩
  · have h1 := decide_eq_false h
    have h2 : decide (n > 7) = true := by rw [decide_eq_true_eq]; omega
    clear hn h
    go_enter Tryz.func16, Tryz.ntmps16
    go_wp2_with fail
    go_returns
    exact ⟨rfl, Below.refl _ _⟩
set_option maxRecDepth 100000 in
set_option maxHeartbeats 2000000 in
theorem rsafe_no (n : Int) (v : Value) (r d s i : Int) (val : ByteArray) (w : World)
    (hg : ∀ w' : World, Below w.heap.size w w' → Calls Tryz.prog 16 #[v, .int .i64 n] w' fun e w2 => e = .returned (.tuple #[.int .i64 i, .int .i64 2]) ∧ Below w'.heap.size w' w2) :
    Calls Tryz.prog 11 #[v, .int .i64 n, .agg #[.int .i64 r, .int .i64 d], .int .i64 s, .string val] w fun e w' => e = .returned (.tuple #[.bool false, .int .i64 2]) ∧ Below w.heap.size w w' := by
  have hb := box_below w (.cells #[.int .i64 r, .int .i64 d] 24)
  have HB := Lib.hid hb
  have HG := Lib.hid hg
  clear hb hg
  go_enter Tryz.func11, Tryz.ntmps11
  go_wp2_with (go_at_call 16; refine (HG.out _ HB.out).mono ?_; rintro e w2 ⟨rfl, b2⟩; have B2 := Lib.hid (bchain HB.out b2); clear b2)
  go_returns
  exact ⟨rfl, B2.out⟩
set_option maxRecDepth 100000 in
set_option maxHeartbeats 2000000 in
theorem rhighest_ok (n Q : Nat) (v : Value) (L : List Vt) (s : Int) (w : World) (h : VotesIn w v L) (hn : 1 ≤ n ∧ n ≤ 7) (hf : fbad n [] 0 L = none) (hP : Poss n L) (hQ : Q < 2 ^ n) (hs : (decide (s ≥ 0) && decide (s < 4096)) = true) :
    Calls Tryz.prog 13 #[v, .int .u64 (Q : Int), .int .i64 (n : Int), .int .i64 s] w fun e w' => e = .returned (.tuple #[vtV (highR Q s L).1, .bool (highR Q s L).2, .int .i64 0]) ∧ Below w.heap.size w w' := by
  have HF := Lib.hid hf
  have HP := Lib.hid hP
  have HV0 := Lib.hid h
  have hq0 : ((Q : Int) / 2 ^ n != 0) = false := by
    rw [show ((Q : Int) / 2 ^ n) = ((Q / 2 ^ n : Nat) : Int) by simp, Nat.div_eq_of_lt hQ]; rfl
  have hB0 := fun w => bldBal0 w
  have hb := box_below w (.cells #[.int .i64 0, .int .i64 0, .int .i64 0, .int .i64 0, .string ⟨#[]⟩] 38)
  have kb := Blk.new w 38 #[.int .i64 0, .int .i64 0, .int .i64 0, .int .i64 0, .string ⟨#[]⟩]
  have HB := Lib.hid hb
  have KB := Lib.hid kb
  have HV := Lib.hid (h.below hb)
  clear h hb kb hf hP
  go_enter Tryz.func13, Tryz.ntmps13
  go_upto_region 8 with (first
    | (go_at_call 16; refine (rcheck_yes n _ L _ HV.out hn).mono ?_; rw [HF.out]; rintro e w2 ⟨rfl, b2⟩; have B2 := Lib.hid b2; clear b2; unfold chkV; simp only)
    | (go_at_call 41; refine (risSlot_any _ _).mono ?_; rw [hs]; rintro e w' ⟨rfl, rfl⟩))
  have K2 := Lib.hid (KB.out.fr (Fr.of_below B2.out : Fr S0 _ _) (fun h => h))
  have D2 := Lib.hid (bchain HB.out B2.out)
  have V2 := Lib.hid (HV.out.below B2.out)
  obtain ⟨br, hbr⟩ : ∃ br, br = w.heap.size := ⟨_, rfl⟩
  rw [← hbr] at K2 ⊢
  have hbw : w.heap.size ≤ br := by omega
  clear hbr KB B2 HV
  go_upto_region 9 with (go_at_call 42; refine (rhighest_yes n Q _ L s 0 0 _ V2.out hn HP.out hQ).mono ?_; rintro e w3 ⟨o, rfl, ho, hop, b3⟩; rw [highB_zero] at ho; have HO := Lib.hid ho; have HOP := Lib.hid hop; have B3 := Lib.hid b3; clear ho hop b3)
  have K3 := Lib.hid (K2.out.fr (Fr.of_below B3.out : Fr S0 _ _) (fun h => h))
  have D3 := Lib.hid (bchain D2.out B3.out)
  clear K2 D2 B3 V2
  have d0 := K3.out.cell (i := 0) (v := .int .i64 0) rfl
  have d1 := K3.out.cell (i := 1) (v := .int .i64 0) rfl
  have d2 := K3.out.cell (i := 2) (v := .int .i64 0) rfl
  have d3 := K3.out.cell (i := 3) (v := .int .i64 0) rfl
  have d4 := K3.out.cell (i := 4) (v := .string ⟨#[]⟩) rfl
  have z0 := K3.out.frozen 0
  have z1 := K3.out.frozen 1
  have z2 := K3.out.frozen 2
  have z3 := K3.out.frozen 3
  have z4 := K3.out.frozen 4
  cases o with
  | none =>
    have HR : Hid (highR Q s L = (⟨0, 0, 0, 0, ⟨#[]⟩⟩, false)) := by rw [Hid]; unfold highR; rw [HO.out]; rfl
    unfold idxV
    simp only
    have g0 := K3.out.set 0 (.int .i64 0)
    have g1 := g0.set 1 (.int .i64 0)
    have g2 := g1.set 2 (.int .i64 0)
    have g3 := g2.set 3 (.int .i64 0)
    have g4 := g3.set 4 (.string ⟨#[]⟩)
    have c0 := g0.cell (i := 0) (v := .int .i64 0) rfl
    have c1 := g1.cell (i := 1) (v := .int .i64 0) rfl
    have c2 := g2.cell (i := 2) (v := .int .i64 0) rfl
    have c3 := g3.cell (i := 3) (v := .int .i64 0) rfl
    have c4 := g4.cell (i := 4) (v := .string ⟨#[]⟩) rfl
    have F9 := Lib.hid ((((((Fr.refl (S1 br) w3).setCell (p := ⟨br, 0, none⟩) (.inl rfl) (.int .i64 0)).setCell (p := ⟨br, 1, none⟩) (.inl rfl) (.int .i64 0)).setCell (p := ⟨br, 2, none⟩) (.inl rfl) (.int .i64 0)).setCell (p := ⟨br, 3, none⟩) (.inl rfl) (.int .i64 0)).setCell (p := ⟨br, 4, none⟩) (.inl rfl) (.string ⟨#[]⟩))
    clear g0 g1 g2 g3 g4
    go_wp2_with fail
    refine bodyPost_ret (by simp [results, Tryz.results13, go_sem, c0, c1, c2, c3, c4]; try rfl) rfl ?_
    rw [HR.out]
    exact ⟨rfl, Fr.upB D3.out F9.out (fun i e => by have e : i = br := e; omega)⟩
  | some p =>
    have hpl := HOP.out p rfl
    obtain ⟨⟨ynd, yr, yd, ysl, yv⟩, hy⟩ : ∃ y, L[p]? = some y := ⟨_, List.getElem?_eq_getElem hpl⟩
    have HR : Hid (highR Q s L = (⟨ynd, yr, yd, ysl, yv⟩, true)) := by
      rw [Hid]; unfold highR; rw [HO.out]
      show (match L[p]? with | some y => (y, true) | none => _) = _
      rw [hy]
    obtain ⟨A0, cap0, rfl, hcap0, hmax0, hc⟩ := HV0.out
    have hml : cap0 ≤ 9223372036854775807 := by unfold maxLen at hmax0; omega
    obtain ⟨b, off, rfl, hbl, hcc⟩ := hc (by omega)
    obtain ⟨p0, p1, p2, p3, p4⟩ := hcc p _ hy
    simp only at p0 p1 p2 p3 p4
    have p0 := bcell D3.out p0
    have p1 := bcell D3.out p1
    have p2 := bcell D3.out p2
    have p3 := bcell D3.out p3
    have p4 := bcell D3.out p4
    have hbne : ¬ b = br := by omega
    clear hc hcc hy
    unfold idxV
    simp only
    have g0 := K3.out.set 0 (.int .i64 ynd)
    have g1 := g0.set 1 (.int .i64 yr)
    have g2 := g1.set 2 (.int .i64 yd)
    have g3 := g2.set 3 (.int .i64 ysl)
    have g4 := g3.set 4 (.string yv)
    have c0 := g0.cell (i := 0) (v := .int .i64 ynd) rfl
    have c1 := g1.cell (i := 1) (v := .int .i64 yr) rfl
    have c2 := g2.cell (i := 2) (v := .int .i64 yd) rfl
    have c3 := g3.cell (i := 3) (v := .int .i64 ysl) rfl
    have c4 := g4.cell (i := 4) (v := .string yv) rfl
    have F9 := Lib.hid ((((((Fr.refl (S1 br) w3).setCell (p := ⟨br, 0, none⟩) (.inl rfl) (.int .i64 ynd)).setCell (p := ⟨br, 1, none⟩) (.inl rfl) (.int .i64 yr)).setCell (p := ⟨br, 2, none⟩) (.inl rfl) (.int .i64 yd)).setCell (p := ⟨br, 3, none⟩) (.inl rfl) (.int .i64 ysl)).setCell (p := ⟨br, 4, none⟩) (.inl rfl) (.string yv))
    clear g0 g1 g2 g3 g4
    go_wp2_with fail
    refine bodyPost_ret (by simp [results, Tryz.results13, go_sem, c0, c1, c2, c3, c4]; try rfl) rfl ?_
    rw [HR.out]
    exact ⟨rfl, Fr.upB D3.out F9.out (fun i e => by have e : i = br := e; omega)⟩
end Go.Proofs.YthkdmpalhdifbaaGreatDoor
