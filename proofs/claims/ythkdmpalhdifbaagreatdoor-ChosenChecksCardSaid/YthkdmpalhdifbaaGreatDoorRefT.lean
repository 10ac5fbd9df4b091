/- chosen.Highest, where it refuses; the reference's Highest. -/
import Derived.Test.YthkdmpalhdifbaaGreatDoorRefS
set_option linter.unusedVariables false
set_option linter.unusedSimpArgs false
namespace Go.Proofs.YthkdmpalhdifbaaGreatDoor
open Go.RowKit Go.Maps Go.Shelf Go.Lib

set_option maxRecDepth 100000 in
set_option maxHeartbeats 2000000 in
theorem highest_no (n : Int) (v : Value) (Q s i : Int) (w : World)
    (hg : ∀ w' : World, Below w.heap.size w w' → Calls Tryz.prog 33 #[v, .int .i64 n] w' fun e w2 => e = .returned (.tuple #[.map none, .int .i64 i, .int .i64 2]) ∧ Below w'.heap.size w' w2) :
    Calls Tryz.prog 12 #[v, .int .u64 Q, .int .i64 n, .int .i64 s] w fun e w' => e = .returned (.tuple #[vtV ⟨0, 0, 0, 0, ⟨#[]⟩⟩, .bool false, .int .i64 2]) ∧ Below w.heap.size w w' := by
  have HG := Lib.hid hg
  clear hg
  have hb := box_below w (.cells #[.int .i64 0, .int .i64 0, .int .i64 0, .int .i64 0, .string ⟨#[]⟩] 35)
  have kb := Blk.new w 35 #[.int .i64 0, .int .i64 0, .int .i64 0, .int .i64 0, .string ⟨#[]⟩]
  have HB := Lib.hid hb
  have KB := Lib.hid kb
  clear hb kb
  go_enter Tryz.func12, Tryz.ntmps12
  go_upto_region 2 with (go_at_call 33; refine (HG.out _ HB.out).mono ?_; rintro e w2 ⟨rfl, b2⟩; have B2 := Lib.hid b2; clear b2)
  have K2 := Lib.hid (KB.out.fr (Fr.of_below B2.out : Fr S0 _ _) (fun h => h))
  have D2 := Lib.hid (bchain HB.out B2.out)
  obtain ⟨br, hbr⟩ : ∃ br, br = w.heap.size := ⟨_, rfl⟩
  rw [← hbr] at K2 ⊢
  have hbw : w.heap.size ≤ br := by omega
  clear hbr KB B2
  have g0 := K2.out.set 0 (.int .i64 0)
  have g1 := g0.set 1 (.int .i64 0)
  have g2 := g1.set 2 (.int .i64 0)
  have g3 := g2.set 3 (.int .i64 0)
  have g4 := g3.set 4 (.string ⟨#[]⟩)
  have c0 := g0.cell (i := 0) (v := .int .i64 0) rfl
  have c1 := g1.cell (i := 1) (v := .int .i64 0) rfl
  have c2 := g2.cell (i := 2) (v := .int .i64 0) rfl
  have c3 := g3.cell (i := 3) (v := .int .i64 0) rfl
  have c4 := g4.cell (i := 4) (v := .string ⟨#[]⟩) rfl
  have d0 := K2.out.cell (i := 0) (v := .int .i64 0) rfl
  have d1 := K2.out.cell (i := 1) (v := .int .i64 0) rfl
  have d2 := K2.out.cell (i := 2) (v := .int .i64 0) rfl
  have d3 := K2.out.cell (i := 3) (v := .int .i64 0) rfl
  have d4 := K2.out.cell (i := 4) (v := .string ⟨#[]⟩) rfl
  have z0 := K2.out.frozen 0
  have z1 := K2.out.frozen 1
  have z2 := K2.out.frozen 2
  have z3 := K2.out.frozen 3
  have z4 := K2.out.frozen 4
  have F9 := Lib.hid ((((((Fr.refl (S1 br) w2).setCell (p := ⟨br, 0, none⟩) (.inl rfl) (.int .i64 0)).setCell (p := ⟨br, 1, none⟩) (.inl rfl) (.int .i64 0)).setCell (p := ⟨br, 2, none⟩) (.inl rfl) (.int .i64 0)).setCell (p := ⟨br, 3, none⟩) (.inl rfl) (.int .i64 0)).setCell (p := ⟨br, 4, none⟩) (.inl rfl) (.string ⟨#[]⟩))
  clear g0 g1 g2 g3 g4
  go_wp2_with fail
  refine bodyPost_ret (by simp [results, Tryz.results12, go_sem, c0, c1, c2, c3, c4]; try rfl) rfl ?_
  exact ⟨rfl, Fr.upB D2.out F9.out (fun i e => by have e : i = br := e; omega)⟩
set_option maxRecDepth 100000 in
set_option maxHeartbeats 2000000 in
theorem highest_arg (n Q : Nat) (v : Value) (L : List Vt) (A : GA) (s : Int) (w : World) (h : VotesIn w v L) (hn : 1 ≤ n ∧ n ≤ 7) (hl : L.length ≤ 1000) (hA : (gwalk n [] [] 0 L).1 = some A)
    (hq : ((Q : Int) / 2 ^ n != 0) = true) :
    Calls Tryz.prog 12 #[v, .int .u64 (Q : Int), .int .i64 (n : Int), .int .i64 s] w fun e w' => e = .returned (.tuple #[vtV ⟨0, 0, 0, 0, ⟨#[]⟩⟩, .bool false, .int .i64 2]) ∧ Below w.heap.size w w' := by
  have HA := Lib.hid hA
  clear hA
  have hb := box_below w (.cells #[.int .i64 0, .int .i64 0, .int .i64 0, .int .i64 0, .string ⟨#[]⟩] 35)
  have kb := Blk.new w 35 #[.int .i64 0, .int .i64 0, .int .i64 0, .int .i64 0, .string ⟨#[]⟩]
  have HB := Lib.hid hb
  have KB := Lib.hid kb
  have HV := Lib.hid (h.below hb)
  clear h hb kb
  go_enter Tryz.func12, Tryz.ntmps12
  go_upto_region 2 with (go_at_call 33; refine (gather_some _ HV.out hn hl HA.out).mono ?_; rintro e w2 ⟨b, rfl, m2, hbs, b2⟩; have B2 := Lib.hid b2; clear b2 m2 hbs)
  have K2 := Lib.hid (KB.out.fr (Fr.of_below B2.out : Fr S0 _ _) (fun h => h))
  have D2 := Lib.hid (bchain HB.out B2.out)
  obtain ⟨br, hbr⟩ : ∃ br, br = w.heap.size := ⟨_, rfl⟩
  rw [← hbr] at K2 ⊢
  have hbw : w.heap.size ≤ br := by omega
  clear hbr KB B2
  have g0 := K2.out.set 0 (.int .i64 0)
  have g1 := g0.set 1 (.int .i64 0)
  have g2 := g1.set 2 (.int .i64 0)
  have g3 := g2.set 3 (.int .i64 0)
  have g4 := g3.set 4 (.string ⟨#[]⟩)
  have c0 := g0.cell (i := 0) (v := .int .i64 0) rfl
  have c1 := g1.cell (i := 1) (v := .int .i64 0) rfl
  have c2 := g2.cell (i := 2) (v := .int .i64 0) rfl
  have c3 := g3.cell (i := 3) (v := .int .i64 0) rfl
  have c4 := g4.cell (i := 4) (v := .string ⟨#[]⟩) rfl
  have d0 := K2.out.cell (i := 0) (v := .int .i64 0) rfl
  have d1 := K2.out.cell (i := 1) (v := .int .i64 0) rfl
  have d2 := K2.out.cell (i := 2) (v := .int .i64 0) rfl
  have d3 := K2.out.cell (i := 3) (v := .int .i64 0) rfl
  have d4 := K2.out.cell (i := 4) (v := .string ⟨#[]⟩) rfl
  have z0 := K2.out.frozen 0
  have z1 := K2.out.frozen 1
  have z2 := K2.out.frozen 2
  have z3 := K2.out.frozen 3
  have z4 := K2.out.frozen 4
  have F9 := Lib.hid ((((((Fr.refl (S1 br) w2).setCell (p := ⟨br, 0, none⟩) (.inl rfl) (.int .i64 0)).setCell (p := ⟨br, 1, none⟩) (.inl rfl) (.int .i64 0)).setCell (p := ⟨br, 2, none⟩) (.inl rfl) (.int .i64 0)).setCell (p := ⟨br, 3, none⟩) (.inl rfl) (.int .i64 0)).setCell (p := ⟨br, 4, none⟩) (.inl rfl) (.string ⟨#[]⟩))
  clear g0 g1 g2 g3 g4
  go_wp2_with fail
  refine bodyPost_ret (by simp [results, Tryz.results12, go_sem, c0, c1, c2, c3, c4]; try rfl) rfl ?_
  exact ⟨rfl, Fr.upB D2.out F9.out (fun i e => by have e : i = br := e; omega)⟩
set_option maxRecDepth 100000 in
set_option maxHeartbeats 2000000 in
theorem highest_range (n Q : Nat) (v : Value) (L : List Vt) (A : GA) (s : Int) (w : World) (h : VotesIn w v L) (hn : 1 ≤ n ∧ n ≤ 7) (hl : L.length ≤ 1000) (hA : (gwalk n [] [] 0 L).1 = some A)
    (hq : ((Q : Int) / 2 ^ n != 0) = false) (hs : (decide (s ≥ 0) && decide (s < 4096)) = false) :
    Calls Tryz.prog 12 #[v, .int .u64 (Q : Int), .int .i64 (n : Int), .int .i64 s] w fun e w' => e = .returned (.tuple #[vtV ⟨0, 0, 0, 0, ⟨#[]⟩⟩, .bool false, .int .i64 3]) ∧ Below w.heap.size w w' := by
  have HA := Lib.hid hA
  clear hA
  have hb := box_below w (.cells #[.int .i64 0, .int .i64 0, .int .i64 0, .int .i64 0, .string ⟨#[]⟩] 35)
  have kb := Blk.new w 35 #[.int .i64 0, .int .i64 0, .int .i64 0, .int .i64 0, .string ⟨#[]⟩]
  have HB := Lib.hid hb
  have KB := Lib.hid kb
  have HV := Lib.hid (h.below hb)
  clear h hb kb
  go_enter Tryz.func12, Tryz.ntmps12
  go_upto_region 2 with (go_at_call 33; refine (gather_some _ HV.out hn hl HA.out).mono ?_; rintro e w2 ⟨b, rfl, m2, hbs, b2⟩; have B2 := Lib.hid b2; clear b2 m2 hbs)
  have K2 := Lib.hid (KB.out.fr (Fr.of_below B2.out : Fr S0 _ _) (fun h => h))
  have D2 := Lib.hid (bchain HB.out B2.out)
  obtain ⟨br, hbr⟩ : ∃ br, br = w.heap.size := ⟨_, rfl⟩
  rw [← hbr] at K2 ⊢
  have hbw : w.heap.size ≤ br := by omega
  clear hbr KB B2
  have g0 := K2.out.set 0 (.int .i64 0)
  have g1 := g0.set 1 (.int .i64 0)
  have g2 := g1.set 2 (.int .i64 0)
  have g3 := g2.set 3 (.int .i64 0)
  have g4 := g3.set 4 (.string ⟨#[]⟩)
  have c0 := g0.cell (i := 0) (v := .int .i64 0) rfl
  have c1 := g1.cell (i := 1) (v := .int .i64 0) rfl
  have c2 := g2.cell (i := 2) (v := .int .i64 0) rfl
  have c3 := g3.cell (i := 3) (v := .int .i64 0) rfl
  have c4 := g4.cell (i := 4) (v := .string ⟨#[]⟩) rfl
  have d0 := K2.out.cell (i := 0) (v := .int .i64 0) rfl
  have d1 := K2.out.cell (i := 1) (v := .int .i64 0) rfl
  have d2 := K2.out.cell (i := 2) (v := .int .i64 0) rfl
  have d3 := K2.out.cell (i := 3) (v := .int .i64 0) rfl
  have d4 := K2.out.cell (i := 4) (v := .string ⟨#[]⟩) rfl
  have z0 := K2.out.frozen 0
  have z1 := K2.out.frozen 1
  have z2 := K2.out.frozen 2
  have z3 := K2.out.frozen 3
  have z4 := K2.out.frozen 4
  have F9 := Lib.hid ((((((Fr.refl (S1 br) w2).setCell (p := ⟨br, 0, none⟩) (.inl rfl) (.int .i64 0)).setCell (p := ⟨br, 1, none⟩) (.inl rfl) (.int .i64 0)).setCell (p := ⟨br, 2, none⟩) (.inl rfl) (.int .i64 0)).setCell (p := ⟨br, 3, none⟩) (.inl rfl) (.int .i64 0)).setCell (p := ⟨br, 4, none⟩) (.inl rfl) (.string ⟨#[]⟩))
  clear g0 g1 g2 g3 g4
  go_wp2_with (go_at_call 35; refine (isSlot_any _ _).mono ?_; rw [hs]; rintro e w' ⟨rfl, rfl⟩)
  refine bodyPost_ret (by simp [results, Tryz.results12, go_sem, c0, c1, c2, c3, c4]; try rfl) rfl ?_
  exact ⟨rfl, Fr.upB D2.out F9.out (fun i e => by have e : i = br := e; omega)⟩
set_option maxRecDepth 100000 in
set_option maxHeartbeats 2000000 in
theorem rhighest_bad (n Q : Nat) (v : Value) (L : List Vt) (s : Int) (w : World) (h : VotesIn w v L) (hn : 1 ≤ n ∧ n ≤ 7)
    (i : Nat) (hf : fbad n [] 0 L = some i) :
    Calls Tryz.prog 13 #[v, .int .u64 (Q : Int), .int .i64 (n : Int), .int .i64 s] w fun e w' => e = .returned (.tuple #[vtV ⟨0, 0, 0, 0, ⟨#[]⟩⟩, .bool false, .int .i64 2]) ∧ Below w.heap.size w w' := by
  have HF := Lib.hid hf
  clear hf
  have hb := box_below w (.cells #[.int .i64 0, .int .i64 0, .int .i64 0, .int .i64 0, .string ⟨#[]⟩] 38)
  have kb := Blk.new w 38 #[.int .i64 0, .int .i64 0, .int .i64 0, .int .i64 0, .string ⟨#[]⟩]
  have HB := Lib.hid hb
  have KB := Lib.hid kb
  have HV := Lib.hid (h.below hb)
  clear h hb kb
  go_enter Tryz.func13, Tryz.ntmps13
  go_upto_region 2 with (go_at_call 16; refine (rcheck_yes n _ L _ HV.out hn).mono ?_; rw [HF.out]; rintro e w2 ⟨rfl, b2⟩; have B2 := Lib.hid b2; clear b2; unfold chkV; simp only)
  have K2 := Lib.hid (KB.out.fr (Fr.of_below B2.out : Fr S0 _ _) (fun h => h))
  have D2 := Lib.hid (bchain HB.out B2.out)
  obtain ⟨br, hbr⟩ : ∃ br, br = w.heap.size := ⟨_, rfl⟩
  rw [← hbr] at K2 ⊢
  have hbw : w.heap.size ≤ br := by omega
  clear hbr KB B2
  have g0 := K2.out.set 0 (.int .i64 0)
  have g1 := g0.set 1 (.int .i64 0)
  have g2 := g1.set 2 (.int .i64 0)
  have g3 := g2.set 3 (.int .i64 0)
  have g4 := g3.set 4 (.string ⟨#[]⟩)
  have c0 := g0.cell (i := 0) (v := .int .i64 0) rfl
  have c1 := g1.cell (i := 1) (v := .int .i64 0) rfl
  have c2 := g2.cell (i := 2) (v := .int .i64 0) rfl
  have c3 := g3.cell (i := 3) (v := .int .i64 0) rfl
  have c4 := g4.cell (i := 4) (v := .string ⟨#[]⟩) rfl
  have d0 := K2.out.cell (i := 0) (v := .int .i64 0) rfl
  have d1 := K2.out.cell (i := 1) (v := .int .i64 0) rfl
  have d2 := K2.out.cell (i := 2) (v := .int .i64 0) rfl
  have d3 := K2.out.cell (i := 3) (v := .int .i64 0) rfl
  have d4 := K2.out.cell (i := 4) (v := .string ⟨#[]⟩) rfl
  have z0 := K2.out.frozen 0
  have z1 := K2.out.frozen 1
  have z2 := K2.out.frozen 2
  have z3 := K2.out.frozen 3
  have z4 := K2.out.frozen 4
  have F9 := Lib.hid ((((((Fr.refl (S1 br) w2).setCell (p := ⟨br, 0, none⟩) (.inl rfl) (.int .i64 0)).setCell (p := ⟨br, 1, none⟩) (.inl rfl) (.int .i64 0)).setCell (p := ⟨br, 2, none⟩) (.inl rfl) (.int .i64 0)).setCell (p := ⟨br, 3, none⟩) (.inl rfl) (.int .i64 0)).setCell (p := ⟨br, 4, none⟩) (.inl rfl) (.string ⟨#[]⟩))
  clear g0 g1 g2 g3 g4
  go_wp2_with fail
  refine bodyPost_ret (by simp [results, Tryz.results13, go_sem, c0, c1, c2, c3, c4]; try rfl) rfl ?_
  exact ⟨rfl, Fr.upB D2.out F9.out (fun i e => by have e : i = br := e; omega)⟩
set_option maxRecDepth 100000 in
set_option maxHeartbeats 2000000 in
theorem rhighest_arg (n Q : Nat) (v : Value) (L : List Vt) (s : Int) (w : World) (h : VotesIn w v L) (hn : 1 ≤ n ∧ n ≤ 7)
    (hf : fbad n [] 0 L = none) (hq : ((Q : Int) / 2 ^ n != 0) = true) :
    Calls Tryz.prog 13 #[v, .int .u64 (Q : Int), .int .i64 (n : Int), .int .i64 s] w fun e w' => e = .returned (.tuple #[vtV ⟨0, 0, 0, 0, ⟨#[]⟩⟩, .bool false, .int .i64 2]) ∧ Below w.heap.size w w' := by
  have HF := Lib.hid hf
  clear hf
  have hb := box_below w (.cells #[.int .i64 0, .int .i64 0, .int .i64 0, .int .i64 0, .string ⟨#[]⟩] 38)
  have kb := Blk.new w 38 #[.int .i64 0, .int .i64 0, .int .i64 0, .int .i64 0, .string ⟨#[]⟩]
  have HB := Lib.hid hb
  have KB := Lib.hid kb
  have HV := Lib.hid (h.below hb)
  clear h hb kb
  go_enter Tryz.func13, Tryz.ntmps13
  go_upto_region 2 with (go_at_call 16; refine (rcheck_yes n _ L _ HV.out hn).mono ?_; rw [HF.out]; rintro e w2 ⟨rfl, b2⟩; have B2 := Lib.hid b2; clear b2; unfold chkV; simp only)
  have K2 := Lib.hid (KB.out.fr (Fr.of_below B2.out : Fr S0 _ _) (fun h => h))
  have D2 := Lib.hid (bchain HB.out B2.out)
  obtain ⟨br, hbr⟩ : ∃ br, br = w.heap.size := ⟨_, rfl⟩
  rw [← hbr] at K2 ⊢
  have hbw : w.heap.size ≤ br := by omega
  clear hbr KB B2
  have g0 := K2.out.set 0 (.int .i64 0)
  have g1 := g0.set 1 (.int .i64 0)
  have g2 := g1.set 2 (.int .i64 0)
  have g3 := g2.set 3 (.int .i64 0)
  have g4 := g3.set 4 (.string ⟨#[]⟩)
  have c0 := g0.cell (i := 0) (v := .int .i64 0) rfl
  have c1 := g1.cell (i := 1) (v := .int .i64 0) rfl
  have c2 := g2.cell (i := 2) (v := .int .i64 0) rfl
  have c3 := g3.cell (i := 3) (v := .int .i64 0) rfl
  have c4 := g4.cell (i := 4) (v := .string ⟨#[]⟩) rfl
  have d0 := K2.out.cell (i := 0) (v := .int .i64 0) rfl
  have d1 := K2.out.cell (i := 1) (v := .int .i64 0) rfl
  have d2 := K2.out.cell (i := 2) (v := .int .i64 0) rfl
  have d3 := K2.out.cell (i := 3) (v := .int .i64 0) rfl
  have d4 := K2.out.cell (i := 4) (v := .string ⟨#[]⟩) rfl
  have z0 := K2.out.frozen 0
  have z1 := K2.out.frozen 1
  have z2 := K2.out.frozen 2
  have z3 := K2.out.frozen 3
  have z4 := K2.out.frozen 4
  have F9 := Lib.hid ((((((Fr.refl (S1 br) w2).setCell (p := ⟨br, 0, none⟩) (.inl rfl) (.int .i64 0)).setCell (p := ⟨br, 1, none⟩) (.inl rfl) (.int .i64 0)).setCell (p := ⟨br, 2, none⟩) (.inl rfl) (.int .i64 0)).setCell (p := ⟨br, 3, none⟩) (.inl rfl) (.int .i64 0)).setCell (p := ⟨br, 4, none⟩) (.inl rfl) (.string ⟨#[]⟩))
  clear g0 g1 g2 g3 g4
  go_wp2_with fail
  refine bodyPost_ret (by simp [results, Tryz.results13, go_sem, c0, c1, c2, c3, c4]; try rfl) rfl ?_
  exact ⟨rfl, Fr.upB D2.out F9.out (fun i e => by have e : i = br := e; omega)⟩
set_option maxRecDepth 100000 in
set_option maxHeartbeats 2000000 in
theorem rhighest_range (n Q : Nat) (v : Value) (L : List Vt) (s : Int) (w : World) (h : VotesIn w v L) (hn : 1 ≤ n ∧ n ≤ 7)
    (hf : fbad n [] 0 L = none) (hq : ((Q : Int) / 2 ^ n != 0) = false) (hs : (decide (s ≥ 0) && decide (s < 4096)) = false) :
    Calls Tryz.prog 13 #[v, .int .u64 (Q : Int), .int .i64 (n : Int), .int .i64 s] w fun e w' => e = .returned (.tuple #[vtV ⟨0, 0, 0, 0, ⟨#[]⟩⟩, .bool false, .int .i64 3]) ∧ Below w.heap.size w w' := by
  have HF := Lib.hid hf
  clear hf
  have hb := box_below w (.cells #[.int .i64 0, .int .i64 0, .int .i64 0, .int .i64 0, .string ⟨#[]⟩] 38)
  have kb := Blk.new w 38 #[.int .i64 0, .int .i64 0, .int .i64 0, .int .i64 0, .string ⟨#[]⟩]
  have HB := Lib.hid hb
  have KB := Lib.hid kb
  have HV := Lib.hid (h.below hb)
  clear h hb kb
  go_enter Tryz.func13, Tryz.ntmps13
  go_upto_region 2 with (go_at_call 16; refine (rcheck_yes n _ L _ HV.out hn).mono ?_; rw [HF.out]; rintro e w2 ⟨rfl, b2⟩; have B2 := Lib.hid b2; clear b2; unfold chkV; simp only)
  have K2 := Lib.hid (KB.out.fr (Fr.of_below B2.out : Fr S0 _ _) (fun h => h))
  have D2 := Lib.hid (bchain HB.out B2.out)
  obtain ⟨br, hbr⟩ : ∃ br, br = w.heap.size := ⟨_, rfl⟩
  rw [← hbr] at K2 ⊢
  have hbw : w.heap.size ≤ br := by omega
  clear hbr KB B2
  have g0 := K2.out.set 0 (.int .i64 0)
  have g1 := g0.set 1 (.int .i64 0)
  have g2 := g1.set 2 (.int .i64 0)
  have g3 := g2.set 3 (.int .i64 0)
  have g4 := g3.set 4 (.string ⟨#[]⟩)
  have c0 := g0.cell (i := 0) (v := .int .i64 0) rfl
  have c1 := g1.cell (i := 1) (v := .int .i64 0) rfl
  have c2 := g2.cell (i := 2) (v := .int .i64 0) rfl
  have c3 := g3.cell (i := 3) (v := .int .i64 0) rfl
  have c4 := g4.cell (i := 4) (v := .string ⟨#[]⟩) rfl
  have d0 := K2.out.cell (i := 0) (v := .int .i64 0) rfl
  have d1 := K2.out.cell (i := 1) (v := .int .i64 0) rfl
  have d2 := K2.out.cell (i := 2) (v := .int .i64 0) rfl
  have d3 := K2.out.cell (i := 3) (v := .int .i64 0) rfl
  have d4 := K2.out.cell (i := 4) (v := .string ⟨#[]⟩) rfl
  have z0 := K2.out.frozen 0
  have z1 := K2.out.frozen 1
  have z2 := K2.out.frozen 2
  have z3 := K2.out.frozen 3
  have z4 := K2.out.frozen 4
  have F9 := Lib.hid ((((((Fr.refl (S1 br) w2).setCell (p := ⟨br, 0, none⟩) (.inl rfl) (.int .i64 0)).setCell (p := ⟨br, 1, none⟩) (.inl rfl) (.int .i64 0)).setCell (p := ⟨br, 2, none⟩) (.inl rfl) (.int .i64 0)).setCell (p := ⟨br, 3, none⟩) (.inl rfl) (.int .i64 0)).setCell (p := ⟨br, 4, none⟩) (.inl rfl) (.string ⟨#[]⟩))
  clear g0 g1 g2 g3 g4
  go_wp2_with (go_at_call 41; refine (risSlot_any _ _).mono ?_; rw [hs]; rintro e w' ⟨rfl, rfl⟩)
  refine bodyPost_ret (by simp [results, Tryz.results13, go_sem, c0, c1, c2, c3, c4]; try rfl) rfl ?_
  exact ⟨rfl, Fr.upB D2.out F9.out (fun i e => by have e : i = br := e; omega)⟩
end Go.Proofs.YthkdmpalhdifbaaGreatDoor
