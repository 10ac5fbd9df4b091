/- chosen.Safe, where it refuses. -/
import Derived.Test.YthkdmpalhdifbaaGreatDoorChoK
import Derived.Test.YthkdmpalhdifbaaGreatDoorChoAH
set_option linter.unusedVariables false
set_option linter.unusedSimpArgs false
namespace Go.Proofs.YthkdmpalhdifbaaGreatDoor
open Go.RowKit Go.Maps Go.Shelf Go.Sort

set_option maxRecDepth 100000 in
set_option maxHeartbeats 4000000 in
/-- A list that is not possible, or no number of nodes. -/
theorem safe_no (n : Int) (v : Value) (r d s i : Int) (val : ByteArray) (w : World)
    (hg : ∀ w' : World, Below w.heap.size w w' → Calls Tryz.prog 33 #[v, .int .i64 n] w' fun e w2 => e = .returned (.tuple #[.map none, .int .i64 i, .int .i64 2]) ∧ Below w'.heap.size w' w2) :
    Calls Tryz.prog 10 #[v, .int .i64 n, .agg #[.int .i64 r, .int .i64 d], .int .i64 s, .string val] w fun e w' => e = .returned (.tuple #[.bool false, .int .i64 2]) ∧ Below w.heap.size w w' := by
  have HG := Lib.hid hg
  clear hg
  refine (callsIn_wide (n := 8)).1 ?_
  refine callsIn_of_wp_marks Tryz.func10 rfl trivial ?_ rfl
  simp only [Tryz.ntmps10, List.size_toArray, List.length_cons, List.length_nil, Nat.reduceAdd, Nat.reduceSub, Array.replicate_succ, Array.replicate_zero, List.push_toArray, List.append_toArray, List.nil_append, List.cons_append]
  refine wpIn_wide.2 ?_
  go_upto_region 1 with fail
  obtain ⟨W0, hW0⟩ : ∃ W0, W0 = (((((w.alloc (.cells #[.int .i64 n] 3)).alloc (.cells #[.int .i64 r, .int .i64 d] 24)).alloc (.cells #[.int .i64 s] 3)).alloc (.cells #[.string val] 9)).alloc (.cells #[.bool false] 4)).alloc (.cells #[.int .i64 0] 30) := ⟨_, rfl⟩
  obtain ⟨k1, k2, k3, k4, k5, k6, hb, hsz⟩ := six w _ _ _ _ _ _ _ _ _ _ _ _ W0 hW0
  rw [← hW0]
  obtain ⟨g, hg⟩ : ∃ g, g = w.heap.size := ⟨_, rfl⟩
  have hg1 : w.heap.size ≤ g := by omega
  try simp only [World.size_alloc]
  rw [← hg] at k1 k2 k3 k4 k5 k6 ⊢
  try simp only [Nat.add_assoc, Nat.reduceAdd]
  have B0 := Lib.hid hb
  have K5 := Lib.hid k5
  have K6 := Lib.hid k6
  clear hW0 hb hsz k2 k3 k4 k5 k6 hg
  have n0 := k1.cell (i := 0) (v := .int .i64 n) rfl
  go_upto_region 2 with (go_at_call 33; refine (HG.out _ B0.out).mono ?_; rintro e w1 ⟨rfl, b1⟩; have B1 := Lib.hid b1; clear b1)
  have b1 := B1.out
  have bl := box_below w1 (.cells #[.map none] 77)
  have b2 := bchain b1 bl
  have K52 := Lib.hid (K5.out.fr (Fr.of_below b2 : Fr S0 _ _) (fun h => h))
  have K62 := Lib.hid (K6.out.fr (Fr.of_below b2 : Fr S0 _ _) (fun h => h))
  have B2 := Lib.hid (bchain B0.out b2)
  generalize (w1.alloc (.cells #[.map none] 77)) = W2 at *
  clear b1 bl b2 K5 K6 B0 B1 n0 k1
  have c5 := K52.out.cell (i := 0) (v := .bool false) rfl
  have c6 := K62.out.cell (i := 0) (v := .int .i64 0) rfl
  have z5 := K52.out.frozen 0
  have z6 := K62.out.frozen 0
  go_wp2_with fail
  have KA := (K52.out.set 0 (.bool false)).setOther (p := ⟨g + 5, 0, none⟩) (by show g + 4 ≠ g + 5; omega) (.int .i64 2)
  have KB := (K62.out.setOther (p := ⟨g + 4, 0, none⟩) (by show g + 5 ≠ g + 4; omega) (.bool false)).set 0 (.int .i64 2)
  have q4 := KA.cell (i := 0) (v := .bool false) rfl
  have q5 := KB.cell (i := 0) (v := .int .i64 2) rfl
  refine ⟨.tuple #[.bool false, .int .i64 2], ?_, rfl, ?_⟩
  · simp [results, Tryz.f10, go_sem, q4, q5]
  · exact Fr.upB B2.out (((Fr.refl (S2 (g + 4) (g + 5)) W2).setCell (p := ⟨g + 4, 0, none⟩) (.inl (.inl rfl)) _).setCell (p := ⟨g + 5, 0, none⟩) (.inl (.inr rfl)) _) (fun i e => by rcases e with e | e <;> omega)
set_option maxRecDepth 100000 in
set_option maxHeartbeats 4000000 in
/-- The zero ballot. -/
theorem safe_zero (n : Nat) (v : Value) (L : List Vt) (A : GA) (r d s : Int) (val : ByteArray) (w : World) (h : VotesIn w v L) (hn : 1 ≤ n ∧ n ≤ 7) (hl : L.length ≤ 1000) (hA : (gwalk n [] [] 0 L).1 = some A)
    (hz : (r == 0 && d == 0) = true) :
    Calls Tryz.prog 10 #[v, .int .i64 (n : Int), .agg #[.int .i64 r, .int .i64 d], .int .i64 s, .string val] w fun e w' => e = .returned (.tuple #[.bool false, .int .i64 2]) ∧ Below w.heap.size w w' := by
  have HV := Lib.hid h
  have HA := Lib.hid hA
  have hEz : ∀ w : World, (Op.equalIn 10000 24 (.agg #[.int .i64 r, .int .i64 d]) (.agg #[.int .i64 0, .int .i64 0])).run Tryz.prog w = .ok true w := fun w => by rw [eqBal, hz]
  have hGq := eqGBal
  have hB0 := fun w => bldBal0 w
  clear h hA hz
  refine (callsIn_wide (n := 8)).1 ?_
  refine callsIn_of_wp_marks Tryz.func10 rfl trivial ?_ rfl
  simp only [Tryz.ntmps10, List.size_toArray, List.length_cons, List.length_nil, Nat.reduceAdd, Nat.reduceSub, Array.replicate_succ, Array.replicate_zero, List.push_toArray, List.append_toArray, List.nil_append, List.cons_append]
  refine wpIn_wide.2 ?_
  go_upto_region 1 with fail
  obtain ⟨W0, hW0⟩ : ∃ W0, W0 = (((((w.alloc (.cells #[.int .i64 (n : Int)] 3)).alloc (.cells #[.int .i64 r, .int .i64 d] 24)).alloc (.cells #[.int .i64 s] 3)).alloc (.cells #[.string val] 9)).alloc (.cells #[.bool false] 4)).alloc (.cells #[.int .i64 0] 30) := ⟨_, rfl⟩
  obtain ⟨k1, k2, k3, k4, k5, k6, hb, hsz⟩ := six w _ _ _ _ _ _ _ _ _ _ _ _ W0 hW0
  rw [← hW0]
  obtain ⟨g, hg⟩ : ∃ g, g = w.heap.size := ⟨_, rfl⟩
  have hg1 : w.heap.size ≤ g := by omega
  try simp only [World.size_alloc]
  rw [← hg] at k1 k2 k3 k4 k5 k6 ⊢
  try simp only [Nat.add_assoc, Nat.reduceAdd]
  have B0 := Lib.hid hb
  have K5 := Lib.hid k5
  have K6 := Lib.hid k6
  have K1 := Lib.hid k1
  have K2 := Lib.hid k2
  have K3 := Lib.hid k3
  clear hW0 hb hsz k2 k3 k4 k5 k6 hg
  have n0 := k1.cell (i := 0) (v := .int .i64 (n : Int)) rfl
  go_upto_region 2 with (go_at_call 33; refine (gather_some _ (HV.out.below B0.out) hn hl HA.out).mono ?_; rintro e w1 ⟨b, rfl, m1, hbs, b1⟩; have B1 := Lib.hid b1; clear b1 m1 hbs)
  have b1 := B1.out
  have bl := box_below w1 (.cells #[.map (some b)] 77)
  have b2 := bchain b1 bl
  have K52 := Lib.hid (K5.out.fr (Fr.of_below b2 : Fr S0 _ _) (fun h => h))
  have K62 := Lib.hid (K6.out.fr (Fr.of_below b2 : Fr S0 _ _) (fun h => h))
  have B2 := Lib.hid (bchain B0.out b2)
  have n1 := (K1.out.fr (Fr.of_below b2 : Fr S0 _ _) (fun h => h)).cell (i := 0) (v := .int .i64 (n : Int)) rfl
  have r0 := (K2.out.fr (Fr.of_below b2 : Fr S0 _ _) (fun h => h)).cell (i := 0) (v := .int .i64 r) rfl
  have r1 := (K2.out.fr (Fr.of_below b2 : Fr S0 _ _) (fun h => h)).cell (i := 1) (v := .int .i64 d) rfl
  have s0 := (K3.out.fr (Fr.of_below b2 : Fr S0 _ _) (fun h => h)).cell (i := 0) (v := .int .i64 s) rfl
  generalize (w1.alloc (.cells #[.map (some b)] 77)) = W2 at *
  clear b1 bl b2 K5 K6 B0 B1 n0 k1
  have c5 := K52.out.cell (i := 0) (v := .bool false) rfl
  have c6 := K62.out.cell (i := 0) (v := .int .i64 0) rfl
  have z5 := K52.out.frozen 0
  have z6 := K62.out.frozen 0
  go_wp2_with fail
  have KA := (K52.out.set 0 (.bool false)).setOther (p := ⟨g + 5, 0, none⟩) (by show g + 4 ≠ g + 5; omega) (.int .i64 2)
  have KB := (K62.out.setOther (p := ⟨g + 4, 0, none⟩) (by show g + 5 ≠ g + 4; omega) (.bool false)).set 0 (.int .i64 2)
  have q4 := KA.cell (i := 0) (v := .bool false) rfl
  have q5 := KB.cell (i := 0) (v := .int .i64 2) rfl
  refine ⟨.tuple #[.bool false, .int .i64 2], ?_, rfl, ?_⟩
  · simp [results, Tryz.f10, go_sem, q4, q5]
  · exact Fr.upB B2.out (((Fr.refl (S2 (g + 4) (g + 5)) W2).setCell (p := ⟨g + 4, 0, none⟩) (.inl (.inl rfl)) _).setCell (p := ⟨g + 5, 0, none⟩) (.inl (.inr rfl)) _) (fun i e => by rcases e with e | e <;> omega)
set_option maxRecDepth 100000 in
set_option maxHeartbeats 4000000 in
/-- A ballot that is not good. -/
theorem safe_arg (n : Nat) (v : Value) (L : List Vt) (A : GA) (r d s : Int) (val : ByteArray) (w : World) (h : VotesIn w v L) (hn : 1 ≤ n ∧ n ≤ 7) (hl : L.length ≤ 1000) (hA : (gwalk n [] [] 0 L).1 = some A)
    (hz : (r == 0 && d == 0) = false) (hc : chkE n r d = 2) :
    Calls Tryz.prog 10 #[v, .int .i64 (n : Int), .agg #[.int .i64 r, .int .i64 d], .int .i64 s, .string val] w fun e w' => e = .returned (.tuple #[.bool false, .int .i64 2]) ∧ Below w.heap.size w w' := by
  have HV := Lib.hid h
  have HA := Lib.hid hA
  have hEz : ∀ w : World, (Op.equalIn 10000 24 (.agg #[.int .i64 r, .int .i64 d]) (.agg #[.int .i64 0, .int .i64 0])).run Tryz.prog w = .ok false w := fun w => by rw [eqBal, hz]
  have hGq := eqGBal
  have hB0 := fun w => bldBal0 w
  have HC := Lib.hid hc
  clear hc
  clear h hA hz
  refine (callsIn_wide (n := 8)).1 ?_
  refine callsIn_of_wp_marks Tryz.func10 rfl trivial ?_ rfl
  simp only [Tryz.ntmps10, List.size_toArray, List.length_cons, List.length_nil, Nat.reduceAdd, Nat.reduceSub, Array.replicate_succ, Array.replicate_zero, List.push_toArray, List.append_toArray, List.nil_append, List.cons_append]
  refine wpIn_wide.2 ?_
  go_upto_region 1 with fail
  obtain ⟨W0, hW0⟩ : ∃ W0, W0 = (((((w.alloc (.cells #[.int .i64 (n : Int)] 3)).alloc (.cells #[.int .i64 r, .int .i64 d] 24)).alloc (.cells #[.int .i64 s] 3)).alloc (.cells #[.string val] 9)).alloc (.cells #[.bool false] 4)).alloc (.cells #[.int .i64 0] 30) := ⟨_, rfl⟩
  obtain ⟨k1, k2, k3, k4, k5, k6, hb, hsz⟩ := six w _ _ _ _ _ _ _ _ _ _ _ _ W0 hW0
  rw [← hW0]
  obtain ⟨g, hg⟩ : ∃ g, g = w.heap.size := ⟨_, rfl⟩
  have hg1 : w.heap.size ≤ g := by omega
  try simp only [World.size_alloc]
  rw [← hg] at k1 k2 k3 k4 k5 k6 ⊢
  try simp only [Nat.add_assoc, Nat.reduceAdd]
  have B0 := Lib.hid hb
  have K5 := Lib.hid k5
  have K6 := Lib.hid k6
  have K1 := Lib.hid k1
  have K2 := Lib.hid k2
  have K3 := Lib.hid k3
  clear hW0 hb hsz k2 k3 k4 k5 k6 hg
  have n0 := k1.cell (i := 0) (v := .int .i64 (n : Int)) rfl
  go_upto_region 2 with (go_at_call 33; refine (gather_some _ (HV.out.below B0.out) hn hl HA.out).mono ?_; rintro e w1 ⟨b, rfl, m1, hbs, b1⟩; have B1 := Lib.hid b1; clear b1 m1 hbs)
  have b1 := B1.out
  have bl := box_below w1 (.cells #[.map (some b)] 77)
  have b2 := bchain b1 bl
  have K52 := Lib.hid (K5.out.fr (Fr.of_below b2 : Fr S0 _ _) (fun h => h))
  have K62 := Lib.hid (K6.out.fr (Fr.of_below b2 : Fr S0 _ _) (fun h => h))
  have B2 := Lib.hid (bchain B0.out b2)
  have n1 := (K1.out.fr (Fr.of_below b2 : Fr S0 _ _) (fun h => h)).cell (i := 0) (v := .int .i64 (n : Int)) rfl
  have r0 := (K2.out.fr (Fr.of_below b2 : Fr S0 _ _) (fun h => h)).cell (i := 0) (v := .int .i64 r) rfl
  have r1 := (K2.out.fr (Fr.of_below b2 : Fr S0 _ _) (fun h => h)).cell (i := 1) (v := .int .i64 d) rfl
  have s0 := (K3.out.fr (Fr.of_below b2 : Fr S0 _ _) (fun h => h)).cell (i := 0) (v := .int .i64 s) rfl
  generalize (w1.alloc (.cells #[.map (some b)] 77)) = W2 at *
  clear b1 bl b2 K5 K6 B0 B1 n0 k1
  have c5 := K52.out.cell (i := 0) (v := .bool false) rfl
  have c6 := K62.out.cell (i := 0) (v := .int .i64 0) rfl
  have z5 := K52.out.frozen 0
  have z6 := K62.out.frozen 0
  go_upto_region 5 with (go_at_call 34; refine (check_any _ _ _ _).mono ?_; rw [HC.out]; rintro e w3 ⟨rfl, b3⟩; have B3 := Lib.hid b3; clear b3)
  have K53 := Lib.hid (K52.out.fr (Fr.of_below B3.out : Fr S0 _ _) (fun h => h))
  have K63 := Lib.hid (K62.out.fr (Fr.of_below B3.out : Fr S0 _ _) (fun h => h))
  have B2' := Lib.hid (bchain B2.out B3.out)
  clear c5 c6 z5 z6 n1 r0 r1 s0 K52 K62 B2 B3
  have c5 := K53.out.cell (i := 0) (v := .bool false) rfl
  have c6 := K63.out.cell (i := 0) (v := .int .i64 0) rfl
  have z5 := K53.out.frozen 0
  have z6 := K63.out.frozen 0
  go_wp2_with fail
  have KA := (K53.out.set 0 (.bool false)).setOther (p := ⟨g + 5, 0, none⟩) (by show g + 4 ≠ g + 5; omega) (.int .i64 2)
  have KB := (K63.out.setOther (p := ⟨g + 4, 0, none⟩) (by show g + 5 ≠ g + 4; omega) (.bool false)).set 0 (.int .i64 2)
  have q4 := KA.cell (i := 0) (v := .bool false) rfl
  have q5 := KB.cell (i := 0) (v := .int .i64 2) rfl
  refine ⟨.tuple #[.bool false, .int .i64 2], ?_, rfl, ?_⟩
  · simp [results, Tryz.f10, go_sem, q4, q5]
  · exact Fr.upB B2'.out (((Fr.refl (S2 (g + 4) (g + 5)) _).setCell (p := ⟨g + 4, 0, none⟩) (.inl (.inl rfl)) _).setCell (p := ⟨g + 5, 0, none⟩) (.inl (.inr rfl)) _) (fun i e => by rcases e with e | e <;> omega)
set_option maxRecDepth 100000 in
set_option maxHeartbeats 4000000 in
/-- No such slot. -/
theorem safe_range (n : Nat) (v : Value) (L : List Vt) (A : GA) (r d s : Int) (val : ByteArray) (w : World) (h : VotesIn w v L) (hn : 1 ≤ n ∧ n ≤ 7) (hl : L.length ≤ 1000) (hA : (gwalk n [] [] 0 L).1 = some A)
    (hz : (r == 0 && d == 0) = false) (hc : chkE n r d = 0) (hs : (decide (s ≥ 0) && decide (s < 4096)) = false) :
    Calls Tryz.prog 10 #[v, .int .i64 (n : Int), .agg #[.int .i64 r, .int .i64 d], .int .i64 s, .string val] w fun e w' => e = .returned (.tuple #[.bool false, .int .i64 3]) ∧ Below w.heap.size w w' := by
  have HV := Lib.hid h
  have HA := Lib.hid hA
  have hEz : ∀ w : World, (Op.equalIn 10000 24 (.agg #[.int .i64 r, .int .i64 d]) (.agg #[.int .i64 0, .int .i64 0])).run Tryz.prog w = .ok false w := fun w => by rw [eqBal, hz]
  have hGq := eqGBal
  have hB0 := fun w => bldBal0 w
  have HC := Lib.hid hc
  clear hc
  clear h hA hz
  refine (callsIn_wide (n := 8)).1 ?_
  refine callsIn_of_wp_marks Tryz.func10 rfl trivial ?_ rfl
  simp only [Tryz.ntmps10, List.size_toArray, List.length_cons, List.length_nil, Nat.reduceAdd, Nat.reduceSub, Array.replicate_succ, Array.replicate_zero, List.push_toArray, List.append_toArray, List.nil_append, List.cons_append]
  refine wpIn_wide.2 ?_
  go_upto_region 1 with fail
  obtain ⟨W0, hW0⟩ : ∃ W0, W0 = (((((w.alloc (.cells #[.int .i64 (n : Int)] 3)).alloc (.cells #[.int .i64 r, .int .i64 d] 24)).alloc (.cells #[.int .i64 s] 3)).alloc (.cells #[.string val] 9)).alloc (.cells #[.bool false] 4)).alloc (.cells #[.int .i64 0] 30) := ⟨_, rfl⟩
  obtain ⟨k1, k2, k3, k4, k5, k6, hb, hsz⟩ := six w _ _ _ _ _ _ _ _ _ _ _ _ W0 hW0
  rw [← hW0]
  obtain ⟨g, hg⟩ : ∃ g, g = w.heap.size := ⟨_, rfl⟩
  have hg1 : w.heap.size ≤ g := by omega
  try simp only [World.size_alloc]
  rw [← hg] at k1 k2 k3 k4 k5 k6 ⊢
  try simp only [Nat.add_assoc, Nat.reduceAdd]
  have B0 := Lib.hid hb
  have K5 := Lib.hid k5
  have K6 := Lib.hid k6
  have K1 := Lib.hid k1
  have K2 := Lib.hid k2
  have K3 := Lib.hid k3
  clear hW0 hb hsz k2 k3 k4 k5 k6 hg
  have n0 := k1.cell (i := 0) (v := .int .i64 (n : Int)) rfl
  go_upto_region 2 with (go_at_call 33; refine (gather_some _ (HV.out.below B0.out) hn hl HA.out).mono ?_; rintro e w1 ⟨b, rfl, m1, hbs, b1⟩; have B1 := Lib.hid b1; clear b1 m1 hbs)
  have b1 := B1.out
  have bl := box_below w1 (.cells #[.map (some b)] 77)
  have b2 := bchain b1 bl
  have K52 := Lib.hid (K5.out.fr (Fr.of_below b2 : Fr S0 _ _) (fun h => h))
  have K62 := Lib.hid (K6.out.fr (Fr.of_below b2 : Fr S0 _ _) (fun h => h))
  have B2 := Lib.hid (bchain B0.out b2)
  have n1 := (K1.out.fr (Fr.of_below b2 : Fr S0 _ _) (fun h => h)).cell (i := 0) (v := .int .i64 (n : Int)) rfl
  have r0 := (K2.out.fr (Fr.of_below b2 : Fr S0 _ _) (fun h => h)).cell (i := 0) (v := .int .i64 r) rfl
  have r1 := (K2.out.fr (Fr.of_below b2 : Fr S0 _ _) (fun h => h)).cell (i := 1) (v := .int .i64 d) rfl
  have s0 := (K3.out.fr (Fr.of_below b2 : Fr S0 _ _) (fun h => h)).cell (i := 0) (v := .int .i64 s) rfl
  generalize (w1.alloc (.cells #[.map (some b)] 77)) = W2 at *
  clear b1 bl b2 K5 K6 B0 B1 n0 k1
  have c5 := K52.out.cell (i := 0) (v := .bool false) rfl
  have c6 := K62.out.cell (i := 0) (v := .int .i64 0) rfl
  have z5 := K52.out.frozen 0
  have z6 := K62.out.frozen 0
  go_upto_region 6 with (go_at_call 34; refine (check_any _ _ _ _).mono ?_; rw [HC.out]; rintro e w3 ⟨rfl, b3⟩; have B3 := Lib.hid b3; clear b3)
  have s0 := bcell B3.out s0
  have K53 := Lib.hid (K52.out.fr (Fr.of_below B3.out : Fr S0 _ _) (fun h => h))
  have K63 := Lib.hid (K62.out.fr (Fr.of_below B3.out : Fr S0 _ _) (fun h => h))
  have B2' := Lib.hid (bchain B2.out B3.out)
  clear c5 c6 z5 z6 n1 r0 r1 K52 K62 B2 B3
  have c5 := K53.out.cell (i := 0) (v := .bool false) rfl
  have c6 := K63.out.cell (i := 0) (v := .int .i64 0) rfl
  have z5 := K53.out.frozen 0
  have z6 := K63.out.frozen 0
  go_wp2_with (go_at_call 35; refine (isSlot_any _ _).mono ?_; rw [hs]; rintro e w' ⟨rfl, rfl⟩)
  have KA := (K53.out.set 0 (.bool false)).setOther (p := ⟨g + 5, 0, none⟩) (by show g + 4 ≠ g + 5; omega) (.int .i64 3)
  have KB := (K63.out.setOther (p := ⟨g + 4, 0, none⟩) (by show g + 5 ≠ g + 4; omega) (.bool false)).set 0 (.int .i64 3)
  have q4 := KA.cell (i := 0) (v := .bool false) rfl
  have q5 := KB.cell (i := 0) (v := .int .i64 3) rfl
  refine ⟨.tuple #[.bool false, .int .i64 3], ?_, rfl, ?_⟩
  · simp [results, Tryz.f10, go_sem, q4, q5]
  · exact Fr.upB B2'.out (((Fr.refl (S2 (g + 4) (g + 5)) _).setCell (p := ⟨g + 4, 0, none⟩) (.inl (.inl rfl)) _).setCell (p := ⟨g + 5, 0, none⟩) (.inl (.inr rfl)) _) (fun i e => by rcases e with e | e <;> omega)
end Go.Proofs.YthkdmpalhdifbaaGreatDoor
