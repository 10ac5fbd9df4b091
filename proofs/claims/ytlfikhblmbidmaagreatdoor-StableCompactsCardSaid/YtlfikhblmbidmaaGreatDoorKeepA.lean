/- StableKeeps: what a deed does to a node, and its record. (Printed by gen/keepa.py.) -/
import Derived.Test.YtlfikhblmbidmaaGreatDoorKeepP
import Derived.Deep.DeepCutAuto
import Derived.Deep.CutBlock
set_option linter.unusedVariables false
set_option linter.unusedSimpArgs false
namespace Go.Proofs.YtlfikhblmbidmaaGreatDoor
open Go.RowKit Go.Maps

abbrev ndC (a l p : Nat) : Array Value := #[.pointer (some ⟨a, 0, none⟩), .pointer (some ⟨l, 0, none⟩), .pointer (some ⟨p, 0, none⟩)]
abbrev ddC (x : Dd) : Array Value := #[.int .u8 (x.1 : Int), .int .u8 (x.2.1 : Int), .int .u8 (x.2.2.1 : Int), .int .u8 (x.2.2.2.1 : Int), .int .u8 (x.2.2.2.2 : Int)]
theorem rep_call (b : UInt8) (n : Nat) (w : World) (hn : n ≤ 1000000) : Calls Tryz.prog 53 #[.string ⟨#[b]⟩, .int .i64 n] w fun e w' => e = .returned (.string (sB (repL b n))) ∧ Below w.heap.size w w' :=
  Tryz.strings_Repeat ⟨#[b]⟩ n w (by omega) (by show 1 * n ≤ 140737488355328; omega)
theorem valB_acc (ro no sl : Nat) (v : List UInt8) : valB [2, ro, no, sl] (sB v) = (Rec.mk 2 ro no sl v).bytes := by simp [valB, uintsB, Rec.bytes, sB, textB]
theorem valB_cho (sl : Nat) (v : List UInt8) : valB [3, sl] (sB v) = (Rec.mk 3 0 0 sl v).bytes := by simp [valB, uintsB, Rec.bytes, sB, textB]
theorem sB_size (v : List UInt8) : (sB v).size = v.length := by simp [sB, ByteArray.size]
def RecPost (w : World) (a m l k : Nat) (t : NSt) (r : Rec) (e : Ending) (w' : World) : Prop :=
  ∃ vo, e = .returned (.tuple #[vo, .bool (decide (doE t r = 0)), .bool true]) ∧ w'.ownsRow w.heap.size 5 1 vo r.bytes.length (r.bytes.map u8V) ∧ NS w' a m l k (doS t r) ∧ Fr (nF a m l k) w w'
theorem ret_rec {x : Int} {t : NSt} {r : Rec} (h : doE t r = x) (vo : Value) : Ending.returned (.tuple #[vo, .bool (x == 0), .bool true]) = .returned (.tuple #[vo, .bool (decide (doE t r = 0)), .bool true]) := by
  rw [h]
  by_cases e : x = 0 <;> simp [e]

set_option maxRecDepth 100000 in
set_option maxHeartbeats 2000000 in
theorem record_p {w : World} {np a m l k p : Nat} {t : NSt} (x : Dd) (hx : okDd x) (h0 : x.1 % 3 = 0) (hb : Blk w np 89 (ndC a l p)) (hn : NS w a m l k t) :
    Calls Tryz.prog 62 #[.pointer (some ⟨np, 0, none⟩), .agg (ddC x)] w (RecPost w a m l k t (recD x)) := by
  have hlen := recD_len x
  obtain ⟨ki, ro, no, sl, va⟩ := x
  obtain ⟨x0, x1, x2, x3, x4⟩ := hx
  simp only at x0 x1 x2 x3 x4 h0
  obtain ⟨R, hR, hR'⟩ : ∃ R : Nat, 1 + (ro : Int) % 6 = (R : Int) ∧ R = 1 + ro % 6 := ⟨1 + ro % 6, by omega, rfl⟩
  obtain ⟨D, hD, hD'⟩ : ∃ D : Nat, (no : Int) % 3 = (D : Int) ∧ D = no % 3 := ⟨no % 3, by omega, rfl⟩
  obtain ⟨S, hS, hS'⟩ : ∃ S : Nat, (sl : Int) % 12 = (S : Int) ∧ S = sl % 12 := ⟨sl % 12, by omega, rfl⟩
  obtain ⟨V, hV, hV'⟩ : ∃ V : Nat, (va : Int) % 40 = (V : Int) ∧ V = va % 40 := ⟨va % 40, by omega, rfl⟩
  have hk3 : (ki : Int) % 3 = 0 := by omega
  have hr : recD (ki, ro, no, sl, va) = ⟨1, R, D, 0, []⟩ := by
    unfold recD
    simp only [h0, hR', hD', hS', hV']
    rfl
  rw [hr] at hlen ⊢
  have HLEN := Lib.hid hlen
  have hR1 : 1 ≤ R ∧ R ≤ 6 := by omega
  have hD1 : D ≤ 2 := by omega
  have hS1 : S ≤ 11 := by omega
  have hV1 : V ≤ 39 := by omega
  have hal := hn.lt (i := a) (.inl rfl)
  have hll := hn.lt (i := l) (.inr (.inr (.inl rfl)))
  have hml := hn.lt (i := m) (.inr (.inl rfl))
  have hkl := hn.lt (i := k) (.inr (.inr (.inr rfl)))
  have hnp := hb.lt
  have hna : np ≠ a := hb.ne_type hn.a.at_.blk (by decide)
  have hnm : np ≠ m := by
    obtain ⟨es, c, hm⟩ := hn.a.at_.map.block
    exact hb.ne_map hm
  have c0 := hb.cell (i := 0) (v := .pointer (some ⟨a, 0, none⟩)) rfl
  have c1 := hb.cell (i := 1) (v := .pointer (some ⟨l, 0, none⟩)) rfl
  have HN := Lib.hid hn
  clear hb hn hr h0 hR' hD' hS' hV' hlen
  go_enter Tryz.func62, Tryz.ntmps62
  go_upto_region 2 with fail
  try rw [hR]
  try rw [hD]
  clear hR hD
  have KX := Lib.hid ((Blk.new w 83 (ddC (ki, ro, no, sl, va))).alloc (.cells #[.int .i64 R, .int .i64 D] 24))
  have KB := Lib.hid (blk_new1 w (.cells (ddC (ki, ro, no, sl, va)) 83) 24 #[.int .i64 R, .int .i64 D])
  have hb0 : Below w.heap.size w ((w.alloc (.cells (ddC (ki, ro, no, sl, va)) 83)).alloc (.cells #[.int .i64 R, .int .i64 D] 24)) := ((Below.refl _ w).alloc (Nat.le_refl _) _).alloc (by simp) _
  have HB := Lib.hid hb0
  have HN2 := Lib.hid (HN.out.below hb0)
  have g0 := bcell hb0 c0
  have g1 := bcell hb0 c1
  have hz2 : ((w.alloc (.cells (ddC (ki, ro, no, sl, va)) 83)).alloc (.cells #[.int .i64 R, .int .i64 D] 24)).heap.size = w.heap.size + 2 := by simp
  clear HN c0 c1 hb0
  generalize ((w.alloc (.cells (ddC (ki, ro, no, sl, va)) 83)).alloc (.cells #[.int .i64 R, .int .i64 D] 24)) = w2 at *
  have z0 := KX.out.cell (i := 0) (v := .int .u8 ki) rfl
  have z3 := KX.out.cell (i := 3) (v := .int .u8 sl) rfl
  have z4 := KX.out.cell (i := 4) (v := .int .u8 va) rfl
  have q0 := KB.out.cell (i := 0) (v := .int .i64 R) rfl
  have q1 := KB.out.cell (i := 1) (v := .int .i64 D) rfl
  have htS : (sl : Int).tmod 12 = (S : Int) := by rw [Int.tmod_eq_emod_of_nonneg (by omega)]; exact hS
  have htV : (va : Int).tmod 40 = (V : Int) := by rw [Int.tmod_eq_emod_of_nonneg (by omega)]; exact hV
  have hwS : IntKind.i64.wrap (S : Int) = (S : Int) := by rw [IntKind.wrap_i64]; omega
  have hwV : IntKind.i64.wrap (V : Int) = (V : Int) := by rw [IntKind.wrap_i64]; omega
  have hb2 : Below w2.heap.size w2 w2.drew := (Below.refl _ w2).drew
  refine wp_region_held_drew (S := (fun W => W.cell? ⟨w.heap.size, 3, none⟩ = some (.int .u8 sl) ∧ W.cell? ⟨w.heap.size, 4, none⟩ = some (.int .u8 va) ∧ Below w2.heap.size w2 W)) (by kernel_rfl) ?_ (fun hHeld => ?_)
  · exact ⟨z3, z4, hb2⟩
  try dsimp only at hHeld
  refine held_yes (i := 0) (some 23) (v := ?_) rfl rfl (by kernel_rfl) (by kernel_rfl) (by kernel_rfl) (fun _ _ _ h => h) (by rfl) ?_ hHeld ?_
  rotate_left
  · (intro w hSw; (try dsimp only at hSw); go_simp; all_goals with_reducible rfl)
  try simp only [Act.put, List.setIfInBounds_toArray, List.set_cons_zero, List.set_cons_succ]
  refine held_yes (i := 1) (some 24) (v := ?_) rfl rfl (by kernel_rfl) (by kernel_rfl) (by kernel_rfl) (fun _ _ _ h => h) (by rfl) ?_ hHeld ?_
  rotate_left
  · (intro w hSw; (try dsimp only at hSw); go_simp; all_goals with_reducible rfl)
  try simp only [Act.put, List.setIfInBounds_toArray, List.set_cons_zero, List.set_cons_succ]
  refine held_yes (i := 2) (some 25) (v := ?_) rfl rfl (by kernel_rfl) (by kernel_rfl) (by kernel_rfl) (fun _ _ _ h => h) (by rfl) ?_ hHeld ?_
  rotate_left
  · (intro w hSw; (try dsimp only at hSw); go_simp; all_goals with_reducible rfl)
  try simp only [Act.put, List.setIfInBounds_toArray, List.set_cons_zero, List.set_cons_succ]
  refine held_yes (i := 3) (some 26) (v := ?_) rfl rfl (by kernel_rfl) (by kernel_rfl) (by kernel_rfl) (fun _ _ _ h => h) (by rfl) ?_ hHeld ?_
  rotate_left
  · (intro w hSw; (try dsimp only at hSw); go_simp; all_goals with_reducible rfl)
  try simp only [Act.put, List.setIfInBounds_toArray, List.set_cons_zero, List.set_cons_succ]
  refine held_yes (i := 4) (some 27) (v := ?_) rfl rfl (by kernel_rfl) (by kernel_rfl) (by kernel_rfl) (fun _ _ _ h => h) (by rfl) ?_ hHeld ?_
  rotate_left
  · (intro w hSw; (try dsimp only at hSw); go_simp; all_goals with_reducible rfl)
  try simp only [Act.put, List.setIfInBounds_toArray, List.set_cons_zero, List.set_cons_succ]
  refine held_yes (i := 5) (some 28) (v := ?_) rfl rfl (by kernel_rfl) (by kernel_rfl) (by kernel_rfl) (fun _ _ _ h => h) (by rfl) ?_ hHeld ?_
  rotate_left
  · (intro w hSw; (try dsimp only at hSw); go_simp; all_goals with_reducible rfl)
  try simp only [Act.put, List.setIfInBounds_toArray, List.set_cons_zero, List.set_cons_succ]
  refine held_yes (i := 6) (some 29) (v := ?_) rfl rfl (by kernel_rfl) (by kernel_rfl) (by kernel_rfl) (fun _ _ _ h => h) (by rfl) ?_ hHeld ?_
  rotate_left
  · (intro w hSw; (try dsimp only at hSw); go_simp; all_goals with_reducible rfl)
  try simp only [Act.put, List.setIfInBounds_toArray, List.set_cons_zero, List.set_cons_succ]
  refine held_yes (i := 7) (some 30) (v := ?_) rfl rfl (by kernel_rfl) (by kernel_rfl) (by kernel_rfl) (fun _ _ _ h => h) (by rfl) ?_ hHeld ?_
  rotate_left
  · (intro w hSw; (try dsimp only at hSw); go_simp; all_goals with_reducible rfl)
  try simp only [Act.put, List.setIfInBounds_toArray, List.set_cons_zero, List.set_cons_succ]
  refine wpAnyH_ready (rs := [8]) (by kernel_rfl) (by simp) ?_
  refine (AllReadyH.cons rfl (fun K' hK' => ?_) AllReadyH.nil)
  go_simp
  ((with_reducible refine (rep_call 118 V _ ?_).mono ?_); omega; rintro e w3 ⟨rfl, hb⟩)
  go_wp2_with fail
  refine hK'.out _ _ ?_ (fun hHeld => ?_)
  · exact ⟨bcell hb hHeld.1, bcell hb hHeld.2.1, hHeld.2.2.trans (hb.mono hHeld.2.2.size)⟩
  clear hK' K'
  try dsimp only at hHeld
  try simp only [Act.put, List.setIfInBounds_toArray, List.set_cons_zero, List.set_cons_succ]
  refine held_yes (i := 9) (some 8) (v := ?_) rfl rfl (by kernel_rfl) (by kernel_rfl) (by kernel_rfl) (fun _ _ _ h => h) (by rfl) ?_ hHeld ?_
  rotate_left
  · (intro w hSw; (try dsimp only at hSw); go_simp; all_goals with_reducible rfl)
  try simp only [Act.put, List.setIfInBounds_toArray, List.set_cons_zero, List.set_cons_succ]
  refine held_yes (i := 10) (some 9) (v := ?_) rfl rfl (by kernel_rfl) (by kernel_rfl) (by kernel_rfl) (fun _ _ _ h => h) (by rfl) ?_ hHeld ?_
  rotate_left
  · (intro w hSw; (try dsimp only at hSw); go_simp; all_goals with_reducible rfl)
  try simp only [Act.put, List.setIfInBounds_toArray, List.set_cons_zero, List.set_cons_succ]
  refine wpAnyH_done (by kernel_rfl) ?_ _
  have hb := hHeld.2.2
  have HB3 := Lib.hid (bchain HB.out hb)
  have HN3 := Lib.hid (HN2.out.below hb)
  have y0 := bcell hb z0
  have y3 := bcell hb z3
  have r0 := bcell hb q0
  have r1 := bcell hb q1
  have u0 := bcell hb g0
  have u1 := bcell hb g1
  have hs3 := hb.size
  clear hb z0 z3 z4 q0 q1 g0 g1 hHeld hb2
  go_upto_region 9 with fail
  refine wp_region_held_drew (S := (fun W => W.cell? ⟨np, 0, none⟩ = some (.pointer (some ⟨a, 0, none⟩)) ∧ W.cell? ⟨w.heap.size + 1, 0, none⟩ = some (.int .i64 R) ∧ W.cell? ⟨w.heap.size + 1, 1, none⟩ = some (.int .i64 D))) (by kernel_rfl) ?_ (fun hHeld => ?_)
  · exact ⟨u0, r0, r1⟩
  try dsimp only at hHeld
  refine held_yes (i := 0) (some 54) (v := ?_) rfl rfl (by kernel_rfl) (by kernel_rfl) (by kernel_rfl) (fun _ _ _ h => h) (by rfl) ?_ hHeld ?_
  rotate_left
  · (intro w hSw; (try dsimp only at hSw); go_simp; all_goals with_reducible rfl)
  try simp only [Act.put, List.setIfInBounds_toArray, List.set_cons_zero, List.set_cons_succ]
  refine held_yes (i := 1) (some 55) (v := ?_) rfl rfl (by kernel_rfl) (by kernel_rfl) (by kernel_rfl) (fun _ _ _ h => h) (by rfl) ?_ hHeld ?_
  rotate_left
  · (intro w hSw; (try dsimp only at hSw); go_simp; all_goals with_reducible rfl)
  try simp only [Act.put, List.setIfInBounds_toArray, List.set_cons_zero, List.set_cons_succ]
  refine held_yes (i := 2) (some 56) (v := ?_) rfl rfl (by kernel_rfl) (by kernel_rfl) (by kernel_rfl) (fun _ _ _ h => h) (by rfl) ?_ hHeld ?_
  rotate_left
  · (intro w hSw; (try dsimp only at hSw); go_simp; all_goals with_reducible rfl)
  try simp only [Act.put, List.setIfInBounds_toArray, List.set_cons_zero, List.set_cons_succ]
  refine held_yes (i := 3) (some 57) (v := ?_) rfl rfl (by kernel_rfl) (by kernel_rfl) (by kernel_rfl) (fun _ _ _ h => h) (by rfl) ?_ hHeld ?_
  rotate_left
  · (intro w hSw; (try dsimp only at hSw); go_simp; all_goals with_reducible rfl)
  try simp only [Act.put, List.setIfInBounds_toArray, List.set_cons_zero, List.set_cons_succ]
  refine held_yes (i := 4) (some 58) (v := ?_) rfl rfl (by kernel_rfl) (by kernel_rfl) (by kernel_rfl) (fun _ _ _ h => h) (by rfl) ?_ hHeld ?_
  rotate_left
  · (intro w hSw; (try dsimp only at hSw); go_simp; all_goals with_reducible rfl)
  try simp only [Act.put, List.setIfInBounds_toArray, List.set_cons_zero, List.set_cons_succ]
  refine wpAnyH_ready (rs := [5]) (by kernel_rfl) (by simp) ?_
  refine (AllReadyH.cons rfl (fun K' hK' => ?_) AllReadyH.nil)
  go_simp
  ((with_reducible refine (promise_S a m t.a _ R D 0 ?_).mono ?_); exact HN3.out.a.below (Below.refl _ _).drew; rintro e w4 ⟨vl, rfl, hvl, ha, hf⟩; obtain ⟨Al, nl, cl, rfl⟩ := row_shape hvl)
  go_wp2_with fail
  refine hK'.out _ _ ?_ (fun hHeld => ?_)
  · exact ⟨hf.cell (fun e => by have e : np = a := e; omega) hHeld.1, hf.cell (fun e => by have e : w.heap.size + 1 = a := e; omega) hHeld.2.1, hf.cell (fun e => by have e : w.heap.size + 1 = a := e; omega) hHeld.2.2⟩
  clear hK' K'
  try dsimp only at hHeld
  try simp only [Act.put, List.setIfInBounds_toArray, List.set_cons_zero, List.set_cons_succ]
  refine held_yes (i := 6) (some 53) (v := ?_) rfl rfl (by kernel_rfl) (by kernel_rfl) (by kernel_rfl) (fun _ _ _ h => h) (by rfl) ?_ hHeld ?_
  rotate_left
  · (intro w hSw; (try dsimp only at hSw); go_simp; all_goals with_reducible rfl)
  try simp only [Act.put, List.setIfInBounds_toArray, List.set_cons_zero, List.set_cons_succ]
  refine held_yes (i := 7) (some 60) (v := ?_) rfl rfl (by kernel_rfl) (by kernel_rfl) (by kernel_rfl) (fun _ _ _ h => h) (by rfl) ?_ hHeld ?_
  rotate_left
  · (intro w hSw; (try dsimp only at hSw); go_simp; all_goals with_reducible rfl)
  try simp only [Act.put, List.setIfInBounds_toArray, List.set_cons_zero, List.set_cons_succ]
  refine held_yes (i := 8) (some 61) (v := ?_) rfl rfl (by kernel_rfl) (by kernel_rfl) (by kernel_rfl) (fun _ _ _ h => h) (by rfl) ?_ hHeld ?_
  rotate_left
  · (intro w hSw; (try dsimp only at hSw); go_simp; all_goals with_reducible rfl)
  try simp only [Act.put, List.setIfInBounds_toArray, List.set_cons_zero, List.set_cons_succ]
  refine held_yes (i := 9) (some 11) (v := ?_) rfl rfl (by kernel_rfl) (by kernel_rfl) (by kernel_rfl) (fun _ _ _ h => h) (by rfl) ?_ hHeld ?_
  rotate_left
  · (intro w hSw; (try dsimp only at hSw); go_simp; all_goals with_reducible rfl)
  try simp only [Act.put, List.setIfInBounds_toArray, List.set_cons_zero, List.set_cons_succ]
  refine held_yes (i := 10) (some 12) (v := ?_) rfl rfl (by kernel_rfl) (by kernel_rfl) (by kernel_rfl) (fun _ _ _ h => h) (by rfl) ?_ hHeld ?_
  rotate_left
  · (intro w hSw; (try dsimp only at hSw); go_simp; all_goals with_reducible rfl)
  try simp only [Act.put, List.setIfInBounds_toArray, List.set_cons_zero, List.set_cons_succ]
  refine wpAnyH_done (by kernel_rfl) ?_ _
  have HN4 := Lib.hid ((HN3.out.below (Below.refl _ _).drew).withA ha hf (fun i hi => .inl hi))
  have HF4 : Hid (Fr (nF a m l k) w w4) := ((Fr.of_below HB3.out).drew).trans (hf.mono (fun i hi => .inl hi))
  obtain ⟨_, s0, s1⟩ := hHeld
  clear ha hf hvl u0 r0 r1
  go_wp2_with (first
    | (go_at_call 11; refine (sprom_yes R D _ ((okB_iff _ _).2 (by omega))).mono ?_; rintro e w5 ⟨vo, rfl, hv, hb⟩; have HV := Lib.hid hv; have HN5 := Lib.hid (HN4.out.below hb); have HF5 := Lib.hid (HF4.out.trans (Fr.of_below hb)); obtain ⟨Ao, no', co, rfl⟩ := row_shape hv; clear hv hb))
  go_returns
  exact ⟨.slice Ao no' co, ret_rec (t := t) (r := ⟨1, R, D, 0, []⟩) (x := prE t.a R D 0) rfl (.slice Ao no' co), World.ownsRow.mono HV.out HF4.out.size, HN5.out, HF5.out⟩

set_option maxRecDepth 100000 in
set_option maxHeartbeats 2000000 in
theorem record_a {w : World} {np a m l k p : Nat} {t : NSt} (x : Dd) (hx : okDd x) (h0 : x.1 % 3 = 1) (hb : Blk w np 89 (ndC a l p)) (hn : NS w a m l k t) :
    Calls Tryz.prog 62 #[.pointer (some ⟨np, 0, none⟩), .agg (ddC x)] w (RecPost w a m l k t (recD x)) := by
  have hlen := recD_len x
  obtain ⟨ki, ro, no, sl, va⟩ := x
  obtain ⟨x0, x1, x2, x3, x4⟩ := hx
  simp only at x0 x1 x2 x3 x4 h0
  obtain ⟨R, hR, hR'⟩ : ∃ R : Nat, 1 + (ro : Int) % 6 = (R : Int) ∧ R = 1 + ro % 6 := ⟨1 + ro % 6, by omega, rfl⟩
  obtain ⟨D, hD, hD'⟩ : ∃ D : Nat, (no : Int) % 3 = (D : Int) ∧ D = no % 3 := ⟨no % 3, by omega, rfl⟩
  obtain ⟨S, hS, hS'⟩ : ∃ S : Nat, (sl : Int) % 12 = (S : Int) ∧ S = sl % 12 := ⟨sl % 12, by omega, rfl⟩
  obtain ⟨V, hV, hV'⟩ : ∃ V : Nat, (va : Int) % 40 = (V : Int) ∧ V = va % 40 := ⟨va % 40, by omega, rfl⟩
  have hk3 : (ki : Int) % 3 = 1 := by omega
  have hr : recD (ki, ro, no, sl, va) = ⟨2, R, D, S, repL 118 V⟩ := by
    unfold recD
    simp only [h0, hR', hD', hS', hV']
    rfl
  rw [hr] at hlen ⊢
  have HLEN := Lib.hid hlen
  have hR1 : 1 ≤ R ∧ R ≤ 6 := by omega
  have hD1 : D ≤ 2 := by omega
  have hS1 : S ≤ 11 := by omega
  have hV1 : V ≤ 39 := by omega
  have hal := hn.lt (i := a) (.inl rfl)
  have hll := hn.lt (i := l) (.inr (.inr (.inl rfl)))
  have hml := hn.lt (i := m) (.inr (.inl rfl))
  have hkl := hn.lt (i := k) (.inr (.inr (.inr rfl)))
  have hnp := hb.lt
  have hna : np ≠ a := hb.ne_type hn.a.at_.blk (by decide)
  have hnm : np ≠ m := by
    obtain ⟨es, c, hm⟩ := hn.a.at_.map.block
    exact hb.ne_map hm
  have c0 := hb.cell (i := 0) (v := .pointer (some ⟨a, 0, none⟩)) rfl
  have c1 := hb.cell (i := 1) (v := .pointer (some ⟨l, 0, none⟩)) rfl
  have HN := Lib.hid hn
  clear hb hn hr h0 hR' hD' hS' hV' hlen
  go_enter Tryz.func62, Tryz.ntmps62
  go_upto_region 2 with fail
  try rw [hR]
  try rw [hD]
  clear hR hD
  have KX := Lib.hid ((Blk.new w 83 (ddC (ki, ro, no, sl, va))).alloc (.cells #[.int .i64 R, .int .i64 D] 24))
  have KB := Lib.hid (blk_new1 w (.cells (ddC (ki, ro, no, sl, va)) 83) 24 #[.int .i64 R, .int .i64 D])
  have hb0 : Below w.heap.size w ((w.alloc (.cells (ddC (ki, ro, no, sl, va)) 83)).alloc (.cells #[.int .i64 R, .int .i64 D] 24)) := ((Below.refl _ w).alloc (Nat.le_refl _) _).alloc (by simp) _
  have HB := Lib.hid hb0
  have HN2 := Lib.hid (HN.out.below hb0)
  have g0 := bcell hb0 c0
  have g1 := bcell hb0 c1
  have hz2 : ((w.alloc (.cells (ddC (ki, ro, no, sl, va)) 83)).alloc (.cells #[.int .i64 R, .int .i64 D] 24)).heap.size = w.heap.size + 2 := by simp
  clear HN c0 c1 hb0
  generalize ((w.alloc (.cells (ddC (ki, ro, no, sl, va)) 83)).alloc (.cells #[.int .i64 R, .int .i64 D] 24)) = w2 at *
  have z0 := KX.out.cell (i := 0) (v := .int .u8 ki) rfl
  have z3 := KX.out.cell (i := 3) (v := .int .u8 sl) rfl
  have z4 := KX.out.cell (i := 4) (v := .int .u8 va) rfl
  have q0 := KB.out.cell (i := 0) (v := .int .i64 R) rfl
  have q1 := KB.out.cell (i := 1) (v := .int .i64 D) rfl
  have htS : (sl : Int).tmod 12 = (S : Int) := by rw [Int.tmod_eq_emod_of_nonneg (by omega)]; exact hS
  have htV : (va : Int).tmod 40 = (V : Int) := by rw [Int.tmod_eq_emod_of_nonneg (by omega)]; exact hV
  have hwS : IntKind.i64.wrap (S : Int) = (S : Int) := by rw [IntKind.wrap_i64]; omega
  have hwV : IntKind.i64.wrap (V : Int) = (V : Int) := by rw [IntKind.wrap_i64]; omega
  have hb2 : Below w2.heap.size w2 w2.drew := (Below.refl _ w2).drew
  refine wp_region_held_drew (S := (fun W => W.cell? ⟨w.heap.size, 3, none⟩ = some (.int .u8 sl) ∧ W.cell? ⟨w.heap.size, 4, none⟩ = some (.int .u8 va) ∧ Below w2.heap.size w2 W)) (by kernel_rfl) ?_ (fun hHeld => ?_)
  · exact ⟨z3, z4, hb2⟩
  try dsimp only at hHeld
  refine held_yes (i := 0) (some 23) (v := ?_) rfl rfl (by kernel_rfl) (by kernel_rfl) (by kernel_rfl) (fun _ _ _ h => h) (by rfl) ?_ hHeld ?_
  rotate_left
  · (intro w hSw; (try dsimp only at hSw); go_simp; all_goals with_reducible rfl)
  try simp only [Act.put, List.setIfInBounds_toArray, List.set_cons_zero, List.set_cons_succ]
  refine held_yes (i := 1) (some 24) (v := ?_) rfl rfl (by kernel_rfl) (by kernel_rfl) (by kernel_rfl) (fun _ _ _ h => h) (by rfl) ?_ hHeld ?_
  rotate_left
  · (intro w hSw; (try dsimp only at hSw); go_simp; all_goals with_reducible rfl)
  try simp only [Act.put, List.setIfInBounds_toArray, List.set_cons_zero, List.set_cons_succ]
  refine held_yes (i := 2) (some 25) (v := ?_) rfl rfl (by kernel_rfl) (by kernel_rfl) (by kernel_rfl) (fun _ _ _ h => h) (by rfl) ?_ hHeld ?_
  rotate_left
  · (intro w hSw; (try dsimp only at hSw); go_simp; all_goals with_reducible rfl)
  try simp only [Act.put, List.setIfInBounds_toArray, List.set_cons_zero, List.set_cons_succ]
  refine held_yes (i := 3) (some 26) (v := ?_) rfl rfl (by kernel_rfl) (by kernel_rfl) (by kernel_rfl) (fun _ _ _ h => h) (by rfl) ?_ hHeld ?_
  rotate_left
  · (intro w hSw; (try dsimp only at hSw); go_simp; all_goals with_reducible rfl)
  try simp only [Act.put, List.setIfInBounds_toArray, List.set_cons_zero, List.set_cons_succ]
  refine held_yes (i := 4) (some 27) (v := ?_) rfl rfl (by kernel_rfl) (by kernel_rfl) (by kernel_rfl) (fun _ _ _ h => h) (by rfl) ?_ hHeld ?_
  rotate_left
  · (intro w hSw; (try dsimp only at hSw); go_simp; all_goals with_reducible rfl)
  try simp only [Act.put, List.setIfInBounds_toArray, List.set_cons_zero, List.set_cons_succ]
  refine held_yes (i := 5) (some 28) (v := ?_) rfl rfl (by kernel_rfl) (by kernel_rfl) (by kernel_rfl) (fun _ _ _ h => h) (by rfl) ?_ hHeld ?_
  rotate_left
  · (intro w hSw; (try dsimp only at hSw); go_simp; all_goals with_reducible rfl)
  try simp only [Act.put, List.setIfInBounds_toArray, List.set_cons_zero, List.set_cons_succ]
  refine held_yes (i := 6) (some 29) (v := ?_) rfl rfl (by kernel_rfl) (by kernel_rfl) (by kernel_rfl) (fun _ _ _ h => h) (by rfl) ?_ hHeld ?_
  rotate_left
  · (intro w hSw; (try dsimp only at hSw); go_simp; all_goals with_reducible rfl)
  try simp only [Act.put, List.setIfInBounds_toArray, List.set_cons_zero, List.set_cons_succ]
  refine held_yes (i := 7) (some 30) (v := ?_) rfl rfl (by kernel_rfl) (by kernel_rfl) (by kernel_rfl) (fun _ _ _ h => h) (by rfl) ?_ hHeld ?_
  rotate_left
  · (intro w hSw; (try dsimp only at hSw); go_simp; all_goals with_reducible rfl)
  try simp only [Act.put, List.setIfInBounds_toArray, List.set_cons_zero, List.set_cons_succ]
  refine wpAnyH_ready (rs := [8]) (by kernel_rfl) (by simp) ?_
  refine (AllReadyH.cons rfl (fun K' hK' => ?_) AllReadyH.nil)
  go_simp
  ((with_reducible refine (rep_call 118 V _ ?_).mono ?_); omega; rintro e w3 ⟨rfl, hb⟩)
  go_wp2_with fail
  refine hK'.out _ _ ?_ (fun hHeld => ?_)
  · exact ⟨bcell hb hHeld.1, bcell hb hHeld.2.1, hHeld.2.2.trans (hb.mono hHeld.2.2.size)⟩
  clear hK' K'
  try dsimp only at hHeld
  try simp only [Act.put, List.setIfInBounds_toArray, List.set_cons_zero, List.set_cons_succ]
  refine held_yes (i := 9) (some 8) (v := ?_) rfl rfl (by kernel_rfl) (by kernel_rfl) (by kernel_rfl) (fun _ _ _ h => h) (by rfl) ?_ hHeld ?_
  rotate_left
  · (intro w hSw; (try dsimp only at hSw); go_simp; all_goals with_reducible rfl)
  try simp only [Act.put, List.setIfInBounds_toArray, List.set_cons_zero, List.set_cons_succ]
  refine held_yes (i := 10) (some 9) (v := ?_) rfl rfl (by kernel_rfl) (by kernel_rfl) (by kernel_rfl) (fun _ _ _ h => h) (by rfl) ?_ hHeld ?_
  rotate_left
  · (intro w hSw; (try dsimp only at hSw); go_simp; all_goals with_reducible rfl)
  try simp only [Act.put, List.setIfInBounds_toArray, List.set_cons_zero, List.set_cons_succ]
  refine wpAnyH_done (by kernel_rfl) ?_ _
  have hb := hHeld.2.2
  have HB3 := Lib.hid (bchain HB.out hb)
  have HN3 := Lib.hid (HN2.out.below hb)
  have y0 := bcell hb z0
  have y3 := bcell hb z3
  have r0 := bcell hb q0
  have r1 := bcell hb q1
  have u0 := bcell hb g0
  have u1 := bcell hb g1
  have hs3 := hb.size
  clear hb z0 z3 z4 q0 q1 g0 g1 hHeld hb2
  go_upto_region 13 with fail
  refine wp_region_held_drew (S := (fun W => W.cell? ⟨np, 0, none⟩ = some (.pointer (some ⟨a, 0, none⟩)) ∧ W.cell? ⟨w.heap.size + 1, 0, none⟩ = some (.int .i64 R) ∧ W.cell? ⟨w.heap.size + 1, 1, none⟩ = some (.int .i64 D))) (by kernel_rfl) ?_ (fun hHeld => ?_)
  · exact ⟨u0, r0, r1⟩
  try dsimp only at hHeld
  refine held_yes (i := 0) (some 71) (v := ?_) rfl rfl (by kernel_rfl) (by kernel_rfl) (by kernel_rfl) (fun _ _ _ h => h) (by rfl) ?_ hHeld ?_
  rotate_left
  · (intro w hSw; (try dsimp only at hSw); go_simp; all_goals with_reducible rfl)
  try simp only [Act.put, List.setIfInBounds_toArray, List.set_cons_zero, List.set_cons_succ]
  refine held_yes (i := 1) (some 72) (v := ?_) rfl rfl (by kernel_rfl) (by kernel_rfl) (by kernel_rfl) (fun _ _ _ h => h) (by rfl) ?_ hHeld ?_
  rotate_left
  · (intro w hSw; (try dsimp only at hSw); go_simp; all_goals with_reducible rfl)
  try simp only [Act.put, List.setIfInBounds_toArray, List.set_cons_zero, List.set_cons_succ]
  refine held_yes (i := 2) (some 73) (v := ?_) rfl rfl (by kernel_rfl) (by kernel_rfl) (by kernel_rfl) (fun _ _ _ h => h) (by rfl) ?_ hHeld ?_
  rotate_left
  · (intro w hSw; (try dsimp only at hSw); go_simp; all_goals with_reducible rfl)
  try simp only [Act.put, List.setIfInBounds_toArray, List.set_cons_zero, List.set_cons_succ]
  refine held_yes (i := 3) (some 74) (v := ?_) rfl rfl (by kernel_rfl) (by kernel_rfl) (by kernel_rfl) (fun _ _ _ h => h) (by rfl) ?_ hHeld ?_
  rotate_left
  · (intro w hSw; (try dsimp only at hSw); go_simp; all_goals with_reducible rfl)
  try simp only [Act.put, List.setIfInBounds_toArray, List.set_cons_zero, List.set_cons_succ]
  refine held_yes (i := 4) (some 75) (v := ?_) rfl rfl (by kernel_rfl) (by kernel_rfl) (by kernel_rfl) (fun _ _ _ h => h) (by rfl) ?_ hHeld ?_
  rotate_left
  · (intro w hSw; (try dsimp only at hSw); go_simp; all_goals with_reducible rfl)
  try simp only [Act.put, List.setIfInBounds_toArray, List.set_cons_zero, List.set_cons_succ]
  refine held_yes (i := 5) (some 76) (v := ?_) rfl rfl (by kernel_rfl) (by kernel_rfl) (by kernel_rfl) (fun _ _ _ h => h) (by rfl) ?_ hHeld ?_
  rotate_left
  · (intro w hSw; (try dsimp only at hSw); go_simp; all_goals with_reducible rfl)
  try simp only [Act.put, List.setIfInBounds_toArray, List.set_cons_zero, List.set_cons_succ]
  refine held_yes (i := 6) (some 77) (v := ?_) rfl rfl (by kernel_rfl) (by kernel_rfl) (by kernel_rfl) (fun _ _ _ h => h) (by rfl) ?_ hHeld ?_
  rotate_left
  · (intro w hSw; (try dsimp only at hSw); go_simp; all_goals with_reducible rfl)
  try simp only [Act.put, List.setIfInBounds_toArray, List.set_cons_zero, List.set_cons_succ]
  refine wpAnyH_ready (rs := [7]) (by kernel_rfl) (by simp) ?_
  refine (AllReadyH.cons rfl (fun K' hK' => ?_) AllReadyH.nil)
  go_simp
  ((with_reducible refine (accept_S a m t.a _ R D S (sB (repL 118 V)) ?_).mono ?_); exact HN3.out.a.below (Below.refl _ _).drew; rintro e w4 ⟨rfl, ha, hf⟩)
  go_wp2_with fail
  refine hK'.out _ _ ?_ (fun hHeld => ?_)
  · exact ⟨hf.cell (fun e => by rcases e with e | e; exact hna e; exact hnm e) hHeld.1, hf.cell (fun e => by rcases e with e | e; (have e : w.heap.size + 1 = a := e; omega); (have e : w.heap.size + 1 = m := e; omega)) hHeld.2.1, hf.cell (fun e => by rcases e with e | e; (have e : w.heap.size + 1 = a := e; omega); (have e : w.heap.size + 1 = m := e; omega)) hHeld.2.2⟩
  clear hK' K'
  try dsimp only at hHeld
  try simp only [Act.put, List.setIfInBounds_toArray, List.set_cons_zero, List.set_cons_succ]
  refine held_yes (i := 8) (some 79) (v := ?_) rfl rfl (by kernel_rfl) (by kernel_rfl) (by kernel_rfl) (fun _ _ _ h => h) (by rfl) ?_ hHeld ?_
  rotate_left
  · (intro w hSw; (try dsimp only at hSw); go_simp; all_goals with_reducible rfl)
  try simp only [Act.put, List.setIfInBounds_toArray, List.set_cons_zero, List.set_cons_succ]
  refine held_yes (i := 9) (some 5) (v := ?_) rfl rfl (by kernel_rfl) (by kernel_rfl) (by kernel_rfl) (fun _ _ _ h => h) (by rfl) ?_ hHeld ?_
  rotate_left
  · (intro w hSw; (try dsimp only at hSw); go_simp; all_goals with_reducible rfl)
  try simp only [Act.put, List.setIfInBounds_toArray, List.set_cons_zero, List.set_cons_succ]
  refine wpAnyH_done (by kernel_rfl) ?_ _
  have HN4 := Lib.hid ((HN3.out.below (Below.refl _ _).drew).withA ha hf (fun i hi => hi))
  have HF4 : Hid (Fr (nF a m l k) w w4) := ((Fr.of_below HB3.out).drew).trans (hf.mono (fun i hi => hi.elim .inl (fun e => .inr (.inl e))))
  obtain ⟨_, s0, s1⟩ := hHeld
  clear ha hf u0 r0 r1
  go_wp2_with (first
    | (go_at_call 12; refine (sacc_yes R D S (sB (repL 118 V)) _ ((okB_iff _ _).2 (by omega)) (by omega) (by rw [sB_size, repL_len]; omega) (by rw [valB_acc]; have := HLEN.out; omega)).mono ?_; rintro e w5 ⟨vo, rfl, hv, hb⟩; rw [valB_acc] at hv; have HV := Lib.hid hv; have HN5 := Lib.hid (HN4.out.below hb); have HF5 := Lib.hid (HF4.out.trans (Fr.of_below hb)); obtain ⟨Ao, no', co, rfl⟩ := row_shape hv; clear hv hb))
  go_returns
  exact ⟨.slice Ao no' co, ret_rec (t := t) (r := ⟨2, R, D, S, repL 118 V⟩) (x := acE t.a R D S (sB (repL 118 V))) rfl (.slice Ao no' co), World.ownsRow.mono HV.out HF4.out.size, HN5.out, HF5.out⟩

set_option maxRecDepth 100000 in
set_option maxHeartbeats 2000000 in
theorem record_c {w : World} {np a m l k p : Nat} {t : NSt} (x : Dd) (hx : okDd x) (h0 : x.1 % 3 = 2) (hb : Blk w np 89 (ndC a l p)) (hn : NS w a m l k t) :
    Calls Tryz.prog 62 #[.pointer (some ⟨np, 0, none⟩), .agg (ddC x)] w (RecPost w a m l k t (recD x)) := by
  have hlen := recD_len x
  obtain ⟨ki, ro, no, sl, va⟩ := x
  obtain ⟨x0, x1, x2, x3, x4⟩ := hx
  simp only at x0 x1 x2 x3 x4 h0
  obtain ⟨R, hR, hR'⟩ : ∃ R : Nat, 1 + (ro : Int) % 6 = (R : Int) ∧ R = 1 + ro % 6 := ⟨1 + ro % 6, by omega, rfl⟩
  obtain ⟨D, hD, hD'⟩ : ∃ D : Nat, (no : Int) % 3 = (D : Int) ∧ D = no % 3 := ⟨no % 3, by omega, rfl⟩
  obtain ⟨S, hS, hS'⟩ : ∃ S : Nat, (sl : Int) % 12 = (S : Int) ∧ S = sl % 12 := ⟨sl % 12, by omega, rfl⟩
  obtain ⟨V, hV, hV'⟩ : ∃ V : Nat, (va : Int) % 40 = (V : Int) ∧ V = va % 40 := ⟨va % 40, by omega, rfl⟩
  have hk3 : (ki : Int) % 3 = 2 := by omega
  have hr : recD (ki, ro, no, sl, va) = ⟨3, 0, 0, S, repL 99 S⟩ := by
    unfold recD
    simp only [h0, hR', hD', hS', hV']
    rfl
  rw [hr] at hlen ⊢
  have HLEN := Lib.hid hlen
  have hR1 : 1 ≤ R ∧ R ≤ 6 := by omega
  have hD1 : D ≤ 2 := by omega
  have hS1 : S ≤ 11 := by omega
  have hV1 : V ≤ 39 := by omega
  have hal := hn.lt (i := a) (.inl rfl)
  have hll := hn.lt (i := l) (.inr (.inr (.inl rfl)))
  have hml := hn.lt (i := m) (.inr (.inl rfl))
  have hkl := hn.lt (i := k) (.inr (.inr (.inr rfl)))
  have hnp := hb.lt
  have hna : np ≠ a := hb.ne_type hn.a.at_.blk (by decide)
  have hnm : np ≠ m := by
    obtain ⟨es, c, hm⟩ := hn.a.at_.map.block
    exact hb.ne_map hm
  have c0 := hb.cell (i := 0) (v := .pointer (some ⟨a, 0, none⟩)) rfl
  have c1 := hb.cell (i := 1) (v := .pointer (some ⟨l, 0, none⟩)) rfl
  have HN := Lib.hid hn
  clear hb hn hr h0 hR' hD' hS' hV' hlen
  go_enter Tryz.func62, Tryz.ntmps62
  go_upto_region 2 with fail
  try rw [hR]
  try rw [hD]
  clear hR hD
  have KX := Lib.hid ((Blk.new w 83 (ddC (ki, ro, no, sl, va))).alloc (.cells #[.int .i64 R, .int .i64 D] 24))
  have KB := Lib.hid (blk_new1 w (.cells (ddC (ki, ro, no, sl, va)) 83) 24 #[.int .i64 R, .int .i64 D])
  have hb0 : Below w.heap.size w ((w.alloc (.cells (ddC (ki, ro, no, sl, va)) 83)).alloc (.cells #[.int .i64 R, .int .i64 D] 24)) := ((Below.refl _ w).alloc (Nat.le_refl _) _).alloc (by simp) _
  have HB := Lib.hid hb0
  have HN2 := Lib.hid (HN.out.below hb0)
  have g0 := bcell hb0 c0
  have g1 := bcell hb0 c1
  have hz2 : ((w.alloc (.cells (ddC (ki, ro, no, sl, va)) 83)).alloc (.cells #[.int .i64 R, .int .i64 D] 24)).heap.size = w.heap.size + 2 := by simp
  clear HN c0 c1 hb0
  generalize ((w.alloc (.cells (ddC (ki, ro, no, sl, va)) 83)).alloc (.cells #[.int .i64 R, .int .i64 D] 24)) = w2 at *
  have z0 := KX.out.cell (i := 0) (v := .int .u8 ki) rfl
  have z3 := KX.out.cell (i := 3) (v := .int .u8 sl) rfl
  have z4 := KX.out.cell (i := 4) (v := .int .u8 va) rfl
  have q0 := KB.out.cell (i := 0) (v := .int .i64 R) rfl
  have q1 := KB.out.cell (i := 1) (v := .int .i64 D) rfl
  have htS : (sl : Int).tmod 12 = (S : Int) := by rw [Int.tmod_eq_emod_of_nonneg (by omega)]; exact hS
  have htV : (va : Int).tmod 40 = (V : Int) := by rw [Int.tmod_eq_emod_of_nonneg (by omega)]; exact hV
  have hwS : IntKind.i64.wrap (S : Int) = (S : Int) := by rw [IntKind.wrap_i64]; omega
  have hwV : IntKind.i64.wrap (V : Int) = (V : Int) := by rw [IntKind.wrap_i64]; omega
  have hb2 : Below w2.heap.size w2 w2.drew := (Below.refl _ w2).drew
  refine wp_region_held_drew (S := (fun W => W.cell? ⟨w.heap.size, 3, none⟩ = some (.int .u8 sl) ∧ W.cell? ⟨w.heap.size, 4, none⟩ = some (.int .u8 va) ∧ Below w2.heap.size w2 W)) (by kernel_rfl) ?_ (fun hHeld => ?_)
  · exact ⟨z3, z4, hb2⟩
  try dsimp only at hHeld
  refine held_yes (i := 0) (some 23) (v := ?_) rfl rfl (by kernel_rfl) (by kernel_rfl) (by kernel_rfl) (fun _ _ _ h => h) (by rfl) ?_ hHeld ?_
  rotate_left
  · (intro w hSw; (try dsimp only at hSw); go_simp; all_goals with_reducible rfl)
  try simp only [Act.put, List.setIfInBounds_toArray, List.set_cons_zero, List.set_cons_succ]
  refine held_yes (i := 1) (some 24) (v := ?_) rfl rfl (by kernel_rfl) (by kernel_rfl) (by kernel_rfl) (fun _ _ _ h => h) (by rfl) ?_ hHeld ?_
  rotate_left
  · (intro w hSw; (try dsimp only at hSw); go_simp; all_goals with_reducible rfl)
  try simp only [Act.put, List.setIfInBounds_toArray, List.set_cons_zero, List.set_cons_succ]
  refine held_yes (i := 2) (some 25) (v := ?_) rfl rfl (by kernel_rfl) (by kernel_rfl) (by kernel_rfl) (fun _ _ _ h => h) (by rfl) ?_ hHeld ?_
  rotate_left
  · (intro w hSw; (try dsimp only at hSw); go_simp; all_goals with_reducible rfl)
  try simp only [Act.put, List.setIfInBounds_toArray, List.set_cons_zero, List.set_cons_succ]
  refine held_yes (i := 3) (some 26) (v := ?_) rfl rfl (by kernel_rfl) (by kernel_rfl) (by kernel_rfl) (fun _ _ _ h => h) (by rfl) ?_ hHeld ?_
  rotate_left
  · (intro w hSw; (try dsimp only at hSw); go_simp; all_goals with_reducible rfl)
  try simp only [Act.put, List.setIfInBounds_toArray, List.set_cons_zero, List.set_cons_succ]
  refine held_yes (i := 4) (some 27) (v := ?_) rfl rfl (by kernel_rfl) (by kernel_rfl) (by kernel_rfl) (fun _ _ _ h => h) (by rfl) ?_ hHeld ?_
  rotate_left
  · (intro w hSw; (try dsimp only at hSw); go_simp; all_goals with_reducible rfl)
  try simp only [Act.put, List.setIfInBounds_toArray, List.set_cons_zero, List.set_cons_succ]
  refine held_yes (i := 5) (some 28) (v := ?_) rfl rfl (by kernel_rfl) (by kernel_rfl) (by kernel_rfl) (fun _ _ _ h => h) (by rfl) ?_ hHeld ?_
  rotate_left
  · (intro w hSw; (try dsimp only at hSw); go_simp; all_goals with_reducible rfl)
  try simp only [Act.put, List.setIfInBounds_toArray, List.set_cons_zero, List.set_cons_succ]
  refine held_yes (i := 6) (some 29) (v := ?_) rfl rfl (by kernel_rfl) (by kernel_rfl) (by kernel_rfl) (fun _ _ _ h => h) (by rfl) ?_ hHeld ?_
  rotate_left
  · (intro w hSw; (try dsimp only at hSw); go_simp; all_goals with_reducible rfl)
  try simp only [Act.put, List.setIfInBounds_toArray, List.set_cons_zero, List.set_cons_succ]
  refine held_yes (i := 7) (some 30) (v := ?_) rfl rfl (by kernel_rfl) (by kernel_rfl) (by kernel_rfl) (fun _ _ _ h => h) (by rfl) ?_ hHeld ?_
  rotate_left
  · (intro w hSw; (try dsimp only at hSw); go_simp; all_goals with_reducible rfl)
  try simp only [Act.put, List.setIfInBounds_toArray, List.set_cons_zero, List.set_cons_succ]
  refine wpAnyH_ready (rs := [8]) (by kernel_rfl) (by simp) ?_
  refine (AllReadyH.cons rfl (fun K' hK' => ?_) AllReadyH.nil)
  go_simp
  ((with_reducible refine (rep_call 118 V _ ?_).mono ?_); omega; rintro e w3 ⟨rfl, hb⟩)
  go_wp2_with fail
  refine hK'.out _ _ ?_ (fun hHeld => ?_)
  · exact ⟨bcell hb hHeld.1, bcell hb hHeld.2.1, hHeld.2.2.trans (hb.mono hHeld.2.2.size)⟩
  clear hK' K'
  try dsimp only at hHeld
  try simp only [Act.put, List.setIfInBounds_toArray, List.set_cons_zero, List.set_cons_succ]
  refine held_yes (i := 9) (some 8) (v := ?_) rfl rfl (by kernel_rfl) (by kernel_rfl) (by kernel_rfl) (fun _ _ _ h => h) (by rfl) ?_ hHeld ?_
  rotate_left
  · (intro w hSw; (try dsimp only at hSw); go_simp; all_goals with_reducible rfl)
  try simp only [Act.put, List.setIfInBounds_toArray, List.set_cons_zero, List.set_cons_succ]
  refine held_yes (i := 10) (some 9) (v := ?_) rfl rfl (by kernel_rfl) (by kernel_rfl) (by kernel_rfl) (fun _ _ _ h => h) (by rfl) ?_ hHeld ?_
  rotate_left
  · (intro w hSw; (try dsimp only at hSw); go_simp; all_goals with_reducible rfl)
  try simp only [Act.put, List.setIfInBounds_toArray, List.set_cons_zero, List.set_cons_succ]
  refine wpAnyH_done (by kernel_rfl) ?_ _
  have hb := hHeld.2.2
  have HB3 := Lib.hid (bchain HB.out hb)
  have HN3 := Lib.hid (HN2.out.below hb)
  have y0 := bcell hb z0
  have y3 := bcell hb z3
  have r0 := bcell hb q0
  have r1 := bcell hb q1
  have u0 := bcell hb g0
  have u1 := bcell hb g1
  have hs3 := hb.size
  clear hb z0 z3 z4 q0 q1 g0 g1 hHeld hb2
  go_wp2_with (first
    | (go_at_call 53; (with_reducible refine (rep_call 99 S _ ?_).mono ?_); omega; rintro e w4 ⟨rfl, hb⟩; have HN4 := Lib.hid (HN3.out.below hb); have v1 := bcell hb u1; have HB4 := Lib.hid (bchain HB3.out hb); clear hb u1)
    | (go_at_call 42; refine (lput_any S (sB (repL 99 S)) HN4.out.l).mono ?_; rintro e w5 ⟨rfl, hl, hf⟩; have HN5 := Lib.hid (HN4.out.withL hl hf); have HF5 : Hid (Fr (nF a m l k) w w5) := (Fr.of_below HB4.out).trans (hf.mono (fun i hi => hi.elim (fun e => .inr (.inr (.inl e))) (fun e => .inr (.inr (.inr e))))); clear hl hf)
    | (go_at_call 13; refine (choose_yes S (sB (repL 99 S)) _ (by omega) (by rw [sB_size, repL_len]; omega) (by rw [valB_cho]; have := HLEN.out; omega)).mono ?_; rintro e w6 ⟨vo, rfl, hv, hb⟩; rw [valB_cho] at hv; have HV := Lib.hid hv; have HN6 := Lib.hid (HN5.out.below hb); have HF6 := Lib.hid (HF5.out.trans (Fr.of_below hb)); obtain ⟨Ao, no', co, rfl⟩ := row_shape hv; clear hv hb))
  go_returns
  exact ⟨.slice Ao no' co, ret_rec (t := t) (r := ⟨3, 0, 0, S, repL 99 S⟩) (x := lputE t.l S (sB (repL 99 S))) rfl (.slice Ao no' co), World.ownsRow.mono HV.out HF5.out.size, HN6.out, HF6.out⟩
theorem record_any {w : World} {np a m l k p : Nat} {t : NSt} (x : Dd) (hx : okDd x) (hb : Blk w np 89 (ndC a l p)) (hn : NS w a m l k t) :
    Calls Tryz.prog 62 #[.pointer (some ⟨np, 0, none⟩), .agg (ddC x)] w (RecPost w a m l k t (recD x)) := by
  rcases (show x.1 % 3 = 0 ∨ x.1 % 3 = 1 ∨ x.1 % 3 = 2 by omega) with h | h | h
  · exact record_p x hx h hb hn
  · exact record_a x hx h hb hn
  · exact record_c x hx h hb hn
end Go.Proofs.YtlfikhblmbidmaaGreatDoor
