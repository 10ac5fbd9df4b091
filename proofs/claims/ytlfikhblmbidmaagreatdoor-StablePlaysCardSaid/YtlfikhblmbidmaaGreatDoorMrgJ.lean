/- Laid together by gen/merge.py: RcA RcB RcC RcD RcE RcF RcG. -/
import Derived.Test.YtlfikhblmbidmaaGreatDoorMrgI
import Derived.Deep.DeepMust
set_option linter.all false
namespace Go.Proofs.YtlfikhblmbidmaaGreatDoor
open Go.RowKit Go.Maps Go.Shelf
theorem rcheck_any (r d n : Int) (w : World) :
  Calls Tryz.prog 185 #[balV r d, .int .i64 n] w fun e w' => e = .returned (.int .i64 (chkE n r d)) ∧ Below w.heap.size w w' := by
 have hE := fun (a b c d : Int) (w : World) => eqBal a b c d w
 have hG := eqGBal
 have hB0 := fun w => bldBal0 w
 have hb := box_below w (.cells #[.int .i64 r, .int .i64 d] 24)
 by_cases h1 : n < 1
 ·have E : chkE n r d = 2 := by simp [chkE, h1]
  rw [E]; clear E
  go_enter Tryz.func185, Tryz.ntmps185
  go_wp2_with fail
  go_returns
  exact ⟨rfl, hb⟩
 have h1' : decide (n < 1) = false := by simpa using h1
 by_cases h2 : 7 < n
 ·have E : chkE n r d = 2 := by simp [chkE, h2]
  rw [E]; clear E h1
  go_enter Tryz.func185, Tryz.ntmps185
  go_wp2_with fail
  go_returns
  exact ⟨rfl, hb⟩
 have h2' : decide (n > 7) = false := by simpa using h2
 by_cases h3 : r = 0 ∧ d = 0
 ·have E : chkE n r d = 0 := by simp [chkE, h1, h2, h3]
  obtain ⟨rfl, rfl⟩ := h3
  rw [E]; clear E h1 h2
  go_enter Tryz.func185, Tryz.ntmps185
  go_wp2_with fail
  go_returns
  exact ⟨rfl, hb⟩
 have h3' : (r == 0 && d == 0) = false := by
  by_cases e : r = 0
  ·by_cases e2 : d = 0
   ·exact absurd ⟨e, e2⟩ h3
   ·simp [e2]
  ·simp [e]
 by_cases h4 : r ≥ 1
 case neg =>
  have E : chkE n r d = 2 := by simp only [chkE, if_neg (show ¬ (n < 1 ∨ 7 < n) by omega), if_neg h3, if_pos (show r < 1 ∨ 1073741824 < r ∨ d < 0 ∨ n ≤ d by omega)]
  have h4' : decide (r ≥ 1) = false := by simpa using h4
  rw [E]; clear E h1 h2 h3 h4
  go_enter Tryz.func185, Tryz.ntmps185
  go_wp2_with fail
  go_returns
  exact ⟨rfl, hb⟩
 by_cases h5 : r ≤ 1073741824
 case neg =>
  have E : chkE n r d = 2 := by simp only [chkE, if_neg (show ¬ (n < 1 ∨ 7 < n) by omega), if_neg h3, if_pos (show r < 1 ∨ 1073741824 < r ∨ d < 0 ∨ n ≤ d by omega)]
  have h5' : decide (r ≤ 1073741824) = false := by simpa using h5
  rw [E]; clear E h1 h2 h3 h5
  go_enter Tryz.func185, Tryz.ntmps185
  go_wp2_with fail
  go_returns
  exact ⟨rfl, hb⟩
 by_cases h6 : d ≥ 0
 case neg =>
  have E : chkE n r d = 2 := by simp only [chkE, if_neg (show ¬ (n < 1 ∨ 7 < n) by omega), if_neg h3, if_pos (show r < 1 ∨ 1073741824 < r ∨ d < 0 ∨ n ≤ d by omega)]
  have h6' : decide (d ≥ 0) = false := by simpa using h6
  rw [E]; clear E h1 h2 h3 h6
  go_enter Tryz.func185, Tryz.ntmps185
  go_wp2_with fail
  go_returns
  exact ⟨rfl, hb⟩
 by_cases h7 : d < n
 case neg =>
  have E : chkE n r d = 2 := by simp only [chkE, if_neg (show ¬ (n < 1 ∨ 7 < n) by omega), if_neg h3, if_pos (show r < 1 ∨ 1073741824 < r ∨ d < 0 ∨ n ≤ d by omega)]
  have h7' : decide (d < n) = false := by simpa using h7
  rw [E]; clear E h1 h2 h3 h7
  go_enter Tryz.func185, Tryz.ntmps185
  go_wp2_with fail
  go_returns
  exact ⟨rfl, hb⟩
 have E : chkE n r d = 0 := by simp only [chkE, if_neg (show ¬ (n < 1 ∨ 7 < n) by omega), if_neg h3, if_neg (show ¬ (r < 1 ∨ 1073741824 < r ∨ d < 0 ∨ n ≤ d) by omega)]
 rw [E]; clear E h1 h2 h3
 go_enter Tryz.func185, Tryz.ntmps185
 go_wp2_with fail
 go_returns
 exact ⟨rfl, hb⟩
theorem rorder_any (r1 d1 r2 d2 : Int) (w : World) :
  Calls Tryz.prog 124 #[balV r1 d1, balV r2 d2] w fun e w' => e = .returned (.int .i64 (ordB (r1, d1) (r2, d2))) ∧ Below w.heap.size w w' := by
 have hE := fun (a b c d : Int) (w : World) => eqBal a b c d w
 have hG := eqGBal
 have hb := bchain (box_below w (.cells #[.int .i64 r1, .int .i64 d1] 24)) (box_below _ (.cells #[.int .i64 r2, .int .i64 d2] 24))
 by_cases h1 : r1 < r2
 ·have E : ordB (r1, d1) (r2, d2) = -1 := by simp [ordB, firstI, cmpI, h1]
  rw [E]; clear E
  go_enter Tryz.func124, Tryz.ntmps124
  go_wp2_with fail
  go_returns
  exact ⟨rfl, hb⟩
 have h1' : decide (r1 < r2) = false := by simpa using h1
 by_cases h2 : r1 = r2
 ·subst h2
  by_cases h3 : d1 < d2
  ·have E : ordB (r1, d1) (r1, d2) = -1 := by simp [ordB, firstI, cmpI, h3]
   rw [E]; clear E h1
   go_enter Tryz.func124, Tryz.ntmps124
   go_wp2_with fail
   go_returns
   exact ⟨rfl, hb⟩
  have h3' : decide (d1 < d2) = false := by simpa using h3
  by_cases h4 : d1 = d2
  ·subst h4
   have E : ordB (r1, d1) (r1, d1) = 0 := by simp [ordB, firstI, cmpI]
   rw [E]; clear E h1 h3
   go_enter Tryz.func124, Tryz.ntmps124
   go_wp2_with fail
   go_returns
   exact ⟨rfl, hb⟩
  ·have h4' : (d1 == d2) = false := by simpa using h4
   have E : ordB (r1, d1) (r1, d2) = 1 := by simp [ordB, firstI, cmpI, h3]; omega
   rw [E]; clear E h1 h3 h4
   go_enter Tryz.func124, Tryz.ntmps124
   go_wp2_with fail
   go_returns
   exact ⟨rfl, hb⟩
 ·have h2' : (r1 == r2) = false := by simpa using h2
  have E : ordB (r1, d1) (r2, d2) = 1 := by simp only [ordB, firstI, cmpI, if_neg h1, if_pos (show r1 > r2 by omega)]; simp
  rw [E]; clear E h1 h2
  go_enter Tryz.func124, Tryz.ntmps124
  go_wp2_with fail
  go_returns
  exact ⟨rfl, hb⟩
structure RAt (w : World) (p : Nat) (v : Value) (s : ASt) : Prop where
 blk : Blk w p 166 #[.bool true, .int .i64 s.n, .int .i64 s.r, .int .i64 s.d, v, .int .i64 s.base]
 row : EntRow w 0 v s.L
 good : AGood s
theorem ravalid (p : Nat) (w : World) (h : w.cell? ⟨p, 0, none⟩ = some (.bool true)) :
  Calls Tryz.prog 122 #[.pointer (some ⟨p, 0, none⟩)] w fun e w' => e = .returned (.bool true) ∧ w = w' := by
 go_enter Tryz.func122, Tryz.ntmps122
 go_wp2
 go_returns
 exact ⟨rfl, rfl⟩
end Go.Proofs.YtlfikhblmbidmaaGreatDoor
namespace Go.Proofs.YtlfikhblmbidmaaGreatDoor
open Go.RowKit Go.Maps Go.Shelf
namespace RAt
variable {w w' : World} {p : Nat} {v : Value} {s : ASt}
theorem below (h : RAt w p v s) (k : Below w.heap.size w w') : RAt w' p v s := ⟨h.blk.of_block (k.block _ h.blk.lt), h.row.below k, h.good⟩
theorem drew (h : RAt w p v s) : RAt w.drew p v s := ⟨h.blk, h.row, h.good⟩
theorem c0 (h : RAt w p v s) : w.cell? ⟨p, 0, none⟩ = some (.bool true) := h.blk.cell rfl
theorem c1 (h : RAt w p v s) : w.cell? ⟨p, 1, none⟩ = some (.int .i64 s.n) := h.blk.cell rfl
theorem c2 (h : RAt w p v s) : w.cell? ⟨p, 2, none⟩ = some (.int .i64 s.r) := h.blk.cell rfl
theorem c3 (h : RAt w p v s) : w.cell? ⟨p, 3, none⟩ = some (.int .i64 s.d) := h.blk.cell rfl
theorem c4 (h : RAt w p v s) : w.cell? ⟨p, 4, none⟩ = some v := h.blk.cell rfl
theorem c5 (h : RAt w p v s) : w.cell? ⟨p, 5, none⟩ = some (.int .i64 s.base) := h.blk.cell rfl
end RAt
theorem rnew_yes (n : Int) (w : World) (hn : okN n) : Calls Tryz.prog 100 #[.int .i64 n] w fun e w' => ∃ p, e = .returned (.tuple #[.pointer (some ⟨p, 0, none⟩), .int .i64 0]) ∧ RAt w' p (.slice none 0 0) (newS n) ∧ w.heap.size ≤ p ∧ Below w.heap.size w w' := by
 have hg := AGood.new hn
 obtain ⟨h1, h2⟩ := hn
 have h1' : decide (n < 1) = false := by simp; omega
 have h2' : decide (n > 7) = false := by simp; omega
 clear h1 h2
 go_enter Tryz.func100, Tryz.ntmps100
 go_wp2
 go_returns
 exact ⟨w.heap.size, rfl, ⟨Blk.new _ _ _, EntRow.nil _ _, hg⟩, Nat.le_refl _, box_below _ _⟩
theorem rbase_any (p : Nat) (v : Value) (s : ASt) (w : World) (h : RAt w p v s) :
  Calls Tryz.prog 108 #[.pointer (some ⟨p, 0, none⟩)] w fun e w' => e = .returned (.int .i64 s.base) ∧ w = w' := by
 have c0 := h.c0
 have c5 := h.c5
 clear h
 go_enter Tryz.func108, Tryz.ntmps108
 go_wp2_with (go_at_call 122; refine (ravalid p _ c0).mono ?_; rintro e w' ⟨rfl, rfl⟩)
 go_returns
 exact ⟨rfl, rfl⟩
theorem rpromised_any (p : Nat) (v : Value) (s : ASt) (w : World) (h : RAt w p v s) :
  Calls Tryz.prog 107 #[.pointer (some ⟨p, 0, none⟩)] w fun e w' => e = .returned (balV s.r s.d) ∧ Below w.heap.size w w' := by
 have hb := box_below w (.cells #[.int .i64 0, .int .i64 0] 24)
 have k0 := bcell hb h.c0
 have k2 := bcell hb h.c2
 have k3 := bcell hb h.c3
 clear h hb
 go_enter Tryz.func107, Tryz.ntmps107
 go_wp2_with (go_at_call 122; refine (ravalid p _ k0).mono ?_; rintro e w' ⟨rfl, rfl⟩)
 go_returns
 exact ⟨rfl, box_below _ _⟩
set_option maxRecDepth 100000 in
set_option maxHeartbeats 2000000 in
theorem rlist_any (p : Nat) (v : Value) (s : ASt) (k : Int) (w : World) (h : RAt w p v s) :
  Calls Tryz.prog 110 #[.pointer (some ⟨p, 0, none⟩), .int .i64 k] w fun e w' => ∃ v', e = .returned v' ∧ EntRow w' w.heap.size v' (listL k s.L) ∧ Below w.heap.size w w' := by
 have c0 := h.c0
 have c4 := h.c4
 have hl := h.good.len
 obtain ⟨A, cap, rfl, hcap, hc⟩ := h.row.view
 have HC := Lib.hid hc
 obtain ⟨i0, hi, hz0, hz1, hz2⟩ := info_parts info_ent
 have HI := Lib.hid hi
 have HZ0 := Lib.hid hz0
 have HZ1 := Lib.hid hz1
 have HZ2 := Lib.hid hz2
 clear hi hz0 hz1 hz2 h hc
 go_enter Tryz.func110, Tryz.ntmps110
 go_wp2_with fail
 go_loopw [5, 6] (fun v5 c wr => ∃ i : Nat, i ≤ s.L.length ∧ c = .int .i64 i ∧ EntRow wr w.heap.size v5 (listL k (s.L.take i)) ∧ Below w.heap.size w wr) (fun _ c _ => s.L.length - (intOf c).toNat)
 case atStart => exact ⟨0, by omega, rfl, EntRow.nil _ _, Below.refl _ _⟩
 case round =>
  obtain ⟨i, hi, rfl, hrow, hB⟩ := hrel
  have HROW := Lib.hid hrow
  have d0 := bcell hB c0
  have d4 := bcell hB c4
  clear hrow
  by_cases hlt : i < s.L.length
  ·obtain ⟨g, rfl, _, hg, hcells⟩ := HC.out (by omega)
   obtain ⟨⟨x, e1, e2, e3⟩, hs⟩ : ∃ q, s.L[i]? = some q := ⟨_, List.getElem?_eq_getElem hlt⟩
   obtain ⟨m1, m2, m3, m4⟩ := hcells i _ _ hs
   have z1 := bcell hB m1
   have z2 := bcell hB m2
   have z3 := bcell hB m3
   have z4 := bcell hB m4
   have HSn := Lib.hid (take_snoc hs)
   have hnl : (listL k (s.L.take i)).length ≤ i := Nat.le_trans (List.length_filter_le _ _) (List.length_take_le i s.L)
   clear m1 m2 m3 m4 hcells hs
   by_cases hx : x ≥ k
   ·have hx' : decide (x ≥ k) = true := by simpa using hx
    have HL : Hid (listL k (s.L.take (i + 1)) = listL k (s.L.take i) ++ [(x, e1, e2, e3)]) := by
     rw [Hid, HSn.out]; simp [listL]; omega
    go_wp2_with (first
     | (go_at_call 122; refine (ravalid p _ d0).mono ?_; rintro e w' ⟨rfl, rfl⟩)
     | (at_builtin; go_must (refine wpList_app rfl _ _ 67 rfl w.heap.size 128 i0 (entV 0 (0, 0, ⟨#[]⟩)) 4 40 Tryz.underlying67 HI.out HZ0.out HZ1.out HZ2.out rfl (by decide) _ _ _ rfl (World.ownsRow.alloc HROW.out _) (some ⟨wr.heap.size, 0, none⟩) 1 1 (entCells (x, e1, e2, e3)) rfl (by simp) (by omega) (reads_new _ _ (entCells (x, e1, e2, e3)) 1 4 rfl) (entCells_one _) (by unfold maxLen; omega) (by omega) (by have := hB.size; simp; omega) ?_)))
    intro v' w4 hown hgrow _
    have hne1 : ∀ k', some k' = _ → w.heap.size ≤ k' := fun k' hk' => (HROW.out.lt k' hk'.symm).1
    have hown' : EntRow w4 w.heap.size v' (listL k (s.L.take (i + 1))) := by
     rw [HL.out]
     unfold EntRow
     rw [cellsE_append, List.length_append]
     exact hown
    have hB4 := (hB.alloc hB.size _).grown hgrow (by have := hB.size; simp; omega) (fun k' ek => by have := hne1 k' ek.symm; omega)
    go_wp2_with fail
    go_roundw
    case rel => exact ⟨i + 1, by omega, by go_num, hown', hB4⟩
    case measure => simp [intOf]; omega
   ·have hx' : decide (x ≥ k) = false := by simpa using hx
    have HL : Hid (listL k (s.L.take (i + 1)) = listL k (s.L.take i)) := by
     rw [Hid, HSn.out]; simp [listL]; omega
    clear hx
    go_wp2_with (first
     | (go_at_call 122; refine (ravalid p _ d0).mono ?_; rintro e w' ⟨rfl, rfl⟩))
    go_roundw
    case rel => exact ⟨i + 1, by omega, by go_num, by rw [HL.out]; exact HROW.out, hB⟩
    case measure => simp [intOf]; omega
  ·have e : i = s.L.length := by omega
   have hr := HROW.out
   rw [e, List.take_length] at hr
   subst e
   go_wp2_with (first
    | (go_at_call 122; refine (ravalid p _ d0).mono ?_; rintro e w' ⟨rfl, rfl⟩))
   go_returns
   exact ⟨_, rfl, hr, hB⟩
end Go.Proofs.YtlfikhblmbidmaaGreatDoor
namespace Go.Proofs.YtlfikhblmbidmaaGreatDoor
open Go.RowKit Go.Maps Go.Shelf
set_option maxHeartbeats 1000000 in
theorem ragood_any (p : Nat) (v : Value) (s : ASt) (r1 d1 : Int) (w : World) (h : RAt w p v s) :
  Calls Tryz.prog 123 #[.pointer (some ⟨p, 0, none⟩), balV r1 d1] w fun e w' => e = .returned (.bool (goodB s.n r1 d1)) ∧ Below w.heap.size w w' := by
 have hE := fun (a b c d : Int) (w : World) => eqBal a b c d w
 have hG := eqGBal
 have hB0 := fun w => bldBal0 w
 have c0 := h.c1
 have hb := box_below w (.cells #[.int .i64 r1, .int .i64 d1] 24)
 have k0 := bcell hb c0
 have b1 := Blk.new w 24 #[.int .i64 r1, .int .i64 d1]
 have e0 := b1.cell (i := 0) (v := .int .i64 r1) rfl
 have e1 := b1.cell (i := 1) (v := .int .i64 d1) rfl
 have HB := Lib.hid hb
 unfold goodB
 by_cases hz : r1 = 0 ∧ d1 = 0
 ·obtain ⟨rfl, rfl⟩ := hz
  clear h hb b1 c0
  go_enter Tryz.func123, Tryz.ntmps123
  go_wp2_with fail
  generalize (w.alloc (.cells #[.int .i64 0, .int .i64 0] 24)) = W1 at *
  refine wp_region_held_drew (S := (fun W => W.cell? ⟨w.heap.size, 0, none⟩ = some (.int .i64 0) ∧ W.cell? ⟨w.heap.size, 1, none⟩ = some (.int .i64 0))) (by kernel_rfl) ?_ (fun hHeld => ?_)
  ·exact ⟨e0, e1⟩
  try dsimp only at hHeld
  refine hY 0 (some 5) hHeld ?_
  refine hY 1 (some 6) hHeld ?_
  refine hY 2 (some 7) hHeld ?_
  refine hY 3 (some 8) hHeld ?_
  refine hN 4 (some 9) (wanted_t rfl rfl rfl) hHeld ?_
  refine hN 5 (some 10) (wanted_t rfl rfl rfl) hHeld ?_
  refine hN 6 (some 11) (wanted_t rfl rfl rfl) hHeld ?_
  refine hN 7 (some 12) (wanted_t rfl rfl rfl) hHeld ?_
  refine hN 8 (some 13) (wanted_t rfl rfl rfl) hHeld ?_
  refine hN 9 (some 14) (wanted_t rfl rfl rfl) hHeld ?_
  refine hN 10 (some 15) (wanted_t rfl rfl rfl) hHeld ?_
  refine hY 11 (some 16) hHeld ?_
  refine hY 12 (some 4) hHeld ?_
  refine wpAnyH_done (by kernel_rfl) ?_ _
  go_wp2_with fail
  go_returns
  exact ⟨by simp, HB.out.drew⟩
 ·have h3' : (r1 == 0 && d1 == 0) = false := by
   by_cases e : r1 = 0
   ·by_cases e2 : d1 = 0
    ·exact absurd ⟨e, e2⟩ hz
    ·simp [e2]
   ·simp [e]
  clear h hb b1 c0 hz
  go_enter Tryz.func123, Tryz.ntmps123
  go_wp2_with fail
  generalize (w.alloc (.cells #[.int .i64 r1, .int .i64 d1] 24)) = W1 at *
  go_region_held3 (fun W => W.cell? ⟨w.heap.size, 0, none⟩ = some (.int .i64 r1) ∧ W.cell? ⟨w.heap.size, 1, none⟩ = some (.int .i64 d1) ∧ W.cell? ⟨p, 1, none⟩ = some (.int .i64 s.n))
   (first | exact ⟨by assumption, by assumption, by assumption⟩ | go_keep)
   (first
    | (go_at_call 185; refine (rcheck_any _ _ _ _).mono ?_; rintro e w2 ⟨rfl, b2⟩; have q0 := bcell b2 e0; have q1 := bcell b2 e1; have q2 := bcell b2 k0; have HB2 := Lib.hid b2; clear b2))
  go_wp2_with fail
  go_returns
  exact ⟨by rw [h3']; rfl, bchain HB.out ((Below.refl _ _).drew.trans (HB2.out.mono (by simp)))⟩
end Go.Proofs.YtlfikhblmbidmaaGreatDoor
namespace Go.Proofs.YtlfikhblmbidmaaGreatDoor
open Go.RowKit Go.Maps Go.Shelf
section
variable {s : ASt} {b1 b2 c1 c2 k : Int} {v : ByteArray}
abbrev withB (s : ASt) (b1 b2 : Int) : ASt := ⟨s.n, b1, b2, s.base, s.L⟩
theorem prS_ok (h : prE s b1 b2 k = 0) : prS s b1 b2 k = withB s b1 b2 := by unfold prS; rw [if_pos h]
theorem prS_no (h : prE s b1 b2 k ≠ 0) : prS s b1 b2 k = s := by unfold prS; rw [if_neg h]
theorem acS_ok (h : acE s b1 b2 k v = 0) : acS s b1 b2 k v = ⟨s.n, b1, b2, s.base, put k (b1, b2, v) s.L⟩ := by unfold acS; rw [if_pos h]
theorem acS_no (h : acE s b1 b2 k v ≠ 0) : acS s b1 b2 k v = s := by unfold acS; rw [if_neg h]
theorem foE_ok {k : Int} (h : 0 ≤ k ∧ k ≤ 4096) : foE k = 0 := by unfold foE; rw [if_neg (by omega)]
end
theorem RAt.setBal {w : World} {p : Nat} {v : Value} {s : ASt} (h : RAt w p v s) (r1 d1 : Int) (hg : AGood (withB s r1 d1)) :
  RAt ((w.setCell ⟨p, 2, none⟩ (.int .i64 r1)).setCell ⟨p, 3, none⟩ (.int .i64 d1)) p v (withB s r1 d1) ∧ Fr (S1 p) w ((w.setCell ⟨p, 2, none⟩ (.int .i64 r1)).setCell ⟨p, 3, none⟩ (.int .i64 d1)) := by
 have hf : Fr (S1 p) w ((w.setCell ⟨p, 2, none⟩ (.int .i64 r1)).setCell ⟨p, 3, none⟩ (.int .i64 d1)) := ((Fr.refl (S1 p) w).setCell (p := ⟨p, 2, none⟩) (.inl (show S1 p p from rfl)) _).setCell (p := ⟨p, 3, none⟩) (.inl (show S1 p p from rfl)) _
 refine ⟨⟨(h.blk.set 2 _).set 3 _, ?_, hg⟩, hf⟩
 exact row_fr h.row hf fun g hg' hs => row_ne_blk h.row h.blk (by decide) g hg' hs
set_option maxHeartbeats 1000000 in
theorem rpromise_bad (p : Nat) (v : Value) (s : ASt) (r1 d1 k : Int) (w : World) (h : RAt w p v s) (hE : prE s r1 d1 k ≠ 0) :
  Calls Tryz.prog 39 #[.pointer (some ⟨p, 0, none⟩), balV r1 d1, .int .i64 k] w fun e w' => e = .returned (.tuple #[.slice none 0 0, .int .i64 (prE s r1 d1 k)]) ∧ Below w.heap.size w w' := by
 have h1 := h.below (box_below w (.cells #[.int .i64 r1, .int .i64 d1] 24))
 have hb := box_below w (.cells #[.int .i64 r1, .int .i64 d1] 24)
 have b1 := Blk.new w 24 #[.int .i64 r1, .int .i64 d1]
 have c0 := h1.c0
 have c1 := h1.c2
 have c2 := h1.c3
 have e0 := b1.cell (i := 0) (v := .int .i64 r1) rfl
 have e1 := b1.cell (i := 1) (v := .int .i64 d1) rfl
 have HT := Lib.hid h1
 have HB := Lib.hid hb
 clear h h1 b1 hb
 cases hg : goodB s.n r1 d1 with
 | false =>
  have E : prE s r1 d1 k = 2 := by simp [prE, promE, hg]
  rw [E]; clear E hE
  go_enter Tryz.func39, Tryz.ntmps39
  go_wp2_with (first
   | (go_at_call 122; refine (ravalid p _ c0).mono ?_; rintro e w' ⟨rfl, rfl⟩)
   | (go_at_call 123; refine (ragood_any p v s r1 d1 _ HT.out).mono ?_; rintro e w2 ⟨rfl, b2⟩; have HB2 := Lib.hid b2; clear b2))
  go_returns
  exact ⟨rfl, bchain HB.out HB2.out⟩
 | true =>
  by_cases hk0 : k < 0
  ·have E : prE s r1 d1 k = 2 := by simp [prE, promE, hk0]
   rw [E]; clear E hE
   go_enter Tryz.func39, Tryz.ntmps39
   go_wp2_with (first
    | (go_at_call 122; refine (ravalid p _ c0).mono ?_; rintro e w' ⟨rfl, rfl⟩)
    | (go_at_call 123; refine (ragood_any p v s r1 d1 _ HT.out).mono ?_; rintro e w2 ⟨rfl, b2⟩; have HB2 := Lib.hid b2; clear b2))
   go_returns
   exact ⟨rfl, bchain HB.out HB2.out⟩
  have hk0' : decide (k < 0) = false := by simpa using hk0
  by_cases hk1 : k > 4096
  ·have E : prE s r1 d1 k = 2 := by simp only [prE, promE, if_pos (show goodB s.n r1 d1 = false ∨ k < 0 ∨ 4096 < k from .inr (.inr hk1))]
   rw [E]; clear E hE hk0
   go_enter Tryz.func39, Tryz.ntmps39
   go_wp2_with (first
    | (go_at_call 122; refine (ravalid p _ c0).mono ?_; rintro e w' ⟨rfl, rfl⟩)
    | (go_at_call 123; refine (ragood_any p v s r1 d1 _ HT.out).mono ?_; rintro e w2 ⟨rfl, b2⟩; have HB2 := Lib.hid b2; clear b2))
   go_returns
   exact ⟨rfl, bchain HB.out HB2.out⟩
  have hk1' : decide (k > 4096) = false := by simpa using hk1
  by_cases ho : ordB (r1, d1) (s.r, s.d) < 0
  ·have E : prE s r1 d1 k = 8 := by simp only [prE, promE, if_neg (show ¬ (goodB s.n r1 d1 = false ∨ k < 0 ∨ 4096 < k) by rw [hg]; simp; omega), if_pos ho]
   rw [E]; clear E hE hk0 hk1
   go_enter Tryz.func39, Tryz.ntmps39
   go_wp2_with (first
    | (go_at_call 122; refine (ravalid p _ c0).mono ?_; rintro e w' ⟨rfl, rfl⟩)
    | (go_at_call 123; refine (ragood_any p v s r1 d1 _ HT.out).mono ?_; rintro e w2 ⟨rfl, b2⟩; have q0 := bcell b2 c0; have q1 := bcell b2 c1; have q2 := bcell b2 c2; have q3 := bcell b2 e0; have q4 := bcell b2 e1; have HB2 := Lib.hid (bchain HB.out b2); clear b2))
   clear c0 c1 c2 e0 e1
   go_region_held3 (fun W => W.cell? ⟨w.heap.size, 0, none⟩ = some (.int .i64 r1) ∧ W.cell? ⟨w.heap.size, 1, none⟩ = some (.int .i64 d1) ∧ W.cell? ⟨p, 2, none⟩ = some (.int .i64 s.r) ∧ W.cell? ⟨p, 3, none⟩ = some (.int .i64 s.d))
    (first | exact ⟨by assumption, by assumption, by assumption, by assumption⟩ | go_keep)
    (first
     | (go_at_call 124; refine (rorder_any _ _ _ _ _).mono ?_; rintro e w3 ⟨rfl, b3⟩; have u1 := bcell b3 q1; have u2 := bcell b3 q2; have u3 := bcell b3 q3; have u4 := bcell b3 q4; have HB3 := Lib.hid b3; clear b3))
   go_wp2_with fail
   go_returns
   exact ⟨rfl, bchain HB2.out ((Below.refl _ _).drew.trans (HB3.out.mono (by simp)))⟩
  ·exact absurd (by simp only [prE, promE, if_neg (show ¬ (goodB s.n r1 d1 = false ∨ k < 0 ∨ 4096 < k) by rw [hg]; simp; omega), if_neg ho]) hE
set_option maxHeartbeats 1000000 in
theorem rpromise_yes (p : Nat) (v : Value) (s : ASt) (r1 d1 k : Int) (w : World) (h : RAt w p v s) (hE : prE s r1 d1 k = 0) :
  Calls Tryz.prog 39 #[.pointer (some ⟨p, 0, none⟩), balV r1 d1, .int .i64 k] w fun e w' => ∃ v', e = .returned (.tuple #[v', .int .i64 0]) ∧ EntRow w' w.heap.size v' (listL k s.L) ∧ RAt w' p v (withB s r1 d1) ∧ Fr (S1 p) w w' := by
 have h1 := h.below (box_below w (.cells #[.int .i64 r1, .int .i64 d1] 24))
 have hb := box_below w (.cells #[.int .i64 r1, .int .i64 d1] 24)
 have b1 := Blk.new w 24 #[.int .i64 r1, .int .i64 d1]
 have c0 := h1.c0
 have c1 := h1.c2
 have c2 := h1.c3
 have hlt := h.blk.lt
 have e0 := b1.cell (i := 0) (v := .int .i64 r1) rfl
 have e1 := b1.cell (i := 1) (v := .int .i64 d1) rfl
 have hg : goodB s.n r1 d1 = true := by
  cases hg : goodB s.n r1 d1
  ·simp [prE, promE, hg] at hE
  ·rfl
 have hk : 0 ≤ k ∧ k ≤ 4096 := by
  refine Classical.byContradiction fun hc => ?_
  rw [prE, promE, if_pos (by right; omega)] at hE
  simp at hE
 have hk0' : decide (k < 0) = false := by simp; omega
 have hk1' : decide (k > 4096) = false := by simp; omega
 have ho : decide (ordB (r1, d1) (s.r, s.d) < 0) = false := by
  simp only [decide_eq_false_iff_not]
  intro hc
  rw [prE, promE, if_neg (by rw [hg]; simp; omega), if_pos hc] at hE
  simp at hE
 have HE0 := Lib.hid hE
 have h9 := h.good
 have HT := Lib.hid h1
 have HB := Lib.hid hb
 clear h h1 b1 hb hE hk
 go_enter Tryz.func39, Tryz.ntmps39
 go_wp2_with (first
  | (go_at_call 122; refine (ravalid p _ c0).mono ?_; rintro e w' ⟨rfl, rfl⟩)
  | (go_at_call 123; refine (ragood_any p v s r1 d1 _ HT.out).mono ?_; rintro e w2 ⟨rfl, b2⟩; have q0 := bcell b2 c0; have q1 := bcell b2 c1; have q2 := bcell b2 c2; have q3 := bcell b2 e0; have q4 := bcell b2 e1; have HT2 := Lib.hid (HT.out.below b2); have HB2 := Lib.hid (bchain HB.out b2); clear b2))
 clear c0 c1 c2 e0 e1
 go_region_held3 (fun W => W.cell? ⟨w.heap.size, 0, none⟩ = some (.int .i64 r1) ∧ W.cell? ⟨w.heap.size, 1, none⟩ = some (.int .i64 d1) ∧ W.cell? ⟨p, 2, none⟩ = some (.int .i64 s.r) ∧ W.cell? ⟨p, 3, none⟩ = some (.int .i64 s.d))
  (first | exact ⟨by assumption, by assumption, by assumption, by assumption⟩ | go_keep)
  (first
   | (go_at_call 124; refine (rorder_any _ _ _ _ _).mono ?_; rintro e w3 ⟨rfl, b3⟩; have u0 := bcell b3 q0; have u1 := bcell b3 q1; have u2 := bcell b3 q2; have u3 := bcell b3 q3; have u4 := bcell b3 q4; have HB3 := Lib.hid b3; clear b3))
 have hb3 : Below w.heap.size w w3 := bchain HB2.out ((Below.refl _ _).drew.trans (HB3.out.mono (by simp)))
 have t3 := HT2.out.drew.below HB3.out
 have f1 := t3.blk.frozen 2
 have f2 := t3.blk.frozen 3
 have HB4 := Lib.hid hb3
 have HT3 := Lib.hid t3
 clear q0 q1 q2 q3 q4 hb3 t3
 go_wp2_with fail
 have hgd := h9.prom r1 d1 k
 rw [prS_ok HE0.out] at hgd
 have hs := HT3.out.setBal r1 d1 hgd
 have HA := Lib.hid hs.1
 have HF := Lib.hid hs.2
 clear hs f1 f2 u0 u1 u2 u3 u4 hlt hgd h9
 generalize ((w3.setCell ⟨p, 2, none⟩ (.int .i64 r1)).setCell ⟨p, 3, none⟩ (.int .i64 d1)) = W4 at *
 go_wp2_with (go_at_call 110; refine (rlist_any p v _ k _ HA.out).mono ?_; rintro e w4 ⟨v', rfl, hr4, b4⟩)
 go_returns
 exact ⟨v', rfl, hr4.lower (Nat.le_trans HB4.out.size HF.out.size), HA.out.below b4, ((Fr.of_below HB4.out).trans HF.out).trans (Fr.of_below b4)⟩
end Go.Proofs.YtlfikhblmbidmaaGreatDoor
namespace Go.Proofs.YtlfikhblmbidmaaGreatDoor
open Go.RowKit Go.Maps Go.Shelf
theorem forL_same {s : ASt} (h : AGood s) {k : Int} (hk : k ≤ s.base) : forL k s.L = s.L := by
 unfold forL
 rw [List.filter_eq_self]
 intro p hp
 have := (h.slots p hp).1
 simp
 omega
theorem listL_forL (k : Int) (L : EL) : listL k L = forL k L := by
 unfold listL forL
 refine List.filter_congr fun p _ => ?_
 by_cases hk : p.1 < k
 ·simp [hk]
 ·simp [hk]; omega
def RForgPost (p : Nat) (s : ASt) (k : Int) (w : World) (e : Ending) (w' : World) : Prop :=
 ∃ v', e = .returned (.int .i64 (foE k)) ∧ RAt w' p v' (foS s k) ∧ Fr (S1 p) w w'
set_option maxHeartbeats 1000000 in
theorem rforget_any (p : Nat) (v : Value) (s : ASt) (k : Int) (w : World) (h : RAt w p v s) :
  Calls Tryz.prog 45 #[.pointer (some ⟨p, 0, none⟩), .int .i64 k] w (RForgPost p s k w) := by
 have c0 := h.c0
 have c5 := h.c5
 have HT := Lib.hid h
 by_cases hk0 : k < 0
 ·have E : foE k = 2 := by simp [foE, hk0]
  have ES : foS s k = s := by unfold foS; rw [E]; rfl
  unfold RForgPost
  rw [E, ES]
  clear h E ES
  go_enter Tryz.func45, Tryz.ntmps45
  go_wp2_with (go_at_call 122; refine (ravalid p _ c0).mono ?_; rintro e w' ⟨rfl, rfl⟩)
  go_returns
  exact ⟨v, rfl, HT.out, Fr.refl _ _⟩
 have hk0' : decide (k < 0) = false := by simpa using hk0
 by_cases hk1 : k > 4096
 ·have E : foE k = 2 := by unfold foE; rw [if_pos (.inr hk1)]
  have ES : foS s k = s := by unfold foS; rw [E]; rfl
  unfold RForgPost
  rw [E, ES]
  clear h E ES hk0
  go_enter Tryz.func45, Tryz.ntmps45
  go_wp2_with (go_at_call 122; refine (ravalid p _ c0).mono ?_; rintro e w' ⟨rfl, rfl⟩)
  go_returns
  exact ⟨v, rfl, HT.out, Fr.refl _ _⟩
 have hk1' : decide (k > 4096) = false := by simpa using hk1
 have hk : 0 ≤ k ∧ k ≤ 4096 := by omega
 have E : foE k = 0 := foE_ok hk
 by_cases hb : k > s.base
 ·have hgd := h.good.forg k
  have ES : foS s k = ⟨s.n, s.r, s.d, k, forL k s.L⟩ := by unfold foS; rw [if_pos E, show max s.base k = k by omega]
  unfold RForgPost
  rw [E, ES]
  rw [ES] at hgd
  have HGD := Lib.hid hgd
  have hb' : decide (k > s.base) = true := by simpa using hb
  clear h E ES hk0 hk1 hgd hk hb
  go_enter Tryz.func45, Tryz.ntmps45
  go_wp2_with (first
   | (go_at_call 122; refine (ravalid p _ c0).mono ?_; rintro e w' ⟨rfl, rfl⟩)
   | (go_at_call 110; refine (rlist_any p v s k _ HT.out).mono ?_; rintro e w2 ⟨v2, rfl, r2, b2⟩; rw [listL_forL] at r2; obtain ⟨A2, k2, hv2, _, _⟩ := r2.view; have hb2 := (HT.out.below b2).blk; have z4 := hb2.cell (i := 4) rfl; have z5 := hb2.cell (i := 5) rfl; have f4 := hb2.frozen 4; have f5 := hb2.frozen 5; have HB2 := Lib.hid hb2; have R2 := Lib.hid r2; have B2 := Lib.hid b2; have HV := Lib.hid hv2; subst hv2; clear r2 b2 hb2))
  go_returns
  have hf : Fr (S1 p) w2 ((w2.setCell ⟨p, 4, none⟩ (.slice A2 (forL k s.L).length k2)).setCell ⟨p, 5, none⟩ (.int .i64 k)) := ((Fr.refl (S1 p) w2).setCell (p := ⟨p, 4, none⟩) (.inl (show S1 p p from rfl)) _).setCell (p := ⟨p, 5, none⟩) (.inl (show S1 p p from rfl)) _
  refine ⟨_, rfl, ⟨(HB2.out.set 4 _).set 5 _, ?_, HGD.out⟩, (Fr.of_below B2.out).trans hf⟩
  exact row_lower (row_fr R2.out hf fun g hg' hs => row_ne_blk R2.out HB2.out (by decide) g hg' hs) (Nat.zero_le _)
 ·have ES : foS s k = s := by
   unfold foS
   rw [if_pos E, show max s.base k = s.base by omega, forL_same h.good (by omega)]
  have hb' : decide (k > s.base) = false := by simpa using hb
  unfold RForgPost
  rw [E, ES]
  clear h E ES hk0 hk1 hb hk
  go_enter Tryz.func45, Tryz.ntmps45
  go_wp2_with (go_at_call 122; refine (ravalid p _ c0).mono ?_; rintro e w' ⟨rfl, rfl⟩)
  go_returns
  exact ⟨v, rfl, HT.out, Fr.refl _ _⟩
end Go.Proofs.YtlfikhblmbidmaaGreatDoor
namespace Go.Proofs.YtlfikhblmbidmaaGreatDoor
open Go.RowKit Go.Maps Go.Shelf
set_option maxHeartbeats 2000000 in
theorem raccept_bad (p : Nat) (v : Value) (s : ASt) (r1 d1 k : Int) (x : ByteArray) (w : World) (h : RAt w p v s) (hE : acE s r1 d1 k x ≠ 0) :
  Calls Tryz.prog 41 #[.pointer (some ⟨p, 0, none⟩), balV r1 d1, .int .i64 k, .string x] w fun e w' => e = .returned (.int .i64 (acE s r1 d1 k x)) ∧ Below w.heap.size w w' := by
 have h1 := h.below (box_below w (.cells #[.int .i64 r1, .int .i64 d1] 24))
 have hb := box_below w (.cells #[.int .i64 r1, .int .i64 d1] 24)
 have b1 := Blk.new w 24 #[.int .i64 r1, .int .i64 d1]
 have c0 := h1.c0
 have c1 := h1.c2
 have c2 := h1.c3
 have c3 := h1.c4
 have c4 := h1.c5
 have hlt := h.blk.lt
 have e0 := b1.cell (i := 0) (v := .int .i64 r1) rfl
 have e1 := b1.cell (i := 1) (v := .int .i64 d1) rfl
 have HT := Lib.hid h1
 have HB := Lib.hid hb
 clear h h1 b1 hb
 cases hg : goodB s.n r1 d1 with
 | false =>
  have E : acE s r1 d1 k x = 2 := by simp [acE, accE, hg]
  rw [E]; clear E hE
  go_enter Tryz.func41, Tryz.ntmps41
  go_wp2_with (first
   | (go_at_call 122; refine (ravalid p _ c0).mono ?_; rintro e w' ⟨rfl, rfl⟩)
   | (go_at_call 123; refine (ragood_any p v s r1 d1 _ HT.out).mono ?_; rintro e w2 ⟨rfl, b2⟩; have HB2 := Lib.hid (bchain HB.out b2); clear b2))
  go_returns
  exact ⟨rfl, HB2.out⟩
 | true =>
  by_cases hk0 : k < 0
  ·have E : acE s r1 d1 k x = 2 := by simp [acE, accE, hk0]
   rw [E]; clear E hE
   go_enter Tryz.func41, Tryz.ntmps41
   go_wp2_with (first
    | (go_at_call 122; refine (ravalid p _ c0).mono ?_; rintro e w' ⟨rfl, rfl⟩)
    | (go_at_call 123; refine (ragood_any p v s r1 d1 _ HT.out).mono ?_; rintro e w2 ⟨rfl, b2⟩; have HB2 := Lib.hid (bchain HB.out b2); clear b2))
   go_returns
   exact ⟨rfl, HB2.out⟩
  have hk0' : decide (k < 0) = false := by simpa using hk0
  by_cases hk1 : k ≥ 4096
  ·have E : acE s r1 d1 k x = 2 := by simp only [acE, accE, if_pos (show goodB s.n r1 d1 = false ∨ k < 0 ∨ 4096 ≤ k from .inr (.inr hk1))]
   rw [E]; clear E hE hk0
   go_enter Tryz.func41, Tryz.ntmps41
   go_wp2_with (first
    | (go_at_call 122; refine (ravalid p _ c0).mono ?_; rintro e w' ⟨rfl, rfl⟩)
    | (go_at_call 123; refine (ragood_any p v s r1 d1 _ HT.out).mono ?_; rintro e w2 ⟨rfl, b2⟩; have HB2 := Lib.hid (bchain HB.out b2); clear b2))
   go_returns
   exact ⟨rfl, HB2.out⟩
  have hk1' : decide (k ≥ 4096) = false := by simpa using hk1
  have hG : ¬ (goodB s.n r1 d1 = false ∨ k < 0 ∨ 4096 ≤ k) := by rw [hg]; simp; omega
  by_cases hs : x.size > 65536
  ·have hs' : decide ((x.size : Int) > 65536) = true := by simp; omega
   have E : acE s r1 d1 k x = 11 := by simp only [acE, accE, if_neg hG, if_pos hs]
   rw [E]; clear E hE hk0 hk1 hG hs
   go_enter Tryz.func41, Tryz.ntmps41
   go_wp2_with (first
    | (go_at_call 122; refine (ravalid p _ c0).mono ?_; rintro e w' ⟨rfl, rfl⟩)
    | (go_at_call 123; refine (ragood_any p v s r1 d1 _ HT.out).mono ?_; rintro e w2 ⟨rfl, b2⟩; have HB2 := Lib.hid (bchain HB.out b2); clear b2))
   go_returns
   exact ⟨rfl, HB2.out⟩
  have hs' : decide ((x.size : Int) > 65536) = false := by simp; omega
  have hs2 : ¬ 65536 < x.size := hs
  by_cases ho : ordB (r1, d1) (s.r, s.d) < 0
  ·have E : acE s r1 d1 k x = 8 := by simp only [acE, accE, if_neg hG, if_neg hs2, if_pos ho]
   rw [E]; clear E hE hk0 hk1 hG hs hs2
   go_enter Tryz.func41, Tryz.ntmps41
   go_wp2_with (first
    | (go_at_call 122; refine (ravalid p _ c0).mono ?_; rintro e w' ⟨rfl, rfl⟩)
    | (go_at_call 123; refine (ragood_any p v s r1 d1 _ HT.out).mono ?_; rintro e w2 ⟨rfl, b2⟩; have q0 := bcell b2 c0; have q1 := bcell b2 c1; have q2 := bcell b2 c2; have q3 := bcell b2 e0; have q4 := bcell b2 e1; have q5 := bcell b2 c4; have HT2 := Lib.hid (HT.out.below b2); have HB2 := Lib.hid (bchain HB.out b2); clear b2))
   clear c0 c1 c2 c3 c4 e0 e1
   go_region_held3 (fun W => W.cell? ⟨w.heap.size, 0, none⟩ = some (.int .i64 r1) ∧ W.cell? ⟨w.heap.size, 1, none⟩ = some (.int .i64 d1) ∧ W.cell? ⟨p, 2, none⟩ = some (.int .i64 s.r) ∧ W.cell? ⟨p, 3, none⟩ = some (.int .i64 s.d))
    (first | exact ⟨by assumption, by assumption, by assumption, by assumption⟩ | go_keep)
    (first
     | (go_at_call 124; refine (rorder_any _ _ _ _ _).mono ?_; rintro e w3 ⟨rfl, b3⟩; have u0 := bcell b3 q0; have u1 := bcell b3 q1; have u2 := bcell b3 q2; have u3 := bcell b3 q3; have u4 := bcell b3 q4; have u5 := bcell b3 q5; have HB3 := Lib.hid b3; clear b3))
   go_wp2_with fail
   go_returns
   exact ⟨rfl, bchain HB2.out ((Below.refl _ _).drew.trans (HB3.out.mono (by simp)))⟩
  by_cases hbs : k < s.base
  ·have E : acE s r1 d1 k x = 3 := by simp only [acE, accE, if_neg hG, if_neg hs2, if_neg ho, if_pos hbs]
   have ho' : decide (ordB (r1, d1) (s.r, s.d) < 0) = false := by simpa using ho
   rw [E]; clear E hE hk0 hk1 hG hs hs2 ho
   go_enter Tryz.func41, Tryz.ntmps41
   go_wp2_with (first
    | (go_at_call 122; refine (ravalid p _ c0).mono ?_; rintro e w' ⟨rfl, rfl⟩)
    | (go_at_call 123; refine (ragood_any p v s r1 d1 _ HT.out).mono ?_; rintro e w2 ⟨rfl, b2⟩; have q0 := bcell b2 c0; have q1 := bcell b2 c1; have q2 := bcell b2 c2; have q3 := bcell b2 e0; have q4 := bcell b2 e1; have q5 := bcell b2 c4; have HT2 := Lib.hid (HT.out.below b2); have HB2 := Lib.hid (bchain HB.out b2); clear b2))
   clear c0 c1 c2 c3 c4 e0 e1
   go_region_held3 (fun W => W.cell? ⟨w.heap.size, 0, none⟩ = some (.int .i64 r1) ∧ W.cell? ⟨w.heap.size, 1, none⟩ = some (.int .i64 d1) ∧ W.cell? ⟨p, 2, none⟩ = some (.int .i64 s.r) ∧ W.cell? ⟨p, 3, none⟩ = some (.int .i64 s.d))
    (first | exact ⟨by assumption, by assumption, by assumption, by assumption⟩ | go_keep)
    (first
     | (go_at_call 124; refine (rorder_any _ _ _ _ _).mono ?_; rintro e w3 ⟨rfl, b3⟩; have u0 := bcell b3 q0; have u1 := bcell b3 q1; have u2 := bcell b3 q2; have u3 := bcell b3 q3; have u4 := bcell b3 q4; have u5 := bcell b3 q5; have HB3 := Lib.hid b3; clear b3))
   go_wp2_with fail
   go_returns
   exact ⟨rfl, bchain HB2.out ((Below.refl _ _).drew.trans (HB3.out.mono (by simp)))⟩
  ·exact absurd (by simp only [acE, accE, if_neg hG, if_neg hs2, if_neg ho, if_neg hbs]) hE
def lowL (k : Int) (L : EL) : EL := L.filter fun p => decide (p.1 < k)
theorem put_parts {k : Int} {e : Ent} {L : EL} (h : Srt L) : lowL k L ++ [(k, e)] ++ listL (k + 1) L = put k e L := by
 have hlow : ∀ p, p ∈ lowL k L ↔ p ∈ L ∧ p.1 < k := fun p => by simp [lowL]
 have hhi : ∀ p, p ∈ listL (k + 1) L ↔ p ∈ L ∧ k + 1 ≤ p.1 := fun p => by simp [listL]
 refine srt_ext ?_ (srt_put h) fun p => ?_
 ·unfold Srt
  rw [List.pairwise_append, List.pairwise_append]
  refine ⟨⟨h.filter _, by simp, fun a ha b hb => ?_⟩, h.filter _, fun a ha b hb => ?_⟩
  ·simp at hb; subst hb; exact ((hlow a).1 ha).2
  ·have hb2 := ((hhi b).1 hb).2
   rcases List.mem_append.1 ha with ha | ha
   ·have := ((hlow a).1 ha).2; omega
   ·simp at ha; subst ha; simp only; omega
 ·rw [mem_put, List.mem_append, List.mem_append, hlow, hhi]
  simp only [List.mem_singleton]
  constructor
  ·rintro ((⟨h1, h2⟩ | h1) | ⟨h1, h2⟩)
   ·exact .inr ⟨h1, by omega⟩
   ·exact .inl h1
   ·exact .inr ⟨h1, by omega⟩
  ·rintro (h1 | ⟨h1, h2⟩)
   ·exact .inl (.inr h1)
   ·by_cases hp : p.1 < k
    ·exact .inl (.inl ⟨h1, hp⟩)
    ·exact .inr ⟨h1, by omega⟩
end Go.Proofs.YtlfikhblmbidmaaGreatDoor
namespace Go.Proofs.YtlfikhblmbidmaaGreatDoor
open Go.RowKit Go.Maps Go.Shelf
theorem cellsE_one (L : EL) : ∀ u ∈ cellsE L, u.oneCell' := by
 intro u hu
 obtain ⟨p, _, hu⟩ := List.mem_flatMap.1 hu
 exact entCells_one p u hu
def RAccPost (p : Nat) (s : ASt) (r1 d1 k : Int) (x : ByteArray) (w : World) (e : Ending) (w' : World) : Prop :=
 ∃ v', e = .returned (.int .i64 0) ∧ RAt w' p v' (acS s r1 d1 k x) ∧ Fr (S1 p) w w'
set_option maxRecDepth 100000 in
set_option maxHeartbeats 2000000 in
theorem raccept_yes (p : Nat) (v : Value) (s : ASt) (r1 d1 k : Int) (x : ByteArray) (w : World) (h : RAt w p v s) (hE : acE s r1 d1 k x = 0) :
  Calls Tryz.prog 41 #[.pointer (some ⟨p, 0, none⟩), balV r1 d1, .int .i64 k, .string x] w (RAccPost p s r1 d1 k x w) := by
 have h1 := h.below (box_below w (.cells #[.int .i64 r1, .int .i64 d1] 24))
 have hb := box_below w (.cells #[.int .i64 r1, .int .i64 d1] 24)
 have b1 := Blk.new w 24 #[.int .i64 r1, .int .i64 d1]
 have c0 := h1.c0
 have c1 := h1.c2
 have c2 := h1.c3
 have c3 := h1.c4
 have c4 := h1.c5
 have hlt := h.blk.lt
 have e0 := b1.cell (i := 0) (v := .int .i64 r1) rfl
 have e1 := b1.cell (i := 1) (v := .int .i64 d1) rfl
 have hE0 := hE
 have hg : goodB s.n r1 d1 = true := by
  cases hg : goodB s.n r1 d1
  ·simp [acE, accE, hg] at hE
  ·rfl
 have hk : 0 ≤ k ∧ k < 4096 := by
  refine Classical.byContradiction fun hc => ?_
  rw [acE, accE, if_pos (by right; omega)] at hE
  simp at hE
 have hG : ¬ (goodB s.n r1 d1 = false ∨ k < 0 ∨ 4096 ≤ k) := by rw [hg]; simp; omega
 have hk0' : decide (k < 0) = false := by simp; omega
 have hk1' : decide (k ≥ 4096) = false := by simp; omega
 rw [acE, accE, if_neg hG] at hE
 have hs : ¬ 65536 < x.size := fun hc => by rw [if_pos hc] at hE; simp at hE
 have hs' : decide ((x.size : Int) > 65536) = false := by simp; omega
 rw [if_neg hs] at hE
 have ho : ¬ ordB (r1, d1) (s.r, s.d) < 0 := fun hc => by rw [if_pos hc] at hE; simp at hE
 have ho' : decide (ordB (r1, d1) (s.r, s.d) < 0) = false := by simpa using ho
 rw [if_neg ho] at hE
 have hbs : ¬ k < s.base := fun hc => by rw [if_pos hc] at hE; simp at hE
 have hbs' : decide (k < s.base) = false := by simpa using hbs
 have hgd := h.good.acc r1 d1 k x
 rw [acS_ok hE0] at hgd
 have hg2 := h.good.prom r1 d1 0
 have HS := Lib.hid h.good.srt
 have HGD := Lib.hid hgd
 have hlen0 := h.good.len
 have HT := Lib.hid h1
 have HB := Lib.hid hb
 have HE0 := Lib.hid hE0
 clear h h1 b1 hb hE hE0 hG hs ho hbs hgd hg2
 go_enter Tryz.func41, Tryz.ntmps41
 go_wp2_with (first
  | (go_at_call 122; refine (ravalid p _ c0).mono ?_; rintro e w' ⟨rfl, rfl⟩)
  | (go_at_call 123; refine (ragood_any p v s r1 d1 _ HT.out).mono ?_; rintro e w2 ⟨rfl, b2⟩; have q0 := bcell b2 c0; have q1 := bcell b2 c1; have q2 := bcell b2 c2; have q3 := bcell b2 e0; have q4 := bcell b2 e1; have q5 := bcell b2 c4; have HT2 := Lib.hid (HT.out.below b2); have HB2 := Lib.hid (bchain HB.out b2); clear b2))
 clear c0 c1 c2 c3 c4 e0 e1
 go_region_held3 (fun W => W.cell? ⟨w.heap.size, 0, none⟩ = some (.int .i64 r1) ∧ W.cell? ⟨w.heap.size, 1, none⟩ = some (.int .i64 d1) ∧ W.cell? ⟨p, 2, none⟩ = some (.int .i64 s.r) ∧ W.cell? ⟨p, 3, none⟩ = some (.int .i64 s.d))
  (first | exact ⟨by assumption, by assumption, by assumption, by assumption⟩ | go_keep)
  (first
   | (go_at_call 124; refine (rorder_any _ _ _ _ _).mono ?_; rintro e w3 ⟨rfl, b3⟩; have u0 := bcell b3 q0; have u1 := bcell b3 q1; have u2 := bcell b3 q2; have u3 := bcell b3 q3; have u4 := bcell b3 q4; have u5 := bcell b3 q5; have HB3 := Lib.hid b3; clear b3))
 have hb3 : Below w.heap.size w w3 := bchain HB2.out ((Below.refl _ _).drew.trans (HB3.out.mono (by simp)))
 have hgb : AGood (withB s r1 d1) := by
  obtain ⟨q1, q2, q3, q4, q5, q6⟩ := accE_zero.1 HE0.out
  have hp : prE s r1 d1 0 = 0 := promE_zero.2 ⟨q1, by omega, by omega, q5⟩
  have := HT.out.good.prom r1 d1 0
  rwa [prS_ok hp] at this
 have t3 := HT2.out.drew.below HB3.out
 have f1 := t3.blk.frozen 2
 have f2 := t3.blk.frozen 3
 have hs := t3.setBal r1 d1 hgb
 have e0 : ((w3.setCell ⟨p, 2, none⟩ (.int .i64 r1)).setCell ⟨p, 3, none⟩ (.int .i64 d1)).cell? ⟨w.heap.size, 0, none⟩ = some (.int .i64 r1) := hs.2.cell (fun e => by have e : w.heap.size = p := e; omega) u3
 have e1 : ((w3.setCell ⟨p, 2, none⟩ (.int .i64 r1)).setCell ⟨p, 3, none⟩ (.int .i64 d1)).cell? ⟨w.heap.size, 1, none⟩ = some (.int .i64 d1) := hs.2.cell (fun e => by have e : w.heap.size = p := e; omega) u4
 have HB4 := Lib.hid hb3
 have HA := Lib.hid hs.1
 have HF := Lib.hid hs.2
 clear q0 q1 q2 q3 q4 q5 hb3 t3 hs
 go_wp2_with fail
 clear u0 u1 u2 u3 u4 u5 f1 f2
 generalize ((w3.setCell ⟨p, 2, none⟩ (.int .i64 r1)).setCell ⟨p, 3, none⟩ (.int .i64 d1)) = W4 at *
 obtain ⟨A, cap, rfl, hcap, hc⟩ := HA.out.row.view
 have d4 := HA.out.c4
 simp only at hcap hc
 have HC := Lib.hid hc
 obtain ⟨i0, hi, hz0, hz1, hz2⟩ := info_parts info_ent
 have HI := Lib.hid hi
 have HZ0 := Lib.hid hz0
 have HZ1 := Lib.hid hz1
 have HZ2 := Lib.hid hz2
 clear hi hz0 hz1 hz2 hc
 go_loopw [9, 10] (fun v5 c wr => ∃ i : Nat, i ≤ s.L.length ∧ c = .int .i64 i ∧ EntRow wr W4.heap.size v5 (lowL k (s.L.take i)) ∧ Below W4.heap.size W4 wr) (fun _ c _ => s.L.length - (intOf c).toNat)
 case atStart => exact ⟨0, by omega, rfl, EntRow.nil _ _, Below.refl _ _⟩
 case round =>
  obtain ⟨i, hi, rfl, hrow, hB⟩ := hrel
  have HROW := Lib.hid hrow
  have z4 := bcell hB d4
  clear hrow
  by_cases hlt : i < s.L.length
  ·obtain ⟨g, rfl, _, hg9, hcells⟩ := HC.out (by omega)
   obtain ⟨⟨y, a1, a2, a3⟩, hs⟩ : ∃ q, s.L[i]? = some q := ⟨_, List.getElem?_eq_getElem hlt⟩
   obtain ⟨m1, m2, m3, m4⟩ := hcells i _ _ hs
   have z5 := bcell hB m1
   have z6 := bcell hB m2
   have z7 := bcell hB m3
   have z8 := bcell hB m4
   have HSn := Lib.hid (take_snoc hs)
   have hnl : (lowL k (s.L.take i)).length ≤ i := Nat.le_trans (List.length_filter_le _ _) (List.length_take_le i s.L)
   clear m1 m2 m3 m4 hcells hs
   by_cases hx : y < k
   ·have hx' : decide (y < k) = true := by simpa using hx
    have HL : Hid (lowL k (s.L.take (i + 1)) = lowL k (s.L.take i) ++ [(y, a1, a2, a3)]) := by
     rw [Hid, HSn.out]; simp [lowL, hx]
    go_wp2_with (first
     | (at_builtin; go_must (refine wpList_app rfl _ _ 67 rfl W4.heap.size 128 i0 (entV 0 (0, 0, ⟨#[]⟩)) 4 40 Tryz.underlying67 HI.out HZ0.out HZ1.out HZ2.out rfl (by decide) _ _ _ rfl (World.ownsRow.alloc HROW.out _) (some ⟨wr.heap.size, 0, none⟩) 1 1 (entCells (y, a1, a2, a3)) rfl (by simp) (by omega) (reads_new _ _ (entCells (y, a1, a2, a3)) 1 4 rfl) (entCells_one _) (by unfold maxLen; omega) (by omega) (by have := hB.size; simp; omega) ?_)))
    intro v' w4 hown hgrow _
    have hne1 : ∀ k', some k' = _ → W4.heap.size ≤ k' := fun k' hk' => (HROW.out.lt k' hk'.symm).1
    have hown' : EntRow w4 W4.heap.size v' (lowL k (s.L.take (i + 1))) := by
     rw [HL.out]
     unfold EntRow
     rw [cellsE_append, List.length_append]
     exact hown
    have hB4 := (hB.alloc hB.size _).grown hgrow (by have := hB.size; simp; omega) (fun k' ek => by have := hne1 k' ek.symm; omega)
    go_wp2_with fail
    go_roundw
    case rel => exact ⟨i + 1, by omega, by go_num, hown', hB4⟩
    case measure => simp [intOf]; omega
   ·have hx' : decide (y < k) = false := by simpa using hx
    have HL : Hid (lowL k (s.L.take (i + 1)) = lowL k (s.L.take i)) := by
     rw [Hid, HSn.out]; simp [lowL, hx]
    clear hx
    go_wp2_with fail
    go_roundw
    case rel => exact ⟨i + 1, by omega, by go_num, by rw [HL.out]; exact HROW.out, hB⟩
    case measure => simp [intOf]; omega
  ·have e : i = s.L.length := by omega
   have hr := HROW.out
   rw [e, List.take_length] at hr
   have HR := Lib.hid hr
   have y0 := bcell hB e0
   have y1 := bcell hB e1
   have TR := Lib.hid (HA.out.below hB)
   subst e
   have hnl : (lowL k s.L).length ≤ 4096 := Nat.le_trans (List.length_filter_le _ _) hlen0
   have hB0 := hB.size
   clear hr
   go_wp2_with (first
     | (at_builtin; go_must (refine wpList_app rfl _ _ 67 rfl W4.heap.size 128 i0 (entV 0 (0, 0, ⟨#[]⟩)) 4 40 Tryz.underlying67 HI.out HZ0.out HZ1.out HZ2.out rfl (by decide) _ _ _ rfl (World.ownsRow.alloc HR.out _) (some ⟨wr.heap.size, 0, none⟩) 1 1 (entCells (k, r1, d1, x)) rfl (by simp) (by omega) (reads_new _ _ (entCells (k, r1, d1, x)) 1 4 rfl) (entCells_one _) (by unfold maxLen; omega) (by omega) (by simp; omega) ?_)))
   intro v6 w6 hown6 hgrow6 _
   have hne6 : ∀ k', some k' = _ → W4.heap.size ≤ k' := fun k' hk' => (HR.out.lt k' hk'.symm).1
   have ho6 : EntRow w6 W4.heap.size v6 (lowL k s.L ++ [(k, r1, d1, x)]) := by
    unfold EntRow
    rw [cellsE_append, List.length_append]
    exact hown6
   have hB6 := (hB.alloc hB.size _).grown hgrow6 (by simp; omega) (fun k' ek => by have := hne6 k' ek.symm; omega)
   have hB60 := hB6.size
   have O6 := Lib.hid ho6
   have T6 := Lib.hid (HA.out.below hB6)
   clear hown6 hgrow6 hne6 ho6 y0 y1 TR HR
   obtain ⟨w9, rfl⟩ : ∃ w9 : World, w9 = w6 := ⟨_, rfl⟩
   go_wp2_with (first
     | (go_at_call 110; refine (rlist_any p _ (withB s r1 d1) (k + 1) _ T6.out).mono ?_; rintro e w7 ⟨v7, rfl, r7, b7⟩; have hl7 : (listL (k + 1) s.L).length ≤ 4096 := Nat.le_trans (List.length_filter_le _ _) hlen0; have O7 := Lib.hid (O6.out.below b7); obtain ⟨A7, k7, hv7, hle7, hA7, hmx7, hr7, _⟩ := row_view r7; subst hv7; have HA7 := Lib.hid hA7; have HR7 := Lib.hid hr7; have B7 := Lib.hid b7; have T7 := Lib.hid (T6.out.below b7); clear r7 hA7 hr7)
     | (at_builtin; go_must (refine wpList_app rfl _ _ 67 rfl W4.heap.size 128 i0 (entV 0 (0, 0, ⟨#[]⟩)) 4 40 Tryz.underlying67 HI.out HZ0.out HZ1.out HZ2.out rfl (by decide) _ _ _ rfl O7.out A7 (listL (k + 1) s.L).length k7 (cellsE (listL (k + 1) s.L)) rfl HA7.out hle7 HR7.out (cellsE_one _) (by simp only [List.length_append, List.length_singleton]; unfold maxLen; omega) (by simp only [List.length_append, List.length_singleton]; omega) (by have := B7.out.size; omega) ?_)))
   intro v8 w8 hown8 hgrow8 _
   have hne8 : ∀ k', some k' = _ → W4.heap.size ≤ k' := fun k' hk' => (O7.out.lt k' hk'.symm).1
   have b7 := B7.out
   have hB8 := (bchain hB6 b7).grown hgrow8 (by have := b7.size; omega) (fun k' ek => by have := hne8 k' ek.symm; omega)
   have ho8 : EntRow w8 W4.heap.size v8 (put k (r1, d1, x) s.L) := by
    rw [← put_parts HS.out]
    unfold EntRow
    rw [cellsE_append, List.length_append, List.length_append, List.length_singleton]
    exact hown8
   have T8 := Lib.hid (HA.out.below hB8)
   obtain ⟨A8, k8, hv8, _⟩ := row_view ho8
   subst hv8
   have O8 := Lib.hid ho8
   have f4 := T8.out.blk.frozen 4
   have y4 := T8.out.c4
   clear hown8 hgrow8 hne8 ho8 b7
   go_wp2_with fail
   go_returns
   have hf : Fr (S1 p) w8 (w8.setCell ⟨p, 4, none⟩ (.slice A8 (put k (r1, d1, x) s.L).length k8)) := (Fr.refl (S1 p) w8).setCell (p := ⟨p, 4, none⟩) (.inl (show S1 p p from rfl)) _
   unfold RAccPost
   rw [acS_ok HE0.out]
   refine ⟨_, rfl, ⟨T8.out.blk.set 4 _, ?_, HGD.out⟩, (((Fr.of_below HB4.out).trans HF.out).trans (Fr.of_below hB8)).trans hf⟩
   exact row_lower (row_fr O8.out hf fun g hg' hs => row_ne_blk O8.out T8.out.blk (by decide) g hg' hs) (Nat.zero_le _)
end Go.Proofs.YtlfikhblmbidmaaGreatDoor