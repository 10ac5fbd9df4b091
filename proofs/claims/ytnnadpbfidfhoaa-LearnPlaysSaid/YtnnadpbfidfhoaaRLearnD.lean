/- The reference's learner: Add. -/
import Derived.Test.YtnnadpbfidfhoaaRLearnC
import Derived.Deep.DeepCutAuto
import Derived.Deep.CutBlock
set_option linter.unusedVariables false
set_option linter.unusedSimpArgs false
namespace Go.Proofs.Ytnnadpbfidfhoaa
open Go.RowKit Go.Maps Go.Shelf

theorem RLAt.fr {S : Nat → Prop} {w w' : World} {p : Nat} {v : Value} {s : LSt} {R : KL} (h : RLAt w p v s R) (k : Fr S w w') (hp : ¬ S p) (hr : ∀ g, v.ownBlock = some g → ¬ S g) : RLAt w' p v s R :=
  ⟨h.blk.fr k hp, row_fr h.row k hr, h.perm, h.good⟩
theorem RLAt.rowlt {w : World} {p : Nat} {v : Value} {s : LSt} {R : KL} (h : RLAt w p v s R) : ∀ g, v.ownBlock = some g → g < w.heap.size := fun g hg => (World.ownsRow.lt h.row g hg).2
theorem bdrew {w w' : World} (b : Below w.drew.heap.size w.drew w') : Below w.heap.size w w' := (Below.refl _ _).drew.trans (b.mono (by simp))
theorem frK7 (w : World) (kb : Nat) (a b c d : Value) : Fr (S1 kb) w ((((w.setCell ⟨kb, 3, none⟩ a).setCell ⟨kb, 4, none⟩ b).setCell ⟨kb, 5, none⟩ c).setCell ⟨kb, 6, none⟩ d) :=
  ((((Fr.refl (S1 kb) w).setCell (p := ⟨kb, 3, none⟩) (.inl (show S1 kb kb from rfl)) _).setCell (p := ⟨kb, 4, none⟩) (.inl (show S1 kb kb from rfl)) _).setCell (p := ⟨kb, 5, none⟩) (.inl (show S1 kb kb from rfl)) _).setCell (p := ⟨kb, 6, none⟩) (.inl (show S1 kb kb from rfl)) _
/-- The post of Add. -/
def RAddPost (p : Nat) (s s' : LSt) (b : Bool) (x : Int) (w : World) (e : Ending) (w' : World) : Prop :=
  e = .returned (.tuple #[.bool b, .int .i64 x]) ∧ ∃ v' R', RLAt w' p v' s' R' ∧ Fr (S1 p) w w'

set_option maxRecDepth 100000 in
set_option maxHeartbeats 2000000 in
theorem rladd_novote (p : Nat) (v0 : Value) (s : LSt) (R : KL) (node r d k : Int) (v : ByteArray) (w : World) (h : RLAt w p v0 s R) (hV : isV s.n node r d = false) :
    Calls Try.prog 22 #[.pointer (some ⟨p, 0, none⟩), .int .i64 node, balV r d, .int .i64 k, .string v] w (RAddPost p s s false 2 w) := by
  have hb := box_below w (.cells #[.int .i64 r, .int .i64 d] 31)
  have HT := Lib.hid (h.below hb)
  have HB := Lib.hid hb
  have b1 := Blk.new w 31 #[.int .i64 r, .int .i64 d]
  have e0 := b1.cell (i := 0) (v := .int .i64 r) rfl
  have e1 := b1.cell (i := 1) (v := .int .i64 d) rfl
  have c0 := HT.out.c0
  rw [isV_val _ _ _ h.good.n] at hV
  clear h hb b1
  by_cases h0 : node < 0
  · have n0 : decide (node < 0) = true := by simpa using h0
    clear hV h0
    go_enter Try.func22, Try.ntmps22
    go_wp2_with fail
    refine wp_region_held_drew (S := (fun W => W.cell? ⟨w.heap.size, 0, none⟩ = some (.int .i64 r) ∧ W.cell? ⟨w.heap.size, 1, none⟩ = some (.int .i64 d) ∧ W.cell? ⟨p, 0, none⟩ = some (.int .i64 (s.n : Int)))) (by kernel_rfl) ?_ (fun hHeld => ?_)
    · exact ⟨by assumption, by assumption, by assumption⟩
    try dsimp only at hHeld
    refine held_yes (i := 0) (some 15) (v := ?_) rfl rfl (by kernel_rfl) (by kernel_rfl) (by kernel_rfl) (fun _ _ _ h => h) (by rfl) ?_ hHeld ?_
    rotate_left
    · (intro w hSw; (try dsimp only at hSw); go_simp; all_goals with_reducible rfl)
    try simp only [Act.put, List.setIfInBounds_toArray, List.set_cons_zero, List.set_cons_succ]
    refine held_yes (i := 1) (some 16) (v := ?_) rfl rfl (by kernel_rfl) (by kernel_rfl) (by kernel_rfl) (fun _ _ _ h => h) (by rfl) ?_ hHeld ?_
    rotate_left
    · (intro w hSw; (try dsimp only at hSw); go_simp; all_goals with_reducible rfl)
    try simp only [Act.put, List.setIfInBounds_toArray, List.set_cons_zero, List.set_cons_succ]
    refine held_yes (i := 2) (some 17) (v := ?_) rfl rfl (by kernel_rfl) (by kernel_rfl) (by kernel_rfl) (fun _ _ _ h => h) (by rfl) ?_ hHeld ?_
    rotate_left
    · (intro w hSw; (try dsimp only at hSw); go_simp; all_goals with_reducible rfl)
    try simp only [Act.put, List.setIfInBounds_toArray, List.set_cons_zero, List.set_cons_succ]
    refine held_no (i := 3) (some 18) rfl rfl (by kernel_rfl) (by kernel_rfl) (by kernel_rfl) (fun _ _ _ h => h) (wanted_f rfl rfl rfl) hHeld ?_
    try simp only [Act.put, List.setIfInBounds_toArray, List.set_cons_zero, List.set_cons_succ]
    refine held_no (i := 4) (some 19) rfl rfl (by kernel_rfl) (by kernel_rfl) (by kernel_rfl) (fun _ _ _ h => h) (wanted_f rfl rfl rfl) hHeld ?_
    try simp only [Act.put, List.setIfInBounds_toArray, List.set_cons_zero, List.set_cons_succ]
    refine held_no (i := 5) (some 20) rfl rfl (by kernel_rfl) (by kernel_rfl) (by kernel_rfl) (fun _ _ _ h => h) (wanted_f rfl rfl rfl) hHeld ?_
    try simp only [Act.put, List.setIfInBounds_toArray, List.set_cons_zero, List.set_cons_succ]
    refine held_no (i := 6) (some 21) rfl rfl (by kernel_rfl) (by kernel_rfl) (by kernel_rfl) (fun _ _ _ h => h) (wanted_f rfl rfl rfl) hHeld ?_
    try simp only [Act.put, List.setIfInBounds_toArray, List.set_cons_zero, List.set_cons_succ]
    refine held_no (i := 7) (some 22) rfl rfl (by kernel_rfl) (by kernel_rfl) (by kernel_rfl) (fun _ _ _ h => h) (wanted_f rfl rfl rfl) hHeld ?_
    try simp only [Act.put, List.setIfInBounds_toArray, List.set_cons_zero, List.set_cons_succ]
    refine held_no (i := 8) (some 23) rfl rfl (by kernel_rfl) (by kernel_rfl) (by kernel_rfl) (fun _ _ _ h => h) (wanted_f rfl rfl rfl) hHeld ?_
    try simp only [Act.put, List.setIfInBounds_toArray, List.set_cons_zero, List.set_cons_succ]
    refine held_yes (i := 9) (some 24) (v := ?_) rfl rfl (by kernel_rfl) (by kernel_rfl) (by kernel_rfl) (fun _ _ _ h => h) (by rfl) ?_ hHeld ?_
    rotate_left
    · (intro w hSw; (try dsimp only at hSw); go_simp; all_goals with_reducible rfl)
    try simp only [Act.put, List.setIfInBounds_toArray, List.set_cons_zero, List.set_cons_succ]
    refine held_yes (i := 10) (some 25) (v := ?_) rfl rfl (by kernel_rfl) (by kernel_rfl) (by kernel_rfl) (fun _ _ _ h => h) (by rfl) ?_ hHeld ?_
    rotate_left
    · (intro w hSw; (try dsimp only at hSw); go_simp; all_goals with_reducible rfl)
    try simp only [Act.put, List.setIfInBounds_toArray, List.set_cons_zero, List.set_cons_succ]
    refine held_no (i := 11) (some 26) rfl rfl (by kernel_rfl) (by kernel_rfl) (by kernel_rfl) (fun _ _ _ h => h) (wanted_f rfl rfl rfl) hHeld ?_
    try simp only [Act.put, List.setIfInBounds_toArray, List.set_cons_zero, List.set_cons_succ]
    refine held_no (i := 12) (some 27) rfl rfl (by kernel_rfl) (by kernel_rfl) (by kernel_rfl) (fun _ _ _ h => h) (wanted_f rfl rfl rfl) hHeld ?_
    try simp only [Act.put, List.setIfInBounds_toArray, List.set_cons_zero, List.set_cons_succ]
    refine held_no (i := 13) (some 28) rfl rfl (by kernel_rfl) (by kernel_rfl) (by kernel_rfl) (fun _ _ _ h => h) (wanted_f rfl rfl rfl) hHeld ?_
    try simp only [Act.put, List.setIfInBounds_toArray, List.set_cons_zero, List.set_cons_succ]
    refine held_no (i := 14) (some 29) rfl rfl (by kernel_rfl) (by kernel_rfl) (by kernel_rfl) (fun _ _ _ h => h) (wanted_f rfl rfl rfl) hHeld ?_
    try simp only [Act.put, List.setIfInBounds_toArray, List.set_cons_zero, List.set_cons_succ]
    refine held_no (i := 15) (some 30) rfl rfl (by kernel_rfl) (by kernel_rfl) (by kernel_rfl) (fun _ _ _ h => h) (wanted_f rfl rfl rfl) hHeld ?_
    try simp only [Act.put, List.setIfInBounds_toArray, List.set_cons_zero, List.set_cons_succ]
    refine held_no (i := 16) (some 31) rfl rfl (by kernel_rfl) (by kernel_rfl) (by kernel_rfl) (fun _ _ _ h => h) (wanted_f rfl rfl rfl) hHeld ?_
    try simp only [Act.put, List.setIfInBounds_toArray, List.set_cons_zero, List.set_cons_succ]
    refine held_no (i := 17) (some 32) rfl rfl (by kernel_rfl) (by kernel_rfl) (by kernel_rfl) (fun _ _ _ h => h) (wanted_f rfl rfl rfl) hHeld ?_
    try simp only [Act.put, List.setIfInBounds_toArray, List.set_cons_zero, List.set_cons_succ]
    refine held_yes (i := 18) (some 33) (v := ?_) rfl rfl (by kernel_rfl) (by kernel_rfl) (by kernel_rfl) (fun _ _ _ h => h) (by rfl) ?_ hHeld ?_
    rotate_left
    · (intro w hSw; (try dsimp only at hSw); go_simp; all_goals with_reducible rfl)
    try simp only [Act.put, List.setIfInBounds_toArray, List.set_cons_zero, List.set_cons_succ]
    refine wpAnyH_done (by kernel_rfl) ?_ _
    go_wp2_with fail
    go_returns
    exact ⟨rfl, v0, R, HT.out.drew, (Fr.of_below HB.out.drew)⟩
  have n0 : decide (node < 0) = false := by simpa using h0
  by_cases h1 : node ≥ (s.n : Int)
  · have n1 : decide (node ≥ (s.n : Int)) = true := by simpa using h1
    clear hV h0 h1
    go_enter Try.func22, Try.ntmps22
    go_wp2_with fail
    refine wp_region_held_drew (S := (fun W => W.cell? ⟨w.heap.size, 0, none⟩ = some (.int .i64 r) ∧ W.cell? ⟨w.heap.size, 1, none⟩ = some (.int .i64 d) ∧ W.cell? ⟨p, 0, none⟩ = some (.int .i64 (s.n : Int)))) (by kernel_rfl) ?_ (fun hHeld => ?_)
    · exact ⟨by assumption, by assumption, by assumption⟩
    try dsimp only at hHeld
    refine held_yes (i := 0) (some 15) (v := ?_) rfl rfl (by kernel_rfl) (by kernel_rfl) (by kernel_rfl) (fun _ _ _ h => h) (by rfl) ?_ hHeld ?_
    rotate_left
    · (intro w hSw; (try dsimp only at hSw); go_simp; all_goals with_reducible rfl)
    try simp only [Act.put, List.setIfInBounds_toArray, List.set_cons_zero, List.set_cons_succ]
    refine held_yes (i := 1) (some 16) (v := ?_) rfl rfl (by kernel_rfl) (by kernel_rfl) (by kernel_rfl) (fun _ _ _ h => h) (by rfl) ?_ hHeld ?_
    rotate_left
    · (intro w hSw; (try dsimp only at hSw); go_simp; all_goals with_reducible rfl)
    try simp only [Act.put, List.setIfInBounds_toArray, List.set_cons_zero, List.set_cons_succ]
    refine held_yes (i := 2) (some 17) (v := ?_) rfl rfl (by kernel_rfl) (by kernel_rfl) (by kernel_rfl) (fun _ _ _ h => h) (by rfl) ?_ hHeld ?_
    rotate_left
    · (intro w hSw; (try dsimp only at hSw); go_simp; all_goals with_reducible rfl)
    try simp only [Act.put, List.setIfInBounds_toArray, List.set_cons_zero, List.set_cons_succ]
    refine held_yes (i := 3) (some 18) (v := ?_) rfl rfl (by kernel_rfl) (by kernel_rfl) (by kernel_rfl) (fun _ _ _ h => h) (by rfl) ?_ hHeld ?_
    rotate_left
    · (intro w hSw; (try dsimp only at hSw); go_simp; all_goals with_reducible rfl)
    try simp only [Act.put, List.setIfInBounds_toArray, List.set_cons_zero, List.set_cons_succ]
    refine held_yes (i := 4) (some 19) (v := ?_) rfl rfl (by kernel_rfl) (by kernel_rfl) (by kernel_rfl) (fun _ _ _ h => h) (by rfl) ?_ hHeld ?_
    rotate_left
    · (intro w hSw; (try dsimp only at hSw); go_simp; all_goals with_reducible rfl)
    try simp only [Act.put, List.setIfInBounds_toArray, List.set_cons_zero, List.set_cons_succ]
    refine held_yes (i := 5) (some 20) (v := ?_) rfl rfl (by kernel_rfl) (by kernel_rfl) (by kernel_rfl) (fun _ _ _ h => h) (by rfl) ?_ hHeld ?_
    rotate_left
    · (intro w hSw; (try dsimp only at hSw); go_simp; all_goals with_reducible rfl)
    try simp only [Act.put, List.setIfInBounds_toArray, List.set_cons_zero, List.set_cons_succ]
    refine held_yes (i := 6) (some 21) (v := ?_) rfl rfl (by kernel_rfl) (by kernel_rfl) (by kernel_rfl) (fun _ _ _ h => h) (by rfl) ?_ hHeld ?_
    rotate_left
    · (intro w hSw; (try dsimp only at hSw); go_simp; all_goals with_reducible rfl)
    try simp only [Act.put, List.setIfInBounds_toArray, List.set_cons_zero, List.set_cons_succ]
    refine held_yes (i := 7) (some 22) (v := ?_) rfl rfl (by kernel_rfl) (by kernel_rfl) (by kernel_rfl) (fun _ _ _ h => h) (by rfl) ?_ hHeld ?_
    rotate_left
    · (intro w hSw; (try dsimp only at hSw); go_simp; all_goals with_reducible rfl)
    try simp only [Act.put, List.setIfInBounds_toArray, List.set_cons_zero, List.set_cons_succ]
    refine held_yes (i := 8) (some 23) (v := ?_) rfl rfl (by kernel_rfl) (by kernel_rfl) (by kernel_rfl) (fun _ _ _ h => h) (by rfl) ?_ hHeld ?_
    rotate_left
    · (intro w hSw; (try dsimp only at hSw); go_simp; all_goals with_reducible rfl)
    try simp only [Act.put, List.setIfInBounds_toArray, List.set_cons_zero, List.set_cons_succ]
    refine held_yes (i := 9) (some 24) (v := ?_) rfl rfl (by kernel_rfl) (by kernel_rfl) (by kernel_rfl) (fun _ _ _ h => h) (by rfl) ?_ hHeld ?_
    rotate_left
    · (intro w hSw; (try dsimp only at hSw); go_simp; all_goals with_reducible rfl)
    try simp only [Act.put, List.setIfInBounds_toArray, List.set_cons_zero, List.set_cons_succ]
    refine held_yes (i := 10) (some 25) (v := ?_) rfl rfl (by kernel_rfl) (by kernel_rfl) (by kernel_rfl) (fun _ _ _ h => h) (by rfl) ?_ hHeld ?_
    rotate_left
    · (intro w hSw; (try dsimp only at hSw); go_simp; all_goals with_reducible rfl)
    try simp only [Act.put, List.setIfInBounds_toArray, List.set_cons_zero, List.set_cons_succ]
    refine held_no (i := 11) (some 26) rfl rfl (by kernel_rfl) (by kernel_rfl) (by kernel_rfl) (fun _ _ _ h => h) (wanted_f rfl rfl rfl) hHeld ?_
    try simp only [Act.put, List.setIfInBounds_toArray, List.set_cons_zero, List.set_cons_succ]
    refine held_no (i := 12) (some 27) rfl rfl (by kernel_rfl) (by kernel_rfl) (by kernel_rfl) (fun _ _ _ h => h) (wanted_f rfl rfl rfl) hHeld ?_
    try simp only [Act.put, List.setIfInBounds_toArray, List.set_cons_zero, List.set_cons_succ]
    refine held_no (i := 13) (some 28) rfl rfl (by kernel_rfl) (by kernel_rfl) (by kernel_rfl) (fun _ _ _ h => h) (wanted_f rfl rfl rfl) hHeld ?_
    try simp only [Act.put, List.setIfInBounds_toArray, List.set_cons_zero, List.set_cons_succ]
    refine held_no (i := 14) (some 29) rfl rfl (by kernel_rfl) (by kernel_rfl) (by kernel_rfl) (fun _ _ _ h => h) (wanted_f rfl rfl rfl) hHeld ?_
    try simp only [Act.put, List.setIfInBounds_toArray, List.set_cons_zero, List.set_cons_succ]
    refine held_no (i := 15) (some 30) rfl rfl (by kernel_rfl) (by kernel_rfl) (by kernel_rfl) (fun _ _ _ h => h) (wanted_f rfl rfl rfl) hHeld ?_
    try simp only [Act.put, List.setIfInBounds_toArray, List.set_cons_zero, List.set_cons_succ]
    refine held_no (i := 16) (some 31) rfl rfl (by kernel_rfl) (by kernel_rfl) (by kernel_rfl) (fun _ _ _ h => h) (wanted_f rfl rfl rfl) hHeld ?_
    try simp only [Act.put, List.setIfInBounds_toArray, List.set_cons_zero, List.set_cons_succ]
    refine held_no (i := 17) (some 32) rfl rfl (by kernel_rfl) (by kernel_rfl) (by kernel_rfl) (fun _ _ _ h => h) (wanted_f rfl rfl rfl) hHeld ?_
    try simp only [Act.put, List.setIfInBounds_toArray, List.set_cons_zero, List.set_cons_succ]
    refine held_yes (i := 18) (some 33) (v := ?_) rfl rfl (by kernel_rfl) (by kernel_rfl) (by kernel_rfl) (fun _ _ _ h => h) (by rfl) ?_ hHeld ?_
    rotate_left
    · (intro w hSw; (try dsimp only at hSw); go_simp; all_goals with_reducible rfl)
    try simp only [Act.put, List.setIfInBounds_toArray, List.set_cons_zero, List.set_cons_succ]
    refine wpAnyH_done (by kernel_rfl) ?_ _
    go_wp2_with fail
    go_returns
    exact ⟨rfl, v0, R, HT.out.drew, (Fr.of_below HB.out.drew)⟩
  have n1 : decide (node ≥ (s.n : Int)) = false := by simpa using h1
  have hv : valB s.n r d = false := by
    rw [decide_eq_true (by omega : 0 ≤ node ∧ node < (s.n : Int))] at hV
    simpa using hV
  clear hV h0 h1
  go_enter Try.func22, Try.ntmps22
  go_wp2_with fail
  refine wp_region_held_drew (S := (fun W => W.cell? ⟨w.heap.size, 0, none⟩ = some (.int .i64 r) ∧ W.cell? ⟨w.heap.size, 1, none⟩ = some (.int .i64 d) ∧ W.cell? ⟨p, 0, none⟩ = some (.int .i64 (s.n : Int)))) (by kernel_rfl) ?_ (fun hHeld => ?_)
  · exact ⟨by assumption, by assumption, by assumption⟩
  try dsimp only at hHeld
  refine held_yes (i := 0) (some 15) (v := ?_) rfl rfl (by kernel_rfl) (by kernel_rfl) (by kernel_rfl) (fun _ _ _ h => h) (by rfl) ?_ hHeld ?_
  rotate_left
  · (intro w hSw; (try dsimp only at hSw); go_simp; all_goals with_reducible rfl)
  try simp only [Act.put, List.setIfInBounds_toArray, List.set_cons_zero, List.set_cons_succ]
  refine held_yes (i := 1) (some 16) (v := ?_) rfl rfl (by kernel_rfl) (by kernel_rfl) (by kernel_rfl) (fun _ _ _ h => h) (by rfl) ?_ hHeld ?_
  rotate_left
  · (intro w hSw; (try dsimp only at hSw); go_simp; all_goals with_reducible rfl)
  try simp only [Act.put, List.setIfInBounds_toArray, List.set_cons_zero, List.set_cons_succ]
  refine held_yes (i := 2) (some 17) (v := ?_) rfl rfl (by kernel_rfl) (by kernel_rfl) (by kernel_rfl) (fun _ _ _ h => h) (by rfl) ?_ hHeld ?_
  rotate_left
  · (intro w hSw; (try dsimp only at hSw); go_simp; all_goals with_reducible rfl)
  try simp only [Act.put, List.setIfInBounds_toArray, List.set_cons_zero, List.set_cons_succ]
  refine held_yes (i := 3) (some 18) (v := ?_) rfl rfl (by kernel_rfl) (by kernel_rfl) (by kernel_rfl) (fun _ _ _ h => h) (by rfl) ?_ hHeld ?_
  rotate_left
  · (intro w hSw; (try dsimp only at hSw); go_simp; all_goals with_reducible rfl)
  try simp only [Act.put, List.setIfInBounds_toArray, List.set_cons_zero, List.set_cons_succ]
  refine held_yes (i := 4) (some 19) (v := ?_) rfl rfl (by kernel_rfl) (by kernel_rfl) (by kernel_rfl) (fun _ _ _ h => h) (by rfl) ?_ hHeld ?_
  rotate_left
  · (intro w hSw; (try dsimp only at hSw); go_simp; all_goals with_reducible rfl)
  try simp only [Act.put, List.setIfInBounds_toArray, List.set_cons_zero, List.set_cons_succ]
  refine held_yes (i := 5) (some 20) (v := ?_) rfl rfl (by kernel_rfl) (by kernel_rfl) (by kernel_rfl) (fun _ _ _ h => h) (by rfl) ?_ hHeld ?_
  rotate_left
  · (intro w hSw; (try dsimp only at hSw); go_simp; all_goals with_reducible rfl)
  try simp only [Act.put, List.setIfInBounds_toArray, List.set_cons_zero, List.set_cons_succ]
  refine held_yes (i := 6) (some 21) (v := ?_) rfl rfl (by kernel_rfl) (by kernel_rfl) (by kernel_rfl) (fun _ _ _ h => h) (by rfl) ?_ hHeld ?_
  rotate_left
  · (intro w hSw; (try dsimp only at hSw); go_simp; all_goals with_reducible rfl)
  try simp only [Act.put, List.setIfInBounds_toArray, List.set_cons_zero, List.set_cons_succ]
  refine held_yes (i := 7) (some 22) (v := ?_) rfl rfl (by kernel_rfl) (by kernel_rfl) (by kernel_rfl) (fun _ _ _ h => h) (by rfl) ?_ hHeld ?_
  rotate_left
  · (intro w hSw; (try dsimp only at hSw); go_simp; all_goals with_reducible rfl)
  try simp only [Act.put, List.setIfInBounds_toArray, List.set_cons_zero, List.set_cons_succ]
  refine held_yes (i := 8) (some 23) (v := ?_) rfl rfl (by kernel_rfl) (by kernel_rfl) (by kernel_rfl) (fun _ _ _ h => h) (by rfl) ?_ hHeld ?_
  rotate_left
  · (intro w hSw; (try dsimp only at hSw); go_simp; all_goals with_reducible rfl)
  try simp only [Act.put, List.setIfInBounds_toArray, List.set_cons_zero, List.set_cons_succ]
  refine held_yes (i := 9) (some 24) (v := ?_) rfl rfl (by kernel_rfl) (by kernel_rfl) (by kernel_rfl) (fun _ _ _ h => h) (by rfl) ?_ hHeld ?_
  rotate_left
  · (intro w hSw; (try dsimp only at hSw); go_simp; all_goals with_reducible rfl)
  try simp only [Act.put, List.setIfInBounds_toArray, List.set_cons_zero, List.set_cons_succ]
  refine held_yes (i := 10) (some 25) (v := ?_) rfl rfl (by kernel_rfl) (by kernel_rfl) (by kernel_rfl) (fun _ _ _ h => h) (by rfl) ?_ hHeld ?_
  rotate_left
  · (intro w hSw; (try dsimp only at hSw); go_simp; all_goals with_reducible rfl)
  try simp only [Act.put, List.setIfInBounds_toArray, List.set_cons_zero, List.set_cons_succ]
  refine held_yes (i := 11) (some 26) (v := ?_) rfl rfl (by kernel_rfl) (by kernel_rfl) (by kernel_rfl) (fun _ _ _ h => h) (by rfl) ?_ hHeld ?_
  rotate_left
  · (intro w hSw; (try dsimp only at hSw); go_simp; all_goals with_reducible rfl)
  try simp only [Act.put, List.setIfInBounds_toArray, List.set_cons_zero, List.set_cons_succ]
  refine held_yes (i := 12) (some 27) (v := ?_) rfl rfl (by kernel_rfl) (by kernel_rfl) (by kernel_rfl) (fun _ _ _ h => h) (by rfl) ?_ hHeld ?_
  rotate_left
  · (intro w hSw; (try dsimp only at hSw); go_simp; all_goals with_reducible rfl)
  try simp only [Act.put, List.setIfInBounds_toArray, List.set_cons_zero, List.set_cons_succ]
  refine held_yes (i := 13) (some 28) (v := ?_) rfl rfl (by kernel_rfl) (by kernel_rfl) (by kernel_rfl) (fun _ _ _ h => h) (by rfl) ?_ hHeld ?_
  rotate_left
  · (intro w hSw; (try dsimp only at hSw); go_simp; all_goals with_reducible rfl)
  try simp only [Act.put, List.setIfInBounds_toArray, List.set_cons_zero, List.set_cons_succ]
  refine held_yes (i := 14) (some 29) (v := ?_) rfl rfl (by kernel_rfl) (by kernel_rfl) (by kernel_rfl) (fun _ _ _ h => h) (by rfl) ?_ hHeld ?_
  rotate_left
  · (intro w hSw; (try dsimp only at hSw); go_simp; all_goals with_reducible rfl)
  try simp only [Act.put, List.setIfInBounds_toArray, List.set_cons_zero, List.set_cons_succ]
  refine held_yes (i := 15) (some 30) (v := ?_) rfl rfl (by kernel_rfl) (by kernel_rfl) (by kernel_rfl) (fun _ _ _ h => h) (by rfl) ?_ hHeld ?_
  rotate_left
  · (intro w hSw; (try dsimp only at hSw); go_simp; all_goals with_reducible rfl)
  try simp only [Act.put, List.setIfInBounds_toArray, List.set_cons_zero, List.set_cons_succ]
  refine wpAnyH_ready (rs := [16]) (by kernel_rfl) (by simp) ?_
  refine AllReadyH.cons rfl (fun K' hK' => ?_) AllReadyH.nil
  go_simp
  (go_at_call 38; refine (rlvalid_any r d s.n _).mono ?_; rw [hv]; rintro e w2 ⟨rfl, b2⟩; have b2' := bdrew b2; have q0 := bcell b2' e0; have q1 := bcell b2' e1; have q2 := bcell b2' c0; have T2 := Lib.hid (HT.out.below b2'); have B2 := Lib.hid (bchain HB.out b2'); clear b2 b2')
  go_wp2_with fail
  refine hK'.out _ _ ?_ (fun hHeld => ?_)
  · first | exact ⟨by assumption, by assumption, by assumption⟩ | go_keep
  clear hK' K'
  try dsimp only at hHeld
  try simp only [Act.put, List.setIfInBounds_toArray, List.set_cons_zero, List.set_cons_succ]
  refine held_yes (i := 17) (some 32) (v := ?_) rfl rfl (by kernel_rfl) (by kernel_rfl) (by kernel_rfl) (fun _ _ _ h => h) (by rfl) ?_ hHeld ?_
  rotate_left
  · (intro w hSw; (try dsimp only at hSw); go_simp; all_goals with_reducible rfl)
  try simp only [Act.put, List.setIfInBounds_toArray, List.set_cons_zero, List.set_cons_succ]
  refine held_yes (i := 18) (some 33) (v := ?_) rfl rfl (by kernel_rfl) (by kernel_rfl) (by kernel_rfl) (fun _ _ _ h => h) (by rfl) ?_ hHeld ?_
  rotate_left
  · (intro w hSw; (try dsimp only at hSw); go_simp; all_goals with_reducible rfl)
  try simp only [Act.put, List.setIfInBounds_toArray, List.set_cons_zero, List.set_cons_succ]
  refine wpAnyH_done (by kernel_rfl) ?_ _
  go_wp2_with fail
  go_returns
  exact ⟨rfl, v0, R, T2.out, (Fr.of_below B2.out)⟩

set_option maxRecDepth 100000 in
set_option maxHeartbeats 2000000 in
theorem rladd_chk (p : Nat) (v0 : Value) (s : LSt) (R : KL) (node r d k : Int) (v : ByteArray) (w : World) (h : RLAt w p v0 s R) (hV : isV s.n node r d = true) (hE : lchk s.base false k v.size ≠ 0) :
    Calls Try.prog 22 #[.pointer (some ⟨p, 0, none⟩), .int .i64 node, balV r d, .int .i64 k, .string v] w (RAddPost p s s false (lchk s.base false k v.size) w) := by
  have hb := box_below w (.cells #[.int .i64 r, .int .i64 d] 31)
  have HT := Lib.hid (h.below hb)
  have HB := Lib.hid hb
  have b1 := Blk.new w 31 #[.int .i64 r, .int .i64 d]
  have e0 := b1.cell (i := 0) (v := .int .i64 r) rfl
  have e1 := b1.cell (i := 1) (v := .int .i64 d) rfl
  have c0 := HT.out.c0
  have hlt0 := h.blk.lt
  have hVV := hV
  rw [isV_val _ _ _ h.good.n, Bool.and_eq_true, decide_eq_true_eq] at hVV
  have hv := hVV.2
  have n0 : decide ((node : Int) < 0) = false := by first | (simp; done) | (simp; omega)
  have n1 : decide ((node : Int) ≥ (s.n : Int)) = false := by simp; omega
  have hg := h.good
  clear hVV hb b1
  obtain ⟨E, hEE⟩ : ∃ E, lchk s.base false k v.size = E := ⟨_, rfl⟩
  rw [hEE] at hE ⊢
  have HCK := Lib.hid hEE
  have hE1 : (E == 0) = false := by simpa using hE
  clear h hE hEE hV hg
  go_enter Try.func22, Try.ntmps22
  go_wp2_with fail
  refine wp_region_held_drew (S := (fun W => W.cell? ⟨w.heap.size, 0, none⟩ = some (.int .i64 r) ∧ W.cell? ⟨w.heap.size, 1, none⟩ = some (.int .i64 d) ∧ W.cell? ⟨p, 0, none⟩ = some (.int .i64 (s.n : Int)))) (by kernel_rfl) ?_ (fun hHeld => ?_)
  · exact ⟨by assumption, by assumption, by assumption⟩
  try dsimp only at hHeld
  refine held_yes (i := 0) (some 15) (v := ?_) rfl rfl (by kernel_rfl) (by kernel_rfl) (by kernel_rfl) (fun _ _ _ h => h) (by rfl) ?_ hHeld ?_
  rotate_left
  · (intro w hSw; (try dsimp only at hSw); go_simp; all_goals with_reducible rfl)
  try simp only [Act.put, List.setIfInBounds_toArray, List.set_cons_zero, List.set_cons_succ]
  refine held_yes (i := 1) (some 16) (v := ?_) rfl rfl (by kernel_rfl) (by kernel_rfl) (by kernel_rfl) (fun _ _ _ h => h) (by rfl) ?_ hHeld ?_
  rotate_left
  · (intro w hSw; (try dsimp only at hSw); go_simp; all_goals with_reducible rfl)
  try simp only [Act.put, List.setIfInBounds_toArray, List.set_cons_zero, List.set_cons_succ]
  refine held_yes (i := 2) (some 17) (v := ?_) rfl rfl (by kernel_rfl) (by kernel_rfl) (by kernel_rfl) (fun _ _ _ h => h) (by rfl) ?_ hHeld ?_
  rotate_left
  · (intro w hSw; (try dsimp only at hSw); go_simp; all_goals with_reducible rfl)
  try simp only [Act.put, List.setIfInBounds_toArray, List.set_cons_zero, List.set_cons_succ]
  refine held_yes (i := 3) (some 18) (v := ?_) rfl rfl (by kernel_rfl) (by kernel_rfl) (by kernel_rfl) (fun _ _ _ h => h) (by rfl) ?_ hHeld ?_
  rotate_left
  · (intro w hSw; (try dsimp only at hSw); go_simp; all_goals with_reducible rfl)
  try simp only [Act.put, List.setIfInBounds_toArray, List.set_cons_zero, List.set_cons_succ]
  refine held_yes (i := 4) (some 19) (v := ?_) rfl rfl (by kernel_rfl) (by kernel_rfl) (by kernel_rfl) (fun _ _ _ h => h) (by rfl) ?_ hHeld ?_
  rotate_left
  · (intro w hSw; (try dsimp only at hSw); go_simp; all_goals with_reducible rfl)
  try simp only [Act.put, List.setIfInBounds_toArray, List.set_cons_zero, List.set_cons_succ]
  refine held_yes (i := 5) (some 20) (v := ?_) rfl rfl (by kernel_rfl) (by kernel_rfl) (by kernel_rfl) (fun _ _ _ h => h) (by rfl) ?_ hHeld ?_
  rotate_left
  · (intro w hSw; (try dsimp only at hSw); go_simp; all_goals with_reducible rfl)
  try simp only [Act.put, List.setIfInBounds_toArray, List.set_cons_zero, List.set_cons_succ]
  refine held_yes (i := 6) (some 21) (v := ?_) rfl rfl (by kernel_rfl) (by kernel_rfl) (by kernel_rfl) (fun _ _ _ h => h) (by rfl) ?_ hHeld ?_
  rotate_left
  · (intro w hSw; (try dsimp only at hSw); go_simp; all_goals with_reducible rfl)
  try simp only [Act.put, List.setIfInBounds_toArray, List.set_cons_zero, List.set_cons_succ]
  refine held_yes (i := 7) (some 22) (v := ?_) rfl rfl (by kernel_rfl) (by kernel_rfl) (by kernel_rfl) (fun _ _ _ h => h) (by rfl) ?_ hHeld ?_
  rotate_left
  · (intro w hSw; (try dsimp only at hSw); go_simp; all_goals with_reducible rfl)
  try simp only [Act.put, List.setIfInBounds_toArray, List.set_cons_zero, List.set_cons_succ]
  refine held_yes (i := 8) (some 23) (v := ?_) rfl rfl (by kernel_rfl) (by kernel_rfl) (by kernel_rfl) (fun _ _ _ h => h) (by rfl) ?_ hHeld ?_
  rotate_left
  · (intro w hSw; (try dsimp only at hSw); go_simp; all_goals with_reducible rfl)
  try simp only [Act.put, List.setIfInBounds_toArray, List.set_cons_zero, List.set_cons_succ]
  refine held_yes (i := 9) (some 24) (v := ?_) rfl rfl (by kernel_rfl) (by kernel_rfl) (by kernel_rfl) (fun _ _ _ h => h) (by rfl) ?_ hHeld ?_
  rotate_left
  · (intro w hSw; (try dsimp only at hSw); go_simp; all_goals with_reducible rfl)
  try simp only [Act.put, List.setIfInBounds_toArray, List.set_cons_zero, List.set_cons_succ]
  refine held_yes (i := 10) (some 25) (v := ?_) rfl rfl (by kernel_rfl) (by kernel_rfl) (by kernel_rfl) (fun _ _ _ h => h) (by rfl) ?_ hHeld ?_
  rotate_left
  · (intro w hSw; (try dsimp only at hSw); go_simp; all_goals with_reducible rfl)
  try simp only [Act.put, List.setIfInBounds_toArray, List.set_cons_zero, List.set_cons_succ]
  refine held_yes (i := 11) (some 26) (v := ?_) rfl rfl (by kernel_rfl) (by kernel_rfl) (by kernel_rfl) (fun _ _ _ h => h) (by rfl) ?_ hHeld ?_
  rotate_left
  · (intro w hSw; (try dsimp only at hSw); go_simp; all_goals with_reducible rfl)
  try simp only [Act.put, List.setIfInBounds_toArray, List.set_cons_zero, List.set_cons_succ]
  refine held_yes (i := 12) (some 27) (v := ?_) rfl rfl (by kernel_rfl) (by kernel_rfl) (by kernel_rfl) (fun _ _ _ h => h) (by rfl) ?_ hHeld ?_
  rotate_left
  · (intro w hSw; (try dsimp only at hSw); go_simp; all_goals with_reducible rfl)
  try simp only [Act.put, List.setIfInBounds_toArray, List.set_cons_zero, List.set_cons_succ]
  refine held_yes (i := 13) (some 28) (v := ?_) rfl rfl (by kernel_rfl) (by kernel_rfl) (by kernel_rfl) (fun _ _ _ h => h) (by rfl) ?_ hHeld ?_
  rotate_left
  · (intro w hSw; (try dsimp only at hSw); go_simp; all_goals with_reducible rfl)
  try simp only [Act.put, List.setIfInBounds_toArray, List.set_cons_zero, List.set_cons_succ]
  refine held_yes (i := 14) (some 29) (v := ?_) rfl rfl (by kernel_rfl) (by kernel_rfl) (by kernel_rfl) (fun _ _ _ h => h) (by rfl) ?_ hHeld ?_
  rotate_left
  · (intro w hSw; (try dsimp only at hSw); go_simp; all_goals with_reducible rfl)
  try simp only [Act.put, List.setIfInBounds_toArray, List.set_cons_zero, List.set_cons_succ]
  refine held_yes (i := 15) (some 30) (v := ?_) rfl rfl (by kernel_rfl) (by kernel_rfl) (by kernel_rfl) (fun _ _ _ h => h) (by rfl) ?_ hHeld ?_
  rotate_left
  · (intro w hSw; (try dsimp only at hSw); go_simp; all_goals with_reducible rfl)
  try simp only [Act.put, List.setIfInBounds_toArray, List.set_cons_zero, List.set_cons_succ]
  refine wpAnyH_ready (rs := [16]) (by kernel_rfl) (by simp) ?_
  refine AllReadyH.cons rfl (fun K' hK' => ?_) AllReadyH.nil
  go_simp
  (go_at_call 38; refine (rlvalid_any r d s.n _).mono ?_; rw [hv]; rintro e w2 ⟨rfl, b2⟩; have b2' := bdrew b2; have q0 := bcell b2' e0; have q1 := bcell b2' e1; have q2 := bcell b2' c0; have T2 := Lib.hid (HT.out.below b2'); have B2 := Lib.hid (bchain HB.out b2'); clear b2 b2')
  go_wp2_with fail
  refine hK'.out _ _ ?_ (fun hHeld => ?_)
  · first | exact ⟨by assumption, by assumption, by assumption⟩ | go_keep
  clear hK' K'
  try dsimp only at hHeld
  try simp only [Act.put, List.setIfInBounds_toArray, List.set_cons_zero, List.set_cons_succ]
  refine held_yes (i := 17) (some 32) (v := ?_) rfl rfl (by kernel_rfl) (by kernel_rfl) (by kernel_rfl) (fun _ _ _ h => h) (by rfl) ?_ hHeld ?_
  rotate_left
  · (intro w hSw; (try dsimp only at hSw); go_simp; all_goals with_reducible rfl)
  try simp only [Act.put, List.setIfInBounds_toArray, List.set_cons_zero, List.set_cons_succ]
  refine held_yes (i := 18) (some 33) (v := ?_) rfl rfl (by kernel_rfl) (by kernel_rfl) (by kernel_rfl) (fun _ _ _ h => h) (by rfl) ?_ hHeld ?_
  rotate_left
  · (intro w hSw; (try dsimp only at hSw); go_simp; all_goals with_reducible rfl)
  try simp only [Act.put, List.setIfInBounds_toArray, List.set_cons_zero, List.set_cons_succ]
  refine wpAnyH_done (by kernel_rfl) ?_ _
  go_wp2_with (go_at_call 39; refine (rlcheck_any p s.base k v _ T2.out.c1).mono ?_; rw [HCK.out]; rintro e w' ⟨rfl, rfl⟩)
  go_returns
  exact ⟨rfl, v0, R, T2.out, (Fr.of_below B2.out)⟩

set_option maxRecDepth 100000 in
set_option maxHeartbeats 2000000 in
theorem rladd_old (p : Nat) (v0 : Value) (s : LSt) (R : KL) (node r d k : Int) (v : ByteArray) (w : World) (h : RLAt w p v0 s R) (hV : isV s.n node r d = true) (hE : lchk s.base false k v.size = 0) (ho : ordB (r, d) ((kget k s.L).r, (kget k s.L).d) < 0) :
    Calls Try.prog 22 #[.pointer (some ⟨p, 0, none⟩), .int .i64 node, balV r d, .int .i64 k, .string v] w (RAddPost p s s false 0 w) := by
  have hb := box_below w (.cells #[.int .i64 r, .int .i64 d] 31)
  have HT := Lib.hid (h.below hb)
  have HB := Lib.hid hb
  have b1 := Blk.new w 31 #[.int .i64 r, .int .i64 d]
  have e0 := b1.cell (i := 0) (v := .int .i64 r) rfl
  have e1 := b1.cell (i := 1) (v := .int .i64 d) rfl
  have c0 := HT.out.c0
  have hlt0 := h.blk.lt
  have hVV := hV
  rw [isV_val _ _ _ h.good.n, Bool.and_eq_true, decide_eq_true_eq] at hVV
  have hv := hVV.2
  have n0 : decide ((node : Int) < 0) = false := by first | (simp; done) | (simp; omega)
  have n1 : decide ((node : Int) ≥ (s.n : Int)) = false := by simp; omega
  have hg := h.good
  clear hVV hb b1
  have HCK := Lib.hid hE
  obtain ⟨⟨kc, kv, kr, kd, kvo, ks⟩, hk⟩ : ∃ e, kget k s.L = e := ⟨_, rfl⟩
  have HK := Lib.hid hk
  rw [hk] at ho
  have ho' : decide (ordB (r, d) (kr, kd) < 0) = true := by simpa using ho
  clear h hE hV hg hk ho
  go_enter Try.func22, Try.ntmps22
  go_wp2_with fail
  refine wp_region_held_drew (S := (fun W => W.cell? ⟨w.heap.size, 0, none⟩ = some (.int .i64 r) ∧ W.cell? ⟨w.heap.size, 1, none⟩ = some (.int .i64 d) ∧ W.cell? ⟨p, 0, none⟩ = some (.int .i64 (s.n : Int)))) (by kernel_rfl) ?_ (fun hHeld => ?_)
  · exact ⟨by assumption, by assumption, by assumption⟩
  try dsimp only at hHeld
  refine held_yes (i := 0) (some 15) (v := ?_) rfl rfl (by kernel_rfl) (by kernel_rfl) (by kernel_rfl) (fun _ _ _ h => h) (by rfl) ?_ hHeld ?_
  rotate_left
  · (intro w hSw; (try dsimp only at hSw); go_simp; all_goals with_reducible rfl)
  try simp only [Act.put, List.setIfInBounds_toArray, List.set_cons_zero, List.set_cons_succ]
  refine held_yes (i := 1) (some 16) (v := ?_) rfl rfl (by kernel_rfl) (by kernel_rfl) (by kernel_rfl) (fun _ _ _ h => h) (by rfl) ?_ hHeld ?_
  rotate_left
  · (intro w hSw; (try dsimp only at hSw); go_simp; all_goals with_reducible rfl)
  try simp only [Act.put, List.setIfInBounds_toArray, List.set_cons_zero, List.set_cons_succ]
  refine held_yes (i := 2) (some 17) (v := ?_) rfl rfl (by kernel_rfl) (by kernel_rfl) (by kernel_rfl) (fun _ _ _ h => h) (by rfl) ?_ hHeld ?_
  rotate_left
  · (intro w hSw; (try dsimp only at hSw); go_simp; all_goals with_reducible rfl)
  try simp only [Act.put, List.setIfInBounds_toArray, List.set_cons_zero, List.set_cons_succ]
  refine held_yes (i := 3) (some 18) (v := ?_) rfl rfl (by kernel_rfl) (by kernel_rfl) (by kernel_rfl) (fun _ _ _ h => h) (by rfl) ?_ hHeld ?_
  rotate_left
  · (intro w hSw; (try dsimp only at hSw); go_simp; all_goals with_reducible rfl)
  try simp only [Act.put, List.setIfInBounds_toArray, List.set_cons_zero, List.set_cons_succ]
  refine held_yes (i := 4) (some 19) (v := ?_) rfl rfl (by kernel_rfl) (by kernel_rfl) (by kernel_rfl) (fun _ _ _ h => h) (by rfl) ?_ hHeld ?_
  rotate_left
  · (intro w hSw; (try dsimp only at hSw); go_simp; all_goals with_reducible rfl)
  try simp only [Act.put, List.setIfInBounds_toArray, List.set_cons_zero, List.set_cons_succ]
  refine held_yes (i := 5) (some 20) (v := ?_) rfl rfl (by kernel_rfl) (by kernel_rfl) (by kernel_rfl) (fun _ _ _ h => h) (by rfl) ?_ hHeld ?_
  rotate_left
  · (intro w hSw; (try dsimp only at hSw); go_simp; all_goals with_reducible rfl)
  try simp only [Act.put, List.setIfInBounds_toArray, List.set_cons_zero, List.set_cons_succ]
  refine held_yes (i := 6) (some 21) (v := ?_) rfl rfl (by kernel_rfl) (by kernel_rfl) (by kernel_rfl) (fun _ _ _ h => h) (by rfl) ?_ hHeld ?_
  rotate_left
  · (intro w hSw; (try dsimp only at hSw); go_simp; all_goals with_reducible rfl)
  try simp only [Act.put, List.setIfInBounds_toArray, List.set_cons_zero, List.set_cons_succ]
  refine held_yes (i := 7) (some 22) (v := ?_) rfl rfl (by kernel_rfl) (by kernel_rfl) (by kernel_rfl) (fun _ _ _ h => h) (by rfl) ?_ hHeld ?_
  rotate_left
  · (intro w hSw; (try dsimp only at hSw); go_simp; all_goals with_reducible rfl)
  try simp only [Act.put, List.setIfInBounds_toArray, List.set_cons_zero, List.set_cons_succ]
  refine held_yes (i := 8) (some 23) (v := ?_) rfl rfl (by kernel_rfl) (by kernel_rfl) (by kernel_rfl) (fun _ _ _ h => h) (by rfl) ?_ hHeld ?_
  rotate_left
  · (intro w hSw; (try dsimp only at hSw); go_simp; all_goals with_reducible rfl)
  try simp only [Act.put, List.setIfInBounds_toArray, List.set_cons_zero, List.set_cons_succ]
  refine held_yes (i := 9) (some 24) (v := ?_) rfl rfl (by kernel_rfl) (by kernel_rfl) (by kernel_rfl) (fun _ _ _ h => h) (by rfl) ?_ hHeld ?_
  rotate_left
  · (intro w hSw; (try dsimp only at hSw); go_simp; all_goals with_reducible rfl)
  try simp only [Act.put, List.setIfInBounds_toArray, List.set_cons_zero, List.set_cons_succ]
  refine held_yes (i := 10) (some 25) (v := ?_) rfl rfl (by kernel_rfl) (by kernel_rfl) (by kernel_rfl) (fun _ _ _ h => h) (by rfl) ?_ hHeld ?_
  rotate_left
  · (intro w hSw; (try dsimp only at hSw); go_simp; all_goals with_reducible rfl)
  try simp only [Act.put, List.setIfInBounds_toArray, List.set_cons_zero, List.set_cons_succ]
  refine held_yes (i := 11) (some 26) (v := ?_) rfl rfl (by kernel_rfl) (by kernel_rfl) (by kernel_rfl) (fun _ _ _ h => h) (by rfl) ?_ hHeld ?_
  rotate_left
  · (intro w hSw; (try dsimp only at hSw); go_simp; all_goals with_reducible rfl)
  try simp only [Act.put, List.setIfInBounds_toArray, List.set_cons_zero, List.set_cons_succ]
  refine held_yes (i := 12) (some 27) (v := ?_) rfl rfl (by kernel_rfl) (by kernel_rfl) (by kernel_rfl) (fun _ _ _ h => h) (by rfl) ?_ hHeld ?_
  rotate_left
  · (intro w hSw; (try dsimp only at hSw); go_simp; all_goals with_reducible rfl)
  try simp only [Act.put, List.setIfInBounds_toArray, List.set_cons_zero, List.set_cons_succ]
  refine held_yes (i := 13) (some 28) (v := ?_) rfl rfl (by kernel_rfl) (by kernel_rfl) (by kernel_rfl) (fun _ _ _ h => h) (by rfl) ?_ hHeld ?_
  rotate_left
  · (intro w hSw; (try dsimp only at hSw); go_simp; all_goals with_reducible rfl)
  try simp only [Act.put, List.setIfInBounds_toArray, List.set_cons_zero, List.set_cons_succ]
  refine held_yes (i := 14) (some 29) (v := ?_) rfl rfl (by kernel_rfl) (by kernel_rfl) (by kernel_rfl) (fun _ _ _ h => h) (by rfl) ?_ hHeld ?_
  rotate_left
  · (intro w hSw; (try dsimp only at hSw); go_simp; all_goals with_reducible rfl)
  try simp only [Act.put, List.setIfInBounds_toArray, List.set_cons_zero, List.set_cons_succ]
  refine held_yes (i := 15) (some 30) (v := ?_) rfl rfl (by kernel_rfl) (by kernel_rfl) (by kernel_rfl) (fun _ _ _ h => h) (by rfl) ?_ hHeld ?_
  rotate_left
  · (intro w hSw; (try dsimp only at hSw); go_simp; all_goals with_reducible rfl)
  try simp only [Act.put, List.setIfInBounds_toArray, List.set_cons_zero, List.set_cons_succ]
  refine wpAnyH_ready (rs := [16]) (by kernel_rfl) (by simp) ?_
  refine AllReadyH.cons rfl (fun K' hK' => ?_) AllReadyH.nil
  go_simp
  (go_at_call 38; refine (rlvalid_any r d s.n _).mono ?_; rw [hv]; rintro e w2 ⟨rfl, b2⟩; have b2' := bdrew b2; have q0 := bcell b2' e0; have q1 := bcell b2' e1; have q2 := bcell b2' c0; have T2 := Lib.hid (HT.out.below b2'); have B2 := Lib.hid (bchain HB.out b2'); clear b2 b2')
  go_wp2_with fail
  refine hK'.out _ _ ?_ (fun hHeld => ?_)
  · first | exact ⟨by assumption, by assumption, by assumption⟩ | go_keep
  clear hK' K'
  try dsimp only at hHeld
  try simp only [Act.put, List.setIfInBounds_toArray, List.set_cons_zero, List.set_cons_succ]
  refine held_yes (i := 17) (some 32) (v := ?_) rfl rfl (by kernel_rfl) (by kernel_rfl) (by kernel_rfl) (fun _ _ _ h => h) (by rfl) ?_ hHeld ?_
  rotate_left
  · (intro w hSw; (try dsimp only at hSw); go_simp; all_goals with_reducible rfl)
  try simp only [Act.put, List.setIfInBounds_toArray, List.set_cons_zero, List.set_cons_succ]
  refine held_yes (i := 18) (some 33) (v := ?_) rfl rfl (by kernel_rfl) (by kernel_rfl) (by kernel_rfl) (fun _ _ _ h => h) (by rfl) ?_ hHeld ?_
  rotate_left
  · (intro w hSw; (try dsimp only at hSw); go_simp; all_goals with_reducible rfl)
  try simp only [Act.put, List.setIfInBounds_toArray, List.set_cons_zero, List.set_cons_succ]
  refine wpAnyH_done (by kernel_rfl) ?_ _
  go_upto_region 7 with (first
    | (go_at_call 39; refine (rlcheck_any p s.base k v _ T2.out.c1).mono ?_; rw [HCK.out]; rintro e w' ⟨rfl, rfl⟩)
    | (go_at_call 40; refine (rlget_any p v0 s R k _ T2.out _ _ _ _ _ _ HK.out).mono ?_; rintro e w3 ⟨rfl, b3⟩; have T3 := Lib.hid (T2.out.below b3); have B3 := Lib.hid (bchain B2.out b3); have m0 := bcell b3 q0; have m1 := bcell b3 q1; clear b3))
  have hb4 := box_below w3 (.cells #[.int .i64 k, .bool kc, .string kv, .int .i64 kr, .int .i64 kd, .string kvo, .int .u64 (ks : Int)] 87)
  have T4 := Lib.hid (T3.out.below hb4)
  have B4 := Lib.hid (bchain B3.out hb4)
  have z0 := bcell hb4 m0
  have z1 := bcell hb4 m1
  have KB := Lib.hid (Blk.new w3 87 #[.int .i64 k, .bool kc, .string kv, .int .i64 kr, .int .i64 kd, .string kvo, .int .u64 (ks : Int)])
  have hrl := T3.out.rowlt
  have hplt := T3.out.blk.lt
  have hwb := B3.out.size
  have hbl : w.heap.size < w3.heap.size := by obtain ⟨o, ho, _⟩ := cells_of_cell m0; exact (Array.getElem?_eq_some_iff.1 ho).1
  generalize (w3.alloc (.cells #[.int .i64 k, .bool kc, .string kv, .int .i64 kr, .int .i64 kd, .string kvo, .int .u64 (ks : Int)] 87)) = W4 at *
  obtain ⟨kb, hkb⟩ : ∃ kb, kb = w3.heap.size := ⟨_, rfl⟩
  rw [← hkb] at KB hrl hplt hbl hwb ⊢
  obtain ⟨ba, hba⟩ : ∃ ba, ba = w.heap.size := ⟨_, rfl⟩
  rw [← hba] at z0 z1 hbl ⊢
  have HRL := Lib.hid hrl
  have hkb3 : w.heap.size ≤ kb := by omega
  have nbb : ¬ ba = kb := by omega
  have npb : ¬ p = kb := by omega
  have npa : ¬ p = ba := by omega
  clear hkb hba hb4 m0 m1 T2 B2 T3 B3 hrl hwb hplt q0 q1 q2 e0 e1 c0
  have x1 := KB.out.cell (i := 1) (v := .bool kc) rfl
  have x2 := KB.out.cell (i := 2) (v := .string kv) rfl
  have x3 := KB.out.cell (i := 3) (v := .int .i64 kr) rfl
  have x4 := KB.out.cell (i := 4) (v := .int .i64 kd) rfl
  have x5 := KB.out.cell (i := 5) (v := .string kvo) rfl

  go_wp2_with (first | (go_at_call 41; refine (rlbelow_any r d kr kd _).mono ?_; rw [ho']; rintro e w5 ⟨rfl, b5⟩; have T5 := Lib.hid (T4.out.below b5); have B5 := Lib.hid (B4.out.trans (b5.mono B4.out.size)); clear b5))
  go_returns
  exact ⟨rfl, v0, R, T5.out, (Fr.of_below B5.out)⟩

set_option maxRecDepth 100000 in
set_option maxHeartbeats 4000000 in
theorem rladd_bad (p : Nat) (v0 : Value) (s : LSt) (R : KL) (node r d k : Int) (v : ByteArray) (w : World) (h : RLAt w p v0 s R) (hV : isV s.n node r d = true) (hE : lchk s.base false k v.size = 0) (ho : ¬ ordB (r, d) ((kget k s.L).r, (kget k s.L).d) < 0) (hbd : adBad (kget k s.L) r d v) :
    Calls Try.prog 22 #[.pointer (some ⟨p, 0, none⟩), .int .i64 node, balV r d, .int .i64 k, .string v] w (RAddPost p s s false 9 w) := by
  have hEq := fun (a b c d : Int) (w : World) => eqBal a b c d w
  have hGq := eqGBal
  have hb := box_below w (.cells #[.int .i64 r, .int .i64 d] 31)
  have HT := Lib.hid (h.below hb)
  have HB := Lib.hid hb
  have b1 := Blk.new w 31 #[.int .i64 r, .int .i64 d]
  have e0 := b1.cell (i := 0) (v := .int .i64 r) rfl
  have e1 := b1.cell (i := 1) (v := .int .i64 d) rfl
  have c0 := HT.out.c0
  have hlt0 := h.blk.lt
  have hVV := hV
  rw [isV_val _ _ _ h.good.n, Bool.and_eq_true, decide_eq_true_eq] at hVV
  have hv := hVV.2
  have n0 : decide ((node : Int) < 0) = false := by first | (simp; done) | (simp; omega)
  have n1 : decide ((node : Int) ≥ (s.n : Int)) = false := by simp; omega
  have hg := h.good
  clear hVV hb b1
  have HCK := Lib.hid hE
  obtain ⟨⟨kc, kv, kr, kd, kvo, ks⟩, hk⟩ : ∃ e, kget k s.L = e := ⟨_, rfl⟩
  have HK := Lib.hid hk
  rw [hk] at ho hbd
  have ho' : decide (ordB (r, d) (kr, kd) < 0) = false := by simpa using ho
  have hbad : (kr = r ∧ kd = d ∧ v ≠ kvo) ∨ (kc = true ∧ v ≠ kv ∧ ¬ (kr = r ∧ kd = d ∧ v ≠ kvo)) := by
    rcases hbd with h1 | h1
    · exact .inl h1
    · by_cases h2 : kr = r ∧ kd = d ∧ v ≠ kvo
      · exact .inl h2
      · exact .inr ⟨h1.1, h1.2, h2⟩
  clear h hE hV hg hk ho hbd
  go_enter Try.func22, Try.ntmps22
  go_wp2_with fail
  refine wp_region_held_drew (S := (fun W => W.cell? ⟨w.heap.size, 0, none⟩ = some (.int .i64 r) ∧ W.cell? ⟨w.heap.size, 1, none⟩ = some (.int .i64 d) ∧ W.cell? ⟨p, 0, none⟩ = some (.int .i64 (s.n : Int)))) (by kernel_rfl) ?_ (fun hHeld => ?_)
  · exact ⟨by assumption, by assumption, by assumption⟩
  try dsimp only at hHeld
  refine held_yes (i := 0) (some 15) (v := ?_) rfl rfl (by kernel_rfl) (by kernel_rfl) (by kernel_rfl) (fun _ _ _ h => h) (by rfl) ?_ hHeld ?_
  rotate_left
  · (intro w hSw; (try dsimp only at hSw); go_simp; all_goals with_reducible rfl)
  try simp only [Act.put, List.setIfInBounds_toArray, List.set_cons_zero, List.set_cons_succ]
  refine held_yes (i := 1) (some 16) (v := ?_) rfl rfl (by kernel_rfl) (by kernel_rfl) (by kernel_rfl) (fun _ _ _ h => h) (by rfl) ?_ hHeld ?_
  rotate_left
  · (intro w hSw; (try dsimp only at hSw); go_simp; all_goals with_reducible rfl)
  try simp only [Act.put, List.setIfInBounds_toArray, List.set_cons_zero, List.set_cons_succ]
  refine held_yes (i := 2) (some 17) (v := ?_) rfl rfl (by kernel_rfl) (by kernel_rfl) (by kernel_rfl) (fun _ _ _ h => h) (by rfl) ?_ hHeld ?_
  rotate_left
  · (intro w hSw; (try dsimp only at hSw); go_simp; all_goals with_reducible rfl)
  try simp only [Act.put, List.setIfInBounds_toArray, List.set_cons_zero, List.set_cons_succ]
  refine held_yes (i := 3) (some 18) (v := ?_) rfl rfl (by kernel_rfl) (by kernel_rfl) (by kernel_rfl) (fun _ _ _ h => h) (by rfl) ?_ hHeld ?_
  rotate_left
  · (intro w hSw; (try dsimp only at hSw); go_simp; all_goals with_reducible rfl)
  try simp only [Act.put, List.setIfInBounds_toArray, List.set_cons_zero, List.set_cons_succ]
  refine held_yes (i := 4) (some 19) (v := ?_) rfl rfl (by kernel_rfl) (by kernel_rfl) (by kernel_rfl) (fun _ _ _ h => h) (by rfl) ?_ hHeld ?_
  rotate_left
  · (intro w hSw; (try dsimp only at hSw); go_simp; all_goals with_reducible rfl)
  try simp only [Act.put, List.setIfInBounds_toArray, List.set_cons_zero, List.set_cons_succ]
  refine held_yes (i := 5) (some 20) (v := ?_) rfl rfl (by kernel_rfl) (by kernel_rfl) (by kernel_rfl) (fun _ _ _ h => h) (by rfl) ?_ hHeld ?_
  rotate_left
  · (intro w hSw; (try dsimp only at hSw); go_simp; all_goals with_reducible rfl)
  try simp only [Act.put, List.setIfInBounds_toArray, List.set_cons_zero, List.set_cons_succ]
  refine held_yes (i := 6) (some 21) (v := ?_) rfl rfl (by kernel_rfl) (by kernel_rfl) (by kernel_rfl) (fun _ _ _ h => h) (by rfl) ?_ hHeld ?_
  rotate_left
  · (intro w hSw; (try dsimp only at hSw); go_simp; all_goals with_reducible rfl)
  try simp only [Act.put, List.setIfInBounds_toArray, List.set_cons_zero, List.set_cons_succ]
  refine held_yes (i := 7) (some 22) (v := ?_) rfl rfl (by kernel_rfl) (by kernel_rfl) (by kernel_rfl) (fun _ _ _ h => h) (by rfl) ?_ hHeld ?_
  rotate_left
  · (intro w hSw; (try dsimp only at hSw); go_simp; all_goals with_reducible rfl)
  try simp only [Act.put, List.setIfInBounds_toArray, List.set_cons_zero, List.set_cons_succ]
  refine held_yes (i := 8) (some 23) (v := ?_) rfl rfl (by kernel_rfl) (by kernel_rfl) (by kernel_rfl) (fun _ _ _ h => h) (by rfl) ?_ hHeld ?_
  rotate_left
  · (intro w hSw; (try dsimp only at hSw); go_simp; all_goals with_reducible rfl)
  try simp only [Act.put, List.setIfInBounds_toArray, List.set_cons_zero, List.set_cons_succ]
  refine held_yes (i := 9) (some 24) (v := ?_) rfl rfl (by kernel_rfl) (by kernel_rfl) (by kernel_rfl) (fun _ _ _ h => h) (by rfl) ?_ hHeld ?_
  rotate_left
  · (intro w hSw; (try dsimp only at hSw); go_simp; all_goals with_reducible rfl)
  try simp only [Act.put, List.setIfInBounds_toArray, List.set_cons_zero, List.set_cons_succ]
  refine held_yes (i := 10) (some 25) (v := ?_) rfl rfl (by kernel_rfl) (by kernel_rfl) (by kernel_rfl) (fun _ _ _ h => h) (by rfl) ?_ hHeld ?_
  rotate_left
  · (intro w hSw; (try dsimp only at hSw); go_simp; all_goals with_reducible rfl)
  try simp only [Act.put, List.setIfInBounds_toArray, List.set_cons_zero, List.set_cons_succ]
  refine held_yes (i := 11) (some 26) (v := ?_) rfl rfl (by kernel_rfl) (by kernel_rfl) (by kernel_rfl) (fun _ _ _ h => h) (by rfl) ?_ hHeld ?_
  rotate_left
  · (intro w hSw; (try dsimp only at hSw); go_simp; all_goals with_reducible rfl)
  try simp only [Act.put, List.setIfInBounds_toArray, List.set_cons_zero, List.set_cons_succ]
  refine held_yes (i := 12) (some 27) (v := ?_) rfl rfl (by kernel_rfl) (by kernel_rfl) (by kernel_rfl) (fun _ _ _ h => h) (by rfl) ?_ hHeld ?_
  rotate_left
  · (intro w hSw; (try dsimp only at hSw); go_simp; all_goals with_reducible rfl)
  try simp only [Act.put, List.setIfInBounds_toArray, List.set_cons_zero, List.set_cons_succ]
  refine held_yes (i := 13) (some 28) (v := ?_) rfl rfl (by kernel_rfl) (by kernel_rfl) (by kernel_rfl) (fun _ _ _ h => h) (by rfl) ?_ hHeld ?_
  rotate_left
  · (intro w hSw; (try dsimp only at hSw); go_simp; all_goals with_reducible rfl)
  try simp only [Act.put, List.setIfInBounds_toArray, List.set_cons_zero, List.set_cons_succ]
  refine held_yes (i := 14) (some 29) (v := ?_) rfl rfl (by kernel_rfl) (by kernel_rfl) (by kernel_rfl) (fun _ _ _ h => h) (by rfl) ?_ hHeld ?_
  rotate_left
  · (intro w hSw; (try dsimp only at hSw); go_simp; all_goals with_reducible rfl)
  try simp only [Act.put, List.setIfInBounds_toArray, List.set_cons_zero, List.set_cons_succ]
  refine held_yes (i := 15) (some 30) (v := ?_) rfl rfl (by kernel_rfl) (by kernel_rfl) (by kernel_rfl) (fun _ _ _ h => h) (by rfl) ?_ hHeld ?_
  rotate_left
  · (intro w hSw; (try dsimp only at hSw); go_simp; all_goals with_reducible rfl)
  try simp only [Act.put, List.setIfInBounds_toArray, List.set_cons_zero, List.set_cons_succ]
  refine wpAnyH_ready (rs := [16]) (by kernel_rfl) (by simp) ?_
  refine AllReadyH.cons rfl (fun K' hK' => ?_) AllReadyH.nil
  go_simp
  (go_at_call 38; refine (rlvalid_any r d s.n _).mono ?_; rw [hv]; rintro e w2 ⟨rfl, b2⟩; have b2' := bdrew b2; have q0 := bcell b2' e0; have q1 := bcell b2' e1; have q2 := bcell b2' c0; have T2 := Lib.hid (HT.out.below b2'); have B2 := Lib.hid (bchain HB.out b2'); clear b2 b2')
  go_wp2_with fail
  refine hK'.out _ _ ?_ (fun hHeld => ?_)
  · first | exact ⟨by assumption, by assumption, by assumption⟩ | go_keep
  clear hK' K'
  try dsimp only at hHeld
  try simp only [Act.put, List.setIfInBounds_toArray, List.set_cons_zero, List.set_cons_succ]
  refine held_yes (i := 17) (some 32) (v := ?_) rfl rfl (by kernel_rfl) (by kernel_rfl) (by kernel_rfl) (fun _ _ _ h => h) (by rfl) ?_ hHeld ?_
  rotate_left
  · (intro w hSw; (try dsimp only at hSw); go_simp; all_goals with_reducible rfl)
  try simp only [Act.put, List.setIfInBounds_toArray, List.set_cons_zero, List.set_cons_succ]
  refine held_yes (i := 18) (some 33) (v := ?_) rfl rfl (by kernel_rfl) (by kernel_rfl) (by kernel_rfl) (fun _ _ _ h => h) (by rfl) ?_ hHeld ?_
  rotate_left
  · (intro w hSw; (try dsimp only at hSw); go_simp; all_goals with_reducible rfl)
  try simp only [Act.put, List.setIfInBounds_toArray, List.set_cons_zero, List.set_cons_succ]
  refine wpAnyH_done (by kernel_rfl) ?_ _
  go_upto_region 7 with (first
    | (go_at_call 39; refine (rlcheck_any p s.base k v _ T2.out.c1).mono ?_; rw [HCK.out]; rintro e w' ⟨rfl, rfl⟩)
    | (go_at_call 40; refine (rlget_any p v0 s R k _ T2.out _ _ _ _ _ _ HK.out).mono ?_; rintro e w3 ⟨rfl, b3⟩; have T3 := Lib.hid (T2.out.below b3); have B3 := Lib.hid (bchain B2.out b3); have m0 := bcell b3 q0; have m1 := bcell b3 q1; clear b3))
  have hb4 := box_below w3 (.cells #[.int .i64 k, .bool kc, .string kv, .int .i64 kr, .int .i64 kd, .string kvo, .int .u64 (ks : Int)] 87)
  have T4 := Lib.hid (T3.out.below hb4)
  have B4 := Lib.hid (bchain B3.out hb4)
  have z0 := bcell hb4 m0
  have z1 := bcell hb4 m1
  have KB := Lib.hid (Blk.new w3 87 #[.int .i64 k, .bool kc, .string kv, .int .i64 kr, .int .i64 kd, .string kvo, .int .u64 (ks : Int)])
  have hrl := T3.out.rowlt
  have hplt := T3.out.blk.lt
  have hwb := B3.out.size
  have hbl : w.heap.size < w3.heap.size := by obtain ⟨o, ho, _⟩ := cells_of_cell m0; exact (Array.getElem?_eq_some_iff.1 ho).1
  generalize (w3.alloc (.cells #[.int .i64 k, .bool kc, .string kv, .int .i64 kr, .int .i64 kd, .string kvo, .int .u64 (ks : Int)] 87)) = W4 at *
  obtain ⟨kb, hkb⟩ : ∃ kb, kb = w3.heap.size := ⟨_, rfl⟩
  rw [← hkb] at KB hrl hplt hbl hwb ⊢
  obtain ⟨ba, hba⟩ : ∃ ba, ba = w.heap.size := ⟨_, rfl⟩
  rw [← hba] at z0 z1 hbl ⊢
  have HRL := Lib.hid hrl
  have hkb3 : w.heap.size ≤ kb := by omega
  have nbb : ¬ ba = kb := by omega
  have npb : ¬ p = kb := by omega
  have npa : ¬ p = ba := by omega
  clear hkb hba hb4 m0 m1 T2 B2 T3 B3 hrl hwb hplt q0 q1 q2 e0 e1 c0
  have x1 := KB.out.cell (i := 1) (v := .bool kc) rfl
  have x2 := KB.out.cell (i := 2) (v := .string kv) rfl
  have x3 := KB.out.cell (i := 3) (v := .int .i64 kr) rfl
  have x4 := KB.out.cell (i := 4) (v := .int .i64 kd) rfl
  have x5 := KB.out.cell (i := 5) (v := .string kvo) rfl
  go_upto_region 9 with (first | (go_at_call 41; refine (rlbelow_any r d kr kd _).mono ?_; rw [ho']; rintro e w5 ⟨rfl, b5⟩; have T5 := Lib.hid (T4.out.below b5); have B5 := Lib.hid (B4.out.trans (b5.mono B4.out.size)); have K5 := Lib.hid (KB.out.bel b5); have t0 := bcell b5 z0; have t1 := bcell b5 z1; have y1 := bcell b5 x1; have y2 := bcell b5 x2; have y3 := bcell b5 x3; have y4 := bcell b5 x4; have y5 := bcell b5 x5; have TB := Lib.hid (And.intro t0 t1); clear b5))
  clear z0 z1 x1 x2 x3 x4 x5 T4 B4 KB
  rcases hbad with ⟨rfl, rfl, hne⟩ | ⟨rfl, hne, hno⟩
  · have hv1 : (v.toList == kvo.toList) = false := by rw [str_eq]; simpa using hne
    clear hne
    go_wp2_with fail
    go_returns
    exact ⟨rfl, v0, R, T5.out, (Fr.of_below B5.out)⟩
  · have hv1 : (v.toList == kv.toList) = false := by rw [str_eq]; simpa using hne
    by_cases h4 : kr = r ∧ kd = d
    · obtain ⟨rfl, rfl⟩ := h4
      have hv2 : v = kvo := Classical.byContradiction fun hc => hno ⟨rfl, rfl, hc⟩
      subst hv2
      clear hne hno
      go_wp2_with fail
      go_returns
      exact ⟨rfl, v0, R, T5.out, (Fr.of_below B5.out)⟩
    · have hzz : (r == kr && d == kd) = false := by
        rw [Bool.eq_false_iff]
        intro hc
        simp at hc
        exact h4 ⟨hc.1.symm, hc.2.symm⟩
      have HZZ := Lib.hid hzz
      have hEz : ∀ w : World, (Op.equalIn 10000 31 (.agg #[.int .i64 r, .int .i64 d]) (.agg #[.int .i64 kr, .int .i64 kd])).run Try.prog w = .ok false w := fun w => by rw [hEq, HZZ.out]
      clear hEq hzz h4 hne hno
      go_wp2_with fail
      go_returns
      exact ⟨rfl, v0, R, T5.out, (Fr.of_below B5.out)⟩

end Go.Proofs.Ytnnadpbfidfhoaa
