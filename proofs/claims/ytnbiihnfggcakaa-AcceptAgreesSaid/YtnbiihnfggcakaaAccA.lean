/- Package accept: the acceptor in memory; valid, good, New, Promised, Base, Accepted. -/
import Derived.Test.YtnbiihnfggcakaaBallot
set_option linter.unusedVariables false
set_option linter.unusedSimpArgs false
namespace Go.Proofs.Ytnbiihnfggcakaa
open Go.RowKit Go.Maps

/-- What was accepted at a slot: the ballot's round and node, the value. -/
abbrev Ent := Int × Int × ByteArray
/-- An entry as a value. -/
abbrev entV (s : Int) (e : Ent) : Value := .agg #[.int .i64 s, .int .i64 e.1, .int .i64 e.2.1, .string e.2.2]
abbrev EL := List (Int × Ent)

/-- The acceptor at the block p, its map at the block m: the nodes n, the ballot (r, d), the base, the entries L. -/
structure AccAt (w : World) (p m : Nat) (n r d base : Int) (L : EL) : Prop where
  blk : Blk w p 56 #[.int .i64 n, .int .i64 r, .int .i64 d, .map (some m), .int .i64 base]
  map : MapIs Try.prog 3 w m (encF entV L)

namespace AccAt
variable {w w' : World} {p m : Nat} {n r d base : Int} {L : EL}
theorem ne (h : AccAt w p m n r d base L) : p ≠ m := by
  obtain ⟨es, c, hm⟩ := h.map.block
  exact h.blk.ne_map hm
theorem fr {S : Nat → Prop} (h : AccAt w p m n r d base L) (k : Fr S w w') (hp : ¬ S p) (hm : ¬ S m) : AccAt w' p m n r d base L := ⟨h.blk.fr k hp, h.map.of_block (k.block m h.map.lt hm)⟩
theorem drew (h : AccAt w p m n r d base L) : AccAt w.drew p m n r d base L := ⟨h.blk, h.map⟩
theorem drewN (h : AccAt w p m n r d base L) (k : Nat) : AccAt (w.drewN k) p m n r d base L := ⟨h.blk, h.map⟩
theorem alloc (h : AccAt w p m n r d base L) (o : Obj) : AccAt (w.alloc o) p m n r d base L := ⟨h.blk.alloc o, h.map.of_block (Below.heap_alloc w o m h.map.lt)⟩
theorem below (h : AccAt w p m n r d base L) (k : Below w.heap.size w w') : AccAt w' p m n r d base L := h.fr (Fr.of_below k : Fr S0 w w') (fun h => h) (fun h => h)
theorem lt (h : AccAt w p m n r d base L) : p < w.heap.size ∧ m < w.heap.size := ⟨h.blk.lt, h.map.lt⟩
theorem c0 (h : AccAt w p m n r d base L) : w.cell? ⟨p, 0, none⟩ = some (.int .i64 n) := h.blk.cell rfl
theorem c1 (h : AccAt w p m n r d base L) : w.cell? ⟨p, 1, none⟩ = some (.int .i64 r) := h.blk.cell rfl
theorem c2 (h : AccAt w p m n r d base L) : w.cell? ⟨p, 2, none⟩ = some (.int .i64 d) := h.blk.cell rfl
theorem c3 (h : AccAt w p m n r d base L) : w.cell? ⟨p, 3, none⟩ = some (.map (some m)) := h.blk.cell rfl
theorem c4 (h : AccAt w p m n r d base L) : w.cell? ⟨p, 4, none⟩ = some (.int .i64 base) := h.blk.cell rfl
end AccAt

theorem wf64 {n : Int} (h : -9223372036854775808 ≤ n ∧ n ≤ 9223372036854775807) : (Lit.int .i64 n).wf = true := WalkArith.wf_i64 h
theorem zeroEnt (w : World) : (zeroValue 43).run Try.prog w = .ok (entV 0 (0, 0, ⟨#[]⟩)) w := by kernel_rfl

theorem avalid (p : Nat) (n : Int) (w : World) (h : w.cell? ⟨p, 0, none⟩ = some (.int .i64 n)) (hn : 0 < n) :
    Calls Try.prog 38 #[.pointer (some ⟨p, 0, none⟩)] w fun e w' => e = .returned (.bool true) ∧ w = w' := by
  go_enter Try.func38, Try.ntmps38
  go_wp2
  go_ret
  exact ⟨rfl, rfl⟩
theorem avalid_zero (p : Nat) (w : World) (h : w.cell? ⟨p, 0, none⟩ = some (.int .i64 0)) :
    Calls Try.prog 38 #[.pointer (some ⟨p, 0, none⟩)] w fun e w' => e = .returned (.bool false) ∧ w = w' := by
  go_enter Try.func38, Try.ntmps38
  go_wp2
  go_ret
  exact ⟨rfl, rfl⟩
theorem avalid_nil (w : World) :
    Calls Try.prog 38 #[.pointer none] w fun e w' => e = .returned (.bool false) ∧ w = w' := by
  go_enter Try.func38, Try.ntmps38
  go_wp2
  go_ret
  exact ⟨rfl, rfl⟩

def okN (n : Int) : Prop := 1 ≤ n ∧ n ≤ 7
theorem new_yes (n : Int) (w : World) (hn : okN n) : Calls Try.prog 14 #[.int .i64 n] w fun e w' => ∃ p m, e = .returned (.tuple #[.pointer (some ⟨p, 0, none⟩), .int .i64 0]) ∧ AccAt w' p m n 0 0 0 [] ∧ w.heap.size ≤ p ∧ w.heap.size ≤ m ∧ Below w.heap.size w w' := by
  obtain ⟨h1, h2⟩ := hn
  have hmm := @run_makeMap Try.prog
  have h1' : decide (n < 1) = false := by simp; omega
  have h2' : decide (n > 7) = false := by simp; omega
  clear h1 h2
  go_enter Try.func14, Try.ntmps14
  go_wp2
  go_ret2
  refine ⟨w.heap.size + 1, w.heap.size, rfl, ⟨?_, (MapIs.made w _ _).of_block (Below.heap_alloc _ _ _ (by simp))⟩, by omega, Nat.le_refl _, ((Below.refl _ _).alloc (Nat.le_refl _) _).alloc (by simp) _⟩
  have := Blk.new (w.alloc (.map #[] 0)) 56 #[.int .i64 n, .int .i64 0, .int .i64 0, .map (some w.heap.size), .int .i64 0]
  rwa [World.size_alloc] at this
theorem new_bad (n : Int) (w : World) (hn : ¬ okN n) : Calls Try.prog 14 #[.int .i64 n] w fun e w' => e = .returned (.tuple #[.pointer none, .int .i64 2]) ∧ w = w' := by
  by_cases h1 : n < 1
  · clear hn
    go_enter Try.func14, Try.ntmps14
    go_wp2
    go_ret2
    exact ⟨rfl, rfl⟩
  · have h2 : n > 7 := by unfold okN at hn; omega
    have h1' : decide (n < 1) = false := by simpa using h1
    clear hn h1
    go_enter Try.func14, Try.ntmps14
    go_wp2
    go_ret2
    exact ⟨rfl, rfl⟩

theorem base_any (p m : Nat) (n r d base : Int) (L : EL) (w : World) (h : AccAt w p m n r d base L) (hn : 0 < n) :
    Calls Try.prog 17 #[.pointer (some ⟨p, 0, none⟩)] w fun e w' => e = .returned (.int .i64 base) ∧ w = w' := by
  have c0 := h.c0
  have c4 := h.c4
  clear h
  go_enter Try.func17, Try.ntmps17
  go_wp2_with (go_at_call 38; refine (avalid p n _ c0 hn).mono ?_; rintro e w' ⟨rfl, rfl⟩)
  go_ret
  exact ⟨rfl, rfl⟩

theorem promised_any (p m : Nat) (n r d base : Int) (L : EL) (w : World) (h : AccAt w p m n r d base L) (hn : 0 < n) :
    Calls Try.prog 15 #[.pointer (some ⟨p, 0, none⟩)] w fun e w' => e = .returned (balV r d) ∧ Below w.heap.size w w' := by
  have c0 := h.c0
  have c1 := h.c1
  have c2 := h.c2
  have hb := box_below w (.cells #[.int .i64 0, .int .i64 0] 30)
  have k0 := bcell hb c0
  have k1 := bcell hb c1
  have k2 := bcell hb c2
  have f0 := (Blk.new w 30 #[.int .i64 0, .int .i64 0]).frozen 0
  have f1 := (Blk.new w 30 #[.int .i64 0, .int .i64 0]).frozen 1
  have HB := Lib.hid hb
  clear h hb
  go_enter Try.func15, Try.ntmps15
  go_wp2_with (go_at_call 38; refine (avalid p n _ k0 hn).mono ?_; rintro e w' ⟨rfl, rfl⟩)
  go_returns
  exact ⟨rfl, box_below _ _⟩

def goodB (n r d : Int) : Bool := !(r == 0 && d == 0) && (chkE n r d == 0)

set_option maxHeartbeats 1000000 in
theorem good_any (p m : Nat) (n r d base r1 d1 : Int) (L : EL) (w : World) (h : AccAt w p m n r d base L) (hn : 0 < n) :
    Calls Try.prog 42 #[.pointer (some ⟨p, 0, none⟩), balV r1 d1] w fun e w' => e = .returned (.bool (goodB n r1 d1)) ∧ Below w.heap.size w w' := by
  have hE := fun (a b c d : Int) (w : World) => eqBal a b c d w
  have hG := eqGBal
  have hB0 := fun w => bldBal0 w
  have c0 := h.c0
  have hb := box_below w (.cells #[.int .i64 r1, .int .i64 d1] 30)
  have k0 := bcell hb c0
  have b1 := Blk.new w 30 #[.int .i64 r1, .int .i64 d1]
  have e0 := b1.cell (i := 0) (v := .int .i64 r1) rfl
  have e1 := b1.cell (i := 1) (v := .int .i64 d1) rfl
  have HB := Lib.hid hb
  unfold goodB
  by_cases hz : r1 = 0 ∧ d1 = 0
  · obtain ⟨rfl, rfl⟩ := hz
    clear h hb b1 c0
    go_enter Try.func42, Try.ntmps42
    go_wp2_with fail
    generalize (w.alloc (.cells #[.int .i64 0, .int .i64 0] 30)) = W1 at *
    refine wp_region_held_drew (S := (fun W => W.cell? ⟨w.heap.size, 0, none⟩ = some (.int .i64 0) ∧ W.cell? ⟨w.heap.size, 1, none⟩ = some (.int .i64 0))) (by kernel_rfl) ?_ (fun hHeld => ?_)
    · exact ⟨e0, e1⟩
    try dsimp only at hHeld
    refine held_yes (i := 0) (some 5) (v := ?_) rfl rfl (by kernel_rfl) (by kernel_rfl) (by kernel_rfl) (fun _ _ _ h => h) (by rfl) ?_ hHeld ?_
    rotate_left
    · (intro w hSw; (try dsimp only at hSw); go_simp; all_goals with_reducible rfl)
    try simp only [Act.put, List.setIfInBounds_toArray, List.set_cons_zero, List.set_cons_succ]
    refine held_yes (i := 1) (some 6) (v := ?_) rfl rfl (by kernel_rfl) (by kernel_rfl) (by kernel_rfl) (fun _ _ _ h => h) (by rfl) ?_ hHeld ?_
    rotate_left
    · (intro w hSw; (try dsimp only at hSw); go_simp; all_goals with_reducible rfl)
    try simp only [Act.put, List.setIfInBounds_toArray, List.set_cons_zero, List.set_cons_succ]
    refine held_yes (i := 2) (some 7) (v := ?_) rfl rfl (by kernel_rfl) (by kernel_rfl) (by kernel_rfl) (fun _ _ _ h => h) (by rfl) ?_ hHeld ?_
    rotate_left
    · (intro w hSw; (try dsimp only at hSw); go_simp; all_goals with_reducible rfl)
    try simp only [Act.put, List.setIfInBounds_toArray, List.set_cons_zero, List.set_cons_succ]
    refine held_yes (i := 3) (some 8) (v := ?_) rfl rfl (by kernel_rfl) (by kernel_rfl) (by kernel_rfl) (fun _ _ _ h => h) (by rfl) ?_ hHeld ?_
    rotate_left
    · (intro w hSw; (try dsimp only at hSw); go_simp; all_goals with_reducible rfl)
    try simp only [Act.put, List.setIfInBounds_toArray, List.set_cons_zero, List.set_cons_succ]
    refine held_no (i := 4) (some 9) rfl rfl (by kernel_rfl) (by kernel_rfl) (by kernel_rfl) (fun _ _ _ h => h) (wanted_t rfl rfl rfl) hHeld ?_
    try simp only [Act.put, List.setIfInBounds_toArray, List.set_cons_zero, List.set_cons_succ]
    refine held_no (i := 5) (some 10) rfl rfl (by kernel_rfl) (by kernel_rfl) (by kernel_rfl) (fun _ _ _ h => h) (wanted_t rfl rfl rfl) hHeld ?_
    try simp only [Act.put, List.setIfInBounds_toArray, List.set_cons_zero, List.set_cons_succ]
    refine held_no (i := 6) (some 11) rfl rfl (by kernel_rfl) (by kernel_rfl) (by kernel_rfl) (fun _ _ _ h => h) (wanted_t rfl rfl rfl) hHeld ?_
    try simp only [Act.put, List.setIfInBounds_toArray, List.set_cons_zero, List.set_cons_succ]
    refine held_no (i := 7) (some 12) rfl rfl (by kernel_rfl) (by kernel_rfl) (by kernel_rfl) (fun _ _ _ h => h) (wanted_t rfl rfl rfl) hHeld ?_
    try simp only [Act.put, List.setIfInBounds_toArray, List.set_cons_zero, List.set_cons_succ]
    refine held_no (i := 8) (some 13) rfl rfl (by kernel_rfl) (by kernel_rfl) (by kernel_rfl) (fun _ _ _ h => h) (wanted_t rfl rfl rfl) hHeld ?_
    try simp only [Act.put, List.setIfInBounds_toArray, List.set_cons_zero, List.set_cons_succ]
    refine held_no (i := 9) (some 14) rfl rfl (by kernel_rfl) (by kernel_rfl) (by kernel_rfl) (fun _ _ _ h => h) (wanted_t rfl rfl rfl) hHeld ?_
    try simp only [Act.put, List.setIfInBounds_toArray, List.set_cons_zero, List.set_cons_succ]
    refine held_no (i := 10) (some 15) rfl rfl (by kernel_rfl) (by kernel_rfl) (by kernel_rfl) (fun _ _ _ h => h) (wanted_t rfl rfl rfl) hHeld ?_
    try simp only [Act.put, List.setIfInBounds_toArray, List.set_cons_zero, List.set_cons_succ]
    refine held_yes (i := 11) (some 16) (v := ?_) rfl rfl (by kernel_rfl) (by kernel_rfl) (by kernel_rfl) (fun _ _ _ h => h) (by rfl) ?_ hHeld ?_
    rotate_left
    · (intro w hSw; (try dsimp only at hSw); go_simp; all_goals with_reducible rfl)
    try simp only [Act.put, List.setIfInBounds_toArray, List.set_cons_zero, List.set_cons_succ]
    refine held_yes (i := 12) (some 4) (v := ?_) rfl rfl (by kernel_rfl) (by kernel_rfl) (by kernel_rfl) (fun _ _ _ h => h) (by rfl) ?_ hHeld ?_
    rotate_left
    · (intro w hSw; (try dsimp only at hSw); go_simp; all_goals with_reducible rfl)
    try simp only [Act.put, List.setIfInBounds_toArray, List.set_cons_zero, List.set_cons_succ]
    refine wpAnyH_done (by kernel_rfl) ?_ _
    go_wp2_with fail
    go_returns
    exact ⟨by simp, HB.out.drew⟩
  · have h3' : (r1 == 0 && d1 == 0) = false := by
      by_cases e : r1 = 0
      · by_cases e2 : d1 = 0
        · exact absurd ⟨e, e2⟩ hz
        · simp [e2]
      · simp [e]
    clear h hb b1 c0 hz
    go_enter Try.func42, Try.ntmps42
    go_wp2_with fail
    generalize (w.alloc (.cells #[.int .i64 r1, .int .i64 d1] 30)) = W1 at *
    go_region_held3 (fun W => W.cell? ⟨w.heap.size, 0, none⟩ = some (.int .i64 r1) ∧ W.cell? ⟨w.heap.size, 1, none⟩ = some (.int .i64 d1) ∧ W.cell? ⟨p, 0, none⟩ = some (.int .i64 n))
      (first | exact ⟨by assumption, by assumption, by assumption⟩ | go_keep)
      (first
        | (go_at_call 57; refine (check_any _ _ _ _).mono ?_; rintro e w2 ⟨rfl, b2⟩; have q0 := bcell b2 e0; have q1 := bcell b2 e1; have q2 := bcell b2 k0; have HB2 := Lib.hid b2; clear b2))
    go_wp2_with fail
    go_returns
    exact ⟨by rw [h3']; rfl, bchain HB.out ((Below.refl _ _).drew.trans (HB2.out.mono (by simp)))⟩

/-- What Accepted answers. -/
def accdV (k : Int) (L : EL) : Value := .tuple #[((get k L).map (entV k)).getD (entV 0 (0, 0, ⟨#[]⟩)), .bool (get k L).isSome]

set_option maxHeartbeats 1000000 in
theorem accepted_any (p m : Nat) (n r d base k : Int) (L : EL) (w : World) (h : AccAt w p m n r d base L) (hn : 0 < n) (hk : -9223372036854775808 ≤ k ∧ k ≤ 9223372036854775807) :
    Calls Try.prog 22 #[.pointer (some ⟨p, 0, none⟩), .int .i64 k] w fun e w' => e = .returned (accdV k L) ∧ Below w.heap.size w w' := by
  have h1 := h.alloc (.cells #[.int .i64 0, .int .i64 0, .int .i64 0, .string ⟨#[]⟩] 43)
  have c0 := h1.c0
  have c3 := h1.c3
  have HT := Lib.hid h1
  clear h h1
  unfold accdV
  cases hq : get k L with
  | none =>
    have hq2 : get k (encF entV L) = none := by rw [get_encF, hq]; rfl
    clear hq
    go_enter Try.func22, Try.ntmps22
    go_wp2_with (first
      | (go_at_call 38; refine (avalid p n _ c0 hn).mono ?_; rintro e w' ⟨rfl, rfl⟩)
      | (at_lookup; refine wpList_look _ rfl _ _ 54 rfl 3 43 Try.underlying3 Try.underlying54 (entV 0 (0, 0, ⟨#[]⟩)) (zeroEnt _) m (encF entV L) rfl HT.out.map k rfl (wf64 hk) ?_))
    go_returns
    exact ⟨rfl, ((Below.refl _ _).alloc (Nat.le_refl _) _).alloc (by simp) _⟩
  | some e =>
    have hq2 : get k (encF entV L) = some (entV k e) := by rw [get_encF, hq]; rfl
    clear hq
    go_enter Try.func22, Try.ntmps22
    go_wp2_with (first
      | (go_at_call 38; refine (avalid p n _ c0 hn).mono ?_; rintro e w' ⟨rfl, rfl⟩)
      | (at_lookup; refine wpList_look _ rfl _ _ 54 rfl 3 43 Try.underlying3 Try.underlying54 (entV 0 (0, 0, ⟨#[]⟩)) (zeroEnt _) m (encF entV L) rfl HT.out.map k rfl (wf64 hk) ?_))
    go_returns
    exact ⟨rfl, ((Below.refl _ _).alloc (Nat.le_refl _) _).alloc (by simp) _⟩
end Go.Proofs.Ytnbiihnfggcakaa
