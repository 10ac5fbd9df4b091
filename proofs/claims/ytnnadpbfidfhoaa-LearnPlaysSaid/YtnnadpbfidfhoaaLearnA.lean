/- Package learn: the learner in memory; New, valid, check, isVote, Chosen, Votes, Upto. -/
import Derived.Test.YtnnadpbfidfhoaaQuorum
import Derived.Test.YtnnadpbfidfhoaaShelf
import Derived.Deep.DeepMust
set_option linter.unusedVariables false
set_option linter.unusedSimpArgs false
namespace Go.Proofs.Ytnnadpbfidfhoaa
open Go.RowKit Go.Maps Go.Shelf

theorem Blk.bel {w w' : World} {b : Nat} {t : TypeId} {cs : Array Value} (h : Blk w b t cs) (k : Below w.heap.size w w') : Blk w' b t cs := h.fr (Fr.of_below k : Fr S0 w w') (fun h => h)
/-- What is known of a slot: chosen, its value, the ballot, the vote, the set of nodes. -/
structure Kn where
  c : Bool
  v : ByteArray
  r : Int
  d : Int
  vote : ByteArray
  set : Nat
def kn0 : Kn := ⟨false, ⟨#[]⟩, 0, 0, ⟨#[]⟩, 0⟩
abbrev knV (_ : Int) (e : Kn) : Value := .agg #[.bool e.c, .string e.v, .int .i64 e.r, .int .i64 e.d, .string e.vote, .int .u64 (e.set : Int)]
abbrev KL := List (Int × Kn)
def kget (k : Int) (L : KL) : Kn := (get k L).getD kn0
theorem kget_enc (k : Int) (L : KL) : (get k (encF knV L)).getD (knV 0 kn0) = knV k (kget k L) := by
  rw [get_encF]
  unfold kget
  cases get k L <;> rfl

/-- The learner at p, its map at m. -/
structure LAt (w : World) (p m : Nat) (n base upto : Int) (L : KL) : Prop where
  blk : Blk w p 65 #[.int .i64 n, .int .i64 base, .int .i64 upto, .map (some m)]
  map : MapIs Try.prog 3 w m (encF knV L)
namespace LAt
variable {w w' : World} {p m : Nat} {n base upto : Int} {L : KL}
theorem ne (h : LAt w p m n base upto L) : p ≠ m := by
  obtain ⟨es, c, hm⟩ := h.map.block
  exact h.blk.ne_map hm
theorem fr {S : Nat → Prop} (h : LAt w p m n base upto L) (k : Fr S w w') (hp : ¬ S p) (hm : ¬ S m) : LAt w' p m n base upto L := ⟨h.blk.fr k hp, h.map.of_block (k.block m h.map.lt hm)⟩
theorem drew (h : LAt w p m n base upto L) : LAt w.drew p m n base upto L := ⟨h.blk, h.map⟩
theorem alloc (h : LAt w p m n base upto L) (o : Obj) : LAt (w.alloc o) p m n base upto L := ⟨h.blk.alloc o, h.map.of_block (Below.heap_alloc w o m h.map.lt)⟩
theorem below (h : LAt w p m n base upto L) (k : Below w.heap.size w w') : LAt w' p m n base upto L := h.fr (Fr.of_below k : Fr S0 w w') (fun h => h) (fun h => h)
theorem lt (h : LAt w p m n base upto L) : p < w.heap.size ∧ m < w.heap.size := ⟨h.blk.lt, h.map.lt⟩
theorem c0 (h : LAt w p m n base upto L) : w.cell? ⟨p, 0, none⟩ = some (.int .i64 n) := h.blk.cell rfl
theorem c1 (h : LAt w p m n base upto L) : w.cell? ⟨p, 1, none⟩ = some (.int .i64 base) := h.blk.cell rfl
theorem c2 (h : LAt w p m n base upto L) : w.cell? ⟨p, 2, none⟩ = some (.int .i64 upto) := h.blk.cell rfl
theorem c3 (h : LAt w p m n base upto L) : w.cell? ⟨p, 3, none⟩ = some (.map (some m)) := h.blk.cell rfl
end LAt

theorem wf64 {x : Int} (h : -9223372036854775808 ≤ x ∧ x ≤ 9223372036854775807) : (Lit.int .i64 x).wf = true := by
  simp [Lit.wf, IntKind.min, IntKind.max, IntKind.signed, IntKind.bits]
  omega
theorem zeroKn (w : World) : (zeroValue 77).run Try.prog w = .ok (knV 0 kn0) w := by
  have := Try.zeroValue77
  exact this w

theorem lvalid (p : Nat) (n : Int) (w : World) (h : w.cell? ⟨p, 0, none⟩ = some (.int .i64 n)) (hn : 0 < n) :
    Calls Try.prog 31 #[.pointer (some ⟨p, 0, none⟩)] w fun e w' => e = .returned (.bool true) ∧ w = w' := by
  have hn' : decide (n > 0) = true := by simpa using hn
  clear hn
  go_enter Try.func31, Try.ntmps31
  go_wp2
  go_returns
  exact ⟨rfl, rfl⟩
theorem lvalid_nil (w : World) : Calls Try.prog 31 #[.pointer none] w fun e w' => e = .returned (.bool false) ∧ w = w' := by
  go_enter Try.func31, Try.ntmps31
  go_wp2
  go_returns
  exact ⟨rfl, rfl⟩
theorem lvalid_zero (p : Nat) (w : World) (h : w.cell? ⟨p, 0, none⟩ = some (.int .i64 0)) :
    Calls Try.prog 31 #[.pointer (some ⟨p, 0, none⟩)] w fun e w' => e = .returned (.bool false) ∧ w = w' := by
  go_enter Try.func31, Try.ntmps31
  go_wp2
  go_returns
  exact ⟨rfl, rfl⟩

/-! ### New -/
theorem qcheck0 (n : Int) (w : World) : Calls Try.prog 55 #[.int .i64 n, .slice none 0 0] w fun e w' => e = .returned (.int .i64 (if 1 ≤ n ∧ n ≤ 7 then 0 else 2)) ∧ Below w.heap.size w w' := by
  have hb := box_below w (.cells #[.int .i64 n] 3)
  by_cases h1 : n < 1
  · rw [if_neg (by omega)]
    go_enter Try.func55, Try.ntmps55
    go_wp2_with fail
    go_returns
    exact ⟨rfl, hb⟩
  have h1' : decide (n < 1) = false := by simpa using h1
  by_cases h2 : n > 7
  · rw [if_neg (by omega)]
    clear h1
    go_enter Try.func55, Try.ntmps55
    go_wp2_with fail
    go_returns
    exact ⟨rfl, hb⟩
  have h2' : decide (n > 7) = false := by simpa using h2
  rw [if_pos (by omega)]
  clear h1 h2
  have hi : ∀ (w : World) (c : Value), Calls Try.prog 84 #[.slice none 0 0, c] w fun e w' => e = .returned (.int .i64 (-1)) ∧ w = w' := by
    intro w c
    go_enter Try.func84, Try.ntmps84
    go_wp2_with fail
    refine wp_loop_rounds 2 ?_
    rw [rounds_succ]
    go_wp2_with fail
    go_returns
    exact ⟨rfl, rfl⟩
  have hc : ∀ (w : World) (c : Value), Calls Try.prog 68 #[.slice none 0 0, c] w fun e w' => e = .returned (.bool false) ∧ w = w' := by
    intro w c
    go_enter Try.func68, Try.ntmps68
    go_wp2_with (go_at_call 84; refine (hi _ _).mono ?_; rintro e w2 ⟨rfl, rfl⟩)
    go_returns
    exact ⟨rfl, rfl⟩
  go_enter Try.func55, Try.ntmps55
  go_wp2_with (go_at_call 68; refine (hc _ _).mono ?_; rintro e w2 ⟨rfl, rfl⟩)
  go_returns
  exact ⟨rfl, hb⟩
theorem size_any (n : Int) (w : World) : Calls Try.prog 29 #[.int .i64 n] w fun e w' => (∃ k, e = .returned (.tuple #[.int .i64 k, .int .i64 (if 1 ≤ n ∧ n ≤ 7 then 0 else 2)])) ∧ Below w.heap.size w w' := by
  by_cases hn : 1 ≤ n ∧ n ≤ 7
  · rw [if_pos hn]
    have HN := Lib.hid hn
    go_enter Try.func29, Try.ntmps29
    go_wp2_with (go_at_call 55; refine (qcheck0 n _).mono ?_; rw [if_pos HN.out]; rintro e w2 ⟨rfl, b2⟩)
    go_returns
    exact ⟨⟨_, rfl⟩, b2⟩
  · rw [if_neg hn]
    have HN := Lib.hid hn
    go_enter Try.func29, Try.ntmps29
    go_wp2_with (go_at_call 55; refine (qcheck0 n _).mono ?_; rw [if_neg HN.out]; rintro e w2 ⟨rfl, b2⟩)
    go_returns
    exact ⟨⟨_, rfl⟩, b2⟩
theorem lnew_yes (n : Int) (w : World) (hn : 1 ≤ n ∧ n ≤ 7) : Calls Try.prog 11 #[.int .i64 n] w fun e w' => ∃ p m, e = .returned (.tuple #[.pointer (some ⟨p, 0, none⟩), .int .i64 0]) ∧ LAt w' p m n 0 0 [] ∧ w.heap.size ≤ p ∧ w.heap.size ≤ m ∧ Below w.heap.size w w' := by
  have hmm := @run_makeMap Try.prog
  have HN := Lib.hid hn
  clear hn
  go_enter Try.func11, Try.ntmps11
  go_wp2_with (go_at_call 29; refine (size_any n _).mono ?_; rw [if_pos HN.out]; rintro e w2 ⟨⟨k2, rfl⟩, b2⟩)
  go_returns
  have h1 : Blk ((w2.alloc (.map #[] 0)).alloc (.cells #[.int .i64 n, .int .i64 0, .int .i64 0, .map (some w2.heap.size)] 65)) (w2.heap.size + 1) 65 #[.int .i64 n, .int .i64 0, .int .i64 0, .map (some w2.heap.size)] := by
    have := Blk.new (w2.alloc (.map #[] 0)) 65 #[.int .i64 n, .int .i64 0, .int .i64 0, .map (some w2.heap.size)]
    rwa [World.size_alloc] at this
  have h2 := (MapIs.made w2 Try.prog 3).of_block (Below.heap_alloc (w2.alloc (.map #[] 0)) (.cells #[.int .i64 n, .int .i64 0, .int .i64 0, .map (some w2.heap.size)] 65) w2.heap.size (by simp))
  have := b2.size
  exact ⟨w2.heap.size + 1, w2.heap.size, rfl, ⟨h1, h2⟩, by omega, by omega, (b2.alloc b2.size _).alloc (by simp; omega) _⟩
theorem lnew_bad (n : Int) (w : World) (hn : ¬ (1 ≤ n ∧ n ≤ 7)) : Calls Try.prog 11 #[.int .i64 n] w fun e w' => e = .returned (.tuple #[.pointer none, .int .i64 2]) ∧ Below w.heap.size w w' := by
  have HN := Lib.hid hn
  clear hn
  go_enter Try.func11, Try.ntmps11
  go_wp2_with (go_at_call 29; refine (size_any n _).mono ?_; rw [if_neg HN.out]; rintro e w2 ⟨⟨k2, rfl⟩, b2⟩)
  go_returns
  exact ⟨rfl, b2⟩
end Go.Proofs.Ytnnadpbfidfhoaa
