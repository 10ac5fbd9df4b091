/- The reference's learner in memory; New, Below, Valid, check, size. -/
import Derived.Test.YtnnadpbfidfhoaaLearnU
import Derived.Deep.DeepMust
set_option linter.unusedVariables false
set_option linter.unusedSimpArgs false
namespace Go.Proofs.Ytnnadpbfidfhoaa
open Go.RowKit Go.Maps Go.Shelf

/-! ### Rows of what is known of slots -/
def knL (q : Int × Kn) : List Value := [.int .i64 q.1, .bool q.2.c, .string q.2.v, .int .i64 q.2.r, .int .i64 q.2.d, .string q.2.vote, .int .u64 (q.2.set : Int)]
def cellsN (L : KL) : List Value := L.flatMap knL
theorem cellsN_length (L : KL) : (cellsN L).length = L.length * 7 := by
  induction L with
  | nil => rfl
  | cons x r ih => simp only [cellsN, List.flatMap_cons, List.length_append, List.length_cons] at ih ⊢; rw [ih]; simp [knL]; omega
theorem cellsN_append (L M : KL) : cellsN (L ++ M) = cellsN L ++ cellsN M := by simp [cellsN]
theorem cellsN_at : ∀ (L : KL) (i : Nat) (p : Int × Kn), L[i]? = some p → ∀ j u, (knL p)[j]? = some u → (cellsN L)[i * 7 + j]? = some u
  | [], i, p, h, j, u, hu => by simp at h
  | x :: r, 0, p, h, j, u, hu => by
    simp at h
    subst h
    have hj : j < 7 := (List.getElem?_eq_some_iff.1 hu).1
    simp only [cellsN, List.flatMap_cons]
    rw [List.getElem?_append_left (by simp [knL]; omega)]
    simpa using hu
  | x :: r, i + 1, p, h, j, u, hu => by
    have ih := cellsN_at r i p (by simpa using h) j u hu
    simp only [cellsN, List.flatMap_cons]
    rw [List.getElem?_append_right (by simp [knL]; omega)]
    rw [show (i + 1) * 7 + j - (knL x).length = i * 7 + j by simp [knL]; omega]
    exact ih
theorem knL_one (p : Int × Kn) : ∀ u ∈ knL p, u.oneCell' := by
  intro u hu
  simp [knL] at hu
  rcases hu with rfl | rfl | rfl | rfl | rfl | rfl | rfl <;> trivial
theorem cellsN_one (L : KL) : ∀ u ∈ cellsN L, u.oneCell' := by
  intro u hu
  obtain ⟨p, _, hu⟩ := List.mem_flatMap.1 hu
  exact knL_one p u hu
def knZ : Value := .agg #[.int .i64 0, .bool false, .string ⟨#[]⟩, .int .i64 0, .int .i64 0, .string ⟨#[]⟩, .int .u64 0]
theorem info_kn : (Try.prog.info? 87).map (fun i => (i.zero, i.size, i.bytes)) = some (some knZ, 7, 72) := by kernel_rfl

/-- The slice v is the row L, in a block of the call's own from lo on (or nil). -/
def KnRow (w : World) (lo : Nat) (v : Value) (L : KL) : Prop := w.ownsRow lo 87 7 v L.length (cellsN L)
namespace KnRow
variable {w w' : World} {lo lo' : Nat} {v : Value} {L : KL}
theorem nil (w : World) (lo : Nat) : KnRow w lo (.slice none 0 0) [] := World.ownsRow_nil _ _ _ _
theorem lower (h : KnRow w lo v L) (hb : lo' ≤ lo) : KnRow w lo' v L := row_lower h hb
theorem fr {S : Nat → Prop} (h : KnRow w lo v L) (k : Fr S w w') (hS : ∀ i, S i → i < lo) : KnRow w' lo v L :=
  row_fr h k fun g hg hs => by have := (h.lt g hg).1; have := hS g hs; omega
theorem below (h : KnRow w lo v L) (k : Below w.heap.size w w') : KnRow w' lo v L := h.fr (Fr.of_below k : Fr S0 w w') (fun i h => h.elim)
theorem view (h : KnRow w lo v L) : ∃ (A : Option Addr) (cap : Nat), v = .slice A L.length cap ∧ L.length ≤ cap ∧
    (0 < L.length → ∃ g, A = some ⟨g, 0, none⟩ ∧ lo ≤ g ∧ g < w.heap.size ∧ ∀ i x c v r d vote set, L[i]? = some (x, Kn.mk c v r d vote set) →
      w.cell? ⟨g, i * 7, none⟩ = some (.int .i64 x) ∧ w.cell? ⟨g, i * 7 + 1, none⟩ = some (.bool c) ∧ w.cell? ⟨g, i * 7 + 2, none⟩ = some (.string v) ∧ w.cell? ⟨g, i * 7 + 3, none⟩ = some (.int .i64 r) ∧
      w.cell? ⟨g, i * 7 + 4, none⟩ = some (.int .i64 d) ∧ w.cell? ⟨g, i * 7 + 5, none⟩ = some (.string vote) ∧ w.cell? ⟨g, i * 7 + 6, none⟩ = some (.int .u64 (set : Int))) := by
  obtain ⟨A, cap, hv, hle, _, _, _, hc⟩ := row_view h
  refine ⟨A, cap, hv, hle, fun h0 => ?_⟩
  obtain ⟨g, hA, h1, h2, h3⟩ := hc h0
  refine ⟨g, hA, h1, h2, fun i x c v r d vote set hi => ?_⟩
  have := cellsN_at L i _ hi
  exact ⟨h3 _ _ (this 0 _ rfl), h3 _ _ (this 1 _ rfl), h3 _ _ (this 2 _ rfl), h3 _ _ (this 3 _ rfl), h3 _ _ (this 4 _ rfl), h3 _ _ (this 5 _ rfl), h3 _ _ (this 6 _ rfl)⟩
end KnRow

/-! ### The learner -/
/-- The reference's learner at the block p: what is known is the row v, in the order R. -/
structure RLAt (w : World) (p : Nat) (v : Value) (s : LSt) (R : KL) : Prop where
  blk : Blk w p 84 #[.int .i64 s.n, .int .i64 s.base, v]
  row : KnRow w 0 v R
  perm : R.Perm s.L
  good : LGood s
namespace RLAt
variable {w w' : World} {p : Nat} {v : Value} {s : LSt} {R : KL}
theorem below (h : RLAt w p v s R) (k : Below w.heap.size w w') : RLAt w' p v s R := ⟨h.blk.bel k, h.row.below k, h.perm, h.good⟩
theorem drew (h : RLAt w p v s R) : RLAt w.drew p v s R := h.below ((Below.refl _ _).drew)
theorem c0 (h : RLAt w p v s R) : w.cell? ⟨p, 0, none⟩ = some (.int .i64 s.n) := h.blk.cell rfl
theorem c1 (h : RLAt w p v s R) : w.cell? ⟨p, 1, none⟩ = some (.int .i64 s.base) := h.blk.cell rfl
theorem c2 (h : RLAt w p v s R) : w.cell? ⟨p, 2, none⟩ = some v := h.blk.cell rfl
theorem len (h : RLAt w p v s R) : R.length ≤ 4096 := by rw [h.perm.length_eq]; exact h.good.len
theorem ne (h : RLAt w p v s R) : R.Pairwise fun a b => a.1 ≠ b.1 := by
  have h1 : s.L.Pairwise fun a b => a.1 ≠ b.1 := h.good.srt.imp fun h => by omega
  exact (h.perm.pairwise_iff (fun h => h.symm)).2 h1
theorem mem (h : RLAt w p v s R) {x : Int} {e : Kn} (hq : (x, e) ∈ R) : kget x s.L = e := by
  unfold kget
  rw [get_of_mem h.good.srt (h.perm.mem_iff.1 hq)]
  rfl
theorem none (h : RLAt w p v s R) {x : Int} (hq : ∀ q ∈ R, q.1 ≠ x) : kget x s.L = kn0 := by
  unfold kget
  rw [get_none.2 fun q hm => hq q (h.perm.mem_iff.2 hm)]
  rfl
end RLAt

theorem rlnew_yes (n : Nat) (w : World) (hn : 1 ≤ n ∧ n ≤ 7) : Calls Try.prog 21 #[.int .i64 (n : Int)] w fun e w' => ∃ p, e = .returned (.tuple #[.pointer (some ⟨p, 0, none⟩), .int .i64 0]) ∧ RLAt w' p (.slice none 0 0) ⟨n, 0, []⟩ [] ∧ w.heap.size ≤ p ∧ Below w.heap.size w w' := by
  have hg : LGood ⟨n, 0, []⟩ := ⟨hn, ⟨by simp, by simp⟩, List.Pairwise.nil, by simp, by simp, by simp, by simp⟩
  have h1' : decide ((n : Int) < 1) = false := by simp; omega
  have h2' : decide ((n : Int) > 7) = false := by simp; omega
  clear hn
  go_enter Try.func21, Try.ntmps21
  go_wp2
  go_returns
  exact ⟨w.heap.size, rfl, ⟨Blk.new _ _ _, KnRow.nil _ _, .refl _, hg⟩, Nat.le_refl _, box_below _ _⟩
theorem rlnew_bad (n : Int) (w : World) (hn : ¬ (1 ≤ n ∧ n ≤ 7)) : Calls Try.prog 21 #[.int .i64 n] w fun e w' => e = .returned (.tuple #[.pointer none, .int .i64 2]) ∧ w = w' := by
  by_cases h1 : n < 1
  · clear hn
    go_enter Try.func21, Try.ntmps21
    go_wp2
    go_returns
    exact ⟨rfl, rfl⟩
  · have h2 : n > 7 := by omega
    have h1' : decide (n < 1) = false := by simpa using h1
    clear hn h1
    go_enter Try.func21, Try.ntmps21
    go_wp2
    go_returns
    exact ⟨rfl, rfl⟩

theorem rlbelow_any (r1 d1 r2 d2 : Int) (w : World) :
    Calls Try.prog 41 #[balV r1 d1, balV r2 d2] w fun e w' => e = .returned (.bool (decide (ordB (r1, d1) (r2, d2) < 0))) ∧ Below w.heap.size w w' := by
  have hb := bchain (box_below w (.cells #[.int .i64 r1, .int .i64 d1] 31)) (box_below _ (.cells #[.int .i64 r2, .int .i64 d2] 31))
  by_cases h1 : r1 < r2
  · have E : decide (ordB (r1, d1) (r2, d2) < 0) = true := by simp [ordB, firstI, cmpI, h1]
    rw [E]; clear E
    go_enter Try.func41, Try.ntmps41
    go_wp2_with fail
    go_returns
    exact ⟨rfl, hb⟩
  have h1' : decide (r1 < r2) = false := by simpa using h1
  by_cases h2 : r1 = r2
  · subst h2
    by_cases h3 : d1 < d2
    · have E : decide (ordB (r1, d1) (r1, d2) < 0) = true := by simp [ordB, firstI, cmpI, h3]
      rw [E]; clear E h1
      go_enter Try.func41, Try.ntmps41
      go_wp2_with fail
      go_returns
      exact ⟨rfl, hb⟩
    have h3' : decide (d1 < d2) = false := by simpa using h3
    have E : decide (ordB (r1, d1) (r1, d2) < 0) = false := by
      by_cases h4 : d1 = d2
      · subst h4; simp [ordB, firstI, cmpI]
      · simp [ordB, firstI, cmpI, h3, show d1 > d2 by omega]
    rw [E]; clear E h1 h3
    go_enter Try.func41, Try.ntmps41
    go_wp2_with fail
    go_returns
    exact ⟨rfl, hb⟩
  · have h2' : (r1 == r2) = false := by simpa using h2
    have E : decide (ordB (r1, d1) (r2, d2) < 0) = false := by simp only [ordB, firstI, cmpI, if_neg h1, if_pos (show r1 > r2 by omega)]; simp
    rw [E]; clear E h1 h2
    go_enter Try.func41, Try.ntmps41
    go_wp2_with fail
    go_returns
    exact ⟨rfl, hb⟩

def valB (n r d : Int) : Bool := decide (r ≥ 1) && (decide (r ≤ 1073741824) && (decide (d ≥ 0) && decide (d < n)))
theorem rlvalid_any (r d n : Int) (w : World) :
    Calls Try.prog 38 #[balV r d, .int .i64 n] w fun e w' => e = .returned (.bool (valB n r d)) ∧ Below w.heap.size w w' := by
  have hb := box_below w (.cells #[.int .i64 r, .int .i64 d] 31)
  unfold valB
  cases h4 : decide (r ≥ 1)
  case false =>
    go_enter Try.func38, Try.ntmps38
    go_wp2_with fail
    go_returns
    exact ⟨rfl, hb⟩
  cases h5 : decide (r ≤ 1073741824)
  case false =>
    go_enter Try.func38, Try.ntmps38
    go_wp2_with fail
    go_returns
    exact ⟨rfl, hb⟩
  cases h6 : decide (d ≥ 0)
  case false =>
    go_enter Try.func38, Try.ntmps38
    go_wp2_with fail
    go_returns
    exact ⟨rfl, hb⟩
  cases h7 : decide (d < n)
  case false =>
    go_enter Try.func38, Try.ntmps38
    go_wp2_with fail
    go_returns
    exact ⟨rfl, hb⟩
  go_enter Try.func38, Try.ntmps38
  go_wp2_with fail
  go_returns
  exact ⟨rfl, hb⟩
theorem isV_val {n : Nat} (node r d : Int) (hn : 1 ≤ n ∧ n ≤ 7) : isV n node r d = (decide (0 ≤ node ∧ node < n) && valB n r d) := by
  unfold isV valB
  by_cases h0 : 0 ≤ node ∧ node < (n : Int)
  case neg => rw [decide_eq_false h0]; rfl
  rw [decide_eq_true h0]
  simp only [Bool.true_and]
  by_cases h3 : r = 0 ∧ d = 0
  · obtain ⟨rfl, rfl⟩ := h3; rfl
  have h3' : (r == 0 && d == 0) = false := by
    rw [Bool.eq_false_iff]; intro hc; simp at hc; exact h3 hc
  rw [h3']
  simp only [Bool.not_false, Bool.true_and]
  unfold chkE
  rw [if_neg (by omega), if_neg h3]
  by_cases h4 : r < 1 ∨ 1073741824 < r ∨ d < 0 ∨ (n : Int) ≤ d
  · rw [if_pos h4]
    rw [show decide ((2 : Int) = 0) = false from rfl]
    symm
    rw [Bool.eq_false_iff]
    intro hc
    simp at hc
    omega
  · rw [if_neg h4]
    rw [show decide ((0 : Int) = 0) = true from rfl]
    symm
    simp
    omega

theorem rlcheck_any (p : Nat) (b : Int) (k : Int) (v : ByteArray) (w : World) (c1 : w.cell? ⟨p, 1, none⟩ = some (.int .i64 b)) :
    Calls Try.prog 39 #[.pointer (some ⟨p, 0, none⟩), .int .i64 k, .string v] w fun e w' => e = .returned (.int .i64 (lchk b false k v.size)) ∧ w = w' := by
  by_cases h1 : k < 0
  · have E : lchk b false k v.size = 2 := by simp [lchk, h1]
    rw [E]; clear E
    go_enter Try.func39, Try.ntmps39
    go_wp2_with fail
    go_returns
    exact ⟨rfl, rfl⟩
  have h1' : decide (k < 0) = false := by simpa using h1
  by_cases h2 : k ≥ 4096
  · have E : lchk b false k v.size = 2 := by unfold lchk; rw [if_pos (by omega)]
    rw [E]; clear E h1
    go_enter Try.func39, Try.ntmps39
    go_wp2_with fail
    go_returns
    exact ⟨rfl, rfl⟩
  have h2' : decide (k ≥ 4096) = false := by simpa using h2
  have h0 : ¬ (false = true ∨ k < 0 ∨ 4096 ≤ k) := by simp; omega
  by_cases h3 : 65536 < v.size
  · have h3' : decide ((v.size : Int) > 65536) = true := by simp; omega
    have E : lchk b false k v.size = 11 := by unfold lchk; rw [if_neg h0, if_pos h3]
    rw [E]; clear E h1 h2 h3 h0
    go_enter Try.func39, Try.ntmps39
    go_wp2_with fail
    go_returns
    exact ⟨rfl, rfl⟩
  have h3' : decide ((v.size : Int) > 65536) = false := by simp; omega
  by_cases h4 : k < b
  · have h4' : decide (k < b) = true := by simpa using h4
    have E : lchk b false k v.size = 8 := by unfold lchk; rw [if_neg h0, if_neg h3, if_pos h4]
    rw [E]; clear E h1 h2 h3 h4 h0
    go_enter Try.func39, Try.ntmps39
    go_wp2_with fail
    go_returns
    exact ⟨rfl, rfl⟩
  · have h4' : decide (k < b) = false := by simpa using h4
    have E : lchk b false k v.size = 0 := by unfold lchk; rw [if_neg h0, if_neg h3, if_neg h4]
    rw [E]; clear E h1 h2 h3 h4 h0
    go_enter Try.func39, Try.ntmps39
    go_wp2_with fail
    go_returns
    exact ⟨rfl, rfl⟩

def popN (x i : Nat) : Nat := (List.range i).countP fun j => x.testBit j
theorem popN_succ (x i : Nat) : popN x (i + 1) = popN x i + (if x.testBit i = true then 1 else 0) := by
  unfold popN
  rw [List.range_succ, List.countP_append]
  simp [List.countP_cons]
theorem popN_le (x : Nat) : ∀ i, popN x i ≤ i := fun i => by
  unfold popN
  exact Nat.le_trans List.countP_le_length (by simp)
theorem popN_64 : ∀ x : Nat, x < 128 → popN x 64 = pop x := by decide +kernel
theorem bitand1 : ∀ x : Nat, x < 128 → ∀ i : Nat, i < 64 → bits BinOp.and IntKind.u64 ((x : Int) / 2 ^ i) 1 = if x.testBit i = true then 1 else 0 := by decide +kernel
set_option maxRecDepth 100000 in
set_option maxHeartbeats 2000000 in
theorem rlsize_any (x : Nat) (w : World) (hx : x < 128) :
    Calls Try.prog 42 #[.int .u64 (x : Int)] w fun e w' => e = .returned (.int .i64 (pop x : Int)) ∧ w = w' := by
  go_enter Try.func42, Try.ntmps42
  go_wp2_with fail
  go_loop [3, 4] (fun n c => ∃ i : Nat, i ≤ 64 ∧ c = .int .i64 i ∧ n = .int .i64 (popN x i : Int)) (fun _ c => 64 - (intOf c).toNat)
  case atStart => exact ⟨0, by omega, rfl, rfl⟩
  case round =>
    obtain ⟨i, hi, rfl, rfl⟩ := hrel
    have hp := popN_le x i
    by_cases hlt : i < 64
    · have hlt' : decide ((i : Int) < 64) = true := by simp; omega
      go_wp2_with fail
      go_round
      case rel => exact ⟨i + 1, by omega, by go_num, by rw [bitand1 x hx i (by omega), popN_succ]; split <;> (congr 1; unfold wrap64; push_cast; omega)⟩
      case measure => simp [intOf]; omega
    · have e : i = 64 := by omega
      subst e
      go_wp2_with fail
      go_returns
      exact ⟨by rw [popN_64 x hx]; rfl, rfl⟩
end Go.Proofs.Ytnnadpbfidfhoaa
