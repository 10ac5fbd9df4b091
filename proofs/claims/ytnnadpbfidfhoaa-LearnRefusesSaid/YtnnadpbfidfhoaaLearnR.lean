/- The plain laws of LearnRefuses. -/
import Derived.Test.YtnnadpbfidfhoaaLearnU
import Derived.Test.YtnnadpbfidfhoaaShelfR
set_option linter.unusedVariables false
set_option linter.unusedSimpArgs false
namespace Go.Proofs.Ytnnadpbfidfhoaa
open Go.RowKit Go.Maps Go.Shelf Go.ChangeShapes Go.WideShapes Go.Deep

theorem adR_no {s : LSt} {node r d k : Int} {v : ByteArray} (h : adC s node r d k v ≠ 0) : adR s node r d k v = ((false, adC s node r d k v), s) := by
  unfold adR
  rw [if_pos h]
/-- A call that is refused with e; where the slot or the text is at fault, Learn refuses it too. -/
structure Rf (n : Nat) (node r d k : Int) (v : ByteArray) (e : Int) : Prop where
  ad : adC ⟨n, 5, []⟩ node r d k v = e
  ne : e ≠ 0
  way : (5 ≤ k ∧ k < 4096 ∧ v.size ≤ 65536) ∨ (lnE ⟨n, 5, []⟩ k v = e ∧ (k < 0 ∨ 4096 ≤ k ∨ (0 ≤ k ∧ k < 4096 ∧ 65536 < v.size) ∨ (0 ≤ k ∧ k < 5 ∧ v.size ≤ 65536)))
theorem Rf.add {n : Nat} {node r d k : Int} {v : ByteArray} {e : Int} (h : Rf n node r d k v e) : adR ⟨n, 5, []⟩ node r d k v = ((false, e), ⟨n, 5, []⟩) := by
  have h1 := h.ne
  rw [← h.ad] at h1 ⊢
  exact adR_no h1
theorem isV_bad {n : Nat} {node r d : Int} (h : node < 0 ∨ (n : Int) ≤ node ∨ r < 1 ∨ 1073741824 < r ∨ d < 0 ∨ (n : Int) ≤ d) : isV n node r d = false := by
  unfold isV chkE
  by_cases h1 : (0 : Int) ≤ node ∧ node < (n : Int)
  · by_cases h2 : r = 0 ∧ d = 0
    · obtain ⟨rfl, rfl⟩ := h2
      simp
    · rw [if_neg h2]
      have h3 : r < 1 ∨ 1073741824 < r ∨ d < 0 ∨ (n : Int) ≤ d := by omega
      rw [if_pos h3]
      split <;> simp
  · rw [decide_eq_false h1]
    rfl
theorem Rf.bad {n : Nat} {node r d : Int} {v : ByteArray} (hv : v.size ≤ 65536) (h : node < 0 ∨ (n : Int) ≤ node ∨ r < 1 ∨ 1073741824 < r ∨ d < 0 ∨ (n : Int) ≤ d) : Rf n node r d 9 v 2 := by
  refine ⟨?_, by decide, .inl ⟨by decide, by decide, hv⟩⟩
  unfold adC
  rw [isV_bad h]
  rfl
theorem isV_one {n : Nat} (hn : 1 ≤ n ∧ n ≤ 7) : isV n 0 1 0 = true := by
  unfold isV chkE
  rw [decide_eq_true (show (0 : Int) ≤ 0 ∧ (0 : Int) < (n : Int) by omega), if_neg (by omega), if_neg (by omega), if_neg (by omega)]
  rfl
theorem Rf.low {n : Nat} {k : Int} {v : ByteArray} {e : Int} (hn : 1 ≤ n ∧ n ≤ 7) (he : lchk 5 false k v.size = e) (hne : e ≠ 0) (hk : k < 0 ∨ 4096 ≤ k ∨ (0 ≤ k ∧ k < 4096 ∧ 65536 < v.size) ∨ (0 ≤ k ∧ k < 5 ∧ v.size ≤ 65536)) : Rf n 0 1 0 k v e := by
  refine ⟨?_, hne, .inr ⟨?_, hk⟩⟩
  · unfold adC
    rw [isV_one hn]
    exact he
  · unfold lnE
    rw [if_pos (by rw [he]; exact hne)]
    exact he
theorem lchk_slot {b k : Int} {s : Nat} (h : k < 0 ∨ 4096 ≤ k) : lchk b false k s = 2 := by unfold lchk; rw [if_pos (.inr h)]
theorem lchk_long {b k : Int} {s : Nat} (h : 0 ≤ k ∧ k < 4096) (h2 : 65536 < s) : lchk b false k s = 11 := by unfold lchk; rw [if_neg (by simp; omega), if_pos h2]
theorem lchk_old {b k : Int} {s : Nat} (h : 0 ≤ k ∧ k < 4096) (h2 : s ≤ 65536) (h3 : k < b) : lchk b false k s = 8 := by unfold lchk; rw [if_neg (by simp; omega), if_neg (by omega), if_pos h3]
theorem Rf.learn {n : Nat} {node r d k : Int} {v : ByteArray} {e : Int} (h : Rf n node r d k v e) (hl : lnE ⟨n, 5, []⟩ k v = e) : lnS ⟨n, 5, []⟩ k v = ⟨n, 5, []⟩ := by
  unfold lnS
  rw [hl, if_neg h.ne]
abbrev row6 (node r d k : Int) (v : ByteArray) (e : Int) : List Value := [.int .i64 node, .int .i64 r, .int .i64 d, .int .i64 k, .string v, .int .i64 e]
abbrev em : ByteArray := ⟨#[]⟩
/-- The fourteen calls. -/
def rrs (n m : Nat) (LG : ByteArray) : Array Value :=
  #[.int .i64 (n + m), .int .i64 1, .int .i64 0, .int .i64 9, .string em, .int .i64 2, .int .i64 (-1 - m), .int .i64 1, .int .i64 0, .int .i64 9, .string em, .int .i64 2,
    .int .i64 0, .int .i64 0, .int .i64 0, .int .i64 9, .string em, .int .i64 2, .int .i64 0, .int .i64 (1073741825 + m), .int .i64 0, .int .i64 9, .string em, .int .i64 2,
    .int .i64 0, .int .i64 (-m), .int .i64 0, .int .i64 9, .string em, .int .i64 2, .int .i64 0, .int .i64 1, .int .i64 (n + m), .int .i64 9, .string em, .int .i64 2,
    .int .i64 0, .int .i64 1, .int .i64 (-1 - m), .int .i64 9, .string em, .int .i64 2, .int .i64 0, .int .i64 1, .int .i64 0, .int .i64 (4096 + m), .string em, .int .i64 2,
    .int .i64 0, .int .i64 1, .int .i64 0, .int .i64 (-1 - m), .string em, .int .i64 2, .int .i64 0, .int .i64 1, .int .i64 0, .int .i64 9, .string LG, .int .i64 11,
    .int .i64 0, .int .i64 1, .int .i64 0, .int .i64 4, .string LG, .int .i64 11, .int .i64 0, .int .i64 1, .int .i64 0, .int .i64 (-1), .string LG, .int .i64 2,
    .int .i64 0, .int .i64 1, .int .i64 0, .int .i64 4, .string em, .int .i64 8, .int .i64 0, .int .i64 1, .int .i64 0, .int .i64 ((m : Int) % 5), .string ⟨#[118]⟩, .int .i64 8]
set_option maxRecDepth 10000 in
theorem rrs_row (n m : Nat) (LG : ByteArray) (hn : 1 ≤ n ∧ n ≤ 7) (hl : LG.size = 65537) (hm : m < 65536) (i : Nat) (hi : i < 14) :
    ∃ node r d k v e, Rf n node r d k v e ∧ (in64 node ∧ in64 r ∧ in64 d ∧ in64 k) ∧ (rrs n m LG)[i * 6]? = some (.int .i64 node) ∧ (rrs n m LG)[i * 6 + 1]? = some (.int .i64 r) ∧ (rrs n m LG)[i * 6 + 2]? = some (.int .i64 d) ∧
      (rrs n m LG)[i * 6 + 3]? = some (.int .i64 k) ∧ (rrs n m LG)[i * 6 + 4]? = some (.string v) ∧ (rrs n m LG)[i * 6 + 5]? = some (.int .i64 e) := by
  match i, hi with
  | 0, _ => exact ⟨_, _, _, _, _, _, Rf.bad (by decide) (by omega), ⟨by unfold in64; omega, by unfold in64; omega, by unfold in64; omega, by unfold in64; omega⟩, rfl, rfl, rfl, rfl, rfl, rfl⟩
  | 1, _ => exact ⟨_, _, _, _, _, _, Rf.bad (by decide) (by omega), ⟨by unfold in64; omega, by unfold in64; omega, by unfold in64; omega, by unfold in64; omega⟩, rfl, rfl, rfl, rfl, rfl, rfl⟩
  | 2, _ => exact ⟨_, _, _, _, _, _, Rf.bad (by decide) (by omega), ⟨by unfold in64; omega, by unfold in64; omega, by unfold in64; omega, by unfold in64; omega⟩, rfl, rfl, rfl, rfl, rfl, rfl⟩
  | 3, _ => exact ⟨_, _, _, _, _, _, Rf.bad (by decide) (by omega), ⟨by unfold in64; omega, by unfold in64; omega, by unfold in64; omega, by unfold in64; omega⟩, rfl, rfl, rfl, rfl, rfl, rfl⟩
  | 4, _ => exact ⟨_, _, _, _, _, _, Rf.bad (by decide) (by omega), ⟨by unfold in64; omega, by unfold in64; omega, by unfold in64; omega, by unfold in64; omega⟩, rfl, rfl, rfl, rfl, rfl, rfl⟩
  | 5, _ => exact ⟨_, _, _, _, _, _, Rf.bad (by decide) (by omega), ⟨by unfold in64; omega, by unfold in64; omega, by unfold in64; omega, by unfold in64; omega⟩, rfl, rfl, rfl, rfl, rfl, rfl⟩
  | 6, _ => exact ⟨_, _, _, _, _, _, Rf.bad (by decide) (by omega), ⟨by unfold in64; omega, by unfold in64; omega, by unfold in64; omega, by unfold in64; omega⟩, rfl, rfl, rfl, rfl, rfl, rfl⟩
  | 7, _ => exact ⟨_, _, _, _, _, _, Rf.low hn (lchk_slot (by omega)) (by decide) (by omega), ⟨by unfold in64; omega, by unfold in64; omega, by unfold in64; omega, by unfold in64; omega⟩, rfl, rfl, rfl, rfl, rfl, rfl⟩
  | 8, _ => exact ⟨_, _, _, _, _, _, Rf.low hn (lchk_slot (by omega)) (by decide) (by omega), ⟨by unfold in64; omega, by unfold in64; omega, by unfold in64; omega, by unfold in64; omega⟩, rfl, rfl, rfl, rfl, rfl, rfl⟩
  | 9, _ => exact ⟨_, _, _, _, _, _, Rf.low hn (lchk_long (by decide) (by omega)) (by decide) (.inr (.inr (.inl ⟨by decide, by decide, by omega⟩))), ⟨by unfold in64; omega, by unfold in64; omega, by unfold in64; omega, by unfold in64; omega⟩, rfl, rfl, rfl, rfl, rfl, rfl⟩
  | 10, _ => exact ⟨_, _, _, _, _, _, Rf.low hn (lchk_long (by decide) (by omega)) (by decide) (.inr (.inr (.inl ⟨by decide, by decide, by omega⟩))), ⟨by unfold in64; omega, by unfold in64; omega, by unfold in64; omega, by unfold in64; omega⟩, rfl, rfl, rfl, rfl, rfl, rfl⟩
  | 11, _ => exact ⟨_, _, _, _, _, _, Rf.low hn (lchk_slot (by decide)) (by decide) (.inl (by decide)), ⟨by unfold in64; omega, by unfold in64; omega, by unfold in64; omega, by unfold in64; omega⟩, rfl, rfl, rfl, rfl, rfl, rfl⟩
  | 12, _ => exact ⟨_, _, _, _, _, _, Rf.low hn (lchk_old (by decide) (by decide) (by decide)) (by decide) (.inr (.inr (.inr ⟨by decide, by decide, by decide⟩))), ⟨by unfold in64; omega, by unfold in64; omega, by unfold in64; omega, by unfold in64; omega⟩, rfl, rfl, rfl, rfl, rfl, rfl⟩
  | 13, _ => exact ⟨_, _, _, _, _, _, Rf.low hn (lchk_old (by omega) (by decide) (by omega)) (by decide) (.inr (.inr (.inr ⟨by omega, by omega, by decide⟩))), ⟨by unfold in64; omega, by unfold in64; omega, by unfold in64; omega, by unfold in64; omega⟩, rfl, rfl, rfl, rfl, rfl, rfl⟩
theorem climbs_nil {b u : Int} (h : Climbs [] b u) : u = b := by
  have h1 := h.le
  by_cases h2 : b < u
  · have h3 : false = true := h.all b (Int.le_refl _) h2
    cases h3
  · omega
theorem climbs_top {e : Kn} {u : Int} (he : e.c = true) (h : Climbs [(4095, e)] 4095 u) : u = 4096 := by
  have h1 := h.le
  have h2 := h.stop
  by_cases h3 : u = 4095
  · subst h3
    have h2 : e.c = false := h2
    rw [he] at h2
    cases h2
  · by_cases h4 : 4096 < u
    · have h5 : false = true := h.all 4096 (by decide) h4
      cases h5
    · omega
theorem lnE_top {n : Nat} {v : ByteArray} (h : v.size ≤ 65536) : lnE ⟨n, 5, []⟩ 4095 v = 0 := by
  have h1 : lchk 5 false 4095 v.size = 0 := by unfold lchk; rw [if_neg (by decide), if_neg (by omega), if_neg (by decide)]
  unfold lnE
  rw [if_neg (by simp only; rw [h1]; decide), if_neg]
  rintro ⟨h2, _⟩
  have h2 : false = true := h2
  cases h2
theorem lnS_top {n : Nat} {v : ByteArray} (h : v.size ≤ 65536) : lnS ⟨n, 5, []⟩ 4095 v = ⟨n, 5, [(4095, lnK kn0 v)]⟩ := by
  unfold lnS
  rw [if_pos (lnE_top h)]
  rfl
theorem fg_neg {s : LSt} {k : Int} (h : k < 0 ∨ 4096 < k) : fgE k = 3 ∧ fgS s k = s := ⟨if_pos h, if_pos h⟩
theorem fg3 (n : Nat) : fgS ⟨n, 5, []⟩ 3 = ⟨n, 5, []⟩ := rfl
theorem fg4095 (n : Nat) (e : Kn) : fgS ⟨n, 5, [(4095, e)]⟩ 4095 = ⟨n, 4095, [(4095, e)]⟩ := rfl
theorem fg4096 (n : Nat) (e : Kn) : fgS ⟨n, 4095, [(4095, e)]⟩ 4096 = ⟨n, 4096, []⟩ := rfl
theorem repeat_size : (⟨(Lib.repeatL (⟨#[120]⟩ : ByteArray).data.toList 65537).toArray⟩ : ByteArray).size = 65537 := by
  show (Lib.repeatL [120] 65537).toArray.size = 65537
  rw [List.size_toArray, Lib.repeatL_length]
  rfl
end Go.Proofs.Ytnnadpbfidfhoaa
