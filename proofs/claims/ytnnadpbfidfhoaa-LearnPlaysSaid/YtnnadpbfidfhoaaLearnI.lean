/- Package learn: Add in one; slices.Equal of rows; the examples (works). -/
import Derived.Test.YtnnadpbfidfhoaaLearnH
set_option linter.unusedVariables false
set_option linter.unusedSimpArgs false
namespace Go.Proofs.Ytnnadpbfidfhoaa
open Go.RowKit Go.Maps Go.Shelf

instance (e : Kn) (r d : Int) (v : ByteArray) : Decidable (adBad e r d v) := by unfold adBad; infer_instance
/-- What Add answers, and the state behind it. -/
def adR (s : LSt) (node r d k : Int) (v : ByteArray) : (Bool × Int) × LSt :=
  if adC s node r d k v ≠ 0 then ((false, adC s node r d k v), s)
  else if ordB (r, d) ((kget k s.L).r, (kget k s.L).d) < 0 then ((false, 0), s)
  else if adBad (kget k s.L) r d v then ((false, 9), s)
  else ((adNow (kget k s.L) r d node.toNat s.n, 0), { s with L := put k (adKn (kget k s.L) r d node.toNat s.n v) s.L })
theorem add_S (p m : Nat) (s : LSt) (node r d k : Int) (v : ByteArray) (w : World) (h : LS w p m s) :
    Calls Try.prog 12 #[.pointer (some ⟨p, 0, none⟩), .int .i64 node, balV r d, .int .i64 k, .string v] w fun e w' =>
      e = .returned (.tuple #[.bool (adR s node r d k v).1.1, .int .i64 (adR s node r d k v).1.2]) ∧ LS w' p m (adR s node r d k v).2 ∧ Fr (S2 p m) w w' := by
  unfold adR
  by_cases h1 : adC s node r d k v = 0
  case neg =>
    rw [if_pos h1]
    refine (add_chk p m s node r d k v w h h1).mono ?_
    rintro e w' ⟨rfl, b⟩
    exact ⟨rfl, h.below b, Fr.of_below b⟩
  rw [if_neg (by rw [h1]; simp)]
  by_cases h2 : ordB (r, d) ((kget k s.L).r, (kget k s.L).d) < 0
  · rw [if_pos h2]
    refine (add_old p m s node r d k v w h h1 h2).mono ?_
    rintro e w' ⟨rfl, b⟩
    exact ⟨rfl, h.below b, Fr.of_below b⟩
  rw [if_neg h2]
  by_cases h3 : adBad (kget k s.L) r d v
  · rw [if_pos h3]
    refine (add_bad p m s node r d k v w h h1 h2 h3).mono ?_
    rintro e w' ⟨rfl, b⟩
    exact ⟨rfl, h.below b, Fr.of_below b⟩
  rw [if_neg h3]
  obtain ⟨hv0, _⟩ := lchk_zero h1
  obtain ⟨a, rfl, ha⟩ := isV_node (by simpa using hv0 : isV s.n node r d = true)
  exact add_yes p m s a r d k v w h h1 h2 h3

theorem below_drewN2 {B : Nat} {a w : World} (h : Below B a w) (n : Nat) : Below B a (w.drewN n) := below_drewN h n
theorem equal_rows (v1 v2 : Value) (lo1 lo2 : Nat) (xs ys : List Int) (w : World) (h1 : IntRow w lo1 v1 xs) (h2 : IntRow w lo2 v2 ys) (hl : xs.length ≤ 1000000000) (hl2 : ys.length ≤ 1000000000) :
    Calls Try.prog 16 #[v1, v2] w fun e w' => e = .returned (.bool (decide (xs = ys))) ∧ Below w.heap.size w w' := by
  obtain ⟨A1, k1, rfl, hk1, hc1⟩ := h1.view
  obtain ⟨A2, k2, rfl, hk2, hc2⟩ := h2.view
  by_cases hx : xs.length = 0
  · have hxe : xs = [] := List.length_eq_zero_iff.1 hx
    rw [hx]
    refine (Try.slices_Equal_int_empty A1 A2 k1 ys.length k2 w (by omega)).mono ?_
    rintro e w' ⟨rfl, rfl⟩
    refine ⟨ret_bool ?_, Below.refl _ _⟩
    subst hxe
    cases ys <;> simp
  by_cases hxy : xs.length = ys.length
  case neg =>
    refine (Try.slices_Equal_int_lens A1 A2 xs.length k1 ys.length k2 w hxy).mono ?_
    rintro e w' ⟨rfl, rfl⟩
    refine ⟨ret_bool ?_, Below.refl _ _⟩
    rw [eq_comm, decide_eq_false_iff_not]
    intro e
    exact hxy (by rw [e])
  obtain ⟨g1, rfl, _, _, hc1⟩ := hc1 (by omega)
  obtain ⟨g2, rfl, _, _, hc2⟩ := hc2 (by omega)
  refine (Try.slices_Equal_int g1 0 xs.length k1 g2 0 ys.length k2 xs ys w (Nat.le_refl _) (Nat.le_refl _) (by omega) (by omega) (fun j hj => ?_) (fun j hj => ?_)).mono ?_
  · rw [Nat.zero_add, hc1 j _ (List.getElem?_eq_getElem hj)]
    simp [List.getD_eq_getElem?_getD, List.getElem?_eq_getElem hj]
  · rw [Nat.zero_add, hc2 j _ (List.getElem?_eq_getElem hj)]
    simp [List.getD_eq_getElem?_getD, List.getElem?_eq_getElem hj]
  · rintro e w' ⟨rfl, q, rfl⟩
    refine ⟨ret_bool ?_, below_drewN (Below.refl _ _) q⟩
    rw [List.take_length, List.take_length]
    by_cases he : xs = ys
    · simp [he]
    · simp [he]
/-- A literal of one number. -/
theorem lit_int (w : World) (x : Int) : IntRow (w.alloc (.cells #[.int .i64 x] 3)) w.heap.size (.slice (some ⟨w.heap.size, 0, none⟩) 1 1) [x] :=
  ⟨rfl, .inr ⟨w.heap.size, 1, #[.int .i64 x], rfl, Nat.le_refl _, Blk.new _ _ _, Nat.le_refl _, by decide, by simp, rfl⟩⟩

namespace IntRow
theorem below {w w' : World} {lo : Nat} {v : Value} {xs : List Int} (h : IntRow w lo v xs) (k : Below w.heap.size w w') : IntRow w' lo v xs := h.fr (Fr.of_below k : Fr S0 w w') (fun i h => h.elim)
theorem fr2 {w w' : World} {p m lo : Nat} {v : Value} {xs : List Int} (h : IntRow w lo v xs) (k : Fr (S2 p m) w w') (hp : p < lo) (hm : m < lo) : IntRow w' lo v xs := h.fr k (fun i h => by rcases h with h | h <;> omega)
end IntRow

abbrev sx : ByteArray := ⟨#[120]⟩
abbrev sy : ByteArray := ⟨#[121]⟩
abbrev sz : ByteArray := ⟨#[122]⟩
abbrev sw : ByteArray := ⟨#[119]⟩
def W0 : LSt := ⟨3, 0, []⟩
def W1 : LSt := ⟨3, 0, [(4, ⟨false, ⟨#[]⟩, 2, 1, sy, 1⟩)]⟩
def W2 : LSt := ⟨3, 0, [(4, ⟨true, sy, 2, 1, sy, 5⟩)]⟩
def W3 : LSt := ⟨3, 0, [(0, ⟨true, sz, 0, 0, ⟨#[]⟩, 0⟩), (4, ⟨true, sy, 2, 1, sy, 5⟩)]⟩
theorem a1 : adR W0 0 2 1 4 sy = ((false, 0), W1) := by kernel_rfl
theorem a2 : adR W1 1 1 0 4 sx = ((false, 0), W1) := by kernel_rfl
theorem a3 : adR W1 2 2 1 4 sx = ((false, 9), W1) := by kernel_rfl
theorem a4 : adR W1 2 2 1 4 sy = ((true, 0), W2) := by kernel_rfl
theorem a5 : lnE W2 0 sz = 0 := by kernel_rfl
theorem a5' : lnS W2 0 sz = W3 := by kernel_rfl
theorem a6 : lnE W3 0 sw = 9 := by kernel_rfl
theorem a6' : lnS W3 0 sw = W3 := by kernel_rfl
theorem a7 : opn W1.L = [4] := by kernel_rfl
theorem a8 {u : Int} (h : Climbs W3.L 0 u) : u = 1 := by
  have h0 : (kget 0 W3.L).c = true := by kernel_rfl
  have h1 : (kget 1 W3.L).c = false := by kernel_rfl
  by_cases hu : u = 0
  · have := h.stop
    rw [hu, h0] at this
    exact absurd this (by decide)
  · by_cases hu1 : 1 < u
    · have := h.all 1 (by omega) hu1
      rw [h1] at this
      exact absurd this (by decide)
    · have := h.le
      omega
theorem lnew_S (n : Nat) (w : World) (hn : 1 ≤ n ∧ n ≤ 7) : Calls Try.prog 11 #[.int .i64 (n : Int)] w fun e w' => ∃ p m, e = .returned (.tuple #[.pointer (some ⟨p, 0, none⟩), .int .i64 0]) ∧ LS w' p m ⟨n, 0, []⟩ ∧ w.heap.size ≤ p ∧ w.heap.size ≤ m ∧ Below w.heap.size w w' := by
  refine (lnew_yes n w (by omega)).mono ?_
  rintro e w' ⟨p, m, rfl, h1, h2, h3, h4⟩
  refine ⟨p, m, rfl, ⟨⟨0, h1, ⟨Int.le_refl _, fun i h1 h2 => by have h1 : (0 : Int) ≤ i := h1; omega, rfl⟩, by omega⟩, ⟨hn, by simp, List.Pairwise.nil, fun q hq => by simp at hq, by simp, fun q hq => by simp at hq, fun q hq => by simp at hq⟩⟩, h2, h3, h4⟩
end Go.Proofs.Ytnnadpbfidfhoaa
