/- Rows of ints that a call owns; slices.Sort of a row. -/
import Derived.Test.YtnnadpbfidfhoaaEncK
import Derived.Test.YtnnadpbfidfhoaaShelf
import Derived.RangeFuncNested
import Derived.RangeFuncBound
import Derived.RangeFuncCalls
import Derived.RangeFuncLeaves
import Derived.Shelf.Abstract
import Derived.Shelf.RegionOpen
import Derived.OwnWalkIn
import Derived.TacticsInMore
import Derived.LoopNIn
import Derived.LoopIn
import Derived.Maps.AppendAt
import Derived.Sort.OwnSortedInts
set_option linter.unusedVariables false
set_option linter.unusedSimpArgs false
namespace Go.Proofs.Ytnnadpbfidfhoaa
open Go.RowKit Go.Maps Go.Sort Go.Shelf

theorem info_int : (Try.prog.info? 3).map (fun i => (i.zero, i.size, i.bytes)) = some (some (.int .i64 0), 1, 8) := by kernel_rfl

/-- The slice v is the numbers xs, in a block from lo on (or nil). -/
def IntRow (w : World) (lo : Nat) (v : Value) (xs : List Int) : Prop := w.ownsRow lo 3 1 v xs.length (xs.map (Value.int .i64))

namespace IntRow
variable {w w' : World} {lo lo' : Nat} {v : Value} {xs : List Int}
theorem nil (w : World) (lo : Nat) : IntRow w lo (.slice none 0 0) [] := World.ownsRow_nil _ _ _ _
theorem lower (h : IntRow w lo v xs) (hb : lo' ≤ lo) : IntRow w lo' v xs :=
  ⟨h.1, h.2.imp id fun ⟨g, cap, cur, h1, h2, h3⟩ => ⟨g, cap, cur, h1, Nat.le_trans hb h2, h3⟩⟩
theorem fr {S : Nat → Prop} (h : IntRow w lo v xs) (k : Fr S w w') (hS : ∀ i, S i → i < lo) : IntRow w' lo v xs :=
  ⟨h.1, h.2.imp id fun ⟨g, cap, cur, h1, h2, h3, h4⟩ => ⟨g, cap, cur, h1, h2, (k.block g (Array.getElem?_eq_some_iff.1 h3).1 (fun e => by have := hS g e; omega)).trans h3, h4⟩⟩
/-- What the slice is, and its cells. -/
theorem view (h : IntRow w lo v xs) : ∃ (A : Option Addr) (cap : Nat), v = .slice A xs.length cap ∧ xs.length ≤ cap ∧
    (0 < xs.length → ∃ g, A = some ⟨g, 0, none⟩ ∧ lo ≤ g ∧ g < w.heap.size ∧ ∀ i x, xs[i]? = some x → w.cell? ⟨g, i, none⟩ = some (.int .i64 x)) := by
  rcases h.2 with ⟨rfl, hn⟩ | ⟨g, cap, cur, rfl, hb, hg, hle, _⟩
  · exact ⟨none, 0, by rw [hn], by omega, fun h => by omega⟩
  · refine ⟨_, cap, rfl, hle, fun hpos => ⟨g, rfl, hb, (Array.getElem?_eq_some_iff.1 hg).1, fun i x hx => ?_⟩⟩
    have hi : i < xs.length := (List.getElem?_eq_some_iff.1 hx).1
    rw [World.ownsRow.cellAt h i (by omega), List.getElem?_map, hx]
    rfl
end IntRow

/-- The keys, in order. -/
def keys {β : Type} (L : List (Int × β)) : List Int := L.map (·.1)
theorem keys_sorted {β : Type} {L : List (Int × β)} (h : Srt L) : (keys L).Pairwise (· < ·) := List.pairwise_map.2 h
/-- Whatever the order in which they came: sorted, they are the keys. -/
theorem sort_perm {xs ys : List Int} (h : ys.Perm xs) (hs : xs.Pairwise (· < ·)) : ys.mergeSort (fun x y => decide (x ≤ y)) = xs := by
  refine List.Perm.eq_of_pairwise (le := fun a b => a ≤ b) (fun a b _ _ h1 h2 => by omega) ?_ (hs.imp fun h => by omega) ((List.mergeSort_perm _ _).trans h)
  have := List.pairwise_mergeSort (le := fun x y : Int => decide (x ≤ y)) (fun a b c h1 h2 => by simp at *; omega) (fun a b => by simp; omega) ys
  exact this.imp fun h => by simpa using h

/-- The block of a row. -/
def rowS (v : Value) : Nat → Prop := fun i => v.ownBlock = some i
def leB : Int → Int → Bool := fun x y => decide (x ≤ y)

/-- slices.Sort of a row. -/
theorem isort (lo : Nat) (v : Value) (xs : List Int) (w : World) (h : IntRow w lo v xs) (hlen : xs.length ≤ 1000000000) :
    Calls Try.prog 36 #[v] w fun e w' => e = .returned (.tuple #[]) ∧ IntRow w' lo v (xs.mergeSort leB) ∧ Fr (rowS v) w w' := by
  rcases h.2 with ⟨rfl, hn⟩ | ⟨g, cap, cur, rfl, hb, hg, hle, hcap, hsz, htake⟩
  · have hx : xs = [] := List.length_eq_zero_iff.1 hn
    subst hx
    refine (AnyM.slices_Sort_int_none Try.sortA none 0 w).mono ?_
    rintro e w' ⟨rfl, rfl⟩
    exact ⟨rfl, by simpa using h, Fr.refl _ _⟩
  · have hH : Holds (Value.int .i64) w g 0 xs.toArray := holds_of_blockI hg (by simpa using htake)
    refine (AnyM.slices_Sort_int Try.sortA g 0 cap xs w hH (Array.getElem?_eq_some_iff.1 hg).1 (by omega)).mono ?_
    rintro e w' ⟨rfl, n, os, rfl⟩
    refine ⟨rfl, ?_, Fr.of_grown (grownBy_sortedI _) (fun i e => by cases e; rfl)⟩
    have := ownsRow_sortedI (n := n) (os := os) (ts := xs.mergeSort leB) (by simp) hb hg hle hcap hsz
    have hl : (xs.mergeSort leB).length = xs.length := by simp
    unfold IntRow
    rw [hl]
    exact this
end Go.Proofs.Ytnnadpbfidfhoaa
