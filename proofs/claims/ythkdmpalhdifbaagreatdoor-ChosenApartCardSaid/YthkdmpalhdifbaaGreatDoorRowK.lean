/- A row of structs that a call owns, sorted by slices.SortFunc: as plain cells; the comparison's word. -/
import Derived.Test.YthkdmpalhdifbaaGreatDoorMapE
import Derived.Test.YthkdmpalhdifbaaGreatDoorShelf
import Derived.Sort.OwnSortedInts
import Derived.Shelf.SlSortCmp.NoneTotal
set_option linter.unusedVariables false
set_option linter.unusedSimpArgs false
namespace Go.Proofs.YthkdmpalhdifbaaGreatDoor
open Go.RowKit Go.Maps Go.Sort Go.Proofs

theorem holds_of_blockV {w : World} {g : Nat} {cur : Array Value} {e : TypeId} {xs : List Value} (hb : w.heap[g]? = some (.cells cur e (0, 0))) (ht : cur.toList.take xs.length = xs) : Holds (id : Value → Value) w g 0 xs.toArray := by
  intro j hj
  have hj' : j < xs.length := by simpa using hj
  refine ⟨?_, by simp [World.frozen?, hb]⟩
  have h1 : (cur.toList.take xs.length)[j]? = xs[j]? := by rw [ht]
  rw [List.getElem?_take_of_lt hj'] at h1
  simp only [World.cell?, hb, Nat.zero_add]
  simp only [Option.isSome_none, Bool.false_eq_true, if_false]
  rw [← Array.getElem?_toList, h1]
  simp [hj']
theorem heap_sortedV {w : World} {g n : Nat} {os : Array Obj} {cur : Array Value} {e : TypeId} {fr : Nat × Nat} (d : Array Value) (hb : w.heap[g]? = some (.cells cur e fr)) :
    (grow (putRow (id : Value → Value) (Sort.ahead w n) g 0 d) os).heap[g]? = some (.cells (putCells (id : Value → Value) 0 d cur) e fr) := by
  have hg : g < w.heap.size := (Array.getElem?_eq_some_iff.1 hb).1
  rw [heap_grow_old _ _ (by simpa using hg)]
  simp [putRow, mapBlock, Sort.ahead, Array.getElem?_modify, hb, onCells]
theorem grownBy_sortedV {w : World} {g n : Nat} {os : Array Obj} (d : Array Value) : w.grownBy (grow (putRow (id : Value → Value) (Sort.ahead w n) g 0 d) os) (some g) := by
  refine ⟨rfl, rfl, rfl, by simp, fun k hk hne => ?_⟩
  rw [heap_grow_old _ _ (by simpa using hk)]
  have : g ≠ k := fun e => hne (by rw [e])
  simp [putRow, mapBlock, Sort.ahead, Array.getElem?_modify, this]
theorem take_putCellsV (cur : Array Value) (ts : List Value) (h : ts.length ≤ cur.size) : (putCells (id : Value → Value) 0 ts.toArray cur).toList.take ts.length = ts := by
  apply List.ext_getElem?
  intro j
  by_cases hj : j < ts.length
  · rw [List.getElem?_take_of_lt hj, Array.getElem?_toList]
    simp [putCells, hj, show j < cur.size by omega]
  · rw [List.getElem?_take_eq_none (by omega), List.getElem?_eq_none (by omega)]
theorem ownsRow_sortedV {w : World} {base g cap n m size : Nat} {e : TypeId} {os : Array Obj} {cur : Array Value} {ts : List Value} (hl : ts.length = m * size) (hbase : base ≤ g) (hb : w.heap[g]? = some (.cells cur e (0, 0)))
    (h1 : m ≤ cap) (h2 : cap ≤ maxLen) (h3 : cur.size = cap * size) :
    (grow (putRow (id : Value → Value) (Sort.ahead w n) g 0 ts.toArray) os).ownsRow base e size (.slice (some ⟨g, 0, none⟩) m cap) m ts :=
  ⟨hl, .inr ⟨g, cap, _, rfl, hbase, heap_sortedV _ hb, h1, h2, by simp [putCells, h3], by
    have : m * size ≤ cap * size := Nat.mul_le_mul_right _ h1
    rw [← hl]; exact take_putCellsV cur ts (by rw [hl, h3]; exact this)⟩⟩

section
variable {α : Type} (enc : α → List Value) (k : Nat)
def flat (L : List α) : List Value := L.flatMap enc
variable {enc k}
theorem flat_length (hk : ∀ x, (enc x).length = k) (L : List α) : (flat enc L).length = L.length * k := by
  induction L with
  | nil => simp [flat]
  | cons x r ih => simp only [flat, List.flatMap_cons, List.length_append, List.length_cons] at ih ⊢; rw [ih, hk, Nat.add_mul]; omega
theorem flat_at (hk : ∀ x, (enc x).length = k) : ∀ (L : List α) (i : Nat) (p : α), L[i]? = some p → ∀ j, j < k → (flat enc L)[i * k + j]? = (enc p)[j]?
  | [], i, p, h, j, hj => by simp at h
  | x :: r, 0, p, h, j, hj => by
    simp at h
    subst h
    simp only [flat, List.flatMap_cons]
    rw [List.getElem?_append_left (by rw [hk]; omega)]
    simp
  | x :: r, i + 1, p, h, j, hj => by
    have ih := flat_at hk r i p (by simpa using h) j hj
    simp only [flat, List.flatMap_cons]
    rw [List.getElem?_append_right (by rw [hk, Nat.add_mul]; omega)]
    rw [show (i + 1) * k + j - (enc x).length = i * k + j by rw [hk, Nat.add_mul]; omega]
    exact ih
theorem flatK_eq [Inhabited α] (hk : ∀ x, (enc x).length = k) (h0 : 0 < k) (L : List α) : flatK enc k L.toArray = (flat enc L).toArray := by
  refine ext_get! (by simp [flatK, flat_length hk]) fun t ht => ?_
  have ht' : t < L.length * k := by simpa [flatK] using ht
  rw [get_flatK enc k L.toArray t (by simpa using ht')]
  have hi : t / k < L.length := (Nat.div_lt_iff_lt_mul h0).2 ht'
  have hm := Nat.mod_lt t h0
  have hd : t / k * k + t % k = t := by rw [Nat.mul_comm]; exact Nat.div_add_mod t k
  have h1 := flat_at hk L (t / k) (L[t / k]) (List.getElem?_eq_getElem hi) (t % k) hm
  rw [hd] at h1
  have hlt : t < (flat enc L).length := by rw [flat_length hk]; exact ht'
  have hlk : t % k < (enc L[t / k]).length := by rw [hk]; exact hm
  rw [List.getElem?_eq_getElem hlt, List.getElem?_eq_getElem hlk] at h1
  have h2 : L.toArray[t / k]! = L[t / k] := by simp [hi]
  rw [h2]
  simp [hlk, hlt]
  exact (Option.some.inj h1).symm
end

/-- w' is w with draws and new blocks. -/
def Gr (w w' : World) : Prop := ∃ q os, w' = grow (w.drewN q) os
namespace Gr
theorem refl (w : World) : Gr w w := ⟨0, #[], by simp [World.drewN]⟩
theorem alloc {w w' : World} (h : Gr w w') (o : Obj) : Gr w (w'.alloc o) := by
  obtain ⟨q, os, rfl⟩ := h
  exact ⟨q, os ++ #[o], by rw [alloc_eq_grow, grow_grow]⟩
theorem drew {w w' : World} (h : Gr w w') : Gr w w'.drew := by
  obtain ⟨q, os, rfl⟩ := h
  exact ⟨q + 1, os, rfl⟩
end Gr
end Go.Proofs.YthkdmpalhdifbaaGreatDoor
