import Derived.WalkKit
set_option linter.all false
namespace Go.Proofs.YtlfikhblmbidmaaGreatDoor
section
variable {α : Type} (key : α → Int)
def KSort (l : List α) : Prop := l.Pairwise fun x y => key x ≤ key y
structure KSame (l m : List α) : Prop where
 perm : l.Perm m
 filt : ∀ k, l.filter (fun x => decide (key x = k)) = m.filter (fun x => decide (key x = k))
def MergeS (U V R : List α) : Prop := KSame key (U ++ V) R ∧ KSort key R
end
section
variable {α : Type} {key : α → Int}
namespace KSame
theorem refl (l : List α) : KSame key l l := ⟨List.Perm.refl _, fun _ => rfl⟩
theorem trans {a b c : List α} (h : KSame key a b) (k : KSame key b c) : KSame key a c := ⟨h.perm.trans k.perm, fun x => (h.filt x).trans (k.filt x)⟩
theorem symm {a b : List α} (h : KSame key a b) : KSame key b a := ⟨h.perm.symm, fun x => (h.filt x).symm⟩
theorem append {a b c d : List α} (h : KSame key a b) (k : KSame key c d) : KSame key (a ++ c) (b ++ d) :=
 ⟨h.perm.append k.perm, fun x => by rw [List.filter_append, List.filter_append, h.filt, k.filt]⟩
theorem swap {a b : List α} (h : ∀ x ∈ a, ∀ y ∈ b, key x ≠ key y) : KSame key (a ++ b) (b ++ a) := by
 refine ⟨List.perm_append_comm, fun k => ?_⟩
 rw [List.filter_append, List.filter_append]
 by_cases hx : ∃ x ∈ a, key x = k
 ·obtain ⟨x, hx, e⟩ := hx
  have : b.filter (fun x => decide (key x = k)) = [] := by
   rw [List.filter_eq_nil_iff]
   intro y hy hd
   rw [decide_eq_true_eq] at hd
   exact h x hx y hy (e.trans hd.symm)
  rw [this, List.append_nil, List.nil_append]
 ·have : a.filter (fun x => decide (key x = k)) = [] := by
   rw [List.filter_eq_nil_iff]
   intro y hy hd
   rw [decide_eq_true_eq] at hd
   exact hx ⟨y, hy, hd⟩
  rw [this, List.append_nil, List.nil_append]
theorem length {a b : List α} (h : KSame key a b) : a.length = b.length := h.perm.length_eq
end KSame
theorem KSort.nil : KSort key ([] : List α) := List.Pairwise.nil
theorem KSort.one (x : α) : KSort key [x] := List.pairwise_singleton _ _
theorem KSort.append {a b : List α} : KSort key (a ++ b) ↔ KSort key a ∧ KSort key b ∧ ∀ x ∈ a, ∀ y ∈ b, key x ≤ key y := List.pairwise_append
theorem KSort.take_lt {l : List α} (h : KSort key l) {i : Nat} {k : Int} (hi : i = 0 ∨ ∃ y, l[i - 1]? = some y ∧ key y < k) : ∀ x ∈ l.take i, key x < k := by
 rcases hi with rfl | ⟨y, hy, hk⟩
 ·simp
 ·intro x hx
  obtain ⟨j, hj, rfl⟩ := List.mem_take_iff_getElem.1 hx
  have hil := (List.getElem?_eq_some_iff.1 hy).1
  by_cases e : j = i - 1
  ·subst e
   rw [(List.getElem?_eq_some_iff.1 hy).2]
   exact hk
  ·have := List.pairwise_iff_getElem.1 h j (i - 1) (by omega) hil (by omega)
   rw [(List.getElem?_eq_some_iff.1 hy).2] at this
   omega
theorem KSort.take_le {l : List α} (h : KSort key l) {i : Nat} {k : Int} (hi : i = 0 ∨ ∃ y, l[i - 1]? = some y ∧ key y ≤ k) : ∀ x ∈ l.take i, key x ≤ k := fun x hx => by
 have := h.take_lt (i := i) (k := k + 1) (hi.imp id fun ⟨y, h1, h2⟩ => ⟨y, h1, by omega⟩) x hx
 omega
theorem KSort.drop_ge {l : List α} (h : KSort key l) {i : Nat} {k : Int} (hi : l.length ≤ i ∨ ∃ y, l[i]? = some y ∧ k ≤ key y) : ∀ x ∈ l.drop i, k ≤ key x := by
 rcases hi with hi | ⟨y, hy, hk⟩
 ·rw [List.drop_of_length_le hi]; simp
 ·intro x hx
  obtain ⟨j, hj, rfl⟩ := List.mem_drop_iff_getElem.1 hx
  have hil := (List.getElem?_eq_some_iff.1 hy).1
  cases j with
  | zero =>
   have e : l[i + 0] = y := (List.getElem?_eq_some_iff.1 hy).2
   rw [e]; exact hk
  | succ j =>
   have := List.pairwise_iff_getElem.1 h i (i + (j + 1)) hil (by omega) (by omega)
   rw [(List.getElem?_eq_some_iff.1 hy).2] at this
   omega
theorem KSort.drop_gt {l : List α} (h : KSort key l) {i : Nat} {k : Int} (hi : l.length ≤ i ∨ ∃ y, l[i]? = some y ∧ k < key y) : ∀ x ∈ l.drop i, k < key x := fun x hx => by
 have := h.drop_ge (i := i) (k := k + 1) (hi.imp id fun ⟨y, h1, h2⟩ => ⟨y, h1, by omega⟩) x hx
 omega
theorem KSort.take {l : List α} (h : KSort key l) (i : Nat) : KSort key (l.take i) := List.Pairwise.sublist (List.take_sublist _ _) h
theorem KSort.drop {l : List α} (h : KSort key l) (i : Nat) : KSort key (l.drop i) := List.Pairwise.sublist (List.drop_sublist _ _) h
theorem MergeS.left {U : List α} (h : KSort key U) : MergeS key U [] U := ⟨by rw [List.append_nil]; exact KSame.refl _, h⟩
theorem MergeS.right {V : List α} (h : KSort key V) : MergeS key [] V V := ⟨KSame.refl _, h⟩
theorem MergeS.oneL {u : α} {V1 V2 : List α} (hs : KSort key (V1 ++ V2)) (h1 : ∀ x ∈ V1, key x < key u) (h2 : ∀ x ∈ V2, key u ≤ key x) : MergeS key [u] (V1 ++ V2) (V1 ++ u :: V2) := by
 obtain ⟨a1, a2, a3⟩ := KSort.append.1 hs
 constructor
 ·have e1 : [u] ++ (V1 ++ V2) = ([u] ++ V1) ++ V2 := by simp
  have e2 : V1 ++ u :: V2 = (V1 ++ [u]) ++ V2 := by simp
  rw [e1, e2]
  refine KSame.append (KSame.swap fun x hx y hy => ?_) (KSame.refl _)
  rw [List.mem_singleton] at hx
  subst hx
  have := h1 y hy
  omega
 ·rw [KSort.append]
  refine ⟨a1, List.pairwise_cons.2 ⟨h2, a2⟩, fun x hx y hy => ?_⟩
  rcases List.mem_cons.1 hy with rfl | hy
  ·have := h1 x hx; omega
  ·exact a3 x hx y hy
theorem MergeS.oneR {v : α} {U1 U2 : List α} (hs : KSort key (U1 ++ U2)) (h1 : ∀ x ∈ U1, key x ≤ key v) (h2 : ∀ x ∈ U2, key v < key x) : MergeS key (U1 ++ U2) [v] (U1 ++ v :: U2) := by
 obtain ⟨a1, a2, a3⟩ := KSort.append.1 hs
 constructor
 ·have e1 : (U1 ++ U2) ++ [v] = U1 ++ (U2 ++ [v]) := by simp
  have e2 : U1 ++ v :: U2 = U1 ++ ([v] ++ U2) := by simp
  rw [e1, e2]
  refine KSame.append (KSame.refl _) (KSame.swap fun x hx y hy => ?_)
  rw [List.mem_singleton] at hy
  subst hy
  have := h2 x hx
  omega
 ·rw [KSort.append]
  refine ⟨a1, List.pairwise_cons.2 ⟨fun y hy => by have := h2 y hy; omega, a2⟩, fun x hx y hy => ?_⟩
  rcases List.mem_cons.1 hy with rfl | hy
  ·exact h1 x hx
  ·exact a3 x hx y hy
theorem MergeS.two {U1 U2 V1 V2 R1 R2 : List α} (hu : KSort key (U1 ++ U2)) (hv : KSort key (V1 ++ V2)) (hx : ∀ x ∈ U2, ∀ y ∈ V1, key y < key x) (hy : ∀ x ∈ U1, ∀ y ∈ V2, key x ≤ key y)
  (h1 : MergeS key U1 V1 R1) (h2 : MergeS key U2 V2 R2) : MergeS key (U1 ++ U2) (V1 ++ V2) (R1 ++ R2) := by
 obtain ⟨_, _, u3⟩ := KSort.append.1 hu
 obtain ⟨_, _, v3⟩ := KSort.append.1 hv
 constructor
 ·refine KSame.trans (b := (U1 ++ V1) ++ (U2 ++ V2)) ?_ (h1.1.append h2.1)
  have e1 : (U1 ++ U2) ++ (V1 ++ V2) = U1 ++ ((U2 ++ V1) ++ V2) := by simp
  have e2 : (U1 ++ V1) ++ (U2 ++ V2) = U1 ++ ((V1 ++ U2) ++ V2) := by simp
  rw [e1, e2]
  refine KSame.append (KSame.refl _) (KSame.append (KSame.swap fun x hx1 y hy1 => ?_) (KSame.refl _))
  have := hx x hx1 y hy1
  omega
 ·rw [KSort.append]
  refine ⟨h1.2, h2.2, fun x hx1 y hy1 => ?_⟩
  have m1 := h1.1.perm.mem_iff.2 hx1
  have m2 := h2.1.perm.mem_iff.2 hy1
  rcases List.mem_append.1 m1 with m1 | m1 <;> rcases List.mem_append.1 m2 with m2 | m2
  ·exact u3 x m1 y m2
  ·exact hy x m1 y m2
  ·have := hx y m2 x m1; omega
  ·exact v3 x m1 y m2
def Chk (key : α → Int) (k : Nat) (l : List α) : Prop := ∀ i, KSort key ((l.drop (i * k)).take k)
theorem Chk.nil {k : Nat} : Chk key k ([] : List α) := fun i => by simp; exact KSort.nil
theorem Chk.all {k : Nat} {l : List α} (h : Chk key k l) (hl : l.length ≤ k) : KSort key l := by
 have := h 0
 rw [Nat.zero_mul, List.drop_zero, List.take_of_length_le hl] at this
 exact this
theorem Chk.snoc {k n : Nat} {d r : List α} (h : Chk key k d) (hd : d.length = n * k) (hr : KSort key r) : Chk key k (d ++ r.take k) := fun i => by
 by_cases hi : i < n
 ·have h1 : (i + 1) * k ≤ n * k := Nat.mul_le_mul_right k hi
  rw [Nat.succ_mul] at h1
  rw [List.drop_append_of_le_length (by omega), List.take_append_of_le_length (by rw [List.length_drop]; omega)]
  exact h i
 ·have h1 : n * k ≤ i * k := Nat.mul_le_mul_right k (by omega)
  rw [List.drop_append, List.drop_of_length_le (by omega), List.nil_append]
  exact ((hr.take k).drop _).take k
theorem Chk.last {k n : Nat} {d r : List α} (h : Chk key k d) (hd : d.length = n * k) (hr : KSort key r) (hl : r.length ≤ k) : Chk key k (d ++ r) := by
 have := h.snoc hd hr
 rwa [List.take_of_length_le hl] at this
theorem Chk.drop {k n : Nat} {d r : List α} (h : Chk key k (d ++ r)) (hd : d.length = n * k) : Chk key k r := fun i => by
 have := h (n + i)
 rw [Nat.add_mul, ← hd, List.drop_length_add_append] at this
 exact this
theorem Chk.head {k : Nat} {l : List α} (h : Chk key k l) : KSort key (l.take k) := by
 have := h 0
 rwa [Nat.zero_mul, List.drop_zero] at this
end
end Go.Proofs.YtlfikhblmbidmaaGreatDoor