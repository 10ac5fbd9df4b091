/- Package chosen: whether a value is safe: plain laws. -/
import Derived.Test.YthkdmpalhdifbaaGreatDoorChoI
import Derived.Test.YthkdmpalhdifbaaGreatDoorChoN
set_option linter.unusedVariables false
set_option linter.unusedSimpArgs false
namespace Go.Proofs.YthkdmpalhdifbaaGreatDoor
open Go.RowKit Go.Maps Go.Shelf Go.Sort Go.Lib

theorem bitsAnd : ∀ a : Fin 128, ∀ b : Fin 128, bits BinOp.and IntKind.u64 ((a.val : Nat) : Int) ((b.val : Nat) : Int) = ((a.val &&& b.val : Nat) : Int) := by decide +kernel
theorem bitsAndNot : ∀ a : Fin 128, ∀ b : Fin 128, bits BinOp.andNot IntKind.u64 ((a.val : Nat) : Int) ((b.val : Nat) : Int) = ((a.val &&& (b.val ^^^ 127) : Nat) : Int) := by decide +kernel
theorem full_free : ∀ n : Fin 8, IntKind.u64.wrap (IntKind.u64.wrap ((2 : Int) ^ n.val) - 1) = ((2 ^ n.val - 1 : Nat) : Int) := by decide +kernel
def insB (x : Ba) : List Ba → List Ba
  | [] => [x]
  | y :: r => if ordB y x < 0 then y :: insB x r else x :: y :: r
def sortB (l : List Ba) : List Ba := l.foldr insB []
theorem leBa_iff {x y : Ba} : leBa x y = true ↔ ¬ ordB y x < 0 := by
  unfold leBa
  rw [ltBa, ordB_lt]
  simp only [Bool.not_eq_true', decide_eq_false_iff_not]
theorem insB_perm (x : Ba) : ∀ l : List Ba, (insB x l).Perm (x :: l)
  | [] => .refl _
  | y :: r => by
    unfold insB
    split
    · exact ((insB_perm x r).cons y).trans (List.Perm.swap x y r)
    · exact .refl _
theorem sortB_perm : ∀ l : List Ba, (sortB l).Perm l
  | [] => .refl _
  | x :: r => (insB_perm x (sortB r)).trans ((sortB_perm r).cons x)
theorem insB_sorted (x : Ba) : ∀ l : List Ba, l.Pairwise (fun a b => leBa a b = true) → (insB x l).Pairwise (fun a b => leBa a b = true)
  | [], _ => by simp [insB]
  | y :: r, h => by
    have hp := List.pairwise_cons.1 h
    unfold insB
    split
    · rename_i hc
      refine List.pairwise_cons.2 ⟨fun z hz => ?_, insB_sorted x r hp.2⟩
      rcases List.mem_cons.1 ((insB_perm x r).mem_iff.1 hz) with rfl | hz
      · rw [leBa_iff]; rw [ordB_lt] at *; omega
      · exact hp.1 z hz
    · rename_i hc
      refine List.pairwise_cons.2 ⟨fun z hz => ?_, h⟩
      rcases List.mem_cons.1 hz with rfl | hz
      · rw [leBa_iff]; exact hc
      · have h1 := hp.1 z hz
        rw [leBa_iff] at *
        rw [ordB_lt] at *
        omega
theorem sortB_sorted : ∀ l : List Ba, (sortB l).Pairwise (fun a b => leBa a b = true)
  | [] => List.Pairwise.nil
  | x :: r => insB_sorted x _ (sortB_sorted r)
theorem leBa_anti {a b : Ba} (h1 : leBa a b = true) (h2 : leBa b a = true) : a = b := by
  rw [leBa_iff, ordB_lt] at h1 h2
  obtain ⟨x, y⟩ := a
  obtain ⟨x', y'⟩ := b
  simp only at h1 h2
  have e1 : x = x' := by omega
  have e2 : y = y' := by omega
  rw [e1, e2]
theorem merge_sortB {l m : List Ba} (h : l.Perm m) : l.mergeSort leBa = sortB m := by
  refine List.Perm.eq_of_pairwise (le := fun a b => leBa a b = true) (fun a b _ _ h1 h2 => leBa_anti h1 h2) ?_ (sortB_sorted m) (((List.mergeSort_perm l leBa).trans h).trans (sortB_perm m).symm)
  refine List.pairwise_mergeSort ?_ ?_ l
  · intro a b c h1 h2
    rw [leBa_iff, ordB_lt] at *
    omega
  · intro a b
    rw [Bool.or_eq_true, leBa_iff, leBa_iff, ordB_lt, ordB_lt]
    omega

theorem belowL_perm {A B : GA} {s : Int} {b : Ba} (h : A.Perm B) : (belowL A s b).Perm (belowL B s b) := (h.filter _).map _
theorem belowL_snoc (A : GA) (s : Int) (b : Ba) (p : Pl × Sd) : belowL (A ++ [p]) s b = if (decide (p.1.1 = s) && decide (ordB (baOf p) b < 0)) = true then belowL A s b ++ [baOf p] else belowL A s b := by
  unfold belowL
  rw [List.filter_append, List.map_append, List.filter_cons]
  split <;> simp
theorem belowL_mem {A : GA} {s : Int} {b x : Ba} (h : x ∈ belowL A s b) : ∃ p ∈ A, baOf p = x := by
  unfold belowL at h
  obtain ⟨p, hp, rfl⟩ := List.mem_map.1 h
  exact ⟨p, (List.mem_filter.1 hp).1, rfl⟩
theorem belowL_len (A : GA) (s : Int) (b : Ba) : (belowL A s b).length ≤ A.length := by
  unfold belowL
  rw [List.length_map]
  exact List.length_filter_le _ _

def sdOf (A : GA) (s : Int) (b : Ba) : Sd := (getG (s, b.1, b.2) A).getD (⟨#[]⟩, 0)
def condS (n : Nat) (A : GA) (s : Int) (v : ByteArray) (f : Nat) (b : Ba) : Bool := maj f n && (decide ((sdOf A s b).2 &&& f ≠ 0) && decide ((sdOf A s b).1.data.toList = v.data.toList))
def walkS (n : Nat) (A : GA) (s : Int) (v : ByteArray) : Nat → List Ba → Option Nat
  | f, [] => some f
  | f, b :: r => if condS n A s v f b = true then none else walkS n A s v (f &&& ((sdOf A s b).2 ^^^ 127)) r
def safeL (n : Nat) (A : GA) (s : Int) (v : ByteArray) (l : List Ba) : Bool :=
  match walkS n A s v (2 ^ n - 1) l with
  | none => true
  | some f => maj f n
section
variable {n : Nat} {A : GA} {s : Int} {v : ByteArray}
theorem walkS_snoc : ∀ {p : List Ba} {f g : Nat} {b : Ba}, walkS n A s v f p = some g → walkS n A s v f (p ++ [b]) = if condS n A s v g b = true then none else some (g &&& ((sdOf A s b).2 ^^^ 127))
  | [], f, g, b, h => by
    obtain rfl := Option.some.inj h
    simp [walkS]
  | x :: r, f, g, b, h => by
    unfold walkS at h
    rw [List.cons_append]
    unfold walkS
    by_cases hc : condS n A s v f x = true
    · rw [if_pos hc] at h; cases h
    · rw [if_neg hc] at h ⊢
      exact walkS_snoc h
theorem walkS_none : ∀ {p q : List Ba} {f : Nat}, walkS n A s v f p = none → walkS n A s v f (p ++ q) = none
  | [], q, f, h => by simp [walkS] at h
  | x :: r, q, f, h => by
    unfold walkS at h
    rw [List.cons_append]
    unfold walkS
    by_cases hc : condS n A s v f x = true
    · rw [if_pos hc]
    · rw [if_neg hc] at h ⊢
      exact walkS_none h
end
theorem bk_map {L : List Ba} (hok : ∀ x ∈ L, in64 x.1 ∧ in64 x.2) {k : Nat} (hk : k ≤ L.length) : (bk L k).map (fun x => x.2.1) = L.reverse.take k := by
  apply List.ext_getElem
  · simp [bk, hk]
  · intro i h1 h2
    have hi : i < k := by simpa [bk] using h1
    have hl : L.length - 1 - i < L.length := by omega
    simp only [bk, List.map_map, List.getElem_map, List.getElem_range, Function.comp, List.getElem_take, List.getElem_reverse]
    rw [List.getD_eq_getElem?_getD, List.getElem?_eq_getElem hl]
    exact toBs_ok (hok _ (List.getElem_mem hl))
def safeF (n : Nat) (L : List Vt) (b : Ba) (s : Int) (v : ByteArray) : Bool × Int :=
  match (gwalk n [] [] 0 L).1 with
  | none => (false, 2)
  | some A => if (b.1 == 0 && b.2 == 0) = true then (false, 2) else if chkE n b.1 b.2 = 0 then (if (decide (s ≥ 0) && decide (s < 4096)) = true then (safeL n A s v (sortB (belowL A s b)).reverse, 0) else (false, 3)) else (false, 2)
end Go.Proofs.YthkdmpalhdifbaaGreatDoor
