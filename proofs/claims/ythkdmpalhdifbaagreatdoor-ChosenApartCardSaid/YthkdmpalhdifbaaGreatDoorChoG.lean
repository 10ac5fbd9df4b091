/- Package chosen: what picked keeps: the first ballots and the values of each slot. -/
import Derived.Test.YthkdmpalhdifbaaGreatDoorChoF
set_option linter.unusedVariables false
set_option linter.unusedSimpArgs false
namespace Go.Proofs.YthkdmpalhdifbaaGreatDoor
open Go.RowKit Go.Maps Go.Shelf Go.Sort

abbrev Fv := Int × Ba × ByteArray
abbrev enV (e : Fv) : Value := .agg #[.int .i64 e.1, .int .i64 e.2.1.1, .int .i64 e.2.1.2, .string e.2.2]
def mj (n : Nat) (q : Pl × Sd) : Bool := maj q.2.2 n
/-- The places at the slot s that a majority has voted at. -/
def atS (n : Nat) (s : Int) (Q : GA) : GA := Q.filter fun q => decide (q.1.1 = s) && mj n q
theorem mem_atS {n : Nat} {s : Int} {Q : GA} {q : Pl × Sd} : q ∈ atS n s Q ↔ q ∈ Q ∧ q.1.1 = s ∧ mj n q = true := by
  unfold atS
  rw [List.mem_filter]
  simp
theorem atS_snoc (n : Nat) (s : Int) (Q : GA) (q : Pl × Sd) : atS n s (Q ++ [q]) = if q.1.1 = s ∧ mj n q = true then atS n s Q ++ [q] else atS n s Q := by
  unfold atS
  rw [List.filter_append, List.filter_cons]
  by_cases h : q.1.1 = s ∧ mj n q = true
  · rw [if_pos h, if_pos (by simp [h])]; rfl
  · rw [if_neg h, if_neg (by simpa using h)]; simp
/-- The values at a slot. -/
def valsOf (n : Nat) (Q : GA) (s : Int) : List (List UInt8) := (atS n s Q).map fun q => q.2.1.data.toList
theorem valsOf_snoc_yes {n : Nat} {Q : GA} {q : Pl × Sd} (h : mj n q = true) (s : Int) : valsOf n (Q ++ [q]) s = if q.1.1 = s then valsOf n Q s ++ [q.2.1.data.toList] else valsOf n Q s := by
  unfold valsOf
  rw [atS_snoc]
  by_cases hs : q.1.1 = s
  · rw [if_pos ⟨hs, h⟩, if_pos hs, List.map_append]; rfl
  · rw [if_neg (fun hc => hs hc.1), if_neg hs]
theorem atS_snoc_no {n : Nat} {Q : GA} {q : Pl × Sd} (h : mj n q = false) (s : Int) : atS n s (Q ++ [q]) = atS n s Q := by
  rw [atS_snoc, if_neg (by rw [h]; simp)]
theorem valsOf_snoc_no {n : Nat} {Q : GA} {q : Pl × Sd} (h : mj n q = false) (s : Int) : valsOf n (Q ++ [q]) s = valsOf n Q s := by
  unfold valsOf
  rw [atS_snoc_no h]

/-- The map of the first ballots. -/
structure FOk (n : Nat) (Q : GA) (F : List (Int × Fv)) : Prop where
  no : ∀ s, getG s F = none → atS n s Q = []
  yes : ∀ s e, getG s F = some e → e.1 = s ∧ (∃ x, ((s, e.2.1.1, e.2.1.2), (e.2.2, x)) ∈ atS n s Q) ∧ ∀ q ∈ atS n s Q, ¬ ordB (q.1.2.1, q.1.2.2) e.2.1 < 0
theorem FOk.nil (n : Nat) : FOk n [] [] := ⟨fun _ _ => rfl, fun s e h => by simp [getG] at h⟩
theorem FOk.skip {n : Nat} {Q : GA} {F : List (Int × Fv)} {q : Pl × Sd} (h : FOk n Q F) (hq : mj n q = false) : FOk n (Q ++ [q]) F :=
  ⟨fun s hs => by rw [atS_snoc_no hq]; exact h.no s hs, fun s e he => by rw [atS_snoc_no hq]; exact h.yes s e he⟩
theorem ordB_irr (a : Ba) : ¬ ordB a a < 0 := by rw [ordB_lt]; omega
theorem ordB_trans' {a b c : Ba} (h1 : ¬ ordB a b < 0) (h2 : ordB c b < 0) : ¬ ordB a c < 0 := by
  rw [ordB_lt] at *
  omega
/-- A place whose ballot is the first one, or below it. -/
theorem FOk.take {n : Nat} {Q : GA} {F : List (Int × Fv)} {s r d : Int} {v : ByteArray} {x : Nat} (h : FOk n Q F) (hd : Dst F) (hq : mj n ((s, r, d), (v, x)) = true)
    (hc : getG s F = none ∨ ∃ e, getG s F = some e ∧ ordB (r, d) e.2.1 < 0) : FOk n (Q ++ [((s, r, d), (v, x))]) (putG s (s, (r, d), v) F) := by
  constructor
  · intro t ht
    rw [getG_put hd] at ht
    by_cases e : t = s
    · rw [if_pos e] at ht; cases ht
    · rw [if_neg e] at ht
      rw [atS_snoc, if_neg (fun hc => e hc.1.symm)]
      exact h.no t ht
  · intro t e0 he
    rw [getG_put hd] at he
    by_cases e : t = s
    · subst e
      rw [if_pos rfl] at he
      obtain rfl := Option.some.inj he
      rw [atS_snoc, if_pos ⟨rfl, hq⟩]
      refine ⟨rfl, ⟨x, by simp⟩, fun q hq2 => ?_⟩
      rcases List.mem_append.1 hq2 with hq2 | hq2
      · rcases hc with hn | ⟨e1, he1, hlt⟩
        · rw [h.no _ hn] at hq2; cases hq2
        · show ¬ ordB (q.1.2.1, q.1.2.2) (r, d) < 0
          exact ordB_trans' ((h.yes _ _ he1).2.2 q hq2) hlt
      · simp at hq2
        subst hq2
        show ¬ ordB (r, d) (r, d) < 0
        exact ordB_irr _
    · rw [if_neg e] at he
      rw [atS_snoc, if_neg (fun hc => e hc.1.symm)]
      exact h.yes t e0 he
/-- A place whose ballot is not below the first one. -/
theorem FOk.pass {n : Nat} {Q : GA} {F : List (Int × Fv)} {s r d : Int} {v : ByteArray} {x : Nat} {e : Fv} (h : FOk n Q F) (hq : mj n ((s, r, d), (v, x)) = true)
    (he : getG s F = some e) (hlt : ¬ ordB (r, d) e.2.1 < 0) : FOk n (Q ++ [((s, r, d), (v, x))]) F := by
  constructor
  · intro t ht
    rw [atS_snoc, if_neg (by rintro ⟨hc, _⟩; simp only at hc; subst hc; rw [ht] at he; cases he)]
    exact h.no t ht
  · intro t e0 he0
    obtain ⟨h1, ⟨y, h2⟩, h3⟩ := h.yes t e0 he0
    rw [atS_snoc]
    split
    · rename_i hc
      refine ⟨h1, ⟨y, by simp [h2]⟩, fun q hq2 => ?_⟩
      rcases List.mem_append.1 hq2 with hq2 | hq2
      · exact h3 q hq2
      · simp at hq2
        subst hq2
        have hc1 : s = t := hc.1
        subst hc1
        rw [he] at he0
        obtain rfl := Option.some.inj he0
        exact hlt
    · exact ⟨h1, ⟨y, h2⟩, h3⟩

/-! ### The values in memory -/
def rowOf (V : List (Int × Value)) (s : Int) : Value := (getG s V).getD (.slice none 0 0)
structure VMap (w : World) (b lo n : Nat) (Q : GA) (V : List (Int × Value)) : Prop where
  map : MapG CIn (id : Value → Value) w b V
  rows : ∀ s, StrRow w lo (rowOf V s) (valsOf n Q s)
  sep : ∀ s t, s ≠ t → ∀ g, (rowOf V s).ownBlock = some g → (rowOf V t).ownBlock ≠ some g
  low : b < lo
theorem StrRow.frS {w w' : World} {lo : Nat} {v : Value} {xs : List (List UInt8)} {S : Nat → Prop} (h : StrRow w lo v xs) (k : Fr S w w') (hS : ∀ g, v.ownBlock = some g → ¬ S g) : StrRow w' lo v xs :=
  ⟨h.1, h.2.imp id fun ⟨g, cap, cur, h1, h2, h3, h4⟩ => ⟨g, cap, cur, h1, h2, (k.block g (Array.getElem?_eq_some_iff.1 h3).1 (hS g (by rw [h1]; rfl))).trans h3, h4⟩⟩
namespace VMap
variable {w w' : World} {b lo n : Nat} {Q : GA} {V : List (Int × Value)}
theorem fr {S : Nat → Prop} (h : VMap w b lo n Q V) (k : Fr S w w') (hS : ∀ i, S i → i < lo ∧ i ≠ b) : VMap w' b lo n Q V :=
  ⟨h.map.fr k (fun e => (hS _ e).2 rfl), fun s => (h.rows s).frS k (fun g hg hs => by have h1 := (World.ownsRow.lt (h.rows s) g hg).1; have := (hS g hs).1; omega), h.sep, h.low⟩
theorem frS {S : Nat → Prop} (h : VMap w b lo n Q V) (k : Fr S w w') (hb : ∀ i, S i → i ≠ b) (hS : ∀ s g, (rowOf V s).ownBlock = some g → ¬ S g) : VMap w' b lo n Q V :=
  ⟨h.map.fr k (fun e => hb _ e rfl), fun s => (h.rows s).frS k (fun g hg hs => hS s g hg hs), h.sep, h.low⟩
theorem below (h : VMap w b lo n Q V) (k : Below w.heap.size w w') : VMap w' b lo n Q V := h.fr (Fr.of_below k : Fr S0 w w') (fun i h => h.elim)
theorem skip {q : Pl × Sd} (h : VMap w b lo n Q V) (hq : mj n q = false) : VMap w b lo n (Q ++ [q]) V :=
  ⟨h.map, fun s => by rw [valsOf_snoc_no hq]; exact h.rows s, h.sep, h.low⟩
/-- values[s] = append(values[s], v). -/
theorem take {w1 w2 : World} {s r d : Int} {v : ByteArray} {x : Nat} {v' : Value} (h : VMap w b lo n Q V) (hq : mj n ((s, r, d), (v, x)) = true)
    (h1 : StrRow w1 lo v' (valsOf n Q s ++ [v.data.toList])) (hg1 : w.grownBy w1 (rowOf V s).ownBlock) (ho : v'.ownBlock = (rowOf V s).ownBlock ∨ v'.ownBlock = some w.heap.size)
    (hm : MapG CIn (id : Value → Value) w2 b (putG s v' V)) (hg2 : w1.grownBy w2 (some b)) : VMap w2 b lo n (Q ++ [((s, r, d), (v, x))]) (putG s v' V) := by
  have f1 : Fr (fun i => (rowOf V s).ownBlock = some i) w w1 := Fr.of_grown hg1 (fun i e => e)
  have f2 : Fr (S1 b) w1 w2 := Fr.of_grown hg2 (fun i e => by cases e; rfl)
  have hrow : ∀ t, rowOf (putG s v' V) t = if t = s then v' else rowOf V t := fun t => by
    unfold rowOf
    rw [getG_put h.map.dst]
    by_cases e : t = s
    · rw [if_pos e, if_pos e]; rfl
    · rw [if_neg e, if_neg e]
  have hlt : ∀ t g, (rowOf V t).ownBlock = some g → lo ≤ g ∧ g < w.heap.size := fun t g hg => World.ownsRow.lt (h.rows t) g hg
  have hb := h.low
  refine ⟨hm, fun t => ?_, fun t u htu g hg => ?_, h.low⟩
  · rw [hrow, valsOf_snoc_yes hq]
    by_cases e : t = s
    · subst e
      rw [if_pos rfl, if_pos rfl]
      exact h1.frS f2 (fun g hg e => by have e : g = b := e; have := (World.ownsRow.lt h1 g hg).1; omega)
    · rw [if_neg e, if_neg (fun hc => e hc.symm)]
      exact ((h.rows t).frS f1 (fun g hg hs => h.sep t s e g hg hs)).frS f2 (fun g hg e => by have e : g = b := e; have := (hlt t g hg).1; omega)
  · rw [hrow] at hg ⊢
    by_cases e : t = s
    · subst e
      rw [if_pos rfl] at hg
      rw [if_neg (fun hc => htu hc.symm)]
      intro hu
      rcases ho with ho | ho
      · exact h.sep t u htu g (by rw [← ho]; exact hg) hu
      · rw [ho] at hg
        cases hg
        have := (hlt u _ hu).2
        omega
    · rw [if_neg e] at hg
      by_cases e2 : u = s
      · subst e2
        rw [if_pos rfl]
        intro hu
        rcases ho with ho | ho
        · exact h.sep t u htu g hg (by rw [← ho]; exact hu)
        · rw [ho] at hu
          cases hu
          have := (hlt t _ hg).2
          omega
      · rw [if_neg e2]
        exact h.sep t u htu g hg
end VMap
end Go.Proofs.YthkdmpalhdifbaaGreatDoor
