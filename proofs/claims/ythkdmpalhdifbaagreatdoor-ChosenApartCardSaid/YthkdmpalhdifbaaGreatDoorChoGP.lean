/- Package chosen: what picked tells, as a plain law. -/
import Derived.Test.YthkdmpalhdifbaaGreatDoorChoG
set_option linter.unusedVariables false
set_option linter.unusedSimpArgs false
namespace Go.Proofs.YthkdmpalhdifbaaGreatDoor
open Go.RowKit Go.Maps Go.Shelf Go.Sort Go.Lib

theorem toList_dat {a b : ByteArray} (h : a.data.toList = b.data.toList) : a = b := by
  obtain ⟨⟨x⟩⟩ := a
  obtain ⟨⟨y⟩⟩ := b
  simp at h
  rw [h]
/-- Two values that differ at a slot. -/
def Two (n : Nat) (A : GA) (s : Int) : Prop := ∃ p ∈ atS n s A, ∃ q ∈ atS n s A, p.2.1 ≠ q.2.1
theorem atS_perm {n : Nat} {s : Int} {A B : GA} (h : A.Perm B) : (atS n s A).Perm (atS n s B) := h.filter _
theorem Two.perm {n : Nat} {A B : GA} {s : Int} (h : A.Perm B) (t : Two n A s) : Two n B s := by
  obtain ⟨p, hp, q, hq, hne⟩ := t
  exact ⟨p, (atS_perm h).mem_iff.1 hp, q, (atS_perm h).mem_iff.1 hq, hne⟩
theorem two_sorted (n : Nat) (Q : GA) (s : Int) : 1 < (Lib.compact ((valsOf n Q s).mergeSort (fun x y => decide (x ≤ y)))).length ↔ Two n Q s := by
  rw [compact_len]
  constructor
  · rintro ⟨a, ha, b, hb, hne⟩
    rw [List.mem_mergeSort] at ha hb
    unfold valsOf at ha hb
    obtain ⟨p, hp, rfl⟩ := List.mem_map.1 ha
    obtain ⟨q, hq, rfl⟩ := List.mem_map.1 hb
    exact ⟨p, hp, q, hq, fun e => hne (by rw [e])⟩
  · rintro ⟨p, hp, q, hq, hne⟩
    refine ⟨p.2.1.data.toList, ?_, q.2.1.data.toList, ?_, fun e => hne (toList_dat e)⟩
    · rw [List.mem_mergeSort]; exact List.mem_map.2 ⟨p, hp, rfl⟩
    · rw [List.mem_mergeSort]; exact List.mem_map.2 ⟨q, hq, rfl⟩
/-- The smallest slot of those looked at with two values, or -1. -/
def DOk (n : Nat) (Q : GA) (D : List (Int × Fv)) (dif : Int) : Prop :=
  (dif = -1 ∧ ∀ p ∈ D, ¬ Two n Q p.1) ∨ (0 ≤ dif ∧ Two n Q dif ∧ ∀ p ∈ D, Two n Q p.1 → dif ≤ p.1)
theorem DOk.nil (n : Nat) (Q : GA) : DOk n Q [] (-1) := .inl ⟨rfl, by simp⟩
theorem DOk.lo {n : Nat} {Q : GA} {D : List (Int × Fv)} {dif : Int} (h : DOk n Q D dif) : -1 ≤ dif := by
  rcases h with ⟨rfl, _⟩ | ⟨h, _⟩ <;> omega
theorem DOk.one {n : Nat} {Q : GA} {D : List (Int × Fv)} {dif s : Int} {e : Fv} (h : DOk n Q D dif) (ht : ¬ Two n Q s) : DOk n Q (D ++ [(s, e)]) dif := by
  rcases h with ⟨h1, h2⟩ | ⟨h0, h1, h2⟩
  · refine .inl ⟨h1, fun p hp => ?_⟩
    rcases List.mem_append.1 hp with hp | hp
    · exact h2 p hp
    · simp at hp; subst hp; exact ht
  · refine .inr ⟨h0, h1, fun p hp hq => ?_⟩
    rcases List.mem_append.1 hp with hp | hp
    · exact h2 p hp hq
    · simp at hp; subst hp; exact absurd hq ht
theorem DOk.less {n : Nat} {Q : GA} {D : List (Int × Fv)} {dif s : Int} {e : Fv} (h : DOk n Q D dif) (ht : Two n Q s) (hs : 0 ≤ s) (hl : dif < 0 ∨ s < dif) : DOk n Q (D ++ [(s, e)]) s := by
  refine .inr ⟨hs, ht, fun p hp hq => ?_⟩
  rcases List.mem_append.1 hp with hp | hp
  · rcases h with ⟨h1, h2⟩ | ⟨h0, h1, h2⟩
    · exact absurd hq (h2 p hp)
    · have := h2 p hp hq
      omega
  · simp at hp; subst hp; exact Int.le_refl _
theorem DOk.more {n : Nat} {Q : GA} {D : List (Int × Fv)} {dif s : Int} {e : Fv} (h : DOk n Q D dif) (h1 : ¬ dif < 0) (h2 : ¬ s < dif) : DOk n Q (D ++ [(s, e)]) dif := by
  rcases h with ⟨h3, _⟩ | ⟨h0, h3, h4⟩
  · omega
  · refine .inr ⟨h0, h3, fun p hp hq => ?_⟩
    rcases List.mem_append.1 hp with hp | hp
    · exact h4 p hp hq
    · simp at hp; subst hp; simp only; omega

/-- An entry of the row. -/
def toEn (p : Int × Fv) : En := (Fin.ofNat 4096 p.1.toNat, p.2.2.1, p.2.2.2)
theorem encEn_to {s : Int} {e : Fv} (h : 0 ≤ s ∧ s < 4096) (he : e.1 = s) : encEn (toEn (s, e)) = [.int .i64 e.1, .int .i64 e.2.1.1, .int .i64 e.2.1.2, .string e.2.2] := by
  unfold encEn toEn
  simp only [Fin.ofNat]
  rw [Nat.mod_eq_of_lt (show s.toNat < 4096 by omega), he]
  congr 2
  omega
theorem toEn_slot {s : Int} {e : Fv} (h : 0 ≤ s ∧ s < 4096) : (((toEn (s, e)).1.val : Nat) : Int) = s := by
  unfold toEn
  simp only [Fin.ofNat]
  rw [Nat.mod_eq_of_lt (show s.toNat < 4096 by omega)]
  omega
/-- What picked tells. -/
structure POk (n : Nat) (A : GA) (out : List En) (dif : Int) : Prop where
  sorted : out.Pairwise fun x y => x.1.val < y.1.val
  mem : ∀ e ∈ out, (∃ x, ((((e.1.val : Nat) : Int), e.2.1.1, e.2.1.2), (e.2.2, x)) ∈ atS n ((e.1.val : Nat) : Int) A) ∧ ∀ q ∈ atS n ((e.1.val : Nat) : Int) A, ¬ ordB (q.1.2.1, q.1.2.2) e.2.1 < 0
  all : ∀ s q, q ∈ atS n s A → ∃ e ∈ out, ((e.1.val : Nat) : Int) = s
  dif : (dif = -1 ∧ ∀ s, ¬ Two n A s) ∨ (0 ≤ dif ∧ Two n A dif ∧ ∀ s, Two n A s → dif ≤ s)
theorem pok_of {n : Nat} {A Q : GA} {F D : List (Int × Fv)} {L : List En} {dif : Int} (hq : Q.Perm A) (hf : FOk n Q F) (hd : Dst F) (hp : D.Perm F) (hsl : ∀ p ∈ A, 0 ≤ p.1.1 ∧ p.1.1 < 4096)
    (hl : L.Perm (D.map toEn)) (hs : L.Pairwise fun x y => x.1.val ≤ y.1.val) (hk : DOk n Q D dif) : POk n A L dif := by
  have hlk : ∀ p ∈ F, 0 ≤ p.1 ∧ p.1 < 4096 := fun p hp => by
    obtain ⟨_, ⟨x, hx⟩, _⟩ := hf.yes p.1 p.2 (getG_of_mem hd hp)
    exact hsl _ (hq.mem_iff.1 (mem_atS.1 hx).1)
  have hDd : D.Pairwise fun p q => p.1 ≠ q.1 := hp.symm.pairwise hd fun {a b} h e => h e.symm
  have hnd : (D.map toEn).Pairwise fun x y => x.1.val ≠ y.1.val := by
    rw [List.pairwise_map]
    refine List.Pairwise.imp_of_mem ?_ hDd
    intro a b ha hb hne e
    have h1 := toEn_slot (e := a.2) (hlk _ (hp.mem_iff.1 ha))
    have h2 := toEn_slot (e := b.2) (hlk _ (hp.mem_iff.1 hb))
    rw [show (a.1, a.2) = a from rfl] at h1
    rw [show (b.1, b.2) = b from rfl] at h2
    omega
  have hnl : L.Pairwise fun x y => x.1.val ≠ y.1.val := hl.symm.pairwise hnd fun {a b} h e => h e.symm
  refine ⟨?_, fun e he => ?_, fun s q hm => ?_, ?_⟩
  · exact (hs.and hnl).imp fun {a b} h => by have := h.1; have := h.2; omega
  · obtain ⟨p, hpD, rfl⟩ := List.mem_map.1 (hl.mem_iff.1 he)
    have hpF := hp.mem_iff.1 hpD
    obtain ⟨s, e⟩ := p
    have h1 := toEn_slot (e := e) (hlk _ hpF)
    obtain ⟨h2, ⟨x, h3⟩, h4⟩ := hf.yes s e (getG_of_mem hd hpF)
    rw [h1]
    exact ⟨⟨x, (atS_perm hq).mem_iff.1 h3⟩, fun q hq2 => h4 q ((atS_perm hq).mem_iff.2 hq2)⟩
  · have hm2 := (atS_perm hq).mem_iff.2 hm
    cases hg : getG s F with
    | none => rw [hf.no s hg] at hm2; cases hm2
    | some e =>
      have hmF := getG_mem hg
      exact ⟨toEn (s, e), hl.mem_iff.2 (List.mem_map.2 ⟨_, hp.mem_iff.2 hmF, rfl⟩), toEn_slot (hlk _ hmF)⟩
  · have hin : ∀ s, Two n A s → ∃ p ∈ D, p.1 = s := fun s ht => by
      obtain ⟨p, hp1, _⟩ := ht.perm hq.symm
      cases hg : getG s F with
      | none => rw [hf.no s hg] at hp1; cases hp1
      | some e => exact ⟨(s, e), hp.mem_iff.2 (getG_mem hg), rfl⟩
    rcases hk with ⟨h1, h2⟩ | ⟨h0, h1, h2⟩
    · refine .inl ⟨h1, fun s ht => ?_⟩
      obtain ⟨p, hp1, rfl⟩ := hin s ht
      exact h2 p hp1 (ht.perm hq.symm)
    · refine .inr ⟨h0, h1.perm hq, fun s ht => ?_⟩
      obtain ⟨p, hp1, rfl⟩ := hin s ht
      exact h2 p hp1 (ht.perm hq.symm)
end Go.Proofs.YthkdmpalhdifbaaGreatDoor
