/- The nodes of a place; the first vote of the smallest chosen ballot; what the reference tells of slots: plain laws. -/
import Derived.Test.YthkdmpalhdifbaaGreatDoorRefA
import Derived.Test.YthkdmpalhdifbaaGreatDoorChoJ
set_option linter.unusedVariables false
set_option linter.unusedSimpArgs false
namespace Go.Proofs.YthkdmpalhdifbaaGreatDoor
open Go.RowKit Go.Maps Go.Shelf Go.Sort Go.Lib

section
variable {n : Nat} {L M : List Vt} {A B : GA} {s : Int}
/-! ### The nodes of a place -/
def nodesF (k : Pl) (l : List Vt) : Nat := l.foldl (fun m x => if vpl x = k then m ||| 2 ^ x.nd.toNat else m) 0
theorem nodesF_snoc (k : Pl) (l : List Vt) (x : Vt) : nodesF k (l ++ [x]) = if vpl x = k then nodesF k l ||| 2 ^ x.nd.toNat else nodesF k l := by
  unfold nodesF
  rw [List.foldl_append]
  rfl
theorem nodesF_take {k : Pl} {L : List Vt} {j : Nat} {x : Vt} (h : L[j]? = some x) : nodesF k (L.take (j + 1)) = if vpl x = k then nodesF k (L.take j) ||| 2 ^ x.nd.toNat else nodesF k (L.take j) := by
  rw [List.take_add_one, h]
  exact nodesF_snoc k _ x
theorem nodesF_bit {k : Pl} {i : Nat} : ∀ {l : List Vt}, (∀ x ∈ l, 0 ≤ x.nd) → ((nodesF k l).testBit i = true ↔ ∃ x ∈ l, vpl x = k ∧ x.nd = (i : Int)) := by
  have : ∀ (m p : List Vt), (∀ x ∈ m, 0 ≤ x.nd) → ((nodesF k p).testBit i = true ↔ ∃ x ∈ p, vpl x = k ∧ x.nd = (i : Int)) → ((nodesF k (p ++ m)).testBit i = true ↔ ∃ x ∈ p ++ m, vpl x = k ∧ x.nd = (i : Int)) := by
    intro m
    induction m with
    | nil => intro p _ h; rw [List.append_nil]; exact h
    | cons x r ih =>
      intro p h0 h
      have e : p ++ x :: r = (p ++ [x]) ++ r := by simp
      rw [e]
      refine ih (p ++ [x]) (fun y hy => h0 y (by simp [hy])) ?_
      rw [nodesF_snoc]
      by_cases hk : vpl x = k
      · rw [if_pos hk, testBit_put, Bool.or_eq_true, decide_eq_true_eq, h]
        have h1 := h0 x (by simp)
        constructor
        · rintro (⟨y, hy, h2⟩ | h2)
          · exact ⟨y, by simp [hy], h2⟩
          · exact ⟨x, by simp, hk, by omega⟩
        · rintro ⟨y, hy, h2, h3⟩
          rcases List.mem_append.1 hy with hy | hy
          · exact .inl ⟨y, hy, h2, h3⟩
          · rw [List.mem_singleton] at hy; subst hy; right; omega
      · rw [if_neg hk, h]
        constructor
        · rintro ⟨y, hy, h2⟩
          exact ⟨y, by simp [hy], h2⟩
        · rintro ⟨y, hy, h2, h3⟩
          rcases List.mem_append.1 hy with hy | hy
          · exact ⟨y, hy, h2, h3⟩
          · rw [List.mem_singleton] at hy; subst hy; exact absurd h2 hk
  intro l h0
  have h := this l [] h0 (by simp [nodesF])
  simpa using h
theorem nodesF_lt (hn : 1 ≤ n ∧ n ≤ 7) (hP : Poss n L) {l : List Vt} (hs : ∀ x ∈ l, x ∈ L) (k : Pl) : nodesF k l < 2 ^ n := by
  apply Nat.lt_pow_two_of_testBit
  intro i hi
  rw [Bool.eq_false_iff]
  intro hb
  obtain ⟨x, hx, _, h⟩ := (nodesF_bit (fun x hx => (alone_r hn (hP.al x (hs x hx))).1.1)).1 hb
  have := (alone_r hn (hP.al x (hs x hx))).1
  omega
/-- The place of a vote is a chosen one. -/
theorem nodes_at (hn : 1 ≤ n ∧ n ≤ 7) (hP : Poss n L) (hA : AOk n L A) {x : Vt} (hx : x ∈ L) (h : maj (nodesF (vpl x) L) n = true) : ∃ m, (vpl x, (x.v, m)) ∈ atS n x.sl A := by
  obtain ⟨m, hm, hb⟩ := hA.at hx
  have e : nodesF (vpl x) L = m := Nat.eq_of_testBit_eq fun i => by
    have h1 := nodesF_bit (k := vpl x) (i := i) (fun y hy => (alone_r hn (hP.al y hy)).1.1)
    have h2 := hb i
    cases h3 : m.testBit i with
    | true => rw [h3] at h2; exact h1.2 (h2.1 rfl)
    | false =>
      rw [Bool.eq_false_iff]
      intro h4
      rw [h3] at h2
      have := h2.2 (h1.1 h4)
      cases this
  rw [e] at h
  exact ⟨m, mem_atS.2 ⟨(mem_A hA).2 hm, rfl, h⟩⟩
theorem at_nodes (hn : 1 ≤ n ∧ n ≤ 7) (hP : Poss n L) (hA : AOk n L A) {p : Pl × Sd} (hp : p ∈ atS n s A) : ∃ x ∈ L, x.sl = s ∧ x.v = p.2.1 ∧ maj (nodesF (vpl x) L) n = true := by
  obtain ⟨h1, h2, ⟨x, hx, hxs, hxb⟩, hv, hbit⟩ := at_spec hA hp
  refine ⟨x, hx, hxs, hv x hx hxs hxb, maj_mono (fun i _ hi => ?_) h2⟩
  obtain ⟨y, hy, hys, hyb, hyi⟩ := (hbit i).1 hi
  refine (nodesF_bit (fun y hy => (alone_r hn (hP.al y hy)).1.1)).2 ⟨y, hy, ?_, hyi⟩
  have : vbl y = vbl x := hyb.trans hxb.symm
  rw [vpl, vpl, hys, hxs]
  simp only [Prod.mk.injEq] at this ⊢
  exact ⟨trivial, this.1, this.2⟩
end
/-- The ballot of a place has chosen. -/
def mjv (n : Nat) (L : List Vt) (k : Pl) : Bool := maj (nodesF k L) n
/-- Of the votes P at the slot whose ballots have chosen: the index of one with the smallest. -/
def FOne (n : Nat) (L P : List Vt) (s : Int) (o : Option Nat) : Prop := match o with
  | none => ∀ x ∈ P, x.sl = s → mjv n L (vpl x) = false
  | some p => ∃ y, L[p]? = some y ∧ y.sl = s ∧ mjv n L (vpl y) = true ∧ ∀ x ∈ P, x.sl = s → mjv n L (vpl x) = true → ¬ blt (vbl x) (vbl y)
section
variable {n : Nat} {L P : List Vt} {A : GA} {s : Int} {o : Option Nat} {i : Nat} {x : Vt}
theorem FOne.nl : FOne n L [] s none := fun x hx => by cases hx
theorem FOne.skip (h : FOne n L (L.take i) s o) (hx : L[i]? = some x) (hc : x.sl = s → mjv n L (vpl x) = false) : FOne n L (L.take (i + 1)) s o := by
  cases o with
  | none =>
    intro y hy hys
    rcases (mem_takeS hx).1 hy with hy | rfl
    · exact h y hy hys
    · exact hc hys
  | some p =>
    obtain ⟨y, h1, h2, h3, h4⟩ := h
    refine ⟨y, h1, h2, h3, fun z hz hzs hzm => ?_⟩
    rcases (mem_takeS hx).1 hz with hz | rfl
    · exact h4 z hz hzs hzm
    · rw [hc hzs] at hzm; cases hzm
theorem FOne.take0 (h : FOne n L (L.take i) s none) (hx : L[i]? = some x) (hs : x.sl = s) (hm : mjv n L (vpl x) = true) : FOne n L (L.take (i + 1)) s (some i) := by
  refine ⟨x, hx, hs, hm, fun z hz hzs hzm => ?_⟩
  rcases (mem_takeS hx).1 hz with hz | rfl
  · rw [h z hz hzs] at hzm; cases hzm
  · exact blt_irr _
theorem FOne.less {p : Nat} {y : Vt} (h : FOne n L (L.take i) s (some p)) (hx : L[i]? = some x) (hs : x.sl = s) (hm : mjv n L (vpl x) = true) (hy : L[p]? = some y) (hl : blt (vbl x) (vbl y)) : FOne n L (L.take (i + 1)) s (some i) := by
  obtain ⟨y', h1, h2, h3, h4⟩ := h
  rw [hy] at h1
  obtain rfl := Option.some.inj h1
  refine ⟨x, hx, hs, hm, fun z hz hzs hzm => ?_⟩
  rcases (mem_takeS hx).1 hz with hz | rfl
  · intro h
    exact h4 z hz hzs hzm (blt_trans h hl)
  · exact blt_irr _
theorem FOne.more {p : Nat} {y : Vt} (h : FOne n L (L.take i) s (some p)) (hx : L[i]? = some x) (hy : L[p]? = some y) (hl : ¬ blt (vbl x) (vbl y)) : FOne n L (L.take (i + 1)) s (some p) := by
  obtain ⟨y', h1, h2, h3, h4⟩ := h
  rw [hy] at h1
  obtain rfl := Option.some.inj h1
  refine ⟨y, hy, h2, h3, fun z hz hzs hzm => ?_⟩
  rcases (mem_takeS hx).1 hz with hz | rfl
  · exact h4 z hz hzs hzm
  · exact hl
def firV (L : List Vt) (o : Option Nat) : Option ByteArray := o.bind fun p => (L[p]?).map (·.v)
theorem first_pick (hn : 1 ≤ n ∧ n ≤ 7) (hP : Poss n L) (hA : AOk n L A) (h : FOne n L L s o) : pickV n A s = firV L o := by
  unfold pickV firV
  cases o with
  | none =>
    have : atS n s A = [] := by
      cases hq : atS n s A with
      | nil => rfl
      | cons q r =>
        obtain ⟨x, hx, hxs, _, hxm⟩ := at_nodes hn hP hA (s := s) (p := q) (by rw [hq]; simp)
        have := h x hx hxs
        unfold mjv at this
        rw [hxm] at this
        cases this
    rw [this]
    rfl
  | some p =>
    obtain ⟨y, h1, h2, h3, h4⟩ := h
    have hy := List.mem_of_getElem? h1
    obtain ⟨m, hm⟩ := nodes_at hn hP hA hy h3
    rw [h2] at hm
    simp only [Option.bind_some, h1, Option.map_some]
    cases hp : pick1 (atS n s A) with
    | none => rw [pick1_none.1 hp] at hm; cases hm
    | some q =>
      obtain ⟨hq, hql⟩ := pick1_some hp
      obtain ⟨_, _, ⟨x, hx, hxs, hxb⟩, _, hbit⟩ := at_spec hA hq
      obtain ⟨x2, hx2, hxs2, hxv2, hxm2⟩ := at_nodes hn hP hA hq
      have hxm : mjv n L (vpl x) = true := by
        unfold mjv
        refine maj_mono (fun i _ hi => ?_) (at_spec hA hq).2.1
        obtain ⟨z, hz, hzs, hzb, hzi⟩ := (hbit i).1 hi
        refine (nodesF_bit (fun y hy => (alone_r hn (hP.al y hy)).1.1)).2 ⟨z, hz, ?_, hzi⟩
        have e : vbl z = vbl x := hzb.trans hxb.symm
        rw [vpl, vpl, hzs, hxs]
        simp only [Prod.mk.injEq] at e ⊢
        exact ⟨trivial, e.1, e.2⟩
      have k1 : ¬ ordB (baOf q) (baOf (vpl y, (y.v, m))) < 0 := by
        have := h4 x hx hxs hxm
        rw [hxb] at this
        exact this
      have e := least_unique hA.dst hq hm (hql _ hm) k1
      rw [e]
      rfl
/-! ### All -/
structure RA (n : Nat) (L : List Vt) (k : Nat) (R : List En) : Prop where
  sorted : R.Pairwise fun x y => x.1.val < y.1.val
  below : ∀ e ∈ R, e.1.val < k
  mem : ∀ e ∈ R, ∃ p y, FOne n L L ((e.1.val : Nat) : Int) (some p) ∧ L[p]? = some y ∧ e.2 = (vbl y, y.v)
  all : ∀ t : Nat, t < k → ∀ x ∈ L, x.sl = (t : Int) → mjv n L (vpl x) = true → ∃ e ∈ R, e.1.val = t
  len : R.length ≤ k
theorem RA.nl : RA n L 0 [] := ⟨List.Pairwise.nil, (fun e h => by cases h), (fun e h => by cases h), (fun t h => by omega), Nat.le_refl _⟩
theorem RA.skp {k : Nat} {R : List En} (h : RA n L k R) (hf : FOne n L L (k : Int) none) : RA n L (k + 1) R := by
  refine ⟨h.sorted, fun e he => by have := h.below e he; omega, h.mem, fun t ht x hx hxs hxm => ?_, by have := h.len; omega⟩
  by_cases e : t = k
  · subst e
    rw [hf x hx hxs] at hxm
    cases hxm
  · exact h.all t (by omega) x hx hxs hxm
theorem RA.put {k p : Nat} {R : List En} {y : Vt} (h : RA n L k R) (hk : k < 4096) (hf : FOne n L L (k : Int) (some p)) (hy : L[p]? = some y) : RA n L (k + 1) (R ++ [(⟨k, hk⟩, vbl y, y.v)]) := by
  refine ⟨?_, fun e he => ?_, fun e he => ?_, fun t ht x hx hxs hxm => ?_, by have := h.len; simp; omega⟩
  · rw [List.pairwise_append]
    refine ⟨h.sorted, List.pairwise_singleton _ _, fun a ha b hb => ?_⟩
    rw [List.mem_singleton] at hb
    subst hb
    exact h.below a ha
  · rcases List.mem_append.1 he with he | he
    · have := h.below e he; omega
    · rw [List.mem_singleton] at he; subst he; simp
  · rcases List.mem_append.1 he with he | he
    · exact h.mem e he
    · rw [List.mem_singleton] at he; subst he; exact ⟨p, y, hf, hy, rfl⟩
  · by_cases e : t = k
    · subst e; exact ⟨(⟨t, hk⟩, vbl y, y.v), by simp, rfl⟩
    · obtain ⟨e, h1, h2⟩ := h.all t (by omega) x hx hxs hxm
      exact ⟨e, by simp [h1], h2⟩
theorem slots_eq : ∀ {a b : List En}, a.Pairwise (fun x y => x.1.val < y.1.val) → b.Pairwise (fun x y => x.1.val < y.1.val) → (∀ e, e ∈ a ↔ e ∈ b) → a = b
  | [], [], _, _, _ => rfl
  | [], y :: r, _, _, h => by have := (h y).2 (by simp); cases this
  | x :: r, [], _, _, h => by have := (h x).1 (by simp); cases this
  | x :: r, y :: q, ha, hb, h => by
    have ha' := List.pairwise_cons.1 ha
    have hb' := List.pairwise_cons.1 hb
    have e : x = y := by
      rcases List.mem_cons.1 ((h x).1 (by simp)) with e | e
      · exact e
      · rcases List.mem_cons.1 ((h y).2 (by simp)) with e2 | e2
        · exact e2.symm
        · have h1 := hb'.1 x e
          have h2 := ha'.1 y e2
          omega
    subst e
    congr 1
    refine slots_eq ha'.2 hb'.2 fun z => ⟨fun hz => ?_, fun hz => ?_⟩
    · rcases List.mem_cons.1 ((h z).1 (by simp [hz])) with e | e
      · subst e; have := ha'.1 z hz; omega
      · exact e
    · rcases List.mem_cons.1 ((h z).2 (by simp [hz])) with e | e
      · subst e; have := hb'.1 z hz; omega
      · exact e
theorem all_eq (hn : 1 ≤ n ∧ n ≤ 7) (hP : Poss n L) (hA : AOk n L A) {out R : List En} {dif : Int} (h1 : POk n A out dif) (h2 : RA n L 4096 R) : R = out := by
  have key : ∀ e ∈ R, ∀ e' ∈ out, e.1.val = e'.1.val → e = e' := fun e he e' he' hs => by
    obtain ⟨p, y, hf, hy, hev⟩ := h2.mem e he
    have hpv := pok_val h1 hA.dst he'
    have hfp := first_pick hn hP hA hf
    rw [hs] at hfp
    rw [hpv] at hfp
    unfold firV at hfp
    simp only [Option.bind_some, hy, Option.map_some, Option.some.injEq] at hfp
    obtain ⟨y', g1, g2, g3, g4⟩ := hf
    rw [hy] at g1
    obtain rfl := Option.some.inj g1
    have hym := List.mem_of_getElem? hy
    obtain ⟨m, hm⟩ := nodes_at hn hP hA hym g3
    obtain ⟨⟨z, hz⟩, hl⟩ := h1.mem e' he'
    rw [g2, hs] at hm
    obtain ⟨x, hx, hxs, hxv, hxm⟩ := at_nodes hn hP hA hz
    obtain ⟨_, _, ⟨x3, hx3, hxs3, hxb3⟩, hval, hbit⟩ := at_spec hA hz
    have hx3m : mjv n L (vpl x3) = true := by
      unfold mjv
      refine maj_mono (fun i _ hi => ?_) (at_spec hA hz).2.1
      obtain ⟨w, hw, hws, hwb, hwi⟩ := (hbit i).1 hi
      refine (nodesF_bit (fun y hy => (alone_r hn (hP.al y hy)).1.1)).2 ⟨w, hw, ?_, hwi⟩
      have e : vbl w = vbl x3 := hwb.trans hxb3.symm
      rw [vpl, vpl, hws, hxs3]
      simp only [Prod.mk.injEq] at e ⊢
      exact ⟨trivial, e.1, e.2⟩
    have k1 := g4 x3 hx3 (by rw [hxs3, hs]) hx3m
    rw [hxb3] at k1
    have k2 := hl _ hm
    have e2 := least_unique hA.dst hz hm k2 k1
    obtain ⟨⟨e1, he1⟩, e2', e3⟩ := e
    obtain ⟨⟨f1, hf1⟩, ⟨f2, f3⟩, f4⟩ := e'
    simp only at hs hev hfp e2
    subst hs
    simp only [Prod.mk.injEq, vpl] at e2 hev ⊢
    obtain ⟨⟨_, a1, a2⟩, a3, a4⟩ := e2
    obtain ⟨b1, b2⟩ := hev
    subst b1 b2
    exact ⟨trivial, by rw [a1, a2], hfp.symm⟩
  refine slots_eq h2.sorted h1.sorted fun e => ⟨fun he => ?_, fun he => ?_⟩
  · obtain ⟨p, y, hf, hy, hev⟩ := h2.mem e he
    obtain ⟨y', g1, g2, g3, g4⟩ := hf
    obtain ⟨m, hm⟩ := nodes_at hn hP hA (List.mem_of_getElem? g1) g3
    rw [g2] at hm
    obtain ⟨e', he', hs⟩ := h1.all _ _ hm
    rw [key e he e' he' (by omega)]
    exact he'
  · obtain ⟨⟨z, hz⟩, hl⟩ := h1.mem e he
    obtain ⟨x, hx, hxs, hxv, hxm⟩ := at_nodes hn hP hA hz
    obtain ⟨e', he', hs⟩ := h2.all _ e.1.isLt x hx hxs hxm
    rw [← key e' he' e he hs]
    exact he'
theorem FOne.ex (n : Nat) (L : List Vt) (s : Int) : ∀ i, i ≤ L.length → ∃ o, FOne n L (L.take i) s o
  | 0, _ => ⟨none, by rw [List.take_zero]; exact FOne.nl⟩
  | i + 1, hi => by
    obtain ⟨o, ho⟩ := FOne.ex n L s i (by omega)
    obtain ⟨x, hx⟩ : ∃ x, L[i]? = some x := ⟨_, List.getElem?_eq_getElem (by omega)⟩
    by_cases hs : x.sl = s
    · cases hm : mjv n L (vpl x) with
      | false => exact ⟨o, ho.skip hx (fun _ => hm)⟩
      | true =>
        cases o with
        | none => exact ⟨some i, ho.take0 hx hs hm⟩
        | some p =>
          obtain ⟨y, hy, _⟩ := id ho
          by_cases hl : blt (vbl x) (vbl y)
          · exact ⟨some i, ho.less hx hs hm hy hl⟩
          · exact ⟨some p, ho.more hx hy hl⟩
    · exact ⟨o, ho.skip hx (fun e => absurd e hs)⟩
theorem RA.ex (n : Nat) (L : List Vt) : ∀ k, k ≤ 4096 → ∃ R, RA n L k R
  | 0, _ => ⟨[], RA.nl⟩
  | k + 1, hk => by
    obtain ⟨R, hR⟩ := RA.ex n L k (by omega)
    obtain ⟨o, ho⟩ := FOne.ex n L (k : Int) L.length (Nat.le_refl _)
    rw [List.take_length] at ho
    cases o with
    | none => exact ⟨R, hR.skp ho⟩
    | some p =>
      obtain ⟨y, hy, _⟩ := id ho
      exact ⟨_, hR.put (by omega) ho hy⟩
theorem first_same (hA : AOk n L A) {p p' : Nat} {y y' : Vt} (h1 : FOne n L L s (some p)) (h2 : FOne n L L s (some p')) (hy : L[p]? = some y) (hy' : L[p']? = some y') : (vbl y, y.v) = (vbl y', y'.v) := by
  obtain ⟨z, a1, a2, a3, a4⟩ := h1
  obtain ⟨z', b1, b2, b3, b4⟩ := h2
  rw [hy] at a1
  rw [hy'] at b1
  obtain rfl := Option.some.inj a1
  obtain rfl := Option.some.inj b1
  have m1 := List.mem_of_getElem? hy
  have m2 := List.mem_of_getElem? hy'
  have k1 := a4 y' m2 b2 b3
  have k2 := b4 y m1 a2 a3
  have e : vbl y = vbl y' := by
    rcases blt_tri (vbl y) (vbl y') with h | h | h
    · exact absurd h k2
    · exact h
    · exact absurd h k1
  obtain ⟨c1, d1, _⟩ := hA.at m1
  obtain ⟨c2, d2, _⟩ := hA.at m2
  have e2 : vpl y = vpl y' := by
    simp only [Prod.mk.injEq] at e
    rw [vpl, vpl, a2, b2, e.1, e.2]
  rw [e2, d2] at d1
  have e3 := Option.some.inj d1
  simp only [Prod.mk.injEq] at e3
  rw [e, e3.1]
theorem RA.uniq (hA : AOk n L A) {R R2 : List En} (h1 : RA n L 4096 R) (h2 : RA n L 4096 R2) : R = R2 := by
  have key : ∀ {R R2 : List En}, RA n L 4096 R → RA n L 4096 R2 → ∀ e ∈ R, e ∈ R2 := fun h1 h2 e he => by
    obtain ⟨p, y, hf, hy, hev⟩ := h1.mem e he
    obtain ⟨z, a1, a2, a3, a4⟩ := id hf
    obtain ⟨e', he', hs⟩ := h2.all _ e.1.isLt z (List.mem_of_getElem? a1) a2 a3
    obtain ⟨p', y', hf', hy', hev'⟩ := h2.mem e' he'
    rw [hs] at hf'
    have := first_same hA hf hf' hy hy'
    obtain ⟨⟨e1, he1⟩, e2⟩ := e
    obtain ⟨⟨f1, hf1⟩, f2⟩ := e'
    simp only at hs hev hev'
    subst hs
    rw [hev, this, ← hev']
    exact he'
  exact slots_eq h1.sorted h2.sorted fun e => ⟨key h1 h2 e, key h2 h1 e⟩
/-! ### Agree -/
def PairB (n : Nat) (L : List Vt) (i k : Nat) (s : Int) : Prop := ∃ x y, L[i]? = some x ∧ L[k]? = some y ∧ x.sl = s ∧ y.sl = s ∧ x.v ≠ y.v ∧ mjv n L (vpl x) = true ∧ mjv n L (vpl y) = true
structure LOk (n : Nat) (L : List Vt) (D : Nat → Nat → Prop) (m : Int) : Prop where
  le : m ≤ 4096
  lo : 0 ≤ m
  yes : m < 4096 → ∃ i k, PairB n L i k m
  all : ∀ i k s, D i k → PairB n L i k s → m ≤ s
theorem two_pair (hn : 1 ≤ n ∧ n ≤ 7) (hP : Poss n L) (hA : AOk n L A) : Two n A s ↔ ∃ i k, k < i ∧ PairB n L i k s := by
  constructor
  · rintro ⟨p, hp, q, hq, hne⟩
    obtain ⟨x, hx, hxs, hxv, hxm⟩ := at_nodes hn hP hA hp
    obtain ⟨y, hy, hys, hyv, hym⟩ := at_nodes hn hP hA hq
    obtain ⟨i, hi⟩ := List.getElem?_of_mem hx
    obtain ⟨k, hk⟩ := List.getElem?_of_mem hy
    have hne2 : x.v ≠ y.v := by rw [hxv, hyv]; exact hne
    rcases Nat.lt_trichotomy k i with h | h | h
    · exact ⟨i, k, h, x, y, hi, hk, hxs, hys, hne2, hxm, hym⟩
    · subst h
      rw [hi] at hk
      obtain rfl := Option.some.inj hk
      exact absurd rfl hne2
    · exact ⟨k, i, h, y, x, hk, hi, hys, hxs, hne2.symm, hym, hxm⟩
  · rintro ⟨i, k, _, x, y, hi, hk, hxs, hys, hne, hxm, hym⟩
    obtain ⟨m1, h1⟩ := nodes_at hn hP hA (List.mem_of_getElem? hi) hxm
    obtain ⟨m2, h2⟩ := nodes_at hn hP hA (List.mem_of_getElem? hk) hym
    rw [hxs] at h1
    rw [hys] at h2
    exact ⟨_, h1, _, h2, hne⟩
theorem pair_lt {k : Nat} (h : PairB n L i k s) : i < L.length ∧ k < L.length := by
  obtain ⟨x, y, h1, h2, _⟩ := h
  exact ⟨(List.getElem?_eq_some_iff.1 h1).1, (List.getElem?_eq_some_iff.1 h2).1⟩
theorem agree_least (hn : 1 ≤ n ∧ n ≤ 7) (hP : Poss n L) (hA0 : (gwalk n [] [] 0 L).1 = some A) (hA : AOk n L A) {m : Int} (h : LOk n L (fun i k => i < L.length ∧ k < i) m) :
    agreeF n L = if m < 4096 then (false, m, 0) else (true, 0, 0) := by
  have h0 : ∀ p ∈ A, 0 ≤ p.1.1 := fun p hp => by
    obtain ⟨⟨x, hx, hk⟩, _⟩ := hA.yes _ _ _ ((mem_A hA).1 hp)
    have := (alone_r hn (hP.al x hx)).2.2.2.1.1
    rw [(vbl_of hk).1] at this
    exact this
  have hin : ∀ s, Two n A s → ∃ p ∈ A, p.1.1 = s := fun s ⟨p, hp, _⟩ => ⟨p, (mem_atS.1 hp).1, (mem_atS.1 hp).2.1⟩
  have hd := difG_ok (n := n) h0 A (fun p hp => hp)
  have hall : ∀ t, Two n A t → m ≤ t := fun t ht => by
    obtain ⟨i, k, hki, hp⟩ := (two_pair hn hP hA).1 ht
    exact h.all i k t ⟨(pair_lt hp).1, hki⟩ hp
  unfold agreeF
  rw [hA0]
  simp only
  unfold difF
  by_cases hm : m < 4096
  · rw [if_pos hm]
    obtain ⟨i, k, hp⟩ := h.yes hm
    have ht : Two n A m := by
      obtain ⟨x, y, a1, a2, a3, a4, a5, a6, a7⟩ := hp
      rcases Nat.lt_trichotomy k i with c | c | c
      · exact (two_pair hn hP hA).2 ⟨i, k, c, x, y, a1, a2, a3, a4, a5, a6, a7⟩
      · subst c
        rw [a1] at a2
        exact absurd (by rw [Option.some.inj a2]) a5
      · exact (two_pair hn hP hA).2 ⟨k, i, c, y, x, a2, a1, a4, a3, a5.symm, a7, a6⟩
    obtain ⟨p, hpA, hps⟩ := hin m ht
    rcases hd with ⟨_, d2⟩ | ⟨d1, d2, d3⟩
    · exact absurd (by rw [hps]; exact ht) (d2 p hpA)
    · have e1 := d3 p hpA (by rw [hps]; exact ht)
      have e2 := hall _ d2
      have e : difG n A A = m := by omega
      rw [e, if_pos (by have := h.lo; omega)]
  · rw [if_neg hm]
    rcases hd with ⟨d1, _⟩ | ⟨d1, d2, d3⟩
    · rw [d1]; rfl
    · exfalso
      have e2 := hall _ d2
      obtain ⟨p, hpA, hps⟩ := hin _ d2
      obtain ⟨⟨x, hx, hk⟩, _⟩ := hA.yes _ _ _ ((mem_A hA).1 hpA)
      have := (alone_r hn (hP.al x hx)).2.2.2.1
      rw [(vbl_of hk).1, hps] at this
      omega
end
end Go.Proofs.YthkdmpalhdifbaaGreatDoor
