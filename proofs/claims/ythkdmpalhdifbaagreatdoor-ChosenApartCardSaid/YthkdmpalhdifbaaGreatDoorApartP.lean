/- Votes that are sorted by nodes, or of one slot: what is chosen and safe there stays: plain laws. -/
import Derived.Test.YthkdmpalhdifbaaGreatDoorStabC
import Derived.Test.YthkdmpalhdifbaaGreatDoorNoF
import Derived.Test.YthkdmpalhdifbaaGreatDoorChoYB
set_option linter.unusedVariables false
set_option linter.unusedSimpArgs false
namespace Go.Proofs.YthkdmpalhdifbaaGreatDoor
open Go.RowKit Go.Maps Go.Shelf Go.Sort Go.Lib

theorem pw_of_filter {α : Type} {key : α → Int} {F W : α → α → Prop} (hc : ∀ y x, W y x → (key y = key x → F y x) → F y x) : ∀ {R : List α}, (∀ k, (R.filter fun x => decide (key x = k)).Pairwise F) → R.Pairwise W → R.Pairwise F
  | [], _, _ => List.Pairwise.nil
  | y :: r, h, hw => by
    have hw' := List.pairwise_cons.1 hw
    refine List.pairwise_cons.2 ⟨fun x hx => hc y x (hw'.1 x hx) fun e => ?_, pw_of_filter hc (fun k => ?_) hw'.2⟩
    · have h1 := h (key y)
      rw [List.filter_cons, if_pos (by simp)] at h1
      exact (List.pairwise_cons.1 h1).1 x (List.mem_filter.2 ⟨hx, by simp [e]⟩)
    · exact (h k).sublist ((List.sublist_cons_self y r).filter _)
theorem poss_srtd {n : Int} {L R : List Vt} (hP : Poss n L) (h : Srtd L R) : Poss n R := by
  refine ⟨fun x hx => hP.al x (h.1.perm.mem_iff.2 hx), ?_⟩
  refine pw_of_filter (key := kV) (W := fun y x => y.sl = x.sl → vbl y = vbl x → y.v = x.v) (fun y x hw hf hs => ?_) (fun k => ?_) ?_
  · by_cases e : y.nd = x.nd
    · exact hf e hs
    · exact ⟨hw hs, fun e2 => absurd e2 e⟩
  · rw [← h.1.filt k]
    exact hP.pw.sublist List.filter_sublist
  · refine h.1.perm.pairwise (hP.pw.imp fun {a b} hf hs => (hf hs).1) ?_
    intro a b hab hs e
    exact (hab hs.symm e.symm).symm
/-- The value chosen at a slot. -/
def ChosenIs (n : Nat) (L : List Vt) (s : Int) (v : ByteArray) : Prop := ∃ x ∈ L, x.sl = s ∧ x.v = v ∧ mjv n L (vpl x) = true ∧ ∀ z ∈ L, z.sl = s → mjv n L (vpl z) = true → ¬ blt (vbl z) (vbl x)
section
variable {n : Nat} {L M : List Vt} {A B : GA} {s : Int}
theorem ChosenIs.uniq (hA : AOk n L A) {v v' : ByteArray} (h : ChosenIs n L s v) (h' : ChosenIs n L s v') : v = v' := by
  obtain ⟨x, a1, a2, a3, a4, a5⟩ := h
  obtain ⟨y, b1, b2, b3, b4, b5⟩ := h'
  have k1 := a5 y b1 b2 b4
  have k2 := b5 x a1 a2 a4
  have e : vbl x = vbl y := by
    rcases blt_tri (vbl x) (vbl y) with h | h | h
    · exact absurd h k2
    · exact h
    · exact absurd h k1
  have e2 : vpl x = vpl y := by
    simp only [Prod.mk.injEq] at e
    rw [vpl, vpl, a2, b2, e.1, e.2]
  obtain ⟨c1, d1, _⟩ := hA.at a1
  obtain ⟨c2, d2, _⟩ := hA.at b1
  rw [e2, d2] at d1
  have e3 := Option.some.inj d1
  simp only [Prod.mk.injEq] at e3
  rw [← a3, ← b3, e3.1]
theorem chosen_is (hn : 1 ≤ n ∧ n ≤ 7) (hP : Poss n L) (hA0 : (gwalk n [] [] 0 L).1 = some A) (hA : AOk n L A) (hs : (decide (s ≥ 0) && decide (s < 4096)) = true) :
    (∃ v, ChosenIs n L s v ∧ chosenF n L s = (v, true, 0)) ∨ ((∀ v, ¬ ChosenIs n L s v) ∧ chosenF n L s = (⟨#[]⟩, false, 0)) := by
  have hF : chosenF n L s = (match pickV n A s with | some v => (v, true, 0) | none => (⟨#[]⟩, false, 0)) := by unfold chosenF; rw [hA0, hs]; rfl
  obtain ⟨o, ho⟩ := FOne.ex n L s L.length (Nat.le_refl _)
  rw [List.take_length] at ho
  rw [hF, first_pick hn hP hA ho]
  cases o with
  | none =>
    refine .inr ⟨fun v ⟨x, a1, a2, a3, a4, _⟩ => ?_, rfl⟩
    rw [ho x a1 a2] at a4
    cases a4
  | some p =>
    obtain ⟨y, h1, h2, h3, h4⟩ := ho
    refine .inl ⟨y.v, ⟨y, List.mem_of_getElem? h1, h2, rfl, h3, h4⟩, ?_⟩
    unfold firV
    rw [Option.bind_some, h1]
    rfl
theorem mjv_congr (hP : Poss n L) (hQ : Poss n M) (hn : 1 ≤ n ∧ n ≤ 7) (h : ∀ x, x.sl = s → (x ∈ L ↔ x ∈ M)) (b : Ba) : mjv n L (s, b) = mjv n M (s, b) := by
  have e : nodesF (s, b) L = nodesF (s, b) M := Nat.eq_of_testBit_eq fun i => by
    rw [Bool.eq_iff_iff, nodesF_bit (fun y hy => (alone_r hn (hP.al y hy)).1.1), nodesF_bit (fun y hy => (alone_r hn (hQ.al y hy)).1.1)]
    constructor
    · rintro ⟨x, hx, hk, hi⟩
      exact ⟨x, (h x (vbl_of hk).1).1 hx, hk, hi⟩
    · rintro ⟨x, hx, hk, hi⟩
      exact ⟨x, (h x (vbl_of hk).1).2 hx, hk, hi⟩
  unfold mjv
  rw [e]
theorem ChosenIs.congr (hP : Poss n L) (hQ : Poss n M) (hn : 1 ≤ n ∧ n ≤ 7) (h : ∀ x, x.sl = s → (x ∈ L ↔ x ∈ M)) {v : ByteArray} (hc : ChosenIs n L s v) : ChosenIs n M s v := by
  obtain ⟨x, a1, a2, a3, a4, a5⟩ := hc
  have hm : ∀ z : Vt, z.sl = s → mjv n L (vpl z) = mjv n M (vpl z) := fun z hz => by rw [vpl, hz]; exact mjv_congr hP hQ hn h _
  refine ⟨x, (h x a2).1 a1, a2, a3, by rw [← hm x a2]; exact a4, fun z hz hzs hzm => a5 z ((h z hzs).2 hz) hzs (by rw [hm z hzs]; exact hzm)⟩
theorem chosen_congr (hn : 1 ≤ n ∧ n ≤ 7) (hP : Poss n L) (hQ : Poss n M) (h : ∀ x, x.sl = s → (x ∈ L ↔ x ∈ M)) (hs : (decide (s ≥ 0) && decide (s < 4096)) = true) : chosenF n M s = chosenF n L s ∧ (chosenF n L s).2.2 = 0 := by
  obtain ⟨A, a1, hA⟩ := poss_gather hn hP
  obtain ⟨B, b1, hB⟩ := poss_gather hn hQ
  have h' : ∀ x, x.sl = s → (x ∈ M ↔ x ∈ L) := fun x hx => (h x hx).symm
  rcases chosen_is hn hP (by rw [a1]) hA hs with ⟨v, c1, c2⟩ | ⟨c1, c2⟩ <;> rcases chosen_is hn hQ (by rw [b1]) hB hs with ⟨v', d1, d2⟩ | ⟨d1, d2⟩
  · rw [c2, d2, ChosenIs.uniq hB d1 (c1.congr hP hQ hn h)]
    exact ⟨rfl, rfl⟩
  · exact absurd (c1.congr hP hQ hn h) (d1 v)
  · exact absurd (d1.congr hQ hP hn h') (c1 v')
  · rw [c2, d2]
    exact ⟨rfl, rfl⟩
theorem SafeP.congr (h : ∀ x, x.sl = s → (x ∈ L ↔ x ∈ M)) {v : ByteArray} {b : Ba} (hc : SafeP n L s v b) : SafeP n M s v b := by
  obtain ⟨Q, q1, q2, h1⟩ := hc
  refine ⟨Q, q1, q2, ?_⟩
  rcases h1 with h1 | ⟨y, b1, b2, b3, b4, b5, b6⟩
  · exact .inl fun x hx hxs => h1 x ((h x hxs).2 hx) hxs
  · exact .inr ⟨y, (h y b2).1 b1, b2, b3, b4, b5, fun x hx hxs => b6 x ((h x hxs).2 hx) hxs⟩
theorem safe_congr (hn : 1 ≤ n ∧ n ≤ 7) (hP : Poss n L) (hQ : Poss n M) (hA : AOk n L A) (hB : AOk n M B) (h : ∀ x, x.sl = s → (x ∈ L ↔ x ∈ M)) (v : ByteArray) (b : Ba) :
    safeL n B s v (sortB (belowL B s b)).reverse = safeL n A s v (sortB (belowL A s b)).reverse := by
  rw [Bool.eq_iff_iff, safe_iff hn hQ hB, safe_iff hn hP hA]
  exact ⟨fun hc => hc.congr fun x hx => (h x hx).symm, fun hc => hc.congr h⟩
end
/-- What is asked of the other lists. -/
structure Alike (n : Nat) (L M : List Vt) (s : Int) : Prop where
  poss : Poss n M
  mem : ∀ x, x.sl = s → (x ∈ L ↔ x ∈ M)
  len : M.length ≤ 1000
theorem alike_alone {n : Nat} {L : List Vt} (h : VOk n L) (s : Int) : Alike n L (L.filter fun x => decide (x.sl = s)) s :=
  ⟨h.poss.sub List.filter_sublist, fun x hx => by rw [List.mem_filter]; simp [hx], by have := List.length_filter_le (fun x : Vt => decide (x.sl = s)) L; have := h.len; omega⟩
theorem alike_sorted {n : Nat} {L R : List Vt} (h : VOk n L) (hs : Srtd L R) (s : Int) : Alike n L R s :=
  ⟨poss_srtd h.poss hs, fun x _ => hs.1.perm.mem_iff, by rw [← hs.1.length]; have := h.len; omega⟩
end Go.Proofs.YthkdmpalhdifbaaGreatDoor
