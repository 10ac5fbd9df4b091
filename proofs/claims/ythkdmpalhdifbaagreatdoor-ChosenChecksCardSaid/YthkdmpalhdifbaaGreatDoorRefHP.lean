/- The reference's highest vote below a ballot; safe by sets of nodes: plain laws. -/
import Derived.Test.YthkdmpalhdifbaaGreatDoorRefA
set_option linter.unusedVariables false
set_option linter.unusedSimpArgs false
namespace Go.Proofs.YthkdmpalhdifbaaGreatDoor
open Go.RowKit Go.Maps Go.Shelf Go.Lib

def isZ (b : Ba) : Bool := b.1 == 0 && b.2 == 0
def hPickB (Q : Nat) (s : Int) (b : Ba) (x : Vt) : Bool := decide (x.sl = s) && (Q.testBit x.nd.toNat && (isZ b || decide (ordB (vbl x) b < 0)))
def hTake (x y : Vt) : Bool := decide (ordB (vbl y) (vbl x) < 0) || (((y.r == x.r) && (y.d == x.d)) && decide (x.nd < y.nd))
def hStepB (Q : Nat) (s : Int) (b : Ba) (o : Option Vt) (x : Vt) : Option Vt :=
  if hPickB Q s b x = true then (match o with
    | none => some x
    | some y => if hTake x y = true then some x else some y) else o
def highB (Q : Nat) (s : Int) (b : Ba) (L : List Vt) : Option Vt := L.foldl (hStepB Q s b) none
theorem highB_snoc (Q : Nat) (s : Int) (b : Ba) (P : List Vt) (x : Vt) : highB Q s b (P ++ [x]) = hStepB Q s b (highB Q s b P) x := by
  unfold highB
  rw [List.foldl_append]
  rfl
theorem hTake_iff {x y : Vt} : hTake x y = true ↔ blt (vbl y) (vbl x) ∨ vbl y = vbl x ∧ x.nd < y.nd := by
  unfold hTake
  simp only [Bool.or_eq_true, Bool.and_eq_true, decide_eq_true_eq, beq_iff_eq, Prod.mk.injEq]
/-- With no ballot it is what Highest picks. -/
theorem highB_zero (Q : Nat) (s : Int) (L : List Vt) : highB Q s (0, 0) L = highL Q s L := by
  unfold highB highL
  congr 1
  funext o x
  unfold hStepB hStep
  have e : hPickB Q s (0, 0) x = hPick Q s x := by unfold hPickB hPick isZ; simp
  rw [e]
  cases hPick Q s x with
  | false => rfl
  | true =>
    rw [if_pos rfl, if_pos rfl]
    cases o with
    | none => rfl
    | some y =>
      simp only
      have e2 : hTake x y = true ↔ (ordB (vbl x) (vbl y) > 0 ∨ ordB (vbl x) (vbl y) = 0 ∧ x.nd < y.nd) := by
        rw [hTake_iff, ordB_gt, ordB_eq]
        constructor
        · rintro (h | ⟨h, h2⟩)
          · exact .inl h
          · exact .inr ⟨h.symm, h2⟩
        · rintro (h | ⟨h, h2⟩)
          · exact .inl h
          · exact .inr ⟨h.symm, h2⟩
      by_cases h : hTake x y = true
      · rw [if_pos h, if_pos (e2.1 h)]
      · rw [if_neg h, if_neg (fun h2 => h (e2.2 h2))]
def HOkB (Q : Nat) (s : Int) (b : Ba) (L : List Vt) (r : Option Vt) : Prop :=
  match r with
  | none => ∀ x ∈ L, hPickB Q s b x = false
  | some y => y ∈ L ∧ hPickB Q s b y = true ∧ ∀ x ∈ L, hPickB Q s b x = true → ¬ blt (vbl y) (vbl x)
theorem hStepB_ok {Q : Nat} {s : Int} {b : Ba} {P : List Vt} {o : Option Vt} {x : Vt} (h : HOkB Q s b P o) : HOkB Q s b (P ++ [x]) (hStepB Q s b o x) := by
  unfold hStepB
  cases hx : hPickB Q s b x with
  | false =>
    rw [if_neg (by simp)]
    cases o with
    | none =>
      intro y hy
      rcases List.mem_append.1 hy with hy | hy
      · exact h y hy
      · rw [List.mem_singleton] at hy; rw [hy]; exact hx
    | some y =>
      obtain ⟨h1, h2, h3⟩ := h
      refine ⟨by simp [h1], h2, fun z hz hzp => ?_⟩
      rcases List.mem_append.1 hz with hz | hz
      · exact h3 z hz hzp
      · rw [List.mem_singleton] at hz; subst hz; rw [hx] at hzp; cases hzp
  | true =>
    rw [if_pos rfl]
    cases o with
    | none =>
      refine ⟨by simp, hx, fun z hz hzp => ?_⟩
      rcases List.mem_append.1 hz with hz | hz
      · have := h z hz
        rw [this] at hzp; cases hzp
      · rw [List.mem_singleton] at hz; subst hz; exact blt_irr _
    | some y =>
      obtain ⟨h1, h2, h3⟩ := h
      simp only
      by_cases hc : hTake x y = true
      · rw [if_pos hc]
        rw [hTake_iff] at hc
        refine ⟨by simp, hx, fun z hz hzp hlt => ?_⟩
        rcases List.mem_append.1 hz with hz | hz
        · have h4 := h3 z hz hzp
          rcases hc with hc | ⟨hc, _⟩
          · exact h4 (blt_trans hc hlt)
          · rw [← hc] at hlt; exact h4 hlt
        · rw [List.mem_singleton] at hz; subst hz; exact blt_irr _ hlt
      · rw [if_neg hc]
        rw [hTake_iff] at hc
        refine ⟨by simp [h1], h2, fun z hz hzp => ?_⟩
        rcases List.mem_append.1 hz with hz | hz
        · exact h3 z hz hzp
        · rw [List.mem_singleton] at hz
          subst hz
          exact fun h => hc (.inl h)
theorem highB_ok (Q : Nat) (s : Int) (b : Ba) (L : List Vt) : HOkB Q s b L (highB Q s b L) := by
  have : ∀ (M P : List Vt), HOkB Q s b P (highB Q s b P) → HOkB Q s b (P ++ M) (highB Q s b (P ++ M)) := by
    intro M
    induction M with
    | nil => intro P h; rw [List.append_nil]; exact h
    | cons x r ih =>
      intro P h
      have := ih (P ++ [x]) (by rw [highB_snoc]; exact hStepB_ok h)
      rw [List.append_assoc] at this
      exact this
  have := this L [] (by intro x hx; cases hx)
  simpa using this
def goodSet (n : Nat) (L : List Vt) (s : Int) (v : ByteArray) (b : Ba) (Q : Nat) : Bool := maj Q n && (match highB Q s b L with
  | none => true
  | some y => y.v.toList == v.toList)
theorem pick_iff {Q : Nat} {s : Int} {b : Ba} (hb : isZ b = false) {x : Vt} : hPickB Q s b x = true ↔ x.sl = s ∧ Q.testBit x.nd.toNat = true ∧ blt (vbl x) b := by
  unfold hPickB
  rw [hb]
  simp only [Bool.and_eq_true, decide_eq_true_eq, Bool.false_or]
/-- A value is safe, as all sets of nodes are tried. -/
theorem safe_sets {n : Nat} {L : List Vt} {s : Int} {v : ByteArray} {b : Ba} (hn : 1 ≤ n ∧ n ≤ 7) (hP : Poss n L) (hb : isZ b = false) : SafeP n L s v b ↔ ∃ Q, Q < 2 ^ n ∧ goodSet n L s v b Q = true := by
  have hnd : ∀ x ∈ L, ∃ i : Nat, x.nd = (i : Int) ∧ x.nd.toNat = i := fun x hx => by
    have := (alone_r hn (hP.al x hx)).1
    exact ⟨x.nd.toNat, by omega, rfl⟩
  constructor
  · rintro ⟨Q, hq, hq2, h⟩
    refine ⟨Q, hq2, ?_⟩
    unfold goodSet
    rw [hq, Bool.true_and]
    have hok := highB_ok Q s b L
    cases hh : highB Q s b L with
    | none => rfl
    | some z =>
      rw [hh] at hok
      obtain ⟨hz, hzp, hzm⟩ := hok
      rw [pick_iff hb] at hzp
      obtain ⟨i, hi1, hi2⟩ := hnd z hz
      rw [hi2] at hzp
      simp only [beq_iff_eq]
      rcases h with h | ⟨y, hy, hys, hyb, ⟨j, hj1, hj2⟩, hyv, hmax⟩
      · rw [h z hz hzp.1 hzp.2.2 i hi1] at hzp
        exact absurd hzp.2.1 (by decide)
      · have h1 := hmax z hz hzp.1 hzp.2.2 ⟨i, hi1, hzp.2.1⟩
        have h2 := hzm y hy ((pick_iff hb).2 ⟨hys, by rw [hj1]; exact hj2, hyb⟩)
        rw [← hyv]
        rcases blt_tri (vbl y) (vbl z) with h3 | h3 | h3
        · exact absurd h3 h1
        · congr 1
          obtain ⟨a, ha, haz⟩ := List.getElem_of_mem hz
          obtain ⟨c, hc, hcy⟩ := List.getElem_of_mem hy
          have hp := List.pairwise_iff_getElem.1 hP.pw
          rcases Nat.lt_trichotomy a c with h4 | h4 | h4
          · have := hp a c ha hc h4
            rw [haz, hcy] at this
            exact (this (hzp.1.trans hys.symm)).1 h3.symm
          · subst h4
            rw [haz] at hcy
            rw [hcy]
          · have := hp c a hc ha h4
            rw [haz, hcy] at this
            exact ((this (hys.trans hzp.1.symm)).1 h3).symm
        · exact absurd h3 h2
  · rintro ⟨Q, hq2, h⟩
    unfold goodSet at h
    rw [Bool.and_eq_true] at h
    have hok := highB_ok Q s b L
    cases hh : highB Q s b L with
    | none =>
      rw [hh] at hok
      refine ⟨Q, h.1, hq2, .inl fun x hx hxs hxb i hi => ?_⟩
      rw [Bool.eq_false_iff]
      intro hb2
      have := hok x hx
      rw [(pick_iff hb).2 ⟨hxs, by rw [hi]; exact hb2, hxb⟩] at this
      cases this
    | some y =>
      rw [hh] at hok h
      obtain ⟨hy, hyp, hym⟩ := hok
      rw [pick_iff hb] at hyp
      obtain ⟨i, hi1, hi2⟩ := hnd y hy
      refine ⟨Q, h.1, hq2, .inr ⟨y, hy, hyp.1, hyp.2.2, ⟨i, hi1, by rw [← hi2]; exact hyp.2.1⟩, toList_inj (eq_of_beq h.2), fun x hx hxs hxb ⟨j, hj1, hj2⟩ => hym x hx ((pick_iff hb).2 ⟨hxs, by rw [hj1]; exact hj2, hxb⟩)⟩⟩
end Go.Proofs.YthkdmpalhdifbaaGreatDoor
