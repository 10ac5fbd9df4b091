/- Package chosen: what follows where all votes are for safe values; what is safe behind a chosen value: plain laws. -/
import Derived.Test.YthkdmpalhdifbaaGreatDoorChoM
set_option linter.unusedVariables false
set_option linter.unusedSimpArgs false
namespace Go.Proofs.YthkdmpalhdifbaaGreatDoor
open Go.RowKit Go.Maps Go.Shelf Go.Sort Go.Lib

section
variable {n : Nat} {L : List Vt} {A : GA} {s : Int}
/-- What a chosen place is. -/
theorem at_spec (hA : AOk n L A) {p : Pl × Sd} (hp : p ∈ atS n s A) : p.1.1 = s ∧ maj p.2.2 n = true ∧ (∃ x ∈ L, x.sl = s ∧ vbl x = baOf p) ∧ (∀ x ∈ L, x.sl = s → vbl x = baOf p → x.v = p.2.1) ∧
    ∀ i, p.2.2.testBit i = true ↔ ∃ x ∈ L, x.sl = s ∧ vbl x = baOf p ∧ x.nd = (i : Int) := by
  obtain ⟨h1, h2, h3⟩ := mem_atS.1 hp
  obtain ⟨⟨k1, k2, k3⟩, v, m⟩ := p
  simp only at h2
  subst h2
  obtain ⟨⟨x, hx, hxk⟩, g2, g3⟩ := hA.yes _ _ _ ((mem_A hA).1 h1)
  have hv := vbl_of hxk
  refine ⟨rfl, h3, ⟨x, hx, hv.1, hv.2⟩, fun y hy h4 h5 => g2 y hy ?_, fun i => (g3 i).trans ⟨fun ⟨y, hy, h4, h5⟩ => ⟨y, hy, (vbl_of h4).1, (vbl_of h4).2, h5⟩, fun ⟨y, hy, h4, h5, h6⟩ => ⟨y, hy, ?_, h6⟩⟩⟩
  · rw [vpl, h4]; simp only [Prod.mk.injEq, baOf] at h5; rw [h5.1, h5.2]
  · rw [vpl, h4]; simp only [Prod.mk.injEq, baOf] at h5; rw [h5.1, h5.2]
theorem at_lt (hn : 1 ≤ n ∧ n ≤ 7) (hP : Poss n L) (hA : AOk n L A) {p : Pl × Sd} (hp : p ∈ atS n s A) : p.2.2 < 2 ^ n := by
  obtain ⟨_, _, _, _, h⟩ := at_spec hA hp
  apply Nat.lt_pow_two_of_testBit
  intro i hi
  rw [Bool.eq_false_iff]
  intro hb
  obtain ⟨x, hx, _, _, h1⟩ := (h i).1 hb
  have := (alone_r hn (hP.al x hx)).1
  omega
/-- A chosen place meets each safe one above it. -/
theorem safe_meets (hn : 1 ≤ n ∧ n ≤ 7) (hP : Poss n L) (hA : AOk n L A) {p : Pl × Sd} (hp : p ∈ atS n s A) {v : ByteArray} {b : Ba} (hb : blt (baOf p) b) (h : SafeP n L s v b) :
    ∃ y ∈ L, y.sl = s ∧ blt (vbl y) b ∧ y.v = v ∧ ¬ blt (vbl y) (baOf p) := by
  obtain ⟨Q, hq, hq2, h⟩ := h
  obtain ⟨_, hm, _, _, hbit⟩ := at_spec hA hp
  obtain ⟨i, hi, h1, h2⟩ := maj_meet hn.2 hq2 (at_lt hn hP hA hp) hq hm
  obtain ⟨x, hx, hxs, hxb, hxi⟩ := (hbit i).1 h2
  rcases h with h | ⟨y, hy, h3, h4, _, h5, h6⟩
  · rw [h x hx hxs (by rw [hxb]; exact hb) i hxi] at h1
    cases h1
  · refine ⟨y, hy, h3, h4, h5, ?_⟩
    have := h6 x hx hxs (by rw [hxb]; exact hb) ⟨i, hxi, h1⟩
    rw [hxb] at this
    exact this
def bnum (b : Ba) : Nat := (b.1 * 8 + b.2).toNat
theorem bnum_lt (hn : 1 ≤ n ∧ n ≤ 7) {x y : Vt} (hx : aloneB x n = true) (hy : aloneB y n = true) (h : blt (vbl x) (vbl y)) : bnum (vbl x) < bnum (vbl y) := by
  have h1 := alone_r hn hx
  have h2 := alone_r hn hy
  rw [blt_def] at h
  unfold bnum
  simp only at h ⊢
  omega
/-- Where all votes are for safe values, votes above a chosen place are for its value. -/
theorem safe_later (hn : 1 ≤ n ∧ n ≤ 7) (hP : Poss n L) (hA : AOk n L A) (hs : ∀ x ∈ L, SafeP n L x.sl x.v (vbl x)) {p : Pl × Sd} (hp : p ∈ atS n s A) :
    ∀ (k : Nat) (y : Vt), bnum (vbl y) ≤ k → y ∈ L → y.sl = s → blt (baOf p) (vbl y) → y.v = p.2.1
  | k, y, hk, hy, hys, hb => by
    have h1 := hs y hy
    rw [hys] at h1
    obtain ⟨z, hz, hzs, hzb, hzv, hzp⟩ := safe_meets hn hP hA hp hb h1
    have hlt := bnum_lt hn (hP.al z hz) (hP.al y hy) hzb
    rw [← hzv]
    rcases blt_tri (baOf p) (vbl z) with h | h | h
    · match k, hk with
      | 0, hk => omega
      | k + 1, hk => exact safe_later hn hP hA hs hp k z (by omega) hz hzs h
    · exact (at_spec hA hp).2.2.2.1 z hz hzs h.symm
    · exact absurd h hzp
theorem agree_of_safe (hn : 1 ≤ n ∧ n ≤ 7) (hP : Poss n L) (hs : ∀ x ∈ L, SafeP n L x.sl x.v (vbl x)) : agreeF n L = (true, 0, 0) := by
  obtain ⟨A, h1, hA⟩ := poss_gather hn hP
  unfold agreeF
  rw [h1]
  simp only
  have h0 : ∀ p ∈ A, 0 ≤ p.1.1 := fun p hp => by
    obtain ⟨⟨x, hx, hk⟩, _⟩ := hA.yes _ _ _ ((mem_A hA).1 hp)
    have := (alone_r hn (hP.al x hx)).2.2.2.1.1
    rw [(vbl_of hk).1] at this
    exact this
  rcases difG_ok (n := n) h0 A (fun p hp => hp) with ⟨h2, _⟩ | ⟨h2, ⟨p, hp, q, hq, hne⟩, _⟩
  · unfold difF
    rw [h2]
    rfl
  · exfalso
    have hp' := at_spec hA hp
    have hq' := at_spec hA hq
    rcases blt_tri (baOf p) (baOf q) with h | h | h
    · obtain ⟨x, hx, hxs, hxb⟩ := hq'.2.2.1
      have e1 := safe_later hn hP hA hs hp _ x (Nat.le_refl _) hx hxs (by rw [hxb]; exact h)
      have e2 := hq'.2.2.2.1 x hx hxs hxb
      exact hne (e1.symm.trans e2)
    · obtain ⟨x, hx, hxs, hxb⟩ := hq'.2.2.1
      have e2 := hq'.2.2.2.1 x hx hxs hxb
      have e1 := hp'.2.2.2.1 x hx hxs (hxb.trans h.symm)
      exact hne (e1.symm.trans e2)
    · obtain ⟨x, hx, hxs, hxb⟩ := hp'.2.2.1
      have e1 := safe_later hn hP hA hs hq _ x (Nat.le_refl _) hx hxs (by rw [hxb]; exact h)
      have e2 := hp'.2.2.2.1 x hx hxs hxb
      exact hne (e2.symm.trans e1)

/-! ### Safe, as the program tells it -/
theorem safeF_ok (hn : 1 ≤ n ∧ n ≤ 7) (hP : Poss n L) {b : Ba} (hb : (b.1 == 0 && b.2 == 0) = false) (hc : chkE n b.1 b.2 = 0) (hs : (decide (s ≥ 0) && decide (s < 4096)) = true) (v : ByteArray) :
    ∃ r : Bool, safeF n L b s v = (r, 0) ∧ (r = true ↔ SafeP n L s v b) := by
  obtain ⟨A, h1, hA⟩ := poss_gather hn hP
  unfold safeF
  rw [h1]
  simp only
  rw [if_neg (by rw [hb]; simp), if_pos hc, if_pos hs]
  exact ⟨_, rfl, safe_iff hn hP hA⟩
/-- No other value is safe above a chosen one. -/
theorem safe_other (hn : 1 ≤ n ∧ n ≤ 7) (hP : Poss n L) (hA : AOk n L A) {p : Pl × Sd} (hp : p ∈ atS n s A) {v : ByteArray} {b : Ba} (hb : blt (baOf p) b) (hv : ∀ x ∈ L, x.v ≠ v) : ¬ SafeP n L s v b := fun h => by
  obtain ⟨y, hy, _, _, h1, _⟩ := safe_meets hn hP hA hp hb h
  exact hv y hy h1
/-- The greatest ballot of some votes. -/
theorem max_vote : ∀ {M : List Vt}, M ≠ [] → ∃ y ∈ M, ∀ x ∈ M, ¬ blt (vbl y) (vbl x)
  | [x], _ => ⟨x, by simp, fun y hy => by rw [List.mem_singleton] at hy; subst hy; exact blt_irr _⟩
  | x :: z :: r, _ => by
    obtain ⟨y, hy, h⟩ := max_vote (M := z :: r) (by simp)
    by_cases hc : blt (vbl y) (vbl x)
    · refine ⟨x, by simp, fun w hw => ?_⟩
      rcases List.mem_cons.1 hw with rfl | hw
      · exact blt_irr _
      · intro h2
        exact h w hw (blt_trans hc h2)
    · refine ⟨y, by simp [hy], fun w hw => ?_⟩
      rcases List.mem_cons.1 hw with rfl | hw
      · exact hc
      · exact h w hw
theorem safe_good (hn : 1 ≤ n ∧ n ≤ 7) (hP : Poss n L) (hA : AOk n L A) {p : Pl × Sd} (hp : p ∈ atS n s A) {b : Ba} (hb : ∀ x ∈ L, blt (vbl x) b) (hv : ∀ x ∈ L, x.sl = s → blt (baOf p) (vbl x) → x.v = p.2.1) : SafeP n L s p.2.1 b := by
  obtain ⟨_, _, ⟨x0, hx0, hxs0, hxb0⟩, hval, _⟩ := at_spec hA hp
  obtain ⟨y, hy, hmax⟩ := max_vote (M := L.filter fun x => decide (x.sl = s)) (fun e => by
    have : x0 ∈ L.filter fun x => decide (x.sl = s) := by rw [List.mem_filter]; exact ⟨hx0, by simpa using hxs0⟩
    rw [e] at this; cases this)
  rw [List.mem_filter, decide_eq_true_eq] at hy
  have hmax' : ∀ x ∈ L, x.sl = s → ¬ blt (vbl y) (vbl x) := fun x hx hxs => hmax x (by rw [List.mem_filter]; exact ⟨hx, by simpa using hxs⟩)
  have hnd := (alone_r hn (hP.al y hy.1)).1
  refine ⟨2 ^ n - 1, maj_full hn, by have := Nat.two_pow_pos n; omega, .inr ⟨y, hy.1, hy.2, hb y hy.1, ⟨y.nd.toNat, by omega, by rw [full_bit]; simp; omega⟩, ?_, fun x hx hxs _ _ => hmax' x hx hxs⟩⟩
  rcases blt_tri (baOf p) (vbl y) with h | h | h
  · exact hv y hy.1 hy.2 h
  · exact hval y hy.1 hy.2 h.symm
  · exact absurd (by rw [hxb0]; exact h) (hmax' x0 hx0 hxs0)
/-- Below all votes all values are safe. -/
theorem safe_first (hn : 1 ≤ n ∧ n ≤ 7) {b : Ba} (hb : ∀ x ∈ L, x.sl = s → ¬ blt (vbl x) b) (v : ByteArray) : SafeP n L s v b :=
  ⟨2 ^ n - 1, maj_full hn, by have := Nat.two_pow_pos n; omega, .inl fun x hx hxs hxb => absurd hxb (hb x hx hxs)⟩
end

/-! ### The highest vote of some nodes -/
def hPick (Q : Nat) (s : Int) (x : Vt) : Bool := decide (x.sl = s) && Q.testBit x.nd.toNat
def hStep (Q : Nat) (s : Int) (b : Option Vt) (x : Vt) : Option Vt :=
  if hPick Q s x = true then (match b with
    | none => some x
    | some y => if ordB (vbl x) (vbl y) > 0 ∨ ordB (vbl x) (vbl y) = 0 ∧ x.nd < y.nd then some x else some y) else b
def highL (Q : Nat) (s : Int) (L : List Vt) : Option Vt := L.foldl (hStep Q s) none
theorem ordB_gt (a b : Ba) : ordB a b > 0 ↔ blt b a := by
  rw [blt_def]
  unfold ordB firstI cmpI
  by_cases h1 : a.1 < b.1
  · simp [h1]; omega
  · by_cases h2 : a.1 > b.1
    · simp [h1, h2]
    · have e : a.1 = b.1 := by omega
      by_cases h3 : a.2 < b.2
      · simp [e, h3]; omega
      · by_cases h4 : a.2 > b.2
        · simp [e, h3, h4]
        · simp [e, h3, h4]
theorem ordB_eq (a b : Ba) : ordB a b = 0 ↔ a = b := by
  constructor
  · intro h
    rcases blt_tri a b with h1 | h1 | h1
    · have : ordB a b < 0 := h1; omega
    · exact h1
    · have := (ordB_gt a b).2 h1; omega
  · rintro rfl
    unfold ordB firstI cmpI
    simp
/-- What is picked: of the votes of the nodes at the slot the one with the greatest ballot, and of these the smallest node. -/
def HOk (Q : Nat) (s : Int) (L : List Vt) (r : Option Vt) : Prop :=
  match r with
  | none => ∀ x ∈ L, hPick Q s x = false
  | some y => y ∈ L ∧ hPick Q s y = true ∧ ∀ x ∈ L, hPick Q s x = true → ¬ blt (vbl y) (vbl x) ∧ (vbl x = vbl y → y.nd ≤ x.nd)
theorem hStep_ok {Q : Nat} {s : Int} {P : List Vt} {b : Option Vt} {x : Vt} (h : HOk Q s P b) : HOk Q s (P ++ [x]) (hStep Q s b x) := by
  unfold hStep
  cases hx : hPick Q s x with
  | false =>
    rw [if_neg (by simp)]
    cases b with
    | none =>
      intro y hy
      rcases List.mem_append.1 hy with hy | hy
      · exact h y hy
      · rw [List.mem_singleton] at hy; rw [hy]; exact hx
    | some y =>
      obtain ⟨h1, h2, h3⟩ := h
      refine ⟨by simp [h1], h2, fun z hz hzp => ?_⟩
      rcases List.mem_append.1 hz with hz | hz
      · exact h3 z hz hzp
      · rw [List.mem_singleton] at hz; subst hz; rw [hx] at hzp; cases hzp
  | true =>
    rw [if_pos rfl]
    cases b with
    | none =>
      refine ⟨by simp, hx, fun z hz hzp => ?_⟩
      rcases List.mem_append.1 hz with hz | hz
      · have := h z hz
        rw [this] at hzp; cases hzp
      · rw [List.mem_singleton] at hz; subst hz; exact ⟨blt_irr _, fun _ => Int.le_refl _⟩
    | some y =>
      obtain ⟨h1, h2, h3⟩ := h
      simp only
      by_cases hc : ordB (vbl x) (vbl y) > 0 ∨ ordB (vbl x) (vbl y) = 0 ∧ x.nd < y.nd
      · rw [if_pos hc]
        rw [ordB_gt, ordB_eq] at hc
        refine ⟨by simp, hx, fun z hz hzp => ?_⟩
        rcases List.mem_append.1 hz with hz | hz
        · obtain ⟨h4, h5⟩ := h3 z hz hzp
          rcases hc with hc | ⟨hc, hc2⟩
          · refine ⟨fun h => h4 (blt_trans hc h), fun e => ?_⟩
            rw [e] at h4
            exact absurd hc h4
          · rw [hc]
            refine ⟨h4, fun e => ?_⟩
            have := h5 e
            omega
        · rw [List.mem_singleton] at hz; subst hz; exact ⟨blt_irr _, fun _ => Int.le_refl _⟩
      · rw [if_neg hc]
        rw [ordB_gt, ordB_eq] at hc
        refine ⟨by simp [h1], h2, fun z hz hzp => ?_⟩
        rcases List.mem_append.1 hz with hz | hz
        · exact h3 z hz hzp
        · rw [List.mem_singleton] at hz
          subst hz
          exact ⟨fun h => hc (.inl h), fun e => by
            apply Classical.byContradiction
            intro h6
            exact hc (.inr ⟨e, by omega⟩)⟩
theorem highL_snoc (Q : Nat) (s : Int) (P : List Vt) (x : Vt) : highL Q s (P ++ [x]) = hStep Q s (highL Q s P) x := by
  unfold highL
  rw [List.foldl_append]
  rfl
theorem highL_ok (Q : Nat) (s : Int) (L : List Vt) : HOk Q s L (highL Q s L) := by
  have : ∀ (M P : List Vt), HOk Q s P (highL Q s P) → HOk Q s (P ++ M) (highL Q s (P ++ M)) := by
    intro M
    induction M with
    | nil => intro P h; rw [List.append_nil]; exact h
    | cons x r ih =>
      intro P h
      have := ih (P ++ [x]) (by rw [highL_snoc]; exact hStep_ok h)
      rw [List.append_assoc] at this
      exact this
  have := this L [] (by intro x hx; cases hx)
  simpa using this
/-- The value of the highest vote of a majority is safe; all are, where it has none. -/
theorem safe_high {n : Nat} {L : List Vt} {Q : Nat} {s : Int} {b : Ba} (hn : 1 ≤ n ∧ n ≤ 7) (hP : Poss n L) (hq : maj Q n = true) (hq2 : Q < 2 ^ n) (hb : ∀ x ∈ L, blt (vbl x) b) {y : Vt} (h : highL Q s L = some y) : SafeP n L s y.v b := by
  have h1 := highL_ok Q s L
  rw [h] at h1
  obtain ⟨h2, h3, h4⟩ := h1
  unfold hPick at h3
  rw [Bool.and_eq_true, decide_eq_true_eq] at h3
  have hnd := (alone_r hn (hP.al y h2)).1
  refine ⟨Q, hq, hq2, .inr ⟨y, h2, h3.1, hb y h2, ⟨y.nd.toNat, by omega, h3.2⟩, rfl, fun x hx hxs _ ⟨i, hi, hbit⟩ => (h4 x hx ?_).1⟩⟩
  unfold hPick
  rw [Bool.and_eq_true, decide_eq_true_eq]
  refine ⟨hxs, ?_⟩
  rw [hi]
  exact hbit
theorem safe_none {n : Nat} {L : List Vt} {Q : Nat} {s : Int} {b : Ba} (hq : maj Q n = true) (hq2 : Q < 2 ^ n) (h : highL Q s L = none) (v : ByteArray) : SafeP n L s v b := by
  have h1 := highL_ok Q s L
  rw [h] at h1
  refine ⟨Q, hq, hq2, .inl fun x hx hxs _ i hi => ?_⟩
  have := h1 x hx
  unfold hPick at this
  rw [hi, decide_eq_true hxs] at this
  simpa using this
end Go.Proofs.YthkdmpalhdifbaaGreatDoor
