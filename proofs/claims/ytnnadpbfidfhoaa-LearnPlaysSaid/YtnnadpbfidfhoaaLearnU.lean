/- The plain laws of LearnUpto: slots that are learned in any order, and forgotten; a row of a hundred truth values. -/
import Derived.Test.YtnnadpbfidfhoaaLearnM
import Derived.Test.YtnnadpbfidfhoaaLearnJ
set_option linter.unusedVariables false
set_option linter.unusedSimpArgs false
namespace Go.Proofs.Ytnnadpbfidfhoaa
open Go.RowKit Go.Maps Go.Shelf Go.ChangeShapes Go.WideShapes Go.Deep

theorem strA : ∀ k : Nat, k < 45 → strOfNums [97 + (k : Int)] = cr k := by decide +kernel
theorem convA (k : Nat) (w : World) (hk : k < 45) : (convert 22 9 (.slice (some ⟨w.heap.size, 0, none⟩) 1 1)).run Try.prog (w.alloc (.cells #[.int .u8 (97 + (k : Int))] 5)) = .ok (.string (cr k)) (w.alloc (.cells #[.int .u8 (97 + (k : Int))] 5)) := by
  rw [← strA k hk]
  refine run_convert_bytes_arg _ _ _ Try.underlying22 Try.underlying5 w.heap.size 0 1 1 [97 + (k : Int)] (by simp) (fun i hi => ?_) _ Try.underlying9
  have : i = 0 := by omega
  subst this
  exact (Blk.new w 5 #[.int .u8 (97 + (k : Int))]).cell (i := 0) rfl
theorem cr_size (k : Nat) : (cr k).size = 1 := rfl

/-- A row of a hundred truth values. -/
def Bl (w : World) (g : Nat) (f : Nat → Bool) : Prop := ∃ cs : Array Value, Blk w g 4 cs ∧ cs.size = 100 ∧ ∀ i, i < 100 → cs[i]? = some (.bool (f i))
def upd (f : Nat → Bool) (s : Nat) : Nat → Bool := fun i => f i || i == s
namespace Bl
variable {w w' : World} {g : Nat} {f : Nat → Bool}
theorem init (w : World) : Bl (w.alloc (.cells (Array.replicate 100 (.bool false)) 4)) w.heap.size (fun _ => false) :=
  ⟨_, Blk.new w 4 _, by simp, fun i hi => by simp [hi]⟩
theorem cell (h : Bl w g f) {i : Nat} (hi : i < 100) : w.cell? ⟨g, i, none⟩ = some (.bool (f i)) := by
  obtain ⟨cs, h1, h2, h3⟩ := h
  exact h1.cell (h3 i hi)
theorem frozen (h : Bl w g f) (i : Nat) : w.frozen? ⟨g, i, none⟩ = false := by
  obtain ⟨cs, h1, _⟩ := h
  exact h1.frozen i
theorem lt (h : Bl w g f) : g < w.heap.size := by
  obtain ⟨cs, h1, _⟩ := h
  exact h1.lt
theorem fr {S : Nat → Prop} (h : Bl w g f) (k : Fr S w w') (hs : ¬ S g) : Bl w' g f := by
  obtain ⟨cs, h1, h2⟩ := h
  exact ⟨cs, h1.fr k hs, h2⟩
theorem bel (h : Bl w g f) (k : Below w.heap.size w w') : Bl w' g f := by
  obtain ⟨cs, h1, h2⟩ := h
  exact ⟨cs, h1.bel k, h2⟩
theorem set (h : Bl w g f) {s : Nat} (hs : s < 100) : Bl (w.setCell ⟨g, s, none⟩ (.bool true)) g (upd f s) := by
  obtain ⟨cs, h1, h2, h3⟩ := h
  refine ⟨_, h1.set s (.bool true), by simpa using h2, fun i hi => ?_⟩
  rw [Array.getElem?_setIfInBounds]
  by_cases e : s = i
  · subst e
    rw [if_pos rfl, if_pos (by omega)]
    simp [upd]
  · rw [if_neg e, h3 i hi]
    have : (i == s) = false := by simp; omega
    simp [upd, this]
end Bl

/-- What is known is what was learned, from the base on. -/
structure UpR (f : Nat → Bool) (B : Nat) (K : KL) : Prop where
  c : ∀ i : Nat, i < 100 → (kget (i : Int) K).c = (f i && decide (B ≤ i))
  v : ∀ i : Nat, i < 100 → (kget (i : Int) K).c = true → (kget (i : Int) K).v = cr i
  f40 : ∀ i, f i = true → i < 40
  b45 : B ≤ 45
theorem upR0 : UpR (fun _ => false) 0 [] := ⟨fun _ _ => rfl, fun _ _ (hc : false = true) => (nomatch hc), fun _ (hc : false = true) => (nomatch hc), by decide⟩
theorem kget_put_same {K : KL} (h : Srt K) {k : Int} {e : Kn} : kget k (put k e K) = e := by unfold kget; rw [get_put_same h]; rfl
theorem kget_put_other {K : KL} (h : Srt K) {k j : Int} {e : Kn} (hne : j ≠ k) : kget j (put k e K) = kget j K := by unfold kget; rw [get_put_other h hne]
namespace UpR
variable {f : Nat → Bool} {B : Nat} {K : KL}
theorem learn_old (h : UpR f B K) {s : Nat} (h40 : s < 40) (hb : s < B) : lnE ⟨3, B, K⟩ s (cr s) = 8 ∧ lnS ⟨3, B, K⟩ s (cr s) = ⟨3, B, K⟩ := by
  have h1 : lchk (B : Int) false (s : Int) (cr s).size = 8 := by
    unfold lchk
    rw [if_neg (by simp; omega), if_neg (by rw [cr_size]; omega), if_pos (by omega)]
  have h2 : lnE ⟨3, B, K⟩ s (cr s) = 8 := by
    unfold lnE
    rw [if_pos (by simp only; rw [h1]; decide)]
    exact h1
  exact ⟨h2, by unfold lnS; rw [h2]; rfl⟩
theorem learn_new (h : UpR f B K) (hs : Srt K) {s : Nat} (h40 : s < 40) (hb : ¬ s < B) : lnE ⟨3, B, K⟩ s (cr s) = 0 ∧ ∃ K2, lnS ⟨3, B, K⟩ s (cr s) = ⟨3, B, K2⟩ ∧ UpR (upd f s) B K2 := by
  have h1 : lchk (B : Int) false (s : Int) (cr s).size = 0 := by
    unfold lchk
    rw [if_neg (by simp; omega), if_neg (by rw [cr_size]; omega), if_neg (by omega)]
  have h2 : lnE ⟨3, B, K⟩ s (cr s) = 0 := by
    unfold lnE
    rw [if_neg (by simp only; rw [h1]; decide), if_neg]
    rintro ⟨k1, k2⟩
    exact k2 (h.v s (by omega) k1).symm
  refine ⟨h2, _, by unfold lnS; rw [if_pos h2], ?_, ?_, ?_, h.b45⟩
  · intro i hi
    simp only
    by_cases e : i = s
    · subst e
      rw [kget_put_same hs]
      have : decide (B ≤ i) = true := by simp; omega
      simp [lnK, upd, this]
    · rw [kget_put_other hs (by omega), h.c i hi]
      have : (i == s) = false := by simp; omega
      simp [upd, this]
  · intro i hi
    simp only
    by_cases e : i = s
    · subst e
      rw [kget_put_same hs]
      exact fun _ => rfl
    · rw [kget_put_other hs (by omega)]
      exact h.v i hi
  · intro i hi
    unfold upd at hi
    rw [Bool.or_eq_true] at hi
    rcases hi with hi | hi
    · exact h.f40 i hi
    · have : i = s := by simpa using hi
      omega
theorem forget (h : UpR f B K) {k B2 : Nat} (hk : k ≤ 45) (hB : B2 = max B k) : fgE (k : Int) = 0 ∧ fgS ⟨3, B, K⟩ (k : Int) = ⟨3, B2, cutL B2 K⟩ ∧ UpR f B2 (cutL B2 K) := by
  have e : max (B : Int) (k : Int) = (B2 : Int) := by omega
  refine ⟨if_neg (by omega), ?_, ?_, ?_, h.f40, by have := h.b45; omega⟩
  · unfold fgS
    rw [if_neg (by omega)]
    simp only
    rw [e]
  · intro i hi
    by_cases hb : B2 ≤ i
    · rw [kget_cutL_ge (by omega), h.c i hi]
      have h1 : decide (B ≤ i) = true := by simp; omega
      have h2 : decide (B2 ≤ i) = true := by simpa using hb
      rw [h1, h2]
    · rw [kget_cutL_lt (by omega)]
      have h2 : decide (B2 ≤ i) = false := by simpa using hb
      rw [h2, Bool.and_false]
      rfl
  · intro i hi hc
    by_cases hb : B2 ≤ i
    · rw [kget_cutL_ge (by omega)] at hc ⊢
      exact h.v i hi hc
    · rw [kget_cutL_lt (by omega)] at hc
      cases hc
theorem upto (h : UpR f B K) {u : Int} {x : Nat} (hc : Climbs K B u) (hx : B ≤ x) (hx2 : x < 100) (hall : ∀ i, B ≤ i → i < x → f i = true) (hs : f x = false) : u = (x : Int) := by
  have hu := hc.le
  obtain ⟨un, rfl⟩ := Int.eq_ofNat_of_zero_le (show 0 ≤ u by omega)
  have h1 : ¬ un < x := fun hlt => by
    have h2 := hall un (by omega) hlt
    have h3 := hc.stop
    have h4 := h.c un (by omega)
    rw [h2, decide_eq_true (show B ≤ un by omega)] at h4
    have h3 : (kget (un : Int) K).c = false := h3
    rw [h3] at h4
    cases h4
  have h2 : ¬ x < un := fun hlt => by
    have h3 := hc.all x (by omega) (by show (x : Int) < (un : Int); omega)
    rw [h.c x hx2, hs] at h3
    cases h3
  show (un : Int) = (x : Int)
  omega
end UpR
/-- The first slot that is not chosen never becomes smaller. -/
theorem upto_grows {f f2 : Nat → Bool} {B B2 last x : Nat} (h : ∀ i, B ≤ i → i < last → f i = true) (hf : ∀ i, f i = true → f2 i = true) (hb : B ≤ B2) (hx : B2 ≤ x) (hs : f2 x = false) : last ≤ x := by
  by_cases hl : last ≤ x
  · exact hl
  · have := hf x (h x (by omega) (by omega))
    rw [this] at hs
    cases hs
end Go.Proofs.Ytnnadpbfidfhoaa
