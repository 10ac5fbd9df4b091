/- Package skaldlaw25: what the statements by drawn votes share. -/
import Derived.Test.YthkdmpalhdifbaaDoorChoVW
import Derived.Test.YthkdmpalhdifbaaDoorChoAH
import Derived.Test.YthkdmpalhdifbaaDoorChoDel
set_option linter.unusedVariables false
set_option linter.unusedSimpArgs false
namespace Go.Proofs.YthkdmpalhdifbaaDoor
open Go.RowKit Go.Maps Go.Shelf

/-- The slice v is the votes L, in a block of the call's own. -/
def VtS (w : World) (lo : Nat) (v : Value) (L : List Vt) : Prop :=
  ∃ A cap, v = .slice A L.length cap ∧ L.length ≤ cap ∧ cap ≤ maxLen ∧ (0 < L.length → ∃ g, A = some ⟨g, 0, none⟩ ∧ lo ≤ g ∧ VtB w g L)
theorem VtS.of_row {w : World} {lo : Nat} {v : Value} {L : List Vt} (h : VtRow w lo v L) : VtS w lo v L := by
  by_cases h0 : 0 < L.length
  · obtain ⟨g, cap, h1, h2, h3, h4, h5⟩ := VtB.of_row h h0
    exact ⟨_, cap, h1, h2, h3, fun _ => ⟨g, rfl, h4, h5⟩⟩
  · obtain ⟨A, cap, h1, h2, h3, _⟩ := h.at
    exact ⟨A, cap, h1, h2, h3, fun h => absurd h h0⟩
theorem VtS.below {w w' : World} {lo : Nat} {v : Value} {L : List Vt} (h : VtS w lo v L) (hb : Below w.heap.size w w') : VtS w' lo v L := by
  obtain ⟨A, cap, h1, h2, h3, h4⟩ := h
  exact ⟨A, cap, h1, h2, h3, fun h0 => by obtain ⟨g, k1, k2, k3⟩ := h4 h0; exact ⟨g, k1, k2, k3.below hb⟩⟩
theorem VtS.at {w : World} {lo : Nat} {v : Value} {L : List Vt} (h : VtS w lo v L) : VotesIn w v L := by
  obtain ⟨A, cap, h1, h2, h3, h4⟩ := h
  by_cases h0 : 0 < L.length
  · obtain ⟨g, k1, k2, k3⟩ := h4 h0
    subst k1 h1
    exact k3.at h2 h3
  · exact ⟨A, cap, h1, h2, h3, fun h => absurd h h0⟩
theorem VOk.sub {n : Nat} {L M : List Vt} (h : VOk n L) (hs : M.Sublist L) : VOk n M := ⟨h.poss.sub hs, Nat.le_trans hs.length_le h.len, fun x hx => h.few x (hs.subset hx)⟩
theorem alone_args {n : Int} {x : Vt} (h : aloneB x n = true) : (x.r == 0 && x.d == 0) = false ∧ chkE n x.r x.d = 0 ∧ (decide (x.sl ≥ 0) && decide (x.sl < 4096)) = true := by
  unfold aloneB at h
  simp only [Bool.and_eq_true, Bool.not_eq_true', decide_eq_true_eq] at h ⊢
  exact ⟨h.2.2.1, h.2.2.2.1, h.2.2.2.2.1⟩
theorem u8_nat {x : Int} (h : (Lit.int .u8 x).wf = true) : ∃ k : Nat, k < 256 ∧ x = (k : Int) := by
  simp [Lit.wf, IntKind.min, IntKind.max, IntKind.signed, IntKind.bits] at h
  exact ⟨x.toNat, by omega, by omega⟩
/-- The votes drawn, with what gather tells of them. -/
theorem VOk.gather {n : Nat} {L : List Vt} (hn : 1 ≤ n ∧ n ≤ 7) (h : VOk n L) : ∃ A, (gwalk n [] [] 0 L).1 = some A ∧ AOk n L A ∧ L.length ≤ 1000 := by
  obtain ⟨A, h1, h2⟩ := poss_gather hn h.poss
  exact ⟨A, by rw [h1], h2, by have := h.len; omega⟩
end Go.Proofs.YthkdmpalhdifbaaDoor
