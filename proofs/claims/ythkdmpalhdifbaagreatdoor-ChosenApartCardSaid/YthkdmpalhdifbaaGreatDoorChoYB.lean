/- Package skaldlaw25: what the statements by drawn votes share. -/
import Derived.Test.YthkdmpalhdifbaaGreatDoorChoVW
import Derived.Test.YthkdmpalhdifbaaGreatDoorChoAH
set_option linter.unusedVariables false
set_option linter.unusedSimpArgs false
namespace Go.Proofs.YthkdmpalhdifbaaGreatDoor
open Go.RowKit Go.Maps Go.Shelf

theorem VOk.sub {n : Nat} {L M : List Vt} (h : VOk n L) (hs : M.Sublist L) : VOk n M := ⟨h.poss.sub hs, Nat.le_trans hs.length_le h.len, fun x hx => h.few x (hs.subset hx)⟩
theorem alone_args {n : Int} {x : Vt} (h : aloneB x n = true) : (x.r == 0 && x.d == 0) = false ∧ chkE n x.r x.d = 0 ∧ (decide (x.sl ≥ 0) && decide (x.sl < 4096)) = true := by
  unfold aloneB at h
  simp only [Bool.and_eq_true, Bool.not_eq_true', decide_eq_true_eq] at h ⊢
  exact ⟨h.2.2.1, h.2.2.2.1, h.2.2.2.2.1⟩
theorem u8_nat {x : Int} (h : (Lit.int .u8 x).wf = true) : ∃ k : Nat, k < 256 ∧ x = (k : Int) := by
  simp [Lit.wf, IntKind.min, IntKind.max, IntKind.signed, IntKind.bits] at h
  exact ⟨x.toNat, by omega, by omega⟩
/-- The votes drawn, with what gather tells of them. -/
theorem VOk.gather {n : Nat} {L : List Vt} (hn : 1 ≤ n ∧ n ≤ 7) (h : VOk n L) : ∃ A, (gwalk n [] [] 0 L).1 = some A ∧ AOk n L A ∧ L.length ≤ 1000 := by
  obtain ⟨A, h1, h2⟩ := poss_gather hn h.poss
  exact ⟨A, by rw [h1], h2, by have := h.len; omega⟩
end Go.Proofs.YthkdmpalhdifbaaGreatDoor
