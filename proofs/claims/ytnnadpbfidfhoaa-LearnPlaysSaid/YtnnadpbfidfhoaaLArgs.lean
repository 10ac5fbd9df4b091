/- Arguments of chapter 13's laws. -/
import Derived.Test.YtnnadpbfidfhoaaLearnN
import Derived.OpenShut
import Derived.ChangeSlices
import Derived.Deep.Slices
import Derived.Deep.Fields
import Derived.ChangeSame
set_option linter.unusedVariables false
set_option linter.unusedSimpArgs false
namespace Go.Proofs.Ytnnadpbfidfhoaa
open Go.RowKit Go.Maps Go.Shelf Go.ChangeShapes Go.WideShapes Go.Deep

theorem in64_wf {x : Int} (h : (Lit.int .i64 x).wf = true) : in64 x := by
  simp [Lit.wf, IntKind.min, IntKind.max, IntKind.signed, IntKind.bits] at h
  unfold in64
  omega
theorem u8_nat {x : Int} (h : (Lit.int .u8 x).wf = true) : ∃ k : Nat, k < 256 ∧ x = (k : Int) := by
  simp [Lit.wf, IntKind.min, IntKind.max, IntKind.signed, IntKind.bits] at h
  exact ⟨x.toNat, by omega, by omega⟩
section
variable {H : Type} {enc : TypeId × Value → H} {w : World} {base n : Nat} {spare : Nat → Bool} {held : Bool} {cs : List Value} {x : DataW H × List MemPlace}
set_option maxRecDepth 100000 in
theorem bal_open (ht : DataW.trod enc Try.prog w base spare held n 31 cs = some x) : ∃ r d, cs = [.int .i64 r, .int .i64 d] ∧ in64 r ∧ in64 d := by
  obtain ⟨ys, k, _, _, hlen, hyl, hf⟩ := DataW.trod_struct Try.underlying31 ht
  rw [show Try.prog.cellsOf 31 = 2 by kernel_rfl] at hlen
  have hyl : ys.length = 2 := hyl
  match cs, hlen with
  | [c0, c1], _ =>
    match ys, hyl with
    | [y0, y1], _ =>
      have h0 : DataW.trod enc Try.prog w base spare held k 3 [c0] = some y0 := hf 0 _ rfl
      have h1 : DataW.trod enc Try.prog w base spare held k 3 [c1] = some y1 := hf 1 _ rfl
      obtain ⟨z0, e0, _, w0⟩ := DataW.trod_int Try.underlying3 h0
      obtain ⟨z1, e1, _, w1⟩ := DataW.trod_int Try.underlying3 h1
      cases e0
      cases e1
      exact ⟨z0, z1, rfl, in64_wf w0, in64_wf w1⟩
end
/-- A row of one number: its block. -/
theorem IntRow.one {w : World} {lo : Nat} {v : Value} {x : Int} (h : IntRow w lo v [x]) : ∃ g cap cur, v = .slice (some ⟨g, 0, none⟩) 1 cap ∧ Blk w g 3 cur ∧ w.cell? ⟨g, 0, none⟩ = some (.int .i64 x) := by
  rcases h.2 with ⟨_, h0⟩ | ⟨g, cap, cur, hv, hb, hg, hle, _⟩
  · simp at h0
  · subst hv
    refine ⟨g, cap, cur, rfl, hg, ?_⟩
    exact World.ownsRow.cells h (g := g) rfl 0 _ rfl
/-- A ballot by value. -/
theorem BalV.of_trod {H : Type} {enc : TypeId × Value → H} {w : World} {base : Nat} {spare : Nat → Bool} {held : Bool} {cs : Array Value} {d : DataW H} {p : List MemPlace}
    (h : DataW.Trod enc Try.prog w base spare held 31 (.agg cs) d p) : ∃ b : Int × Int, cs = #[.int .i64 b.1, .int .i64 b.2] ∧ in64 b.1 ∧ in64 b.2 := by
  obtain ⟨fuel, hf⟩ := h
  obtain ⟨r, d, e, h1, h2⟩ := bal_open hf
  refine ⟨(r, d), ?_, h1, h2⟩
  have e' : cs.toList = [.int .i64 r, .int .i64 d] := e
  obtain ⟨l⟩ := cs
  simp at e'
  rw [e']
end Go.Proofs.Ytnnadpbfidfhoaa
