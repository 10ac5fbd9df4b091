/- A ballot as an argument; what both Parses answer. -/
import Derived.Test.YtlfikhblmbidmaaGreatDoorR3F
import Derived.Test.YtlfikhblmbidmaaGreatDoorTabF
import Derived.Test.YtlfikhblmbidmaaGreatDoorRefuW
import Derived.OpenShut
import Derived.ChangeSlices
import Derived.Deep.Slices
import Derived.Deep.Fields
import Derived.ChangeSame
set_option linter.unusedVariables false
set_option linter.unusedSimpArgs false
namespace Go.Proofs.YtlfikhblmbidmaaGreatDoor
open Go.RowKit Go.Maps Go.Shelf Go.ChangeShapes Go.WideShapes Go.Deep

theorem in64_wf {x : Int} (h : (Lit.int .i64 x).wf = true) : in64 x := by
  simp [Lit.wf, IntKind.min, IntKind.max, IntKind.signed, IntKind.bits] at h
  unfold in64
  omega
section
variable {H : Type} {enc : TypeId × Value → H} {w : World} {base n : Nat} {spare : Nat → Bool} {held : Bool} {cs : List Value} {x : DataW H × List MemPlace}
set_option maxRecDepth 100000 in
theorem bal_open (ht : DataW.trod enc Tryz.prog w base spare held n 24 cs = some x) : ∃ r d, cs = [.int .i64 r, .int .i64 d] ∧ in64 r ∧ in64 d := by
  obtain ⟨ys, k, _, _, hlen, hyl, hf⟩ := DataW.trod_struct Tryz.underlying24 ht
  rw [show Tryz.prog.cellsOf 24 = 2 by kernel_rfl] at hlen
  have hyl : ys.length = 2 := hyl
  match cs, hlen with
  | [c0, c1], _ =>
    match ys, hyl with
    | [y0, y1], _ =>
      have h0 : DataW.trod enc Tryz.prog w base spare held k 3 [c0] = some y0 := hf 0 _ rfl
      have h1 : DataW.trod enc Tryz.prog w base spare held k 3 [c1] = some y1 := hf 1 _ rfl
      obtain ⟨z0, e0, _, w0⟩ := DataW.trod_int Tryz.underlying3 h0
      obtain ⟨z1, e1, _, w1⟩ := DataW.trod_int Tryz.underlying3 h1
      cases e0
      cases e1
      exact ⟨z0, z1, rfl, in64_wf w0, in64_wf w1⟩
end
/-- A ballot by value. -/
theorem BalV.of_trod {H : Type} {enc : TypeId × Value → H} {w : World} {base : Nat} {spare : Nat → Bool} {held : Bool} {cs : Array Value} {d : DataW H} {p : List MemPlace}
    (h : DataW.Trod enc Tryz.prog w base spare held 24 (.agg cs) d p) : ∃ b : Int × Int, cs = #[.int .i64 b.1, .int .i64 b.2] ∧ in64 b.1 ∧ in64 b.2 := by
  obtain ⟨fuel, hf⟩ := h
  obtain ⟨r, d, e, h1, h2⟩ := bal_open hf
  refine ⟨(r, d), ?_, h1, h2⟩
  have e' : cs.toList = [.int .i64 r, .int .i64 d] := e
  obtain ⟨l⟩ := cs
  simp at e'
  rw [e']
theorem PostB.out {w w' : World} {ok : Bool} {bs b1 : List UInt8} {e1 : Int} {e : Ending} (h1 : outE ok bs = e1) (h2 : outB ok bs = b1) (k : PostB w ok bs e w') : ∃ vo, e = .returned (.tuple #[vo, .int .i64 e1]) ∧ BsIn w' vo b1 ∧ Below w.heap.size w w' := by
  subst h1 h2
  exact k
theorem RPost.shape (b : List UInt8) : ∃ (K R N SL : Int) (V : ByteArray) (E : Int), ∀ w e w', RPost w b e w' → e = .returned (.tuple #[.int .i64 K, balV R N, .int .i64 SL, .string V, .int .i64 E]) ∧ Below w.heap.size w w' := by
  cases h : parseP b with
  | none =>
    refine ⟨0, 0, 0, 0, ⟨#[]⟩, 10, fun w e w' k => ?_⟩
    unfold RPost at k
    rw [h] at k
    exact k
  | some x =>
    refine ⟨x.k, x.ro, x.no, x.sl, sB x.v, 0, fun w e w' k => ?_⟩
    unfold RPost at k
    rw [h] at k
    exact k
end Go.Proofs.YtlfikhblmbidmaaGreatDoor
