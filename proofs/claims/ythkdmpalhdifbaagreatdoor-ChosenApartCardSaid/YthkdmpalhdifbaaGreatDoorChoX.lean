/- Arguments: a vote, slices of votes; the laid table. -/
import Derived.Test.YthkdmpalhdifbaaGreatDoorChoW
import Derived.Test.YthkdmpalhdifbaaGreatDoorRChoA
import Derived.Test.YthkdmpalhdifbaaGreatDoorRows
import Derived.OpenShut
import Derived.ChangeSlices
import Derived.Deep.Slices
import Derived.Deep.Fields
import Derived.ChangeSame
import Derived.LaidMore
import Derived.Lay
import Derived.Lib.LaidTab
import Derived.Lib.AppendIntMem
import Derived.Stop.LaidErr
set_option linter.unusedVariables false
set_option linter.unusedSimpArgs false
namespace Go.Proofs.YthkdmpalhdifbaaGreatDoor
open Go.RowKit Go.Maps Go.Shelf Go.ChangeShapes Go.WideShapes Go.Deep

theorem block_of_add (a : Addr) (n : Nat) : (a.add n).block = a.block := by unfold Addr.add; split <;> rfl
theorem add_of_add (a : Addr) (i j : Nat) : (a.add i).add j = a.add (i + j) := by
  unfold Addr.add
  by_cases hi : i = 0 <;> by_cases hj : j = 0 <;> simp [hi, hj, Nat.add_assoc]
theorem in64_wf {x : Int} (h : (Lit.int .i64 x).wf = true) : in64 x := by
  simp [Lit.wf, IntKind.min, IntKind.max, IntKind.signed, IntKind.bits] at h
  unfold in64
  omega
def okVt (x : Vt) : Prop := in64 x.nd ∧ in64 x.r ∧ in64 x.d ∧ in64 x.sl ∧ x.v.size ≤ maxLen
section
variable {H : Type} {enc : TypeId × Value → H} {w : World} {base n : Nat} {spare : Nat → Bool} {held : Bool} {cs : List Value} {x : DataW H × List MemPlace}
set_option maxRecDepth 100000 in
theorem bal_open (ht : DataW.trod enc Tryz.prog w base spare held n 24 cs = some x) : ∃ r d, cs = [.int .i64 r, .int .i64 d] ∧ in64 r ∧ in64 d := by
  obtain ⟨ys, k, _, _, hlen, hyl, hf⟩ := DataW.trod_struct Tryz.underlying24 ht
  rw [show Tryz.prog.cellsOf 24 = 2 by kernel_rfl] at hlen
  have hyl : ys.length = 2 := hyl
  match cs, hlen with
  | [c0, c1], _ =>
    match ys, hyl with
    | [y0, y1], _ =>
      have h0 : DataW.trod enc Tryz.prog w base spare held k 3 [c0] = some y0 := hf 0 _ rfl
      have h1 : DataW.trod enc Tryz.prog w base spare held k 3 [c1] = some y1 := hf 1 _ rfl
      obtain ⟨z0, e0, _, w0⟩ := DataW.trod_int Tryz.underlying3 h0
      obtain ⟨z1, e1, _, w1⟩ := DataW.trod_int Tryz.underlying3 h1
      cases e0
      cases e1
      exact ⟨z0, z1, rfl, in64_wf w0, in64_wf w1⟩
set_option maxRecDepth 100000 in
theorem vt_open (ht : DataW.trod enc Tryz.prog w base spare held n 35 cs = some x) : ∃ s : Vt, cs = encVt s ∧ okVt s := by
  obtain ⟨ys, k, _, _, hlen, hyl, hf⟩ := DataW.trod_struct Tryz.underlying35 ht
  rw [show Tryz.prog.cellsOf 35 = 5 by kernel_rfl] at hlen
  have hyl : ys.length = 4 := hyl
  match cs, hlen with
  | [c0, c1, c2, c3, c4], _ =>
    match ys, hyl with
    | [y0, y1, y2, y3], _ =>
      have h0 : DataW.trod enc Tryz.prog w base spare held k 3 [c0] = some y0 := hf 0 _ rfl
      have h1 : DataW.trod enc Tryz.prog w base spare held k 24 [c1, c2] = some y1 := hf 1 _ rfl
      have h2 : DataW.trod enc Tryz.prog w base spare held k 3 [c3] = some y2 := hf 2 _ rfl
      have h3 : DataW.trod enc Tryz.prog w base spare held k 9 [c4] = some y3 := hf 3 _ rfl
      obtain ⟨z0, e0, _, w0⟩ := DataW.trod_int Tryz.underlying3 h0
      obtain ⟨r, d, e1, w1, w1'⟩ := bal_open h1
      obtain ⟨z2, e2, _, w2⟩ := DataW.trod_int Tryz.underlying3 h2
      obtain ⟨s, e3, _, w3⟩ := DataW.trod_string Tryz.underlying9 h3
      cases e0
      cases e1
      cases e2
      cases e3
      exact ⟨⟨z0, r, d, z2, s⟩, rfl, in64_wf w0, w1, w1', in64_wf w2, w3⟩
end
/-- A vote by value. -/
theorem VtV.of_trod {H : Type} {enc : TypeId × Value → H} {w : World} {base : Nat} {spare : Nat → Bool} {held : Bool} {cs : Array Value} {d : DataW H} {p : List MemPlace}
    (h : DataW.Trod enc Tryz.prog w base spare held 35 (.agg cs) d p) : ∃ s : Vt, cs = (encVt s).toArray ∧ okVt s := by
  obtain ⟨fuel, hf⟩ := h
  obtain ⟨s, e, h1⟩ := vt_open hf
  refine ⟨s, ?_, h1⟩
  have e' : cs.toList = encVt s := e
  obtain ⟨l⟩ := cs
  simp only at e'
  rw [e']
/-- A ballot by value. -/
theorem BalV.of_trod {H : Type} {enc : TypeId × Value → H} {w : World} {base : Nat} {spare : Nat → Bool} {held : Bool} {cs : Array Value} {d : DataW H} {p : List MemPlace}
    (h : DataW.Trod enc Tryz.prog w base spare held 24 (.agg cs) d p) : ∃ b : Int × Int, cs = #[.int .i64 b.1, .int .i64 b.2] ∧ (in64 b.1 ∧ in64 b.2) := by
  obtain ⟨fuel, hf⟩ := h
  obtain ⟨r, d, e, h1, h2⟩ := bal_open hf
  refine ⟨(r, d), ?_, h1, h2⟩
  have e' : cs.toList = [.int .i64 r, .int .i64 d] := e
  obtain ⟨l⟩ := cs
  simp only at e'
  rw [e']
theorem add_flat (b off k : Nat) : (⟨b, off, none⟩ : Addr).add k = ⟨b, off + k, none⟩ := by
  unfold Addr.add
  by_cases h : k = 0 <;> simp [h]
/-- A slice of votes. -/
theorem VotesIn.of_trod {H : Type} {enc : TypeId × Value → H} {w : World} {base : Nat} {spare : Nat → Bool} {held : Bool} {a0 : Option Addr} {len0 cap0 : Nat} {d : DataW H} {p : List MemPlace}
    (h : DataW.Trod enc Tryz.prog w base spare held 22 (.slice a0 len0 cap0) d p) : ∃ L, VotesIn w (.slice a0 len0 cap0) L ∧ ∀ s ∈ L, okVt s := by
  obtain ⟨fuel, hf⟩ := h
  rcases open_slice Tryz.underlying22 hf with ⟨hcs, _⟩ | ⟨a, len, cap, m, n, D, Pl, hcs, hb, hl, hm, hmm, _, hi⟩
  · simp [Value.cells] at hcs
    obtain ⟨rfl, rfl, rfl⟩ := hcs
    exact ⟨[], ⟨none, 0, rfl, Nat.le_refl _, Nat.zero_le _, fun h => absurd h (by simp)⟩, fun s hs => by simp at hs⟩
  · simp [Value.cells] at hcs
    obtain ⟨rfl, rfl, rfl⟩ := hcs
    have hlm : len0 ≤ m := by rw [hmm]; split <;> omega
    have hall : ∀ i, i < len0 → ∃ s : Vt, okVt s ∧ ∀ j u, (encVt s)[j]? = some u → w.cell? (a.add (i * 5 + j)) = some u := by
      intro i hi'
      obtain ⟨cs, hc, ht⟩ := hi i (by omega)
      rw [show Tryz.prog.cellsOf 35 = 5 by kernel_rfl] at hc
      obtain ⟨s, rfl, hs⟩ := vt_open ht
      obtain ⟨_, hl5, hcell⟩ := World.cells?_some hc
      refine ⟨s, hs, fun j u hu => ?_⟩
      have hj : j < 5 := (List.getElem?_eq_some_iff.1 hu).1
      rw [← add_of_add, hcell j hj]
      exact hu
    obtain ⟨f, hf1⟩ : ∃ f : Nat → Vt, ∀ i, i < len0 → okVt (f i) ∧ ∀ j u, (encVt (f i))[j]? = some u → w.cell? (a.add (i * 5 + j)) = some u :=
      ⟨fun i => if h : i < len0 then Classical.choose (hall i h) else ⟨0, 0, 0, 0, ⟨#[]⟩⟩, fun i hi => by simp only [dif_pos hi]; exact Classical.choose_spec (hall i hi)⟩
    have hlen : ((List.range len0).map f).length = len0 := by simp
    refine ⟨(List.range len0).map f, ⟨some a, cap0, by rw [hlen], by rw [hlen]; exact hl, hm, fun h0 => ?_⟩, fun s hs => ?_⟩
    · rw [hlen] at h0
      obtain ⟨b, off, spot⟩ := a
      have h1 := (hf1 0 h0).2 0 _ rfl
      have hspot : spot = none := by simpa [Addr.add] using World.cell?_spot h1
      subst hspot
      obtain ⟨o, ho, _⟩ := cells_of_cell h1
      refine ⟨b, off, rfl, ?_, fun i s hx => ?_⟩
      · simpa [block_of_add] using (Array.getElem?_eq_some_iff.1 ho).1
      · have hi' : i < len0 := by have := (List.getElem?_eq_some_iff.1 hx).1; omega
        have e : f i = s := by
          simp only [List.getElem?_map, List.getElem?_range hi', Option.map_some] at hx
          exact Option.some.inj hx
        subst e
        have q := (hf1 i hi').2
        have q0 := q 0 _ rfl
        have q1 := q 1 _ rfl
        have q2 := q 2 _ rfl
        have q3 := q 3 _ rfl
        have q4 := q 4 _ rfl
        rw [add_flat] at q0 q1 q2 q3 q4
        exact ⟨q0, q1, q2, q3, q4⟩
    · simp only [List.mem_map, List.mem_range] at hs
      obtain ⟨i, hi', rfl⟩ := hs
      exact (hf1 i hi').1

/-! ### The laid table -/
abbrev TabP (w : World) : Prop := Lib.TabIs Tryz.prog w "internal/strconv.uint64pow10" .u64 Lib.pow10Tab
theorem tab_of_laid {W : World} (h : laidMetH Tryz.prog [("math/bits.deBruijn32tab", Rows.laid_math_bits_deBruijn32tab), ("math/bits.deBruijn64tab", Rows.laid_math_bits_deBruijn64tab), ("internal/strconv.uint64pow10", Rows.laid_internal_strconv_uint64pow10)] W) : TabP W := by
  rw [MakeChecks.laidMetH_plain _ _ _ (by kernel_rfl)] at h
  have h2 : laidMet Tryz.prog [("internal/strconv.uint64pow10", Lib.tabData .u64 Lib.pow10Tab)] W := h.tail.tail
  exact Lib.tabIs_of_head (g := 1) (t := 201) (by kernel_rfl) (by kernel_rfl) Tryz.underlying201 Tryz.underlying25 (by kernel_rfl) (by kernel_rfl) h2
theorem itoaK_tab : ItoaK TabP (fun x => 0 ≤ x ∧ x ≤ 9223372036854775807) where
  size x h := itoaS_size h.1 h.2
  keep w w' h hb := (Lib.tabBelow_of_tabIs h) w' hb
  run x w h ht := (Tryz.strconv_Itoa x (by omega) h.2 w ht).mono fun e w' ⟨h1, k, os, h2⟩ => ⟨h1, by rw [h2]; exact Lib.below_grow _ w (Nat.le_refl _) k os⟩
end Go.Proofs.YthkdmpalhdifbaaGreatDoor
