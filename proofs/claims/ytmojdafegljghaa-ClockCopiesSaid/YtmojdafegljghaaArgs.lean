/- Arguments that are slices: of steps, of bytes. -/
import Derived.Test.YtmojdafegljghaaClockL
import Derived.OpenShut
import Derived.ChangeSlices
import Derived.Deep.Slices
import Derived.Deep.Fields
import Derived.ChangeSame
set_option linter.unusedVariables false
set_option linter.unusedSimpArgs false
namespace Go.Proofs.Ytmojdafegljghaa
open Go.RowKit Go.ChangeShapes Go.WideShapes Go.Deep

theorem add_flat (b off k : Nat) : (⟨b, off, none⟩ : Addr).add k = ⟨b, off + k, none⟩ := by
  unfold Addr.add
  by_cases h : k = 0 <;> simp [h]

/-- The value v is the slice of the steps L. -/
def StepsIn (w : World) (v : Value) (L : List (Int × Int × Int)) : Prop :=
  ∃ A cap, v = .slice A L.length cap ∧ L.length ≤ cap ∧ cap ≤ maxLen ∧ (∀ s ∈ L, in64 s.1 ∧ in64 s.2.1 ∧ in64 s.2.2) ∧
    (0 < L.length → ∃ b off, A = some ⟨b, off, none⟩ ∧ b < w.heap.size ∧ ∀ i x y z, L[i]? = some (x, y, z) →
      w.cell? ⟨b, off + i * 3, none⟩ = some (.int .i64 x) ∧ w.cell? ⟨b, off + i * 3 + 1, none⟩ = some (.int .i64 y) ∧ w.cell? ⟨b, off + i * 3 + 2, none⟩ = some (.int .i64 z))

theorem in64_wf {x : Int} (h : (Lit.int .i64 x).wf = true) : in64 x := by
  simp [Lit.wf, IntKind.min, IntKind.max, IntKind.signed, IntKind.bits] at h
  unfold in64
  omega

def cellI (w : World) (a : Addr) (j : Nat) : Int := intOf ((w.cell? (a.add j)).getD undef)
def stepsOf (w : World) (a : Addr) (n : Nat) : List (Int × Int × Int) := (List.range n).map fun i => (cellI w a (i * 3), cellI w a (i * 3 + 1), cellI w a (i * 3 + 2))

/-- A step's three cells are numbers. -/
theorem step_cells {H : Type} {enc : TypeId × Value → H} {w : World} {base n : Nat} {spare : Nat → Bool} {held : Bool} {a : Addr} {cs : List Value} {x : DataW H × List MemPlace}
    (hc : w.cells? base a 3 = some cs) (ht : DataW.trod enc Try.prog w base spare held n 37 cs = some x) (j : Nat) (hj : j < 3) : ∃ z, w.cell? (a.add j) = some (.int .i64 z) ∧ (Lit.int .i64 z).wf = true := by
  obtain ⟨_, hl, hcell⟩ := World.cells?_some hc
  obtain ⟨ys, k, _, _, _, hyl, hf⟩ := DataW.trod_struct Try.underlying37 ht
  have hin : DataW.trod enc Try.prog w base spare held k 3 ((cs.drop j).take 1) = ys[j]? := by
    match j, hj with
    | 0, _ => exact hf 0 _ rfl
    | 1, _ => exact hf 1 _ rfl
    | 2, _ => exact hf 2 _ rfl
  obtain ⟨y, hy⟩ : ∃ y, ys[j]? = some y := ⟨_, List.getElem?_eq_getElem (by rw [hyl]; exact hj)⟩
  rw [hy] at hin
  obtain ⟨z, hz, _, hwf⟩ := DataW.trod_int Try.underlying3 hin
  refine ⟨z, ?_, hwf⟩
  rw [hcell j hj]
  have h0 : ((cs.drop j).take 1)[0]? = some (.int .i64 z) := by rw [hz]; rfl
  simpa using h0

theorem StepsIn.of_trod {H : Type} {enc : TypeId × Value → H} {w : World} {base : Nat} {spare : Nat → Bool} {held : Bool} {a0 : Option Addr} {len0 cap0 : Nat} {d : DataW H} {p : List MemPlace}
    (h : DataW.Trod enc Try.prog w base spare held 35 (.slice a0 len0 cap0) d p) : ∃ L, StepsIn w (.slice a0 len0 cap0) L := by
  obtain ⟨fuel, hf⟩ := h
  rcases open_slice Try.underlying35 hf with ⟨hcs, _⟩ | ⟨a, len, cap, m, n, D, Pl, hcs, hb, hl, hm, hmm, _, hi⟩
  · simp [Value.cells] at hcs
    obtain ⟨rfl, rfl, rfl⟩ := hcs
    exact ⟨[], none, 0, rfl, Nat.le_refl _, Nat.zero_le _, fun s hs => by simp at hs, fun h => absurd h (by simp)⟩
  · simp [Value.cells] at hcs
    obtain ⟨rfl, rfl, rfl⟩ := hcs
    have hlm : len0 ≤ m := by rw [hmm]; split <;> omega
    have hall : ∀ i, i < len0 → ∀ j, j < 3 → ∃ z, w.cell? (a.add (i * 3 + j)) = some (.int .i64 z) ∧ (Lit.int .i64 z).wf = true := by
      intro i hi' j hj
      obtain ⟨cs, hc, ht⟩ := hi i (by omega)
      rw [show Try.prog.cellsOf 37 = 3 by kernel_rfl] at hc
      rw [← add_of_add]
      exact step_cells hc ht j hj
    have hcI : ∀ i, i < len0 → ∀ j, j < 3 → w.cell? (a.add (i * 3 + j)) = some (.int .i64 (cellI w a (i * 3 + j))) ∧ in64 (cellI w a (i * 3 + j)) := by
      intro i hi' j hj
      obtain ⟨z, hz, hwf⟩ := hall i hi' j hj
      have e : cellI w a (i * 3 + j) = z := by simp [cellI, hz, intOf]
      rw [e]
      exact ⟨hz, in64_wf hwf⟩
    have hlen : (stepsOf w a len0).length = len0 := by simp [stepsOf]
    refine ⟨stepsOf w a len0, some a, cap0, by rw [hlen], by rw [hlen]; exact hl, hm, fun s hs => ?_, fun h0 => ?_⟩
    · simp only [stepsOf, List.mem_map, List.mem_range] at hs
      obtain ⟨i, hi', rfl⟩ := hs
      exact ⟨(hcI i hi' 0 (by omega)).2, (hcI i hi' 1 (by omega)).2, (hcI i hi' 2 (by omega)).2⟩
    · rw [hlen] at h0
      obtain ⟨b, off, spot⟩ := a
      have h1 := (hcI 0 h0 0 (by omega)).1
      have hspot : spot = none := by simpa [Addr.add] using World.cell?_spot h1
      subst hspot
      obtain ⟨o, ho, _⟩ := cells_of_cell h1
      refine ⟨b, off, rfl, ?_, fun i x y z hx => ?_⟩
      · simpa [block_of_add] using (Array.getElem?_eq_some_iff.1 ho).1
      · have hi' : i < len0 := by have := (List.getElem?_eq_some_iff.1 hx).1; omega
        have e : (cellI w ⟨b, off, none⟩ (i * 3), cellI w ⟨b, off, none⟩ (i * 3 + 1), cellI w ⟨b, off, none⟩ (i * 3 + 2)) = (x, y, z) := by
          simp only [stepsOf, List.getElem?_map, List.getElem?_range hi', Option.map_some] at hx
          exact Option.some.inj hx
        cases e
        have q0 := (hcI i hi' 0 (by omega)).1
        have q1 := (hcI i hi' 1 (by omega)).1
        have q2 := (hcI i hi' 2 (by omega)).1
        rw [add_flat] at q0 q1 q2
        exact ⟨q0, q1, q2⟩

theorem StepsIn.below {w w' : World} {v : Value} {L : List (Int × Int × Int)} (h : StepsIn w v L) (hb : Below w.heap.size w w') : StepsIn w' v L := by
  obtain ⟨A, cap, h1, h2, h3, h4, h5⟩ := h
  refine ⟨A, cap, h1, h2, h3, h4, fun h0 => ?_⟩
  obtain ⟨b, off, k1, k2, k3⟩ := h5 h0
  refine ⟨b, off, k1, Nat.lt_of_lt_of_le k2 hb.size, fun i x y z hx => ?_⟩
  obtain ⟨q0, q1, q2⟩ := k3 i x y z hx
  exact ⟨bcell hb q0, bcell hb q1, bcell hb q2⟩

/-- The value v is the slice of the bytes zs. -/
def BytesIn (w : World) (v : Value) (zs : List Int) : Prop :=
  ∃ A cap, v = .slice A zs.length cap ∧ zs.length ≤ cap ∧ cap ≤ maxLen ∧ (∀ z ∈ zs, 0 ≤ z ∧ z ≤ 255) ∧
    (0 < zs.length → ∃ b off, A = some ⟨b, off, none⟩ ∧ b < w.heap.size ∧ ∀ i z, zs[i]? = some z → w.cell? ⟨b, off + i, none⟩ = some (.int .u8 z))
theorem u8_wf {x : Int} (h : (Lit.int .u8 x).wf = true) : 0 ≤ x ∧ x ≤ 255 := by
  simp [Lit.wf, IntKind.min, IntKind.max, IntKind.signed, IntKind.bits] at h
  omega
theorem BytesIn.of_trod {H : Type} {enc : TypeId × Value → H} {w : World} {base : Nat} {spare : Nat → Bool} {held : Bool} {a0 : Option Addr} {len0 cap0 : Nat} {d : DataW H} {p : List MemPlace}
    (h : DataW.Trod enc Try.prog w base spare held 22 (.slice a0 len0 cap0) d p) : ∃ zs, BytesIn w (.slice a0 len0 cap0) zs := by
  obtain ⟨fuel, hf⟩ := h
  rcases open_ints Try.underlying22 Try.underlying5 (by kernel_rfl) hf with ⟨hcs, _⟩ | ⟨a, l, c, zs, hcs, _, hl, hm, hz, _, hcell, hwz⟩
  · simp [Value.cells] at hcs
    obtain ⟨rfl, rfl, rfl⟩ := hcs
    exact ⟨[], none, 0, rfl, Nat.le_refl _, Nat.zero_le _, fun s hs => by simp at hs, fun h => absurd h (by simp)⟩
  · simp [Value.cells] at hcs
    obtain ⟨rfl, rfl, rfl⟩ := hcs
    have hzl : len0 ≤ zs.length := by rw [hz]; split <;> omega
    have hlen : (zs.take len0).length = len0 := by simp; omega
    refine ⟨zs.take len0, some a, cap0, by rw [hlen], by rw [hlen]; exact hl, hm, fun z hz' => u8_wf (hwz z (List.mem_of_mem_take hz')), fun h0 => ?_⟩
    rw [hlen] at h0
    obtain ⟨b, off, spot⟩ := a
    have h1 := hcell 0 (by omega)
    have hspot : spot = none := by simpa [Addr.add] using World.cell?_spot h1
    subst hspot
    obtain ⟨o, ho, _⟩ := cells_of_cell h1
    refine ⟨b, off, rfl, ?_, fun i z hx => ?_⟩
    · simpa [block_of_add] using (Array.getElem?_eq_some_iff.1 ho).1
    · have hi' : i < len0 := by have := (List.getElem?_eq_some_iff.1 hx).1; omega
      have h2 := hcell i (by omega)
      rw [add_flat] at h2
      rw [List.getElem?_take, if_pos hi'] at hx
      rw [h2, List.getD_eq_getElem?_getD, hx]
      rfl
theorem BytesIn.below {w w' : World} {v : Value} {zs : List Int} (h : BytesIn w v zs) (hb : Below w.heap.size w w') : BytesIn w' v zs := by
  obtain ⟨A, cap, h1, h2, h3, h4, h5⟩ := h
  refine ⟨A, cap, h1, h2, h3, h4, fun h0 => ?_⟩
  obtain ⟨b, off, k1, k2, k3⟩ := h5 h0
  exact ⟨b, off, k1, Nat.lt_of_lt_of_le k2 hb.size, fun i z hx => bcell hb (k3 i z hx)⟩
end Go.Proofs.Ytmojdafegljghaa
