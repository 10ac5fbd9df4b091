import Derived.Test.YtlfikhblmbidmaaGreatDoorWksA
import Derived.Test.YtlfikhblmbidmaaGreatDoorRows
import Derived.OpenShut
import Derived.ChangeSlices
import Derived.Deep.Slices
import Derived.Deep.Fields
import Derived.ChangeSame
import Derived.LaidMore
import Derived.Lay
import Derived.Lib.LaidTab
import Derived.Lib.AppendIntMem
import Derived.Stop.LaidErr
import Derived.Laws.BytesArg
import Derived.OwnWalk
import Derived.Laws.DeepStrings4
set_option linter.all false
namespace Go.Proofs.YtlfikhblmbidmaaGreatDoor
open Go.RowKit Go.Maps Go.Shelf Go.ChangeShapes Go.WideShapes Go.Deep
abbrev TabP (w : World) : Prop := FoursAt w
theorem tab_of_laid {W : World} (h : laidMetH Tryz.prog [("skald/crc.fours", Rows.laid_skald_crc_fours)] W) : TabP W := by
 rw [MakeChecks.laidMetH_plain _ _ _ (by kernel_rfl)] at h
 have h2 : laidMet Tryz.prog [("skald/crc.fours", Lib.tabData .u32 fours16I)] W := h
 exact Lib.tabIs_of_head (g := 1) (t := 296) (by kernel_rfl) (by kernel_rfl) Tryz.underlying296 Tryz.underlying48 (by kernel_rfl) (by kernel_rfl) h2
def BytesIn (w : World) (v : Value) (zs : List Int) : Prop :=
 ∃ A cap, v = .slice A zs.length cap ∧ zs.length ≤ cap ∧ cap ≤ maxLen ∧ (∀ z ∈ zs, 0 ≤ z ∧ z ≤ 255) ∧
  (0 < zs.length → ∃ b off, A = some ⟨b, off, none⟩ ∧ b < w.heap.size ∧ ∀ i z, zs[i]? = some z → w.cell? ⟨b, off + i, none⟩ = some (.int .u8 z))
def bsOf (zs : List Int) : List UInt8 := zs.map fun z => UInt8.ofNat z.toNat
theorem bsOf_length (zs : List Int) : (bsOf zs).length = zs.length := by simp [bsOf]
theorem BytesIn.bsIn {w : World} {v : Value} {zs : List Int} (h : BytesIn w v zs) : BsIn w v (bsOf zs) := by
 obtain ⟨A, cap, rfl, h1, h2, h3, h4⟩ := h
 refine ⟨A, cap, by rw [bsOf_length], by rw [bsOf_length]; exact h1, h2, fun h0 => ?_⟩
 rw [bsOf_length] at h0
 obtain ⟨b, off, hA, hb, hc⟩ := h4 h0
 refine ⟨b, off, hA, hb, fun i z hz => ?_⟩
 simp only [bsOf, List.getElem?_map, Option.map_eq_some_iff] at hz
 obtain ⟨y, hy, rfl⟩ := hz
 rw [hc i y hy]
 have hr := h3 y (List.mem_of_getElem? hy)
 have : ((UInt8.ofNat y.toNat).toNat : Int) = y := by
  rw [UInt8.toNat_ofNat']
  omega
 show some (Value.int .u8 y) = some (Value.int .u8 ((UInt8.ofNat y.toNat).toNat : Int))
 rw [this]
theorem add_flat (b off k : Nat) : (⟨b, off, none⟩ : Addr).add k = ⟨b, off + k, none⟩ := by
 unfold Addr.add
 by_cases h : k = 0 <;> simp [h]
theorem u8_wf {x : Int} (h : (Lit.int .u8 x).wf = true) : 0 ≤ x ∧ x ≤ 255 := by
 simp [Lit.wf, IntKind.min, IntKind.max, IntKind.signed, IntKind.bits] at h
 omega
theorem BytesIn.of_trod {H : Type} {enc : TypeId × Value → H} {w : World} {base : Nat} {spare : Nat → Bool} {held : Bool} {a0 : Option Addr} {len0 cap0 : Nat} {d : DataW H} {p : List MemPlace}
  (h : DataW.Trod enc Tryz.prog w base spare held 26 (.slice a0 len0 cap0) d p) : ∃ zs, BytesIn w (.slice a0 len0 cap0) zs := by
 obtain ⟨fuel, hf⟩ := h
 rcases open_ints Tryz.underlying26 Tryz.underlying5 (by kernel_rfl) hf with ⟨hcs, _⟩ | ⟨a, l, c, zs, hcs, _, hl, hm, hz, _, hcell, hwz⟩
 ·simp [Value.cells] at hcs
  obtain ⟨rfl, rfl, rfl⟩ := hcs
  exact ⟨[], none, 0, rfl, Nat.le_refl _, Nat.zero_le _, fun s hs => by simp at hs, fun h => absurd h (by simp)⟩
 ·simp [Value.cells] at hcs
  obtain ⟨rfl, rfl, rfl⟩ := hcs
  have hzl : len0 ≤ zs.length := by rw [hz]; split <;> omega
  have hlen : (zs.take len0).length = len0 := by simp; omega
  refine ⟨zs.take len0, some a, cap0, by rw [hlen], by rw [hlen]; exact hl, hm, fun z hz' => u8_wf (hwz z (List.mem_of_mem_take hz')), fun h0 => ?_⟩
  rw [hlen] at h0
  obtain ⟨b, off, spot⟩ := a
  have h1 := hcell 0 (by omega)
  have hspot : spot = none := by simpa [Addr.add] using World.cell?_spot h1
  subst hspot
  obtain ⟨o, ho, _⟩ := cells_of_cell h1
  refine ⟨b, off, rfl, ?_, fun i z hx => ?_⟩
  ·simpa [block_of_add] using (Array.getElem?_eq_some_iff.1 ho).1
  ·have hi' : i < len0 := by have := (List.getElem?_eq_some_iff.1 hx).1; omega
   have h2 := hcell i (by omega)
   rw [add_flat] at h2
   rw [List.getElem?_take, if_pos hi'] at hx
   rw [h2, List.getD_eq_getElem?_getD, hx]
   rfl
end Go.Proofs.YtlfikhblmbidmaaGreatDoor