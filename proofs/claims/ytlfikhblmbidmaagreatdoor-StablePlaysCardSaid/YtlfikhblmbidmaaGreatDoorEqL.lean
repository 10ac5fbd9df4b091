import Derived.Test.YtlfikhblmbidmaaGreatDoorSltH
import Derived.Test.YtlfikhblmbidmaaGreatDoorMrgH
import Derived.Deep.DeepCutAuto
import Derived.Deep.CutBlock
import Derived.Deep.LoopGhost
import Derived.Deep.RegionHeld3
set_option linter.all false
namespace Go.Proofs.YtlfikhblmbidmaaGreatDoor
open Go.RowKit Go.Maps Go.Shelf
theorem row_all {W : World} {lo : Nat} {e : TypeId} {v : Value} {xs : List Value} (h : W.ownsRow lo e 1 v xs.length xs) :
  ∃ A c, v = .slice A xs.length c ∧ (0 < xs.length → ∃ g, A = some ⟨g, 0, none⟩ ∧ ∀ i x, xs[i]? = some x → W.cell? ⟨g, i, none⟩ = some x) := by
 obtain ⟨A, c, rfl⟩ := row_len h
 refine ⟨A, c, rfl, fun h0 => ?_⟩
 obtain ⟨g, c', he, _, _⟩ := row_at h (i := 0) (x := xs[0]) (List.getElem?_eq_getElem h0)
 cases he
 refine ⟨g, rfl, fun i x hx => ?_⟩
 obtain ⟨g', c'', he, hc, _⟩ := row_at h hx
 cases he
 exact hc
abbrev StrRow (w : World) (lo : Nat) (v : Value) (xs : List ByteArray) : Prop := w.ownsRow lo 9 1 v xs.length (xs.map .string)
theorem eqInts (v1 v2 : Value) (lo1 lo2 : Nat) (xs : List Int) (w : World) (h1 : w.ownsRow lo1 3 1 v1 xs.length (xs.map (Value.int .i64))) (h2 : w.ownsRow lo2 3 1 v2 xs.length (xs.map (Value.int .i64))) (hl : xs.length ≤ 1000000000) :
  Calls Tryz.prog 116 #[v1, v2] w fun e w' => e = .returned (.bool true) ∧ Below w.heap.size w w' := by
 rw [← List.length_map (f := Value.int .i64)] at h1 h2
 obtain ⟨A1, k1, rfl, hc1⟩ := row_all h1
 obtain ⟨A2, k2, rfl, hc2⟩ := row_all h2
 rw [List.length_map] at *
 by_cases hx : xs.length = 0
 ·rw [hx]
  refine (Tryz.slices_Equal_int_empty A1 A2 k1 0 k2 w (by omega)).mono ?_
  rintro e w' ⟨rfl, rfl⟩
  exact ⟨rfl, Below.refl _ _⟩
 obtain ⟨g1, rfl, hd1⟩ := hc1 (by omega)
 obtain ⟨g2, rfl, hd2⟩ := hc2 (by omega)
 refine (Tryz.slices_Equal_int g1 0 xs.length k1 g2 0 xs.length k2 xs xs w (Nat.le_refl _) (Nat.le_refl _) (by omega) (by omega) (fun j hj => ?_) (fun j hj => ?_)).mono ?_
 ·rw [Nat.zero_add]
  refine hd1 j _ ?_
  rw [List.getElem?_map, List.getElem?_eq_getElem hj]
  simp [List.getD_eq_getElem?_getD, List.getElem?_eq_getElem hj]
 ·rw [Nat.zero_add]
  refine hd2 j _ ?_
  rw [List.getElem?_map, List.getElem?_eq_getElem hj]
  simp [List.getD_eq_getElem?_getD, List.getElem?_eq_getElem hj]
 ·rintro e w' ⟨rfl, q, rfl⟩
  exact ⟨by simp, below_drewN (Below.refl _ _) q⟩
theorem eqStrs (v1 v2 : Value) (lo1 lo2 : Nat) (xs : List ByteArray) (w : World) (h1 : StrRow w lo1 v1 xs) (h2 : StrRow w lo2 v2 xs) (hl : xs.length ≤ 1000000000) :
  Calls Tryz.prog 113 #[v1, v2] w fun e w' => e = .returned (.bool true) ∧ Below w.heap.size w w' := by
 unfold StrRow at h1 h2
 rw [← List.length_map (f := Value.string)] at h1 h2
 obtain ⟨A1, k1, rfl, hc1⟩ := row_all h1
 obtain ⟨A2, k2, rfl, hc2⟩ := row_all h2
 rw [List.length_map] at *
 by_cases hx : xs.length = 0
 ·rw [hx]
  refine (Tryz.slices_Equal_string_empty A1 A2 k1 0 k2 w (by omega)).mono ?_
  rintro e w' ⟨rfl, rfl⟩
  exact ⟨rfl, Below.refl _ _⟩
 obtain ⟨g1, rfl, hd1⟩ := hc1 (by omega)
 obtain ⟨g2, rfl, hd2⟩ := hc2 (by omega)
 refine (Tryz.slices_Equal_string g1 0 xs.length k1 g2 0 xs.length k2 xs xs w (Nat.le_refl _) (Nat.le_refl _) (by omega) (by omega) (fun j hj => ?_) (fun j hj => ?_)).mono ?_
 ·rw [Nat.zero_add]
  refine hd1 j _ ?_
  rw [List.getElem?_map, List.getElem?_eq_getElem hj]
  simp [List.getD_eq_getElem?_getD, List.getElem?_eq_getElem hj]
 ·rw [Nat.zero_add]
  refine hd2 j _ ?_
  rw [List.getElem?_map, List.getElem?_eq_getElem hj]
  simp [List.getD_eq_getElem?_getD, List.getElem?_eq_getElem hj]
 ·rintro e w' ⟨rfl, q, rfl⟩
  exact ⟨by simp, below_drewN (Below.refl _ _) q⟩
set_option maxRecDepth 100000 in
set_option maxHeartbeats 2000000 in
theorem eqEnts (va vb : Value) (lo1 lo2 : Nat) (R : EL) (w : World) (ha : EntRow w lo1 va R) (hb : EntRow w lo2 vb R) (hl : R.length ≤ 1000000000) :
  Calls Tryz.prog 109 #[va, vb] w fun e w' => e = .returned (.bool true) ∧ Below w.heap.size w w' := by
 obtain ⟨A1, c1, rfl, hm1, h1⟩ := ha.view
 obtain ⟨A2, c2, rfl, hm2, h2⟩ := hb.view
 have H1 := Lib.hid h1
 have H2 := Lib.hid h2
 have hGq := eqGEnt
 clear h1 h2 ha hb
 go_enter Tryz.func109, Tryz.ntmps109
 go_wp2_with fail
 go_loopg [13] R.length (fun g c wr => ∃ i, i ≤ R.length ∧ g = R.length - i ∧ c = .int .i64 i ∧ Below w.heap.size w wr)
 case atStart => exact ⟨0, by omega, by omega, rfl, Below.refl _ _⟩
 case round =>
  obtain ⟨i, hi, rfl, rfl, hB⟩ := hrel
  have B := Lib.hid hB
  clear hB
  by_cases hlt : i < R.length
  case neg =>
   have e : i = R.length := by omega
   subst e
   go_wp2_with fail
   go_returns
   exact ⟨rfl, B.out⟩
  case pos =>
  obtain ⟨b1, rfl, _, hb1, k1⟩ := H1.out (by omega)
  obtain ⟨b2, rfl, _, hb2, k2⟩ := H2.out (by omega)
  obtain ⟨⟨xs, xr, xd, xv⟩, hx⟩ : ∃ x, R[i]? = some x := ⟨_, List.getElem?_eq_getElem hlt⟩
  obtain ⟨q0, q1, q2, q3⟩ := k1 i _ _ hx
  obtain ⟨p0, p1, p2, p3⟩ := k2 i _ _ hx
  simp only at q0 q1 q2 q3 p0 p1 p2 p3
  have q0 := bcell B.out q0
  have q1 := bcell B.out q1
  have q2 := bcell B.out q2
  have q3 := bcell B.out q3
  have p0 := bcell B.out p0
  have p1 := bcell B.out p1
  have p2 := bcell B.out p2
  have p3 := bcell B.out p3
  have hEz : ∀ w : World, (Op.equalIn 10000 128 (.agg #[.int .i64 xs, .int .i64 xr, .int .i64 xd, .string xv]) (.agg #[.int .i64 xs, .int .i64 xr, .int .i64 xd, .string xv])).run Tryz.prog w = .ok true w := fun w => by
   have := eqEnt xs xr xd xv xs xr xd xv w
   rwa [(entEq_iff (xs, xr, xd, xv) (xs, xr, xd, xv)).2 rfl] at this
  clear hx k1 k2
  go_wp2_with fail
  go_region_held3 (fun W => W.cell? ⟨b1, i * 4, none⟩ = some (.int .i64 xs) ∧ W.cell? ⟨b1, i * 4 + 1, none⟩ = some (.int .i64 xr) ∧ W.cell? ⟨b1, i * 4 + 2, none⟩ = some (.int .i64 xd) ∧ W.cell? ⟨b1, i * 4 + 3, none⟩ = some (.string xv) ∧ W.cell? ⟨b2, i * 4, none⟩ = some (.int .i64 xs) ∧ W.cell? ⟨b2, i * 4 + 1, none⟩ = some (.int .i64 xr) ∧ W.cell? ⟨b2, i * 4 + 2, none⟩ = some (.int .i64 xd) ∧ W.cell? ⟨b2, i * 4 + 3, none⟩ = some (.string xv))
   (first | exact ⟨by assumption, by assumption, by assumption, by assumption, by assumption, by assumption, by assumption, by assumption⟩ | go_keep)
   (first | fail)
  go_wp2_with fail
  go_roundg (R.length - (i + 1))
  case measure => omega
  case rel => exact ⟨i + 1, by omega, rfl, by go_num, B.out.drew⟩
end Go.Proofs.YtlfikhblmbidmaaGreatDoor