/- slices.SortFunc of ballots and of entries. -/
import Derived.Test.YthkdmpalhdifbaaGreatDoorRowK
import Derived.Test.YthkdmpalhdifbaaGreatDoorChoB
set_option linter.unusedVariables false
set_option linter.unusedSimpArgs false
namespace Go.Proofs.YthkdmpalhdifbaaGreatDoor
open Go.RowKit Go.Maps Go.Sort Go.Proofs Go.Shelf

abbrev Ba := Int × Int
def encBa (b : Ba) : List Value := [.int .i64 b.1, .int .i64 b.2]
set_option maxHeartbeats 1000000 in
theorem order_G (r1 d1 r2 d2 : Int) (w : World) :
    Calls Tryz.prog 36 #[.agg #[.int .i64 r1, .int .i64 d1], .agg #[.int .i64 r2, .int .i64 d2]] w fun e w' => e = .returned (.int .i64 (ordB (r1, d1) (r2, d2))) ∧ Gr w w' := by
  go_enter Tryz.func36, Tryz.ntmps36
  go_wp2_with fail
  have b1 : Blk ((w.alloc (.cells #[.int .i64 r1, .int .i64 d1] 24)).alloc (.cells #[.int .i64 r2, .int .i64 d2] 24)) w.heap.size 24 #[.int .i64 r1, .int .i64 d1] := (Blk.new w _ _).alloc _
  have b2 : Blk ((w.alloc (.cells #[.int .i64 r1, .int .i64 d1] 24)).alloc (.cells #[.int .i64 r2, .int .i64 d2] 24)) (w.heap.size + 1) 24 #[.int .i64 r2, .int .i64 d2] := by
    have := Blk.new (w.alloc (.cells #[.int .i64 r1, .int .i64 d1] 24)) 24 #[.int .i64 r2, .int .i64 d2]
    rwa [World.size_alloc] at this
  have hB : Gr w ((w.alloc (.cells #[.int .i64 r1, .int .i64 d1] 24)).alloc (.cells #[.int .i64 r2, .int .i64 d2] 24)) := ((Gr.refl w).alloc _).alloc _
  try simp only [World.size_alloc]
  generalize ((w.alloc (.cells #[.int .i64 r1, .int .i64 d1] 24)).alloc (.cells #[.int .i64 r2, .int .i64 d2] 24)) = W1 at *
  obtain ⟨g, hg⟩ : ∃ g, g = w.heap.size := ⟨_, rfl⟩
  rw [← hg] at b1 b2 ⊢
  have k0 := b1.cell (i := 0) (v := .int .i64 r1) rfl
  have k1 := b1.cell (i := 1) (v := .int .i64 d1) rfl
  have k2 := b2.cell (i := 0) (v := .int .i64 r2) rfl
  have k3 := b2.cell (i := 1) (v := .int .i64 d2) rfl
  have HB := Lib.hid hB
  clear b1 b2 hB hg
  go_region_held3 (fun W => W.cell? ⟨g, 0, none⟩ = some (.int .i64 r1) ∧ W.cell? ⟨g, 1, none⟩ = some (.int .i64 d1) ∧ W.cell? ⟨g + 1, 0, none⟩ = some (.int .i64 r2) ∧ W.cell? ⟨g + 1, 1, none⟩ = some (.int .i64 d2))
    (first | exact ⟨by assumption, by assumption, by assumption, by assumption⟩ | go_keep)
    (first
      | (go_at_call 61; refine (compare_any _ _ _).mono ?_; rintro e w' ⟨rfl, rfl⟩)
      | (go_at_call 60; refine (first_two _ _ _ _ (by exact Blk.cell (Blk.new _ _ _) rfl) (by exact Blk.cell (Blk.new _ _ _) rfl)).mono ?_; rintro e w' ⟨rfl, rfl⟩))
  go_wp2_with fail
  go_ret
  exact ⟨rfl, (HB.out.alloc _).drew⟩

theorem ordB_lt (a b : Ba) : ordB a b < 0 ↔ a.1 < b.1 ∨ a.1 = b.1 ∧ a.2 < b.2 := by
  unfold ordB firstI cmpI
  by_cases h1 : a.1 < b.1
  · simp [h1]
  · by_cases h2 : a.1 > b.1
    · simp [h1, h2]; omega
    · have e : a.1 = b.1 := by omega
      simp only [h1, h2, if_false, if_true]
      by_cases h3 : a.2 < b.2
      · simp [h3, e]
      · by_cases h4 : a.2 > b.2
        · simp [h3, h4, e]
        · simp [h3, h4, e]
theorem ltBa (x y : Ba) : ltOf (fun x y : Ba => ordB x y) x y = decide (x.1 < y.1 ∨ x.1 = y.1 ∧ x.2 < y.2) := by
  unfold ltOf
  rw [Bool.eq_iff_iff]
  simp only [decide_eq_true_eq]
  exact ordB_lt x y
theorem swoBa : SWO (ltOf fun x y : Ba => ordB x y) where
  irrefl x := by rw [ltBa]; simp
  trans x y z h1 h2 := by rw [ltBa] at *; simp only [decide_eq_true_eq] at *; omega
  ntrans x y z h1 h2 := by rw [ltBa] at *; simp only [decide_eq_false_iff_not] at *; omega
theorem totBa (x y : Ba) (h1 : ltOf (fun x y : Ba => ordB x y) x y = false) (h2 : ltOf (fun x y : Ba => ordB x y) y x = false) : x = y := by
  rw [ltBa] at h1 h2
  simp only [decide_eq_false_iff_not] at h1 h2
  obtain ⟨a, b⟩ := x
  obtain ⟨c, d⟩ := y
  simp only at h1 h2
  have e1 : a = c := by omega
  have e2 : b = d := by omega
  rw [e1, e2]
/-- The slice v is the ballots L, in a block of the call's own. -/
def BaRow (w : World) (lo : Nat) (v : Value) (L : List Ba) : Prop := w.ownsRow lo 24 2 v L.length (flat encBa L)
def leBa : Ba → Ba → Bool := fun x y => !(ltOf fun x y : Ba => ordB x y) y x
theorem isAggBa : ∀ w, (isAgg 24).run Tryz.prog w = .ok true w := fun w => by kernel_rfl
theorem sizeBa : ∀ w, (Go.sizeOf 24).run Tryz.prog w = .ok 2 w := fun w => by kernel_rfl
theorem sortBa_any (lo : Nat) (v : Value) (L : List Ba) (w : World) (h : BaRow w lo v L) (hl : L.length ≤ 1000) :
    Calls Tryz.prog 37 #[v, .func (.func 36) #[] #[]] w fun e w' => e = .returned (.tuple #[]) ∧ BaRow w' lo v (L.mergeSort leBa) ∧ w.grownBy w' v.ownBlock := by
  have hk : ∀ x, (encBa x).length = 2 := fun x => rfl
  rcases h.2 with ⟨rfl, hn⟩ | ⟨g, cap, cur, rfl, hb, hg, hle, hcap, hsz, htake⟩
  · have hx : L = [] := List.length_eq_zero_iff.1 hn
    subst hx
    refine (AnyF.slices_SortFunc_none Tryz.sortBal none 0 _ w).mono ?_
    rintro e w' ⟨rfl, rfl⟩
    exact ⟨rfl, by simpa using h, rfl, rfl, rfl, Nat.le_refl _, fun _ _ _ => rfl⟩
  · have hf := flatK_eq hk (by decide) L
    have hH : HoldsK encBa 2 w g 0 L.toArray := by
      unfold HoldsK
      rw [hf]
      exact holds_of_blockV hg (by rw [flat_length hk]; exact htake)
    have eg : ∀ args w, (callFunc 36 args).run Tryz.prog w = .ok (.enter 36 args) w := enters_of Tryz.func36 (by kernel_rfl) rfl
    refine (AnyQ.slices_SortFunc_total Tryz.sortBal 2 isAggBa sizeBa encBa hk (fun x v hv => by simp [encBa] at hv; rcases hv with rfl | rfl <;> rfl) (fun x y => ordB x y) swoBa 36 #[] g 0 cap L.toArray w eg
      (fun _ _ _ _ x y => order_G x.1 x.2 y.1 y.2 _) hH (Array.getElem?_eq_some_iff.1 hg).1 (by simp; omega) totBa).mono ?_
    rintro e w' ⟨rfl, n, os, rfl⟩
    have hs : (L.mergeSort leBa).length = L.length := by simp
    refine ⟨rfl, ?_, ?_⟩
    · unfold BaRow
      rw [hs]
      show (sortWorldK encBa 2 w g 0 n (L.mergeSort leBa).toArray os).ownsRow _ _ _ _ _ _
      unfold sortWorldK putRowK
      rw [flatK_eq hk (by decide)]
      exact ownsRow_sortedV (by rw [flat_length hk, hs]) hb hg hle hcap hsz
    · show w.grownBy (sortWorldK encBa 2 w g 0 n (L.mergeSort leBa).toArray os) _
      unfold sortWorldK putRowK
      exact grownBy_sortedV _
end Go.Proofs.YthkdmpalhdifbaaGreatDoor
