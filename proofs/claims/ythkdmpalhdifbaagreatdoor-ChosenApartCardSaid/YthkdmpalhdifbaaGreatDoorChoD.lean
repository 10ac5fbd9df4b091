/- slices.SortFunc of entries, by their slots. -/
import Derived.Test.YthkdmpalhdifbaaGreatDoorChoC
set_option linter.unusedVariables false
set_option linter.unusedSimpArgs false
namespace Go.Proofs.YthkdmpalhdifbaaGreatDoor
open Go.RowKit Go.Maps Go.Sort Go.Proofs Go.Shelf

abbrev En := Fin 4096 × Ba × ByteArray
def encEn (e : En) : List Value := [.int .i64 ((e.1.val : Nat) : Int), .int .i64 e.2.1.1, .int .i64 e.2.1.2, .string e.2.2]
abbrev cfEn (x y : En) : Int := ((x.1.val : Nat) : Int) - ((y.1.val : Nat) : Int)
set_option maxHeartbeats 1000000 in
theorem cmp_G (a : Nat) (r1 d1 : Int) (v1 : ByteArray) (b : Nat) (r2 d2 : Int) (v2 : ByteArray) (ha : a < 4096) (hb : b < 4096) (w : World) :
    Calls Tryz.prog 71 #[.agg #[.int .i64 (a : Int), .int .i64 r1, .int .i64 d1, .string v1], .agg #[.int .i64 (b : Int), .int .i64 r2, .int .i64 d2, .string v2]] w fun e w' => e = .returned (.int .i64 ((a : Int) - (b : Int))) ∧ Gr w w' := by
  have hB : Gr w ((w.alloc (.cells #[.int .i64 (a : Int), .int .i64 r1, .int .i64 d1, .string v1] 58)).alloc (.cells #[.int .i64 (b : Int), .int .i64 r2, .int .i64 d2, .string v2] 58)) := ((Gr.refl w).alloc _).alloc _
  go_enter Tryz.func71, Tryz.ntmps71
  go_wp2_with fail
  go_returns
  exact ⟨rfl, hB⟩
theorem ltEn (x y : En) : ltOf cfEn x y = decide (x.1.val < y.1.val) := by
  unfold ltOf cfEn
  rw [Bool.eq_iff_iff]
  simp only [decide_eq_true_eq]
  omega
theorem swoEn : SWO (ltOf cfEn) where
  irrefl x := by rw [ltEn]; simp
  trans x y z h1 h2 := by rw [ltEn] at *; simp only [decide_eq_true_eq] at *; omega
  ntrans x y z h1 h2 := by rw [ltEn] at *; simp only [decide_eq_false_iff_not] at *; omega
/-- The slice v is the entries L, in a block of the call's own. -/
def EnRow (w : World) (lo : Nat) (v : Value) (L : List En) : Prop := w.ownsRow lo 58 4 v L.length (flat encEn L)
theorem isAggEn : ∀ w, (isAgg 58).run Tryz.prog w = .ok true w := fun w => by kernel_rfl
theorem sizeEn : ∀ w, (Go.sizeOf 58).run Tryz.prog w = .ok 4 w := fun w => by kernel_rfl
theorem perm_of_in {α : Type} [Inhabited α] {d d' : Array α} (h : PermIn 0 d.size d d') : d'.toList.Perm d.toList := by
  obtain ⟨hsz, _, hperm⟩ := h
  have e1 : d'.extract 0 d.size = d' := by rw [← hsz]; exact Array.extract_size
  rw [e1, Array.extract_size] at hperm
  exact hperm
theorem sorted_of_in {α : Type} [Inhabited α] {lt : α → α → Bool} {d' : Array α} {n : Nat} (hn : d'.size = n) (h : SortedIn lt 0 n d') : d'.toList.Pairwise fun x y => lt y x = false := by
  rw [List.pairwise_iff_getElem]
  intro i j hi hj hij
  have hi' : i < d'.size := by simpa using hi
  have hj' : j < d'.size := by simpa using hj
  have := h i j (Nat.zero_le _) hij (by omega)
  rw [getElem!_pos d' i hi', getElem!_pos d' j hj'] at this
  simpa using this
theorem sortEn_any (lo : Nat) (v : Value) (L : List En) (w : World) (h : EnRow w lo v L) (hl : L.length ≤ 5000) :
    Calls Tryz.prog 70 #[v, .func (.func 71) #[] #[]] w fun e w' => e = .returned (.tuple #[]) ∧ w.grownBy w' v.ownBlock ∧ ∃ L', L'.Perm L ∧ L'.Pairwise (fun x y => x.1.val ≤ y.1.val) ∧ EnRow w' lo v L' := by
  have hk : ∀ x, (encEn x).length = 4 := fun x => rfl
  rcases h.2 with ⟨rfl, hn⟩ | ⟨g, cap, cur, rfl, hb, hg, hle, hcap, hsz, htake⟩
  · have hx : L = [] := List.length_eq_zero_iff.1 hn
    subst hx
    refine (AnyF.slices_SortFunc_none Tryz.sortEnt none 0 _ w).mono ?_
    rintro e w' ⟨rfl, rfl⟩
    exact ⟨rfl, ⟨rfl, rfl, rfl, Nat.le_refl _, fun _ _ _ => rfl⟩, [], .refl _, List.Pairwise.nil, h⟩
  · have hf := flatK_eq hk (by decide) L
    have hH : HoldsK encEn 4 w g 0 L.toArray := by
      unfold HoldsK
      rw [hf]
      exact holds_of_blockV hg (by rw [flat_length hk]; exact htake)
    have eg : ∀ args w, (callFunc 71 args).run Tryz.prog w = .ok (.enter 71 args) w := enters_of Tryz.func71 (by kernel_rfl) rfl
    refine (AnyQ.slices_SortFunc Tryz.sortEnt 4 isAggEn sizeEn encEn hk (fun x v hv => by simp [encEn] at hv; rcases hv with rfl | rfl | rfl | rfl <;> rfl) cfEn swoEn 71 #[] g 0 cap L.toArray w eg
      (fun _ _ _ _ x y => cmp_G x.1.val x.2.1.1 x.2.1.2 x.2.2 y.1.val y.2.1.1 y.2.1.2 y.2.2 x.1.isLt y.1.isLt _) hH (Array.getElem?_eq_some_iff.1 hg).1 (by simp; omega)).mono ?_
    rintro e w' ⟨rfl, d', n, os, hp, hs, rfl⟩
    have hP := perm_of_in hp
    have hS := sorted_of_in (show d'.size = L.toArray.size from hp.1) hs
    obtain ⟨L', rfl⟩ : ∃ L' : List En, d' = L'.toArray := ⟨d'.toList, rfl⟩
    simp only at hP hS
    have hle2 : L'.length = L.length := hP.length_eq
    refine ⟨rfl, ?_, L', hP, hS.imp fun {x y} hxy => by rw [ltEn] at hxy; simp at hxy; omega, ?_⟩
    · unfold sortWorldK putRowK
      exact grownBy_sortedV _
    · unfold EnRow
      rw [hle2]
      unfold sortWorldK putRowK
      rw [flatK_eq hk (by decide)]
      exact ownsRow_sortedV (by rw [flat_length hk, hle2]) hb hg hle hcap hsz
end Go.Proofs.YthkdmpalhdifbaaGreatDoor
