/- What a step of a script does to an acceptor's state: nothing goes back. -/
import Derived.Test.YtnbiihnfggcakaaAccP
set_option linter.unusedVariables false
set_option linter.unusedSimpArgs false
namespace Go.Proofs.Ytnbiihnfggcakaa
open Go.RowKit Go.Maps Go.Shelf

/-- Nothing goes back. -/
structure Grow (s t : ASt) : Prop where
  bal : leBal (s.r, s.d) (t.r, t.d)
  base : s.base ≤ t.base
  ents : ∀ k e, (k, e) ∈ s.L → (k < t.base ∧ get k t.L = none) ∨ (t.base ≤ k ∧ ∃ e', get k t.L = some e' ∧ leBal (e.1, e.2.1) (e'.1, e'.2.1))
theorem Grow.same {s : ASt} (h : AGood s) : Grow s s :=
  ⟨leBal_refl _, Int.le_refl _, fun k e hm => .inr ⟨(h.slots _ hm).1, e, get_of_mem h.srt hm, leBal_refl _⟩⟩
theorem Grow.prom {s : ASt} (h : AGood s) (r d k : Int) : Grow s (prS s r d k) := by
  by_cases he : prE s r d k = 0
  · rw [prS_ok he]
    obtain ⟨_, _, _, h4⟩ := promE_zero.1 he
    exact ⟨h4, Int.le_refl _, fun k e hm => .inr ⟨(h.slots _ hm).1, e, get_of_mem h.srt hm, leBal_refl _⟩⟩
  · rw [prS_no he]; exact Grow.same h
theorem Grow.acc {s : ASt} (h : AGood s) (r d k : Int) (v : ByteArray) : Grow s (acS s r d k v) := by
  by_cases he : acE s r d k v = 0
  · rw [acS_ok he]
    obtain ⟨_, _, _, _, h5, _⟩ := accE_zero.1 he
    refine ⟨h5, Int.le_refl _, fun j e hm => .inr ⟨(h.slots _ hm).1, ?_⟩⟩
    by_cases hj : j = k
    · subst hj
      exact ⟨_, get_put_same h.srt, leBal_trans (h.le _ hm) h5⟩
    · exact ⟨e, (get_put_other h.srt hj).trans (get_of_mem h.srt hm), leBal_refl _⟩
  · rw [acS_no he]; exact Grow.same h
theorem get_filter {L : EL} (hs : Srt L) (f : Int × Ent → Bool) {k : Int} {e : Ent} (hm : (k, e) ∈ L) (hf : f (k, e) = true) : get k (L.filter f) = some e :=
  get_of_mem (hs.filter _) (List.mem_filter.2 ⟨hm, hf⟩)
theorem Grow.forg {s : ASt} (h : AGood s) (k : Int) : Grow s (foS s k) := by
  by_cases hk : 0 ≤ k ∧ k ≤ 4096
  · refine ⟨by rw [foS_r, foS_d]; exact leBal_refl _, by rw [foS_base hk]; omega, fun j e hm => ?_⟩
    rw [foS_base hk, foS_L hk]
    have hb := (h.slots _ hm).1
    simp only at hb
    by_cases hj : j < k
    · refine .inl ⟨by omega, get_none.2 fun p hp hpj => ?_⟩
      have := (List.mem_filter.1 hp).2
      simp at this
      omega
    · exact .inr ⟨by omega, e, get_filter h.srt _ hm (by simp; omega), leBal_refl _⟩
  · have : foS s k = s := by unfold foS foE; rw [if_pos (show k < 0 ∨ 4096 < k by omega)]; rfl
    rw [this]; exact Grow.same h
theorem not_gt_of_le {a b : Int × Int} (h : leBal a b) : ¬ ordB a b > 0 := by
  intro hc
  have := (ordB_gt_iff a b).1 hc
  rw [leBal_iff] at h
  omega
theorem bchainSz2 {B : Nat} {a b : World} (h : Below B a b) (hB : B = a.heap.size := by rfl) : B ≤ b.heap.size := by subst hB; exact h.size
end Go.Proofs.Ytnbiihnfggcakaa
