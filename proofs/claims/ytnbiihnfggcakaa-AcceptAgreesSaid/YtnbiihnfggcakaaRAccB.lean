/- The reference's acceptor: New, Promised, Base, good, List, Accepted. -/
import Derived.Test.YtnbiihnfggcakaaRAccA
import Derived.Deep.DeepMust
set_option linter.unusedVariables false
set_option linter.unusedSimpArgs false
namespace Go.Proofs.Ytnbiihnfggcakaa
open Go.RowKit Go.Maps Go.Shelf

namespace RAt
variable {w w' : World} {p : Nat} {v : Value} {s : ASt}
theorem below (h : RAt w p v s) (k : Below w.heap.size w w') : RAt w' p v s := ⟨h.blk.bel k, h.row.below k, h.good⟩
theorem drew (h : RAt w p v s) : RAt w.drew p v s := ⟨h.blk, h.row, h.good⟩
theorem c0 (h : RAt w p v s) : w.cell? ⟨p, 0, none⟩ = some (.bool true) := h.blk.cell rfl
theorem c1 (h : RAt w p v s) : w.cell? ⟨p, 1, none⟩ = some (.int .i64 s.n) := h.blk.cell rfl
theorem c2 (h : RAt w p v s) : w.cell? ⟨p, 2, none⟩ = some (.int .i64 s.r) := h.blk.cell rfl
theorem c3 (h : RAt w p v s) : w.cell? ⟨p, 3, none⟩ = some (.int .i64 s.d) := h.blk.cell rfl
theorem c4 (h : RAt w p v s) : w.cell? ⟨p, 4, none⟩ = some v := h.blk.cell rfl
theorem c5 (h : RAt w p v s) : w.cell? ⟨p, 5, none⟩ = some (.int .i64 s.base) := h.blk.cell rfl
end RAt

theorem rnew_yes (n : Int) (w : World) (hn : okN n) : Calls Try.prog 23 #[.int .i64 n] w fun e w' => ∃ p, e = .returned (.tuple #[.pointer (some ⟨p, 0, none⟩), .int .i64 0]) ∧ RAt w' p (.slice none 0 0) (newS n) ∧ w.heap.size ≤ p ∧ Below w.heap.size w w' := by
  have hg := AGood.new hn
  obtain ⟨h1, h2⟩ := hn
  have h1' : decide (n < 1) = false := by simp; omega
  have h2' : decide (n > 7) = false := by simp; omega
  clear h1 h2
  go_enter Try.func23, Try.ntmps23
  go_wp2
  go_returns
  exact ⟨w.heap.size, rfl, ⟨Blk.new _ _ _, EntRow.nil _ _, hg⟩, Nat.le_refl _, box_below _ _⟩
theorem rnew_bad (n : Int) (w : World) (hn : ¬ okN n) : Calls Try.prog 23 #[.int .i64 n] w fun e w' => e = .returned (.tuple #[.pointer none, .int .i64 2]) ∧ w = w' := by
  by_cases h1 : n < 1
  · clear hn
    go_enter Try.func23, Try.ntmps23
    go_wp2
    go_returns
    exact ⟨rfl, rfl⟩
  · have h2 : n > 7 := by unfold okN at hn; omega
    have h1' : decide (n < 1) = false := by simpa using h1
    clear hn h1
    go_enter Try.func23, Try.ntmps23
    go_wp2
    go_returns
    exact ⟨rfl, rfl⟩

theorem rbase_any (p : Nat) (v : Value) (s : ASt) (w : World) (h : RAt w p v s) :
    Calls Try.prog 32 #[.pointer (some ⟨p, 0, none⟩)] w fun e w' => e = .returned (.int .i64 s.base) ∧ w = w' := by
  have c0 := h.c0
  have c5 := h.c5
  clear h
  go_enter Try.func32, Try.ntmps32
  go_wp2_with (go_at_call 46; refine (rvalid p _ c0).mono ?_; rintro e w' ⟨rfl, rfl⟩)
  go_returns
  exact ⟨rfl, rfl⟩
theorem rpromised_any (p : Nat) (v : Value) (s : ASt) (w : World) (h : RAt w p v s) :
    Calls Try.prog 31 #[.pointer (some ⟨p, 0, none⟩)] w fun e w' => e = .returned (balV s.r s.d) ∧ Below w.heap.size w w' := by
  have hb := box_below w (.cells #[.int .i64 0, .int .i64 0] 30)
  have k0 := bcell hb h.c0
  have k2 := bcell hb h.c2
  have k3 := bcell hb h.c3
  clear h hb
  go_enter Try.func31, Try.ntmps31
  go_wp2_with (go_at_call 46; refine (rvalid p _ k0).mono ?_; rintro e w' ⟨rfl, rfl⟩)
  go_returns
  exact ⟨rfl, box_below _ _⟩

set_option maxRecDepth 100000 in
set_option maxHeartbeats 2000000 in
theorem rlist_any (p : Nat) (v : Value) (s : ASt) (k : Int) (w : World) (h : RAt w p v s) :
    Calls Try.prog 33 #[.pointer (some ⟨p, 0, none⟩), .int .i64 k] w fun e w' => ∃ v', e = .returned v' ∧ EntRow w' w.heap.size v' (listL k s.L) ∧ Below w.heap.size w w' := by
  have c0 := h.c0
  have c4 := h.c4
  have hl := h.good.len
  obtain ⟨A, cap, rfl, hcap, hc⟩ := h.row.view
  have HC := Lib.hid hc
  obtain ⟨i0, hi, hz0, hz1, hz2⟩ := info_parts info_ent
  have HI := Lib.hid hi
  have HZ0 := Lib.hid hz0
  have HZ1 := Lib.hid hz1
  have HZ2 := Lib.hid hz2
  clear hi hz0 hz1 hz2 h hc
  go_enter Try.func33, Try.ntmps33
  go_wp2_with fail
  go_loopw [5, 6] (fun v5 c wr => ∃ i : Nat, i ≤ s.L.length ∧ c = .int .i64 i ∧ EntRow wr w.heap.size v5 (listL k (s.L.take i)) ∧ Below w.heap.size w wr) (fun _ c _ => s.L.length - (intOf c).toNat)
  case atStart => exact ⟨0, by omega, rfl, EntRow.nil _ _, Below.refl _ _⟩
  case round =>
    obtain ⟨i, hi, rfl, hrow, hB⟩ := hrel
    have HROW := Lib.hid hrow
    have d0 := bcell hB c0
    have d4 := bcell hB c4
    clear hrow
    by_cases hlt : i < s.L.length
    · obtain ⟨g, rfl, _, hg, hcells⟩ := HC.out (by omega)
      obtain ⟨⟨x, e1, e2, e3⟩, hs⟩ : ∃ q, s.L[i]? = some q := ⟨_, List.getElem?_eq_getElem hlt⟩
      obtain ⟨m1, m2, m3, m4⟩ := hcells i _ _ hs
      have z1 := bcell hB m1
      have z2 := bcell hB m2
      have z3 := bcell hB m3
      have z4 := bcell hB m4
      have HSn := Lib.hid (take_snoc hs)
      have hnl : (listL k (s.L.take i)).length ≤ i := Nat.le_trans (List.length_filter_le _ _) (List.length_take_le i s.L)
      clear m1 m2 m3 m4 hcells hs
      by_cases hx : x ≥ k
      · have hx' : decide (x ≥ k) = true := by simpa using hx
        have HL : Hid (listL k (s.L.take (i + 1)) = listL k (s.L.take i) ++ [(x, e1, e2, e3)]) := by
          rw [Hid, HSn.out]; simp [listL]; omega
        go_wp2_with (first
          | (go_at_call 46; refine (rvalid p _ d0).mono ?_; rintro e w' ⟨rfl, rfl⟩)
          | (at_builtin; go_must (refine wpList_app rfl _ _ 32 rfl w.heap.size 43 i0 (entV 0 (0, 0, ⟨#[]⟩)) 4 40 Try.underlying32 HI.out HZ0.out HZ1.out HZ2.out rfl (by decide) _ _ _ rfl (World.ownsRow.alloc HROW.out _) (some ⟨wr.heap.size, 0, none⟩) 1 1 (entCells (x, e1, e2, e3)) rfl (by simp) (by omega) (reads_new _ _ (entCells (x, e1, e2, e3)) 1 4 rfl) (entCells_one _) (by unfold maxLen; omega) (by omega) (by have := hB.size; simp; omega) ?_)))
        intro v' w4 hown hgrow _
        have hne1 : ∀ k', some k' = _ → w.heap.size ≤ k' := fun k' hk' => (HROW.out.lt k' hk'.symm).1
        have hown' : EntRow w4 w.heap.size v' (listL k (s.L.take (i + 1))) := by
          rw [HL.out]
          unfold EntRow
          rw [cellsE_append, List.length_append]
          exact hown
        have hB4 := (hB.alloc hB.size _).grown hgrow (by have := hB.size; simp; omega) (fun k' ek => by have := hne1 k' ek.symm; omega)
        go_wp2_with fail
        go_roundw
        case rel => exact ⟨i + 1, by omega, by go_num, hown', hB4⟩
        case measure => simp [intOf]; omega
      · have hx' : decide (x ≥ k) = false := by simpa using hx
        have HL : Hid (listL k (s.L.take (i + 1)) = listL k (s.L.take i)) := by
          rw [Hid, HSn.out]; simp [listL]; omega
        clear hx
        go_wp2_with (first
          | (go_at_call 46; refine (rvalid p _ d0).mono ?_; rintro e w' ⟨rfl, rfl⟩))
        go_roundw
        case rel => exact ⟨i + 1, by omega, by go_num, by rw [HL.out]; exact HROW.out, hB⟩
        case measure => simp [intOf]; omega
    · have e : i = s.L.length := by omega
      have hr := HROW.out
      rw [e, List.take_length] at hr
      subst e
      go_wp2_with (first
        | (go_at_call 46; refine (rvalid p _ d0).mono ?_; rintro e w' ⟨rfl, rfl⟩))
      go_returns
      exact ⟨_, rfl, hr, hB⟩
end Go.Proofs.Ytnbiihnfggcakaa
