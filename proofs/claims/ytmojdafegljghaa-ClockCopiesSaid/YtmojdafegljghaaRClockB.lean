/- The reference of layer 18: Ids, Len, Stop. -/
import Derived.Test.YtmojdafegljghaaRClockA
set_option linter.unusedVariables false
set_option linter.unusedSimpArgs false
namespace Go.Proofs.Ytmojdafegljghaa
open Go.RowKit Go.Maps Go.Shelf

theorem info_timer : (Try.prog.info? 62).map (fun i => (i.zero, i.size, i.bytes)) = some (some (.agg #[.int .i64 0, .int .i64 0]), 2, 16) := by kernel_rfl

theorem bcell {W w1 : World} (hb : Below W.heap.size W w1) {p : Addr} {v : Value} (h : W.cell? p = some v) : w1.cell? p = some v := by
  obtain ⟨o, ho, _⟩ := cells_of_cell h
  exact (hb.cell (Array.getElem?_eq_some_iff.1 ho).1).trans h
theorem bchain {a b c : World} (h : Below a.heap.size a b) (k : Below b.heap.size b c) : Below a.heap.size a c := h.trans (k.mono h.size)
theorem take_snoc {α : Type} {L : List α} {i : Nat} {x : α} (h : L[i]? = some x) : L.take (i + 1) = L.take i ++ [x] := by
  rw [List.take_add_one, h]; rfl
theorem reads_one (w : World) (x : Value) (t : TypeId) : Reads (w.alloc (.cells #[x] t)) 1 (some ⟨w.heap.size, 0, none⟩) 1 [x] :=
  ⟨rfl, fun _ => ⟨_, rfl, fun j u hu => by
    have hj : j = 0 := by have := (List.getElem?_eq_some_iff.1 hu).1; simp at this; omega
    subst hj
    simp at hu
    subst hu
    rw [add_zero_spot]
    simp [go_sem]⟩⟩
theorem reads_two (w : World) (x y : Value) (t : TypeId) : Reads (w.alloc (.cells #[x, y] t)) 2 (some ⟨w.heap.size, 0, none⟩) 1 [x, y] :=
  ⟨rfl, fun _ => ⟨_, rfl, fun j u hu => by
    have hj : j = 0 ∨ j = 1 := by have := (List.getElem?_eq_some_iff.1 hu).1; simp at this; omega
    rcases hj with rfl | rfl <;> simp at hu <;> subst hu <;> rw [add_zero_spot] <;> simp [go_sem]⟩⟩

set_option maxHeartbeats 1000000 in
theorem rids_any (q : Nat) (v : Value) (now : Int) (Ls : List (Int × Int)) (w : World) (h : RTabAt w q v now Ls) (hl : Ls.length ≤ 1000) :
    Calls Try.prog 35 #[.pointer (some ⟨q, 0, none⟩)] w fun e w' => ∃ v', e = .returned v' ∧ IntRow w' w.heap.size v' (keys Ls) ∧ Below w.heap.size w w' := by
  have c0 := h.c0
  have c2 := h.c2
  obtain ⟨A, cap, rfl, hle, hA, hm, hrd, hcells⟩ := row_view h.row
  clear h hrd hm
  have HC := Lib.hid hcells
  have HC0 := Lib.hid c0
  have HC2 := Lib.hid c2
  clear hcells hA c0 c2
  obtain ⟨i0, hi, hz0, hz1, hz2⟩ := info_parts info_int
  have HI := Lib.hid hi
  have HZ0 := Lib.hid hz0
  have HZ1 := Lib.hid hz1
  have HZ2 := Lib.hid hz2
  clear hi hz0 hz1 hz2
  go_enter Try.func35, Try.ntmps35
  go_wp2_with fail
  go_loopw [3, 4] (fun o c wr => ∃ i : Nat, i ≤ Ls.length ∧ c = .int .i64 i ∧ IntRow wr w.heap.size o (keys (Ls.take i)) ∧ Below w.heap.size w wr) (fun _ c _ => Ls.length - (intOf c).toNat)
  case atStart => exact ⟨0, by omega, rfl, IntRow.nil _ _, Below.refl _ _⟩
  case round =>
    obtain ⟨i, hi, rfl, hrow, hB⟩ := hrel
    have HROW := Lib.hid hrow
    clear hrow
    have c0 := bcell hB HC0.out
    have c2 := bcell hB HC2.out
    by_cases hlt : i < Ls.length
    · obtain ⟨g, rfl, _, _, hg⟩ := HC.out (by omega)
      obtain ⟨⟨a, b⟩, hab⟩ : ∃ p, Ls[i]? = some p := ⟨_, List.getElem?_eq_getElem hlt⟩
      have d0 := bcell hB (hg _ _ (cells2_at hab).1)
      have HAB := Lib.hid hab
      have hkl : (keys (Ls.take i)).length = i := by simp [keys]; omega
      have hkl2 : (keys (Ls.take i)).length ≤ 1000 := by omega
      clear hg hab hkl
      have hbs := hB.size
      go_wp2_with (first
        | (go_at_call 32; refine (rvalid q _ c0).mono ?_; rintro e w' ⟨rfl, rfl⟩)
        | (at_builtin; refine wpList_app rfl _ _ 28 rfl w.heap.size 3 i0 (.int .i64 0) 1 8 Try.underlying28 HI.out HZ0.out HZ1.out HZ2.out rfl (by decide) _ _ _ rfl (World.ownsRow.alloc HROW.out _) (some ⟨wr.heap.size, 0, none⟩) 1 1 [.int .i64 a] rfl (fun e => by cases e) (Nat.le_refl _) (reads_one _ _ _) (by simp [Value.oneCell']) (by unfold maxLen; omega) (by omega) (by simp; omega) ?_; intro v' w1 hown' hgrow _))
      have hlt2 := HROW.out.lt
      go_roundw
      case rel =>
        refine ⟨i + 1, by omega, by go_num, ?_, hB.trans (((Below.refl _ _).alloc hbs _).grown hgrow (by simp; omega) (fun j ej => (hlt2 j ej).1))⟩
        rw [take_snoc HAB.out]
        simpa [IntRow, keys] using hown'
      case measure => simp [intOf]; omega
    · have e : i = Ls.length := by omega
      subst e
      go_wp2_with (go_at_call 32; refine (rvalid q _ c0).mono ?_; rintro e w' ⟨rfl, rfl⟩)
      go_ret
      have hr := HROW.out
      rw [List.take_length] at hr
      exact ⟨_, rfl, hr, hB⟩

theorem rlen_any (q : Nat) (v : Value) (now : Int) (Ls : List (Int × Int)) (w : World) (h : RTabAt w q v now Ls) (hl : Ls.length ≤ 1000) :
    Calls Try.prog 37 #[.pointer (some ⟨q, 0, none⟩)] w fun e w' => e = .returned (.int .i64 (Ls.length : Int)) ∧ Below w.heap.size w w' := by
  have HT := Lib.hid h
  clear h
  go_enter Try.func37, Try.ntmps37
  go_wp2_with fail
  refine (rids_any q v now Ls _ HT.out hl).mono ?_
  rintro e w1 ⟨v', rfl, hr, hb⟩
  obtain ⟨A, cap, rfl, _⟩ := hr.view
  have hkl : (keys Ls).length = Ls.length := by simp [keys]
  rw [hkl]
  clear hkl
  go_wp2
  go_ret
  exact ⟨rfl, hb⟩
end Go.Proofs.Ytmojdafegljghaa
