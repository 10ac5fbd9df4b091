/- The reference of layer 18: Set (refused), Tick. -/
import Derived.Test.YtmojdafegljghaaRClockC
set_option linter.unusedVariables false
set_option linter.unusedSimpArgs false
namespace Go.Proofs.Ytmojdafegljghaa
open Go.RowKit Go.Maps Go.Shelf

theorem rset_bad (q : Nat) (v : Value) (id ticks now : Int) (Ls : List (Int × Int)) (w : World) (h : RTabAt w q v now Ls) (ht : ticks < 1 ∨ 1000000 < ticks) :
    Calls Try.prog 22 #[.pointer (some ⟨q, 0, none⟩), .int .i64 id, .int .i64 ticks] w fun e w' => e = .returned (.int .i64 2) ∧ w = w' := by
  have c0 := h.c0
  clear h
  rcases ht with ht | ht
  · go_enter Try.func22, Try.ntmps22
    go_wp2_with (go_at_call 32; refine (rvalid q _ c0).mono ?_; rintro e w' ⟨rfl, rfl⟩)
    go_ret
    exact ⟨rfl, rfl⟩
  · have h1 : 1 ≤ ticks := by omega
    go_enter Try.func22, Try.ntmps22
    go_wp2_with (go_at_call 32; refine (rvalid q _ c0).mono ?_; rintro e w' ⟨rfl, rfl⟩)
    go_ret
    exact ⟨rfl, rfl⟩

def outU (Ls : List (Int × Int)) : List Int := keys (Ls.filter fun p => p.2 - 1 == 0)
def restU (Ls : List (Int × Int)) : List (Int × Int) := (Ls.filter fun p => !(p.2 - 1 == 0)).map fun p => (p.1, p.2 - 1)
theorem outU_yes {Ls : List (Int × Int)} {i : Nat} {a b : Int} (h : Ls[i]? = some (a, b)) (hb : b - 1 = 0) : outU (Ls.take (i + 1)) = outU (Ls.take i) ++ [a] := by
  unfold outU keys; rw [take_snoc h]; simp [hb]
theorem restU_yes {Ls : List (Int × Int)} {i : Nat} {a b : Int} (h : Ls[i]? = some (a, b)) (hb : b - 1 = 0) : restU (Ls.take (i + 1)) = restU (Ls.take i) := by
  unfold restU; rw [take_snoc h]; simp [hb]
theorem outU_no {Ls : List (Int × Int)} {i : Nat} {a b : Int} (h : Ls[i]? = some (a, b)) (hb : b - 1 ≠ 0) : outU (Ls.take (i + 1)) = outU (Ls.take i) := by
  unfold outU keys; rw [take_snoc h]; simp [hb]
theorem restU_no {Ls : List (Int × Int)} {i : Nat} {a b : Int} (h : Ls[i]? = some (a, b)) (hb : b - 1 ≠ 0) : restU (Ls.take (i + 1)) = restU (Ls.take i) ++ [(a, b - 1)] := by
  unfold restU; rw [take_snoc h]; simp [hb]
theorem outU_len (Ls : List (Int × Int)) : (outU Ls).length ≤ Ls.length := by unfold outU keys; rw [List.length_map]; exact List.length_filter_le _ _
theorem restU_len (Ls : List (Int × Int)) : (restU Ls).length ≤ Ls.length := by unfold restU; rw [List.length_map]; exact List.length_filter_le _ _

def RTickPost (q : Nat) (now : Int) (Ls : List (Int × Int)) (w : World) (e : Ending) (w' : World) : Prop :=
  ∃ u v', e = .returned u ∧ IntRow w' w.heap.size u (outU Ls) ∧ RTabAt w' q v' (now + 1) (restU Ls) ∧ Fr (S1 q) w w'

/-- Two rows of different types lie in different blocks. -/
theorem row_ne_row {w : World} {b1 b2 s1 s2 n1 n2 : Nat} {e1 e2 : TypeId} {v1 v2 : Value} {xs1 xs2 : List Value} (h1 : w.ownsRow b1 e1 s1 v1 n1 xs1) (h2 : w.ownsRow b2 e2 s2 v2 n2 xs2) (he : e1 ≠ e2) :
    ∀ g, v1.ownBlock = some g → v2.ownBlock ≠ some g := by
  intro g hg hg2
  rcases h2.2 with ⟨rfl, _⟩ | ⟨g', cap, cur, rfl, _, hblk, _⟩
  · simp [Value.ownBlock] at hg2
  · obtain rfl : g' = g := by simpa [Value.ownBlock] using hg2
    exact row_ne_blk h1 (show Blk w g' e2 cur from hblk) (fun e => he e.symm) g' hg rfl

set_option maxHeartbeats 1000000 in
theorem rtick_any (q : Nat) (v : Value) (now : Int) (Ls : List (Int × Int)) (w : World) (h : RTabAt w q v now Ls) (hl : Ls.length ≤ 1000) (hn0 : 0 ≤ now) (hn1 : now ≤ 1000000) (hb : ∀ p ∈ Ls, 1 ≤ p.2 ∧ p.2 ≤ 1000000) :
    Calls Try.prog 24 #[.pointer (some ⟨q, 0, none⟩)] w (RTickPost q now Ls w) := by
  have c0 := h.c0
  have c1 : w.cell? ⟨q, 1, none⟩ = some (.int .i64 now) := h.blk.cell rfl
  have f1 := h.blk.frozen 1
  have hqw := h.blk.lt
  have HT := Lib.hid h
  have HBD := Lib.hid hb
  obtain ⟨A, cap, rfl, hle, hA, hm, hrd, hcells⟩ := row_view h.row
  have HC := Lib.hid hcells
  obtain ⟨i0, hi, hz0, hz1, hz2⟩ := info_parts info_timer
  have HI := Lib.hid hi
  have HZ0 := Lib.hid hz0
  have HZ1 := Lib.hid hz1
  have HZ2 := Lib.hid hz2
  obtain ⟨j0, hj, hy0, hy1, hy2⟩ := info_parts info_int
  have HJ := Lib.hid hj
  have HY0 := Lib.hid hy0
  have HY1 := Lib.hid hy1
  have HY2 := Lib.hid hy2
  clear h hrd hm hcells hA hb hi hz0 hz1 hz2 hj hy0 hy1 hy2
  -- the world behind 't.T++'
  have b1 := (HT.out.blk.set 1 (.int .i64 (now + 1)))
  have hF1 : Fr (S1 q) w (w.setCell ⟨q, 1, none⟩ (.int .i64 (now + 1))) := (Fr.refl (S1 q) w).setCell (p := ⟨q, 1, none⟩) (.inl rfl) _
  have hsz1 : (w.setCell ⟨q, 1, none⟩ (.int .i64 (now + 1))).heap.size = w.heap.size := by simp [World.setCell]
  have hrow1 : (w.setCell ⟨q, 1, none⟩ (.int .i64 (now + 1))).ownsRow 0 62 2 (.slice A Ls.length cap) Ls.length (cells2 Ls) :=
    row_keep HT.out.row fun g hg => Below.heap_setCell _ _ _ _ (fun e => row_ne_blk HT.out.row HT.out.blk (by decide) g hg e)
  have HB1 := Lib.hid b1
  have HF1 := Lib.hid hF1
  have HR1 := Lib.hid hrow1
  clear b1 hF1 hrow1
  go_enter Try.func24, Try.ntmps24
  go_wp2_with (go_at_call 32; refine (rvalid q _ c0).mono ?_; rintro e w' ⟨rfl, rfl⟩)
  generalize hW1 : w.setCell ⟨q, 1, none⟩ (.int .i64 (now + 1)) = W1 at *
  clear hW1
  have hsa : W1.heap.size ≤ w.heap.size := by omega
  have hsb : w.heap.size ≤ W1.heap.size := by omega
  clear hsz1
  obtain ⟨A', cap', he, _, _, _, _, hcells⟩ := row_view HR1.out
  cases he
  have HC1 := Lib.hid hcells
  clear HC hcells
  have e0 := HB1.out.cell (i := 0) rfl
  have e2 := HB1.out.cell (i := 2) rfl
  have hq1 : q < W1.heap.size := by omega
  go_loopw [3, 4, 5] (fun o r c wr => ∃ i : Nat, i ≤ Ls.length ∧ c = .int .i64 i ∧ IntRow wr W1.heap.size o (outU (Ls.take i)) ∧ wr.ownsRow W1.heap.size 62 2 r (restU (Ls.take i)).length (cells2 (restU (Ls.take i))) ∧ Below W1.heap.size W1 wr) (fun _ _ c _ => Ls.length - (intOf c).toNat)
  case atStart => exact ⟨0, by omega, rfl, IntRow.nil _ _, World.ownsRow_nil _ _ _ _, Below.refl _ _⟩
  case round =>
    obtain ⟨i, hi, rfl, ho, hr, hB⟩ := hrel
    have RO := Lib.hid ho
    have RR := Lib.hid hr
    clear ho hr
    have g2 := bcell hB e2
    have hws := hB.size
    by_cases hlt : i < Ls.length
    · obtain ⟨g, rfl, _, _, hg⟩ := HC1.out (by omega)
      obtain ⟨⟨a, b⟩, hab⟩ : ∃ p, Ls[i]? = some p := ⟨_, List.getElem?_eq_getElem hlt⟩
      have d0 := bcell hB (hg _ _ (cells2_at hab).1)
      have d1 := bcell hB (hg _ _ (cells2_at hab).2)
      obtain ⟨hb1, hb2⟩ := HBD.out _ (List.mem_of_getElem? hab)
      simp only at hb1 hb2
      have HAB := Lib.hid hab
      have hol : (outU (Ls.take i)).length ≤ 1000 := Nat.le_trans (outU_len _) (by simp; omega)
      have hrl : (restU (Ls.take i)).length ≤ 1000 := Nat.le_trans (restU_len _) (by simp; omega)
      clear hg hab
      by_cases he : b - 1 = 0
      · have he' : ((b - 1 : Int) == 0) = true := by simpa using he
        have H1 := Lib.hid (outU_yes HAB.out he)
        have H2 := Lib.hid (restU_yes HAB.out he)
        clear he
        have hr1 : Reads ((wr.alloc (.cells #[.int .i64 a, .int .i64 (b - 1)] 62)).alloc (.cells #[.int .i64 a] 3)) 1 (some ⟨wr.heap.size + 1, 0, none⟩) 1 [.int .i64 a] := by
          have := reads_one (wr.alloc (.cells #[.int .i64 a, .int .i64 (b - 1)] 62)) (.int .i64 a) 3
          rwa [World.size_alloc] at this
        have HR := Lib.hid hr1
        clear hr1
        go_wp2_with (at_builtin; refine wpList_app rfl _ _ 28 rfl W1.heap.size 3 j0 (.int .i64 0) 1 8 Try.underlying28 HJ.out HY0.out HY1.out HY2.out rfl (by decide) _ _ _ rfl (World.ownsRow.alloc (World.ownsRow.alloc RO.out _) _) (some ⟨wr.heap.size + 1, 0, none⟩) 1 1 [.int .i64 a] rfl (fun e => by cases e) (Nat.le_refl _) HR.out (by simp [Value.oneCell']) (by unfold maxLen; omega) (by omega) (by simp; omega) ?_)
        intro v1 w1 hown1 hgrow1 _
        have hne := row_ne_row RR.out RO.out (by decide)
        have hr1 : w1.ownsRow W1.heap.size 62 2 _ (restU (Ls.take i)).length (cells2 (restU (Ls.take i))) := row_keep RR.out fun g hg => by
          have hlt := (RR.out.lt g hg).2
          rw [hgrow1.block g (by simp; omega) (fun e => hne g hg e.symm), Below.heap_alloc _ _ g (by simp; omega), Below.heap_alloc _ _ g hlt]
        have hb1 := ((hB.alloc hws (.cells #[.int .i64 a, .int .i64 (b - 1)] 62)).alloc (by simp; omega) (.cells #[.int .i64 a] 3)).grown hgrow1 (by simp; omega) (fun j ej => (RO.out.lt j ej).1)
        have HO1 := Lib.hid hown1
        have HR1' := Lib.hid hr1
        have HBB := Lib.hid hb1
        clear hown1 hgrow1 hr1 hb1 hne
        go_wp2_with fail
        go_roundw
        case rel => exact ⟨i + 1, by omega, by go_num, by rw [H1.out]; simpa [IntRow] using HO1.out, by rw [H2.out]; exact HR1'.out, HBB.out⟩
        case measure => simp [intOf]; omega
      · have he' : ((b - 1 : Int) == 0) = false := by simpa using he
        have H1 := Lib.hid (outU_no HAB.out he)
        have H2 := Lib.hid (restU_no HAB.out he)
        clear he
        have hr1 : Reads ((wr.alloc (.cells #[.int .i64 a, .int .i64 (b - 1)] 62)).alloc (.cells #[.int .i64 a, .int .i64 (b - 1)] 62)) 2 (some ⟨wr.heap.size + 1, 0, none⟩) 1 [.int .i64 a, .int .i64 (b - 1)] := by
          have := reads_two (wr.alloc (.cells #[.int .i64 a, .int .i64 (b - 1)] 62)) (.int .i64 a) (.int .i64 (b - 1)) 62
          rwa [World.size_alloc] at this
        have HR := Lib.hid hr1
        clear hr1
        go_wp2_with (at_builtin; refine wpList_app rfl _ _ 58 rfl W1.heap.size 62 i0 (.agg #[.int .i64 0, .int .i64 0]) 2 16 Try.underlying58 HI.out HZ0.out HZ1.out HZ2.out rfl (by decide) _ _ _ rfl (World.ownsRow.alloc (World.ownsRow.alloc RR.out _) _) (some ⟨wr.heap.size + 1, 0, none⟩) 1 1 [.int .i64 a, .int .i64 (b - 1)] rfl (fun e => by cases e) (Nat.le_refl _) HR.out (by simp [Value.oneCell']) (by unfold maxLen; omega) (by omega) (by simp; omega) ?_)
        intro v1 w1 hown1 hgrow1 _
        have hne := row_ne_row RO.out RR.out (by decide)
        have hr1 : IntRow w1 W1.heap.size _ (outU (Ls.take i)) := row_keep RO.out fun g hg => by
          have hlt := (RO.out.lt g hg).2
          rw [hgrow1.block g (by simp; omega) (fun e => hne g hg e.symm), Below.heap_alloc _ _ g (by simp; omega), Below.heap_alloc _ _ g hlt]
        have hb1 := ((hB.alloc hws (.cells #[.int .i64 a, .int .i64 (b - 1)] 62)).alloc (by simp; omega) (.cells #[.int .i64 a, .int .i64 (b - 1)] 62)).grown hgrow1 (by simp; omega) (fun j ej => (RR.out.lt j ej).1)
        have HO1 := Lib.hid hown1
        have HR1' := Lib.hid hr1
        have HBB := Lib.hid hb1
        clear hown1 hgrow1 hr1 hb1 hne
        go_wp2_with fail
        go_roundw
        case rel => exact ⟨i + 1, by omega, by go_num, by rw [H1.out]; exact HR1'.out, by rw [H2.out]; simpa [cells2_append, cells2] using HO1.out, HBB.out⟩
        case measure => simp [intOf]; omega
    · have e : i = Ls.length := by omega
      subst e
      have ho := RO.out
      have hr := RR.out
      rw [List.take_length] at ho hr
      have HO := Lib.hid ho
      have HRR := Lib.hid hr
      have b4 := HB1.out.of_block (hB.block q hq1)
      have f4 := b4.frozen 2
      have HB4 := Lib.hid b4
      clear ho hr b4
      obtain ⟨A4, c4, hv4, _⟩ := row_view HRR.out
      subst hv4
      go_wp2_with fail
      go_ret
      have hql : ∀ g, (Value.slice A4 (restU Ls).length c4).ownBlock = some g → g ≠ q := fun g hg => by have := (HRR.out.lt g hg).1; omega
      refine ⟨_, _, rfl, ?_, ⟨HB4.out.set 2 _, ?_⟩, ?_⟩
      · have h1 : IntRow _ W1.heap.size _ (outU Ls) := row_keep (w' := wr.setCell ⟨q, 2, none⟩ (.slice A4 (restU Ls).length c4)) HO.out fun g hg => Below.heap_setCell _ _ _ _ (fun e => by have e : g = q := e; have := (HO.out.lt g hg).1; omega)
        exact h1.lower (by omega)
      · exact row_lower (row_keep (w' := wr.setCell ⟨q, 2, none⟩ (.slice A4 (restU Ls).length c4)) HRR.out fun g hg => Below.heap_setCell _ _ _ _ (fun e => hql g hg e)) (Nat.zero_le _)
      · exact HF1.out.trans' ((Fr.of_below hB : Fr (S1 q) W1 wr).setCell (p := ⟨q, 2, none⟩) (.inl rfl) _) (fun _ _ h => h)
end Go.Proofs.Ytmojdafegljghaa
