/- The reference of layer 18: Copy. -/
import Derived.Test.YtmojdafegljghaaRClockD
import Derived.Deep.RegionHeld3
set_option linter.unusedVariables false
set_option linter.unusedSimpArgs false
namespace Go.Proofs.Ytmojdafegljghaa
open Go.RowKit Go.Maps Go.Shelf

theorem step_app {P : Program} {w : World} {ops : Array Oper} {o : Oper} {a : Act} {K : Act → World → Prop} {Q : Exit → Act → World → Prop} {E : Prop} (hgd : o.guard = none) (s x : Operand) (t : TypeId)
    (ho : o.op = .call { callee := .builtin .append, args := #[s, x], argTypes := #[t, t] })
    (base : Nat) (e : TypeId) (i : TypeInfo) (z : Value) (size bytes : Nat) (ht : P.underlying t = some (.slice e)) (hi : P.info? e = some i) (hz : i.zero = some z)
    (hsize : i.size = size) (hby : i.bytes = bytes) (hzs : z.cells.size = size) (hsz : 0 < size)
    (v : Value) (n : Nat) (xs : List Value) (hs : a.eval s = v) (hown : w.ownsRow base e size v n xs)
    (ad : Addr) (m c : Nat) (news : List Value) (hx : a.eval x = .slice (some ad) m c) (hl : news.length = m * size) (hnews : ∀ j u, news[j]? = some u → w.cell? (ad.add j) = some u) (h1 : ∀ u ∈ news, u.oneCell')
    (h63 : n + m ≤ maxLen) (hbytes : (n + m) * bytes ≤ 140737488355328) (hbase : base ≤ w.heap.size)
    (h : ∀ v' w', w'.ownsRow base e size v' (n + m) (xs ++ news) → w.grownBy w' v.ownBlock → K (a.put o.dst v') w') :
    if Region.wanted o (yielded ops a.tmps) = true then Oper.wp P o a w K Q else E := by
  have hw : Region.wanted o (yielded ops a.tmps) = true := by simp [Region.wanted, hgd]
  rw [if_pos hw]
  exact wp_append_own w s x t ho base e i z size bytes ht hi hz hsize hby hzs hsz v n xs hs hown ad m c news hx hl hnews h1 h63 hbytes hbase fun v' w' h2 h3 _ => h v' w' h2 h3

def RCopyPost (now : Int) (Ls : List (Int × Int)) (w : World) (e : Ending) (w' : World) : Prop :=
  ∃ q' v', e = .returned (.pointer (some ⟨q', 0, none⟩)) ∧ RTabAt w' q' v' now Ls ∧ w.heap.size ≤ q' ∧ (∀ g, v'.ownBlock = some g → w.heap.size ≤ g) ∧ Below w.heap.size w w'

set_option maxHeartbeats 1000000 in
theorem rcopy_any (q : Nat) (v : Value) (now : Int) (Ls : List (Int × Int)) (w : World) (h : RTabAt w q v now Ls) (hl : Ls.length ≤ 1000) :
    Calls Try.prog 26 #[.pointer (some ⟨q, 0, none⟩)] w (RCopyPost now Ls w) := by
  have c0 := h.c0
  have c1 : w.cell? ⟨q, 1, none⟩ = some (.int .i64 now) := h.blk.cell rfl
  have c2 := h.c2
  have hqw := h.blk.lt
  have HT := Lib.hid h
  obtain ⟨i0, hi, hz0, hz1, hz2⟩ := info_parts info_timer
  have HI := Lib.hid hi
  have HZ0 := Lib.hid hz0
  have HZ1 := Lib.hid hz1
  have HZ2 := Lib.hid hz2
  clear hi hz0 hz1 hz2
  have hview := row_view2 h.row
  clear h
  rcases hview with ⟨rfl, hn, _⟩ | ⟨g, cap, rfl, hle, hm, _, hg1, hrd, hcells⟩
  · obtain rfl : Ls = [] := List.length_eq_zero_iff.1 hn
    go_enter Try.func26, Try.ntmps26
    go_wp2_with (go_at_call 32; refine (rvalid q _ c0).mono ?_; rintro e w' ⟨rfl, rfl⟩)
    go_region_held3 (fun W => W.cell? ⟨q, 1, none⟩ = some (.int .i64 now) ∧ W.cell? ⟨q, 2, none⟩ = some (.slice none 0 0))
      (first | exact ⟨by assumption, by assumption⟩ | go_keep)
      (first | fail)
    go_wp2_with fail
    go_ret
    have h1 : Blk ((w.alloc (.cells #[] 62)).alloc (.cells #[.bool true, .int .i64 now, .slice (some ⟨w.heap.size, 0, none⟩) 0 0] 60)) (w.heap.size + 1) 60 #[.bool true, .int .i64 now, .slice (some ⟨w.heap.size, 0, none⟩) 0 0] := by
      have := Blk.new (w.alloc (.cells #[] 62)) 60 #[.bool true, .int .i64 now, .slice (some ⟨w.heap.size, 0, none⟩) 0 0]
      rwa [World.size_alloc] at this
    have h2 := World.ownsRow.alloc (row_empty w 62 2) (.cells #[.bool true, .int .i64 now, .slice (some ⟨w.heap.size, 0, none⟩) 0 0] 60)
    have h3 : Below w.heap.size w ((w.alloc (.cells #[] 62)).alloc (.cells #[.bool true, .int .i64 now, .slice (some ⟨w.heap.size, 0, none⟩) 0 0] 60)) := ((Below.refl _ w).alloc (Nat.le_refl _) _).alloc (by simp) _
    refine ⟨w.heap.size + 1, .slice (some ⟨w.heap.size, 0, none⟩) 0 0, rfl, ⟨h1, row_lower h2 (Nat.zero_le _)⟩, by omega, fun g' hg' => ?_, h3.drew⟩
    have : w.heap.size = g' := by simpa [Value.ownBlock] using hg'
    omega
  · have HC := Lib.hid hcells
    clear hcells hrd
    go_enter Try.func26, Try.ntmps26
    go_wp2_with (go_at_call 32; refine (rvalid q _ c0).mono ?_; rintro e w' ⟨rfl, rfl⟩)
    have hbw : Below w.heap.size w (w.drew.alloc (.cells #[] 62)) := ((Below.refl _ w).drew).alloc (Nat.le_refl _) _
    have HBW := Lib.hid hbw
    clear hbw
    go_region_held3 (fun W => W.cell? ⟨q, 1, none⟩ = some (.int .i64 now) ∧ W.cell? ⟨q, 2, none⟩ = some (.slice (some ⟨g, 0, none⟩) Ls.length cap))
      (first | exact ⟨by assumption, by assumption⟩ | go_keep)
      (first | (refine step_app rfl _ _ 58 rfl w.heap.size 62 i0 (.agg #[.int .i64 0, .int .i64 0]) 2 16 Try.underlying58 HI.out HZ0.out HZ1.out HZ2.out rfl (by decide) _ 0 [] rfl (row_empty w.drew 62 2) ⟨g, 0, none⟩ Ls.length cap (cells2 Ls) rfl (cells2_length Ls) (fun j u hu => by rw [add_zero_spot]; exact bcell HBW.out (HC.out j u hu)) (cells2_one _) (by unfold maxLen; omega) (by omega) (by simp) ?_; intro v1 w1 hown1 hgrow1; have hb1 : Below w.heap.size w w1 := HBW.out.grown hgrow1 (by simp) (fun j ej => by cases ej; exact Nat.le_refl _); have q1 := bcell hb1 c1; have q2 := bcell hb1 c2; obtain ⟨A1, k1, hv1, _⟩ := row_view hown1; subst hv1; have HO1 := Lib.hid hown1; clear hown1 hgrow1))
    go_wp2_with fail
    go_ret
    have ho := HO1.out
    rw [Nat.zero_add, List.nil_append] at ho
    refine ⟨_, _, rfl, ⟨Blk.new _ _ _, row_lower (World.ownsRow.alloc ho _) (Nat.zero_le _)⟩, hb1.size, fun g' hg' => (ho.lt g' hg').1, hb1.alloc hb1.size _⟩
end Go.Proofs.Ytmojdafegljghaa
