/- The reference's acceptor: Copy. -/
import Derived.Test.YtnbiihnfggcakaaRAccG
import Derived.Deep.RegionHeld3
set_option linter.unusedVariables false
set_option linter.unusedSimpArgs false
namespace Go.Proofs.Ytnbiihnfggcakaa
open Go.RowKit Go.Maps Go.Shelf

theorem step_app {P : Program} {w : World} {ops : Array Oper} {o : Oper} {a : Act} {K : Act → World → Prop} {Q : Exit → Act → World → Prop} {E : Prop} (hgd : o.guard = none) (s x : Operand) (t : TypeId)
    (ho : o.op = .call { callee := .builtin .append, args := #[s, x], argTypes := #[t, t] })
    (base : Nat) (e : TypeId) (i : TypeInfo) (z : Value) (size bytes : Nat) (ht : P.underlying t = some (.slice e)) (hi : P.info? e = some i) (hz : i.zero = some z)
    (hsize : i.size = size) (hby : i.bytes = bytes) (hzs : z.cells.size = size) (hsz : 0 < size)
    (v : Value) (n : Nat) (xs : List Value) (hs : a.eval s = v) (hown : w.ownsRow base e size v n xs)
    (ad : Addr) (m c : Nat) (news : List Value) (hx : a.eval x = .slice (some ad) m c) (hl : news.length = m * size) (hnews : ∀ j u, news[j]? = some u → w.cell? (ad.add j) = some u) (h1 : ∀ u ∈ news, u.oneCell')
    (h63 : n + m ≤ maxLen) (hbytes : (n + m) * bytes ≤ 140737488355328) (hbase : base ≤ w.heap.size)
    (h : ∀ v' w', w'.ownsRow base e size v' (n + m) (xs ++ news) → w.grownBy w' v.ownBlock → K (a.put o.dst v') w') :
    if Region.wanted o (yielded ops a.tmps) = true then Oper.wp P o a w K Q else E := by
  have hw : Region.wanted o (yielded ops a.tmps) = true := by simp [Region.wanted, hgd]
  rw [if_pos hw]
  exact wp_append_own w s x t ho base e i z size bytes ht hi hz hsize hby hzs hsz v n xs hs hown ad m c news hx hl hnews h1 h63 hbytes hbase fun v' w' h2 h3 _ => h v' w' h2 h3

def RCopyPost (s : ASt) (w : World) (e : Ending) (w' : World) : Prop :=
  ∃ q' v', e = .returned (.pointer (some ⟨q', 0, none⟩)) ∧ RAt w' q' v' s ∧ w.heap.size ≤ q' ∧ Below w.heap.size w w'

set_option maxRecDepth 100000 in
set_option maxHeartbeats 2000000 in
theorem rcopy_any (q : Nat) (v : Value) (s : ASt) (w : World) (h : RAt w q v s) :
    Calls Try.prog 29 #[.pointer (some ⟨q, 0, none⟩)] w (RCopyPost s w) := by
  have c0 := h.c0
  have c1 := h.c1
  have c2 := h.c2
  have c3 := h.c3
  have c4 := h.c4
  have c5 := h.c5
  have hqw := h.blk.lt
  have HGD := Lib.hid h.good
  have hl := h.good.len
  obtain ⟨i0, hi, hz0, hz1, hz2⟩ := info_parts info_ent
  have HI := Lib.hid hi
  have HZ0 := Lib.hid hz0
  have HZ1 := Lib.hid hz1
  have HZ2 := Lib.hid hz2
  clear hi hz0 hz1 hz2
  have hview := row_view2 h.row
  clear h
  rcases hview with ⟨rfl, hn, _⟩ | ⟨g, cap, rfl, hle, hm, _, hg1, hrd, hcells⟩
  · have hn0 : s.L = [] := List.length_eq_zero_iff.1 hn
    clear hn hl
    go_enter Try.func29, Try.ntmps29
    go_wp2_with (go_at_call 46; refine (rvalid q _ c0).mono ?_; rintro e w' ⟨rfl, rfl⟩)
    go_region_held3 (fun W => W.cell? ⟨q, 1, none⟩ = some (.int .i64 s.n) ∧ W.cell? ⟨q, 2, none⟩ = some (.int .i64 s.r) ∧ W.cell? ⟨q, 3, none⟩ = some (.int .i64 s.d) ∧ W.cell? ⟨q, 4, none⟩ = some (.slice none 0 0) ∧ W.cell? ⟨q, 5, none⟩ = some (.int .i64 s.base))
      (first | exact ⟨by assumption, by assumption, by assumption, by assumption, by assumption⟩ | go_keep)
      (first | fail)
    go_wp2_with fail
    go_returns
    have h1 : Blk ((w.alloc (.cells #[] 43)).alloc (.cells #[.bool true, .int .i64 s.n, .int .i64 s.r, .int .i64 s.d, .slice (some ⟨w.heap.size, 0, none⟩) 0 0, .int .i64 s.base] 89)) (w.heap.size + 1) 89 #[.bool true, .int .i64 s.n, .int .i64 s.r, .int .i64 s.d, .slice (some ⟨w.heap.size, 0, none⟩) 0 0, .int .i64 s.base] := by
      have := Blk.new (w.alloc (.cells #[] 43)) 89 #[.bool true, .int .i64 s.n, .int .i64 s.r, .int .i64 s.d, .slice (some ⟨w.heap.size, 0, none⟩) 0 0, .int .i64 s.base]
      rwa [World.size_alloc] at this
    have h2 := World.ownsRow.alloc (row_empty w 43 4) (.cells #[.bool true, .int .i64 s.n, .int .i64 s.r, .int .i64 s.d, .slice (some ⟨w.heap.size, 0, none⟩) 0 0, .int .i64 s.base] 89)
    have h3 : Below w.heap.size w ((w.alloc (.cells #[] 43)).alloc (.cells #[.bool true, .int .i64 s.n, .int .i64 s.r, .int .i64 s.d, .slice (some ⟨w.heap.size, 0, none⟩) 0 0, .int .i64 s.base] 89)) := ((Below.refl _ w).alloc (Nat.le_refl _) _).alloc (by simp) _
    refine ⟨w.heap.size + 1, .slice (some ⟨w.heap.size, 0, none⟩) 0 0, rfl, ⟨h1, ?_, HGD.out⟩, by omega, h3.drew⟩
    rw [hn0]
    exact row_lower h2 (Nat.zero_le _)
  · have HC := Lib.hid hcells
    clear hcells hrd
    go_enter Try.func29, Try.ntmps29
    go_wp2_with (go_at_call 46; refine (rvalid q _ c0).mono ?_; rintro e w' ⟨rfl, rfl⟩)
    have hbw : Below w.heap.size w (w.drew.alloc (.cells #[] 43)) := ((Below.refl _ w).drew).alloc (Nat.le_refl _) _
    have HBW := Lib.hid hbw
    clear hbw
    go_region_held3 (fun W => W.cell? ⟨q, 1, none⟩ = some (.int .i64 s.n) ∧ W.cell? ⟨q, 2, none⟩ = some (.int .i64 s.r) ∧ W.cell? ⟨q, 3, none⟩ = some (.int .i64 s.d) ∧ W.cell? ⟨q, 4, none⟩ = some (.slice (some ⟨g, 0, none⟩) s.L.length cap) ∧ W.cell? ⟨q, 5, none⟩ = some (.int .i64 s.base))
      (first | exact ⟨by assumption, by assumption, by assumption, by assumption, by assumption⟩ | go_keep)
      (first | (refine step_app rfl _ _ 32 rfl w.heap.size 43 i0 (entV 0 (0, 0, ⟨#[]⟩)) 4 40 Try.underlying32 HI.out HZ0.out HZ1.out HZ2.out rfl (by decide) _ 0 [] rfl (row_empty w.drew 43 4) ⟨g, 0, none⟩ s.L.length cap (cellsE s.L) rfl (cellsE_length s.L) (fun j u hu => by rw [add_zero_spot]; exact bcell HBW.out (HC.out j u hu)) (cellsE_one _) (by unfold maxLen; omega) (by omega) (by simp) ?_; intro v1 w1 hown1 hgrow1; have hb1 : Below w.heap.size w w1 := HBW.out.grown hgrow1 (by simp) (fun j ej => by cases ej; exact Nat.le_refl _); have q1 := bcell hb1 c1; have q2 := bcell hb1 c2; have q3 := bcell hb1 c3; have q4 := bcell hb1 c4; have q5 := bcell hb1 c5; obtain ⟨A1, k1, hv1, _⟩ := row_view hown1; subst hv1; have HO1 := Lib.hid hown1; clear hown1 hgrow1))
    go_wp2_with fail
    go_returns
    have ho := HO1.out
    rw [Nat.zero_add, List.nil_append] at ho
    refine ⟨_, _, rfl, ⟨Blk.new _ _ _, row_lower (World.ownsRow.alloc ho _) (Nat.zero_le _), HGD.out⟩, hb1.size, hb1.alloc hb1.size _⟩
end Go.Proofs.Ytnbiihnfggcakaa
