/- Contract of elect.Order. -/
import Derived.Test.YtklfbngmakkefaaElectE
set_option linter.unusedVariables false
set_option linter.unusedSimpArgs false
namespace Go.Proofs.Ytklfbngmakkefaa
open Go.RowKit Go.Shelf
attribute [local go_sem] Oper.semAt_some

theorem info_int : (Try.prog.info? 3).map (fun i => (i.zero, i.size, i.bytes)) = some (some (.int .i64 0), 1, 8) := by kernel_rfl

/-- A slice of k numbers f 0 .. in a block from lo on. -/
def IntsAt (w : World) (lo : Nat) (v : Value) (k : Nat) (f : Nat → Int) : Prop :=
  ∃ g cap, v = .slice (some ⟨g, 0, none⟩) k cap ∧ lo ≤ g ∧ g < w.heap.size ∧ ∀ i, i < k → w.cell? ⟨g, i, none⟩ = some (.int .i64 (f i))

theorem intsAt_of_owns {w : World} {lo : Nat} {t : TypeId} {v : Value} {k : Nat} {n f : Int} (hk : 1 ≤ k)
    (h : w.ownsRow lo t 1 v k ((upto n f k).map (Value.int .i64))) : IntsAt w lo v k (nth n f) := by
  obtain ⟨k', rfl⟩ : ∃ k', k = k' + 1 := ⟨k - 1, by omega⟩
  obtain ⟨g, cap, rfl⟩ := ownsRow_succ h
  obtain ⟨h1, h2⟩ := h.lt g rfl
  refine ⟨g, cap, rfl, h1, h2, fun i hi => ?_⟩
  rw [h.cellAt i (by omega)]
  simp [upto, List.getElem?_map, List.getElem?_range hi]

theorem IntsAt.below {w w' : World} {lo : Nat} {v : Value} {k : Nat} {f : Nat → Int} (h : IntsAt w lo v k f) (hb : Below w.heap.size w w') : IntsAt w' lo v k f := by
  obtain ⟨g, cap, hv, h1, h2, h3⟩ := h
  exact ⟨g, cap, hv, h1, Nat.lt_of_lt_of_le h2 hb.size, fun i hi => (hb.cell (p := ⟨g, i, none⟩) h2).trans (h3 i hi)⟩

theorem ownsRow_lower {W : World} {b b' : Nat} {e : TypeId} {size : Nat} {v : Value} {k : Nat} {xs : List Value} (h : W.ownsRow b e size v k xs) (hb : b' ≤ b) : W.ownsRow b' e size v k xs :=
  ⟨h.1, h.2.imp id fun ⟨g, cap, cur, h1, h2, h3⟩ => ⟨g, cap, cur, h1, Nat.le_trans hb h2, h3⟩⟩

/-- Behind 'out = append(out, ..)', out in the box B, out's row from n₀ on: what lay below n₀ lies as it lay, but for the box. -/
theorem app_kept {W w1 : World} {n₀ B : Nat} {e : TypeId} {size k : Nat} {v v' : Value} {xs : List Value} {tmp : Obj}
    (hrow : W.ownsRow n₀ e size v k xs) (hgrow : (W.alloc tmp).grownBy w1 v.ownBlock) {p : Addr} (h1 : p.block < n₀) (h2 : p.block ≠ B) (h3 : p.block < W.heap.size) :
    (w1.setCell ⟨B, 0, none⟩ v').cell? p = W.cell? p := by
  refine World.cell?_of_block ?_
  refine (Below.heap_setCell w1 ⟨B, 0, none⟩ v' p.block (fun e => h2 e)).trans ?_
  refine (hgrow.block p.block (by simp; omega) (fun e => ?_)).trans (Below.heap_alloc W tmp p.block h3)
  have := (hrow.lt _ e.symm).1
  omega

theorem cellKp_b {B : Nat} {w : World} (hB : B < w.heap.size) (W : World) (l : Nat) (o o' : Obj) (hl : w.heap.size ≤ l) (h : W.heap[l]? = some o) (_ : o.isCells = false) (_ : o.isWalk = false) :
    (W.putObj l o').cell? ⟨B, 0, none⟩ = W.cell? ⟨B, 0, none⟩ :=
  World.cell?_of_block (World.putObj_heap_other (by show B ≠ l; omega))

/-- What Order hands back where its arguments are good. -/
def OrderPost (n r : Int) (w : World) (e : Ending) (w' : World) : Prop :=
  ∃ v, e = .returned (.tuple #[v, .int .i64 0]) ∧ IntsAt w' w.heap.size v n.toNat (nth n (fst n r)) ∧ Below w.heap.size w w'

set_option maxRecDepth 100000 in
set_option maxHeartbeats 2000000 in
theorem order_yes (n r : Int) (w : World) (h1 : 1 ≤ n) (h2 : n ≤ 7) (h3 : 0 ≤ r) (hr : r ≤ 9223372036854775807) :
    Calls Try.prog 22 #[.int .i64 n, .int .i64 r] w (OrderPost n r w) := by
  obtain ⟨f0, hf0⟩ : ∃ f0, fst n r = f0 := ⟨_, rfl⟩
  have HF : Hid ((n - r % n) % n = f0) := hf0
  unfold OrderPost
  rw [hf0]
  clear hf0
  have hchk : chk n 1 (fun _ => r) = 0 := chk1_ok h1 h2 h3
  refine (callsIn_wide (n := 6)).1 ?_
  have hro : Fence.wide.round = none := rfl
  obtain ⟨i0, hi, hz0, hz1, hz2⟩ := info_parts info_int
  have HI := Lib.hid hi
  have HZ0 := Lib.hid hz0
  have HZ1 := Lib.hid hz1
  have HZ2 := Lib.hid hz2
  clear hi hz0 hz1 hz2
  refine callsIn_of_wp_marks Try.func22 rfl trivial ?_ hro
  simp only [Try.ntmps22, List.size_toArray, List.length_cons, List.length_nil, Nat.reduceAdd, Nat.reduceSub, Array.replicate_succ, Array.replicate_zero, List.push_toArray, List.append_toArray, List.nil_append, List.cons_append]
  gi_wp2_with (first
    | (refine ⟨trivial, ?_⟩; gi_at_call 29; refine (callsIn_wide.2 (checked_any _ _ (fun _ => r) 1 _ (by omega) (cells1 _ _ _))).mono ?_; rintro e w' ⟨rfl, rfl⟩)
    | (refine ⟨trivial, ?_⟩; gi_at_call 33; refine (turns_in Fence.wide _ trivial rfl _ _ _).mono ?_; rintro e w' ⟨rfl, rfl⟩))
  have hW0 : ∃ W0 : World, W0 = (((w.alloc (Obj.cells #[Value.int IntKind.i64 r] 3)).alloc (Obj.cells #[Value.slice none 0 0] 31)).alloc (Obj.cells #[Value.int IntKind.i64 n] 3)).alloc (Obj.cells #[Value.int IntKind.i64 r] 3) := ⟨_, rfl⟩
  obtain ⟨W0, hW0⟩ := hW0
  rw [← hW0]
  have bO : Boxed W0 (w.heap.size + 1) 31 (.slice none 0 0) := by
    rw [hW0]
    have := ((Boxed.new (w.alloc (Obj.cells #[Value.int IntKind.i64 r] 3)) 31 (.slice none 0 0)).alloc (.cells #[Value.int IntKind.i64 n] 3)).alloc (.cells #[Value.int IntKind.i64 r] 3)
    rwa [World.size_alloc] at this
  have bN : W0.cell? ⟨w.heap.size + 2, 0, none⟩ = some (.int .i64 n) := by rw [hW0]; simp [go_sem]
  have bR : W0.cell? ⟨w.heap.size + 2 + 1, 0, none⟩ = some (.int .i64 r) := by rw [hW0]; simp [go_sem]
  have hB0 : Below w.heap.size w W0 := by rw [hW0]; exact ((((Below.refl _ w).alloc (Nat.le_refl _) _).alloc (by simp) _).alloc (by simp; omega) _).alloc (by simp; omega) _
  have hS0 : W0.heap.size = w.heap.size + 4 := by rw [hW0]; simp
  clear hW0
  refine wpIn_rangeFunc_ownG hro (by omega) (gf := 37) (lb := #[.pointer (some ⟨w.heap.size + 2, 0, none⟩), .pointer (some ⟨w.heap.size + 2 + 1, 0, none⟩)]) rfl trivial (enters_of Try.func37 (by kernel_rfl) rfl)
    (turns_stops Fence.wide (6 - 1) trivial hro (by omega) (w.heap.size + 2) n r f0 h1 h2 h3 hr HF W0 (by omega) bN bR) (fun h k => k.trans h) (cellKp_b (by omega)) (Below.refl _ _) (fun _ => rfl)
    (fun pre W => (∃ v, Boxed W (w.heap.size + 1) 31 v ∧ W.ownsRow (w.heap.size + 4) 3 1 v pre.length (pre.map (Value.int .i64)) ∧ (v = .slice none 0 0 ↔ pre = [])) ∧ Below w.heap.size w W ∧ w.heap.size + 4 ≤ W.heap.size)
    (fun _ _ _ => False)
    (OwnFrom.and (Own.from (holdsRow_own (w.heap.size + 4) (w.heap.size + 1) 31 3 1 (fun pre => List.length pre) (fun pre => pre.map (Value.int .i64)) (fun pre v => v = .slice none 0 0 ↔ pre = [])) _) (OwnFrom.and (ownFrom_below (Nat.le_refl _) (by omega)) (fun s A B row hs hg hr => Nat.le_trans hs hg.size)))
    (fun _ _ _ _ _ hs _ _ => hs)
    ⟨⟨_, bO, World.ownsRow_nil _ _ _ _, by simp⟩, hB0, by omega⟩
    (fun x => { tmps := #[Value.int IntKind.i64 n, Value.int IntKind.i64 r, undef, undef, Value.slice none 0 0, Value.int IntKind.i64 0,
          Value.int IntKind.i64 0, Value.pointer (some { block := w.heap.size + 1, off := 0 }), .int .i64 x,
          Value.int IntKind.i64 n, Value.int IntKind.i64 r, Value.slice (some { block := w.heap.size, off := 0 }) 1 1,
          Value.int IntKind.i64 0, Value.int IntKind.i64 0, Value.bool false, undef, Value.int IntKind.i64 n,
          Value.int IntKind.i64 r,
          Value.func (Fn.func 37) #[]
            #[Value.pointer (some { block := w.heap.size + 1 + 1, off := 0 }),
              Value.pointer (some { block := w.heap.size + 1 + 1 + 1, off := 0 })],
          .int .i64 x, undef, undef, undef, undef, undef], defers := [] }) ?assign ?body ?done ?stop
  case assign =>
    intro l x W K hK
    gi_wp2
    exact hK
  case body =>
    rintro l pre x W ⟨⟨v, hv, hrow, hnil⟩, hB, hsz⟩ hlt
    have hc := hv.cell
    gi_wp2_with (gi_at_builtin; refine wpListIn_append_own _ rfl _ _ 31 rfl (w.heap.size + 4) 3 i0 (.int .i64 0) 1 8 Try.underlying31 HI.out HZ0.out HZ1.out HZ2.out rfl (by decide) _ _ _ rfl (hrow.alloc _) ⟨W.heap.size, 0, none⟩ 1 1 [.int .i64 x] rfl rfl (cell_one_new _ _ _) (by simp [Value.oneCell']) (by unfold maxLen; omega) (by omega) (by simp; omega) ?_; intro v' w1 hown' hgrow _; obtain ⟨g', cap', rfl⟩ := ownsRow_succ hown'; obtain ⟨hv1, hv2, hr2, hk2, hb2⟩ := hv.appended (by decide) (ownsRow_lower hrow (Nat.le_add_right _ 4)) hB.size (by omega) (ownsRow_lower hown' (Nat.le_add_right _ 4)) hgrow; have hc1 := hv1.cell; have hf1 := hv1.frozen)
    have hr3 := hown'.kept (grownBy_setCell' w1 (w.heap.size + 1) (.slice (some ⟨g', 0, none⟩) (pre.length + 1) cap')) (.inr (hv1.not_row (by decide) hown').symm)
    exact ⟨hk2.from _, app_kept hrow hgrow (by show w.heap.size + 2 < w.heap.size + 4; omega) (by show w.heap.size + 2 ≠ w.heap.size + 1; omega) (by show w.heap.size + 2 < W.heap.size; omega), ⟨_, hv2, by simpa using hr3, by simp⟩, hB.trans hb2, Nat.le_trans hsz hb2.size⟩
  case done =>
    rintro D ys W hD rfl ⟨⟨v, hv, hrow, hnil⟩, hB, hsz⟩ hK
    have hc := hv.cell
    gi_wp2
    refine ⟨by simp, .inl ⟨_, _, rfl, run_takeDeferred hK, ?_⟩⟩
    have hrow' := ownsRow_putObj hrow (.deferred none) hK rfl
    rw [upto_length] at hrow'
    exact ⟨_, results_tmp2 rfl _ _ _, v, rfl, intsAt_of_owns (by omega) (ownsRow_lower hrow' (Nat.le_add_right _ 4)), hB.trans (belowK_b (w := w) (Nat.le_refl _) W D _ _ (by omega) hK rfl rfl)⟩
  case stop =>
    rintro D c pre W _ _ h _
    exact h.elim
end Go.Proofs.Ytklfbngmakkefaa
