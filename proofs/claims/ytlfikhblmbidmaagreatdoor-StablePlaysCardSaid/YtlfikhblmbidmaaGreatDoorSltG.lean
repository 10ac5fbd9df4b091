import Derived.Test.YtlfikhblmbidmaaGreatDoorMrgG
set_option linter.all false
namespace Go.Proofs.YtlfikhblmbidmaaGreatDoor
open Go.RowKit Go.Maps
attribute [local go_sem] Oper.semAt_some
theorem leaf_box {W w1 : World} {lo bO k : Nat} {T E : TypeId} {v v' : Value} {xs ys : List Value} {tmp : Obj} (hte : T ≠ E) (hv : Boxed W bO T v) (hrow : W.ownsRow lo E 1 v k xs) (hlo : lo ≤ W.heap.size)
  (hown : w1.ownsRow lo E 1 v' (k + 1) ys) (hg : (W.alloc tmp).grownBy w1 v.ownBlock) :
  Boxed w1 bO T v ∧ (∀ B, KeepsFrom B W (w1.setCell ⟨bO, 0, none⟩ v')) ∧ Fr (fun i => i = bO ∨ v.ownBlock = some i) W (w1.setCell ⟨bO, 0, none⟩ v') ∧
  Boxed (w1.setCell ⟨bO, 0, none⟩ v') bO T v' ∧ (w1.setCell ⟨bO, 0, none⟩ v').ownsRow lo E 1 v' (k + 1) ys := by
 have hv1 : Boxed w1 bO T v := (hv.alloc tmp).kept hg (hv.not_row hte hrow)
 have hk : KeepsOthers W (w1.setCell ⟨bO, 0, none⟩ v') := by
  refine ((KeepsOthers.alloc W tmp).trans (KeepsOthers.of_grownBy hg fun j o ej hj => ?_)).trans (KeepsOthers.setCell _ _ _)
  rcases (hrow.alloc tmp).2 with ⟨rfl, _⟩ | ⟨g, cap, cur, rfl, _, hgb, _⟩
  ·simp [Value.ownBlock] at ej
  ·obtain rfl : g = j := by simpa [Value.ownBlock] using ej
   rw [hgb] at hj; cases hj; rfl
 have hfr : Fr (fun i => i = bO ∨ v.ownBlock = some i) W (w1.setCell ⟨bO, 0, none⟩ v') :=
  (((Fr.refl _ W).alloc tmp).trans' (Fr.of_grown (S := fun i => v.ownBlock = some i) hg (fun i e => e)) (fun i _ e => .inr e)).setCell (p := ⟨bO, 0, none⟩) (.inl (.inl rfl)) v'
 exact ⟨hv1, fun B => hk.from B, hfr, hv1.set v', hown.kept (grownBy_setCell' w1 bO v') (.inr (hv1.not_row hte hown).symm)⟩
theorem row_lo {W : World} {lo k size : Nat} {E : TypeId} {v : Value} {xs : List Value} (h : W.ownsRow lo E size v k xs) {i : Nat} (e : v.ownBlock = some i) : lo ≤ i ∧ i < W.heap.size := by
 rcases h.2 with ⟨rfl, _⟩ | ⟨g, cap, cur, rfl, hb, hgb, _⟩
 ·simp [Value.ownBlock] at e
 ·obtain rfl : g = i := by simpa [Value.ownBlock] using e
  exact ⟨hb, (Array.getElem?_eq_some_iff.1 hgb).1⟩
theorem info_str : (Tryz.prog.info? 9).map (fun i => (i.zero, i.size, i.bytes)) = some (some (.string ⟨#[]⟩), 1, 16) := by kernel_rfl
def gapP (pre : List SltX) : List Int := (pre.filter fun x => !x.2).map (·.1)
theorem gapP_snoc (pre : List SltX) (x : SltX) : gapP (pre ++ [x]) = gapP pre ++ (if x.2 then [] else [x.1]) := by
 unfold gapP
 rw [List.filter_append, List.map_append]
 cases h : x.2 <;> simp [h]
theorem fromL_cons (L : VL) (u : Int) (n : Nat) : fromL L u (n + 1) = (u, (get u L).isSome) :: fromL L (u + 1) n := by
 unfold fromL
 rw [List.range_succ_eq_map, List.map_cons, List.map_map]
 congr 1
 ·simp
 ·refine List.map_congr_left fun j _ => ?_
  show (u + ((j + 1 : Nat) : Int), _) = (u + 1 + (j : Int), _)
  rw [show u + ((j + 1 : Nat) : Int) = u + 1 + (j : Int) by omega]
theorem gapP_from (L : VL) : ∀ (n : Nat) (u : Int), gapP (fromL L u n) = lgapsF L u n
 | 0, u => rfl
 | n + 1, u => by
  rw [fromL_cons, lgapsF, ← gapP_from L n (u + 1)]
  unfold gapP
  cases h : (get u L).isSome <;> simp [h]
theorem gapP_len (pre : List SltX) : (gapP pre).length ≤ pre.length := by
 unfold gapP
 rw [List.length_map]
 exact List.length_filter_le _ _
structure GpI (w : World) (pre : List SltX) (W : World) : Prop where
 row : ∃ v, Boxed W w.heap.size 31 v ∧ W.ownsRow (w.heap.size + 3) 3 1 v (gapP pre).length ((gapP pre).map fun x => .int .i64 x)
 bel : Below w.heap.size w W
 sz : w.heap.size + 3 ≤ W.heap.size
set_option maxRecDepth 100000 in
set_option maxHeartbeats 2000000 in
theorem lgaps_any {w : World} {p m : Nat} {s : LogSt} (h : LogAt w p m s) (hg : LGood s) :
    Calls Tryz.prog 117 #[.pointer (some ⟨p, 0, none⟩)] w fun e w' => ∃ vo, e = .returned vo ∧ w'.ownsRow w.heap.size 3 1 vo (lgaps s).length ((lgaps s).map fun x => .int .i64 x) ∧ Below w.heap.size w w' := by
  refine (callsIn_wide (n := 6)).1 ?_
  have hro : Fence.wide.round = none := rfl
  obtain ⟨i0, hi, hz0, hz1, hz2⟩ := info_parts info_int
  have HI := Lib.hid hi
  have HZ0 := Lib.hid hz0
  have HZ1 := Lib.hid hz1
  have HZ2 := Lib.hid hz2
  clear hi hz0 hz1 hz2
  have c0 := h.c0
  have hlt := h.lt
  have hu : 0 ≤ s.upto ∧ s.upto ≤ s.top := ⟨by have := hg.b0; have := hg.bu; omega, hg.ut⟩
  have ht := hg.t1
  have H := Lib.hid h
  have hb1 : Below w.heap.size w (w.alloc (.cells #[.slice none 0 0] 31)) := (Below.refl _ w).alloc (Nat.le_refl _) _
  have d2 := (h.below hb1).c2
  clear h
  refine callsIn_of_wp_marks Tryz.func117 rfl trivial ?_ hro
  simp only [Tryz.ntmps117, List.size_toArray, List.length_cons, List.length_nil, Nat.reduceAdd, Nat.reduceSub, Array.replicate_succ, Array.replicate_zero, List.push_toArray, List.append_toArray, List.nil_append, List.cons_append]
  gi_wp2_with (first
    | (refine ⟨trivial, ?_⟩; gi_at_call 125; refine (callsIn_wide.2 (lmade_yes p m w c0)).mono ?_; rintro e w' ⟨rfl, rfl⟩)
    | (refine ⟨trivial, ?_⟩; gi_at_call 182; refine (callsIn_wide.2 (from_any p s.upto _)).mono ?_; rintro e w3 ⟨rfl, rfl⟩))
  have hB2 : Below w.heap.size w (((w.alloc (Obj.cells #[Value.slice none 0 0] 31)).alloc (Obj.cells #[Value.pointer (some { block := p, off := 0 })] 36)).alloc (Obj.cells #[Value.int IntKind.i64 s.upto] 3)) := ((hb1.alloc (by simp) _).alloc (by simp; omega) _)
  have bO : Boxed (((w.alloc (Obj.cells #[Value.slice none 0 0] 31)).alloc (Obj.cells #[Value.pointer (some { block := p, off := 0 })] 36)).alloc (Obj.cells #[Value.int IntKind.i64 s.upto] 3)) w.heap.size 31 (.slice none 0 0) := ((Boxed.new w _ _).alloc _).alloc _
  have b1 : Boxed (((w.alloc (Obj.cells #[Value.slice none 0 0] 31)).alloc (Obj.cells #[Value.pointer (some { block := p, off := 0 })] 36)).alloc (Obj.cells #[Value.int IntKind.i64 s.upto] 3)) (w.heap.size + 1) 36 (.pointer (some ⟨p, 0, none⟩)) := by
    have := (Boxed.new (w.alloc (Obj.cells #[Value.slice none 0 0] 31)) 36 (.pointer (some ⟨p, 0, none⟩))).alloc (Obj.cells #[Value.int IntKind.i64 s.upto] 3)
    rwa [World.size_alloc] at this
  have b2 : Boxed (((w.alloc (Obj.cells #[Value.slice none 0 0] 31)).alloc (Obj.cells #[Value.pointer (some { block := p, off := 0 })] 36)).alloc (Obj.cells #[Value.int IntKind.i64 s.upto] 3)) (w.heap.size + 1 + 1) 3 (.int .i64 s.upto) := by
    have := (Boxed.new ((w.alloc (Obj.cells #[Value.slice none 0 0] 31)).alloc (Obj.cells #[Value.pointer (some { block := p, off := 0 })] 36)) 3 (.int .i64 s.upto))
    rwa [World.size_alloc, World.size_alloc] at this
  have hS2 : (((w.alloc (Obj.cells #[Value.slice none 0 0] 31)).alloc (Obj.cells #[Value.pointer (some { block := p, off := 0 })] 36)).alloc (Obj.cells #[Value.int IntKind.i64 s.upto] 3)).heap.size = w.heap.size + 3 := by simp
  have HL2 := Lib.hid (H.out.below hB2)
  clear d2 c0 hb1
  generalize (((w.alloc (Obj.cells #[Value.slice none 0 0] 31)).alloc (Obj.cells #[Value.pointer (some { block := p, off := 0 })] 36)).alloc (Obj.cells #[Value.int IntKind.i64 s.upto] 3)) = W0 at *
  refine wpIn_rangeFunc_ownG hro (by omega) (gf := 214) (lb := #[.pointer (some ⟨w.heap.size + 1 + 1, 0, none⟩), .pointer (some ⟨w.heap.size + 1, 0, none⟩)]) rfl trivial (enters_of Tryz.func214 (by kernel_rfl) rfl)
    (from_stops (6 - 1) (by omega) p m (w.heap.size + 1 + 1) (w.heap.size + 1) s s.upto W0 hu ht HL2.out.c0 HL2.out.c3 HL2.out.map b2 b1) (fun h k => h.trans k) (fun W l o o' hl ho hc hw => by
      have lw := (Array.getElem?_eq_some_iff.1 ho).1
      exact KpS.of_fr (S := fun i => i = l) (Fr.of_grown (grownBy_putObj' W l o') (fun i e => by cases e; rfl)) (by omega) (by omega) (by omega) (by omega) (by omega) (by omega) (by omega) (by omega)) (Below.refl _ _) (fun _ => rfl)
    (fun pre W => GpI w pre W) (fun c pre W => False)
    (fun pre A C row hs hg hr => by
      obtain ⟨⟨v, h1, h2⟩, h3, h4⟩ := hs
      have hr1 := (Own.from (holdsRow_own (w.heap.size + 3) w.heap.size 31 3 1 (fun pre : List SltX => (gapP pre).length) (fun pre : List SltX => (gapP pre).map fun x => Value.int .i64 x) (fun _ _ => True)) _) pre A C row ⟨v, h1, h2, trivial⟩ hg hr
      obtain ⟨v, h1, h2, _⟩ := hr1
      refine ⟨⟨v, h1, h2⟩, (ownFrom_below (Nat.le_refl _) (by omega)) pre A C row h3 hg hr, Nat.le_trans h4 hg.size⟩)
    (fun c pre A C row hs hg hr => hs.elim)
    ⟨⟨_, bO, World.ownsRow_nil _ _ _ _⟩, hB2, by omega⟩
    (fun x => { tmps := #[.pointer (some ⟨p, 0, none⟩), undef, .slice none 0 0, .pointer (some ⟨w.heap.size, 0, none⟩), .int .i64 x.1, .bool x.2,
          .pointer (some ⟨p, 0, none⟩), .bool true, .bool false, .pointer (some ⟨p, 0, none⟩), .pointer (some ⟨p, 0, none⟩), .pointer (some ⟨p, 0, none⟩), .pointer (some ⟨p, 2, none⟩),
          .int .i64 s.upto, .func (.func 214) #[] #[.pointer (some ⟨w.heap.size + 1 + 1, 0, none⟩), .pointer (some ⟨w.heap.size + 1, 0, none⟩)],
          .int .i64 x.1, .bool x.2, undef, undef, undef, undef, undef, undef, undef], defers := [] }) ?assign ?body ?done ?stop
  case assign =>
    intro l x W K hK
    gi_wp2
    exact hK
  case body =>
    rintro l pre ⟨i, is⟩ W ⟨⟨v, h1, h2⟩, h3, h4⟩ hlt
    have hc1 := h1.cell
    have hgl := gapP_len pre
    have hsn := gapP_snoc pre (i, is)
    have H1 := Lib.hid h1
    have H2 := Lib.hid h2
    have H3 := Lib.hid h3
    have HSN := Lib.hid hsn
    clear h1 h2 h3 hsn
    cases is
    · gi_wp2_with (gi_at_builtin; refine wpListIn_append_own _ rfl _ _ 31 rfl (w.heap.size + 3) 3 i0 (.int .i64 0) 1 8 Tryz.underlying31 HI.out HZ0.out HZ1.out HZ2.out rfl (by decide) _ _ _ rfl (H2.out.alloc _) ⟨W.heap.size, 0, none⟩ 1 1 [.int .i64 i] rfl rfl (cell_one_new _ _ _) (by simp [Value.oneCell']) (by unfold maxLen; omega) (by omega) (by simp; omega) ?_; intro v' w1 hown' hgrow _; obtain ⟨g', cap', rfl⟩ := ownsRow_succ hown'; have HL := Lib.hid (leaf_box (by decide) H1.out H2.out h4 hown' hgrow); have q1 := HL.out.1.cell; have q2 := HL.out.1.frozen; clear hown' hgrow)
      obtain ⟨_, k1, kf, k3, k4⟩ := HL.out
      have hrl := fun i (e : v.ownBlock = some i) => row_lo H2.out e
      have hS : ∀ i, (i = w.heap.size ∨ v.ownBlock = some i) → w.heap.size ≤ i ∧ (i = w.heap.size ∨ w.heap.size + 3 ≤ i) := fun i e => by
        rcases e with e | e
        · omega
        · have := hrl i e; omega
      refine ⟨k1 _, KpS.of_fr kf (fun e => by have := hS _ e; omega) (fun e => by have := hS _ e; omega) (fun e => by have := hS _ e; omega) (fun e => by have := hS _ e; omega) (by omega) (by omega) (by omega) (by omega), ⟨_, k3, ?_⟩, H3.out.trans (kf.below H3.out.size (fun i e => (hS i e).1)), Nat.le_trans h4 kf.size⟩
      rw [HSN.out]
      simp only [Bool.false_eq_true, if_false, List.length_append, List.map_append]
      exact k4
    · gi_wp2
      refine ⟨KeepsFrom.refl _ _, KpS.refl _ _ _ _ _, ⟨_, H1.out, ?_⟩, H3.out, h4⟩
      rw [HSN.out]
      simp only [if_true, List.append_nil]
      exact H2.out
  case done =>
    rintro D ys W hD rfl ⟨⟨v, h1, h2⟩, h3, h4⟩ hK
    rw [gapP_from] at h2
    obtain ⟨a9, c9, rfl⟩ := row_len h2
    have hc1 := h1.cell
    gi_wp2
    refine ⟨by simp, .inl ⟨_, _, rfl, run_takeDeferred hK, ?_⟩⟩
    refine ⟨_, by simp [results, Tryz.results117, go_sem], _, rfl, World.ownsRow.mono (ownsRow_putObj h2 (.deferred none) hK rfl) (by omega), h3.trans (belowK_b (w := W0) (by omega) W D _ _ hD hK rfl rfl)⟩
  case stop =>
    rintro D c pre W hD _ h hK
    exact h.elim
end Go.Proofs.YtlfikhblmbidmaaGreatDoor