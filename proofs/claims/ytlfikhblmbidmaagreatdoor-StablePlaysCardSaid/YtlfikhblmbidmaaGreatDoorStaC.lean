import Derived.Test.YtlfikhblmbidmaaGreatDoorMrgH
import Derived.Deep.RegionHeld3
import Derived.Deep.DeepCutAuto
import Derived.Deep.CutBlock
import Derived.Deep.LoopGhost
set_option linter.all false
namespace Go.Proofs.YtlfikhblmbidmaaGreatDoor
open Go.RowKit Go.Maps
theorem base_cells (p : Nat) (n base : Int) (w : World) (hn : 0 < n) (c0 : w.cell? ⟨p, 0, none⟩ = some (.int .i64 n)) (c4 : w.cell? ⟨p, 4, none⟩ = some (.int .i64 base)) :
  Calls Tryz.prog 79 #[.pointer (some ⟨p, 0, none⟩)] w fun e w' => e = .returned (.int .i64 base) ∧ w = w' := by
 go_enter Tryz.func79, Tryz.ntmps79
 go_wp2_with (go_at_call 119; refine (avalid p n _ c0 hn).mono ?_; rintro e w' ⟨rfl, rfl⟩)
 go_returns
 exact ⟨rfl, rfl⟩
theorem ints_at (w : World) (b : Nat) (hb : w.heap.size = b) (xs : List Nat) : ∀ (j x : Nat), xs[j]? = some x → (w.alloc (.cells (xs.map fun (x : Nat) => Value.int .i64 (x : Int)).toArray 3)).cell? ⟨b, j, none⟩ = some (.int .i64 (x : Int)) := by
 subst hb
 exact ints_new w xs
theorem ints_at2 (w : World) (o : Obj) (b : Nat) (hb : w.heap.size = b) (xs : List Nat) : ∀ (j x : Nat), xs[j]? = some x → ((w.alloc (.cells (xs.map fun (x : Nat) => Value.int .i64 (x : Int)).toArray 3)).alloc o).cell? ⟨b, j, none⟩ = some (.int .i64 (x : Int)) :=
 fun j x hj => Lib.cell?_alloc_some _ (ints_at w b hb xs j x hj)
theorem lbase_cells (p m : Nat) (b : Int) (w : World) (c0 : w.cell? ⟨p, 0, none⟩ = some (.map (some m))) (c1 : w.cell? ⟨p, 1, none⟩ = some (.int .i64 b)) :
  Calls Tryz.prog 81 #[.pointer (some ⟨p, 0, none⟩)] w fun e w' => e = .returned (.int .i64 b) ∧ w = w' := by
 go_enter Tryz.func81, Tryz.ntmps81
 go_wp2_with (go_at_call 125; refine (lmade_yes p m w c0).mono ?_; rintro e w' ⟨rfl, rfl⟩)
 go_returns
 exact ⟨rfl, rfl⟩
theorem keep_set {w : World} {bl p bx : Nat} {a b c d x : Value} (h1 : bl ≠ bx) (h2 : p ≠ bx) (h : w.cell? ⟨bl, 0, none⟩ = some a ∧ w.cell? ⟨bl, 1, none⟩ = some b ∧ w.cell? ⟨p, 0, none⟩ = some c ∧ w.cell? ⟨p, 4, none⟩ = some d) :
  (w.setCell ⟨bx, 0, none⟩ x).cell? ⟨bl, 0, none⟩ = some a ∧ (w.setCell ⟨bx, 0, none⟩ x).cell? ⟨bl, 1, none⟩ = some b ∧ (w.setCell ⟨bx, 0, none⟩ x).cell? ⟨p, 0, none⟩ = some c ∧ (w.setCell ⟨bx, 0, none⟩ x).cell? ⟨p, 4, none⟩ = some d := by
 have e : ∀ (q i : Nat), q ≠ bx → (w.setCell ⟨bx, 0, none⟩ x).cell? ⟨q, i, none⟩ = w.cell? ⟨q, i, none⟩ := fun q i hq => World.cell?_of_block (Below.heap_setCell w _ _ q hq)
 rw [e _ _ h1, e _ _ h1, e _ _ h2, e _ _ h2]
 exact h
def Cut4 (W : World) (bs : List UInt8) (t9 : Value) (wx : World) : Prop :=
 ∃ bx p v, t9 = .pointer (some ⟨bx, 0, none⟩) ∧ Blk wx bx 100 #[.pointer (some ⟨p, 0, none⟩)] ∧ WrAt wx p v bs ∧ Below W.heap.size W wx ∧ W.heap.size ≤ p ∧ W.heap.size ≤ bx
theorem leaf4 {W X w8 : World} {pw bx : Nat} {vw : Value} {bs : List UInt8} (hX : Below W.heap.size W X) (hW : WrAt w8 pw vw bs) (hpw : X.heap.size ≤ pw) (hb : Below X.heap.size X w8) (hbx : Blk w8 bx 100 #[.pointer none]) (hlo : W.heap.size ≤ bx) (hlt : bx < X.heap.size) :
  Cut4 W bs (.pointer (some ⟨bx, 0, none⟩)) (w8.setCell ⟨bx, 0, none⟩ (.pointer (some ⟨pw, 0, none⟩))) := by
 have hs := hX.size
 refine ⟨bx, pw, vw, rfl, hbx.set 0 _, hW.fr ((Fr.refl (S1 bx) w8).setCell (p := ⟨bx, 0, none⟩) (.inl (show _ = _ from rfl)) _) (fun e => ?_) (fun i e e' => ?_), (hX.trans (hb.mono hs)).setCell (p := ⟨bx, 0, none⟩) hlo _, by omega, hlo⟩
 ·have e : pw = bx := e
  omega
 ·have e' : i = bx := e'
  have := (hW.row.lt i e).1
  omega
theorem leaf4b {W X w8 : World} {pw : Nat} {vw : Value} {bs : List UInt8} (hX : Below W.heap.size W X) (hW : WrAt w8 pw vw bs) (hpw : X.heap.size ≤ pw) (hb : Below X.heap.size X w8) :
  Cut4 W bs (.pointer (some ⟨w8.heap.size, 0, none⟩)) (w8.alloc (.cells #[.pointer (some ⟨pw, 0, none⟩)] 100)) := by
 have hs := hX.size
 have hs8 := hb.size
 exact ⟨w8.heap.size, pw, vw, rfl, Blk.new w8 _ _, hW.fr ((Fr.refl S0 w8).alloc _) (fun e => e) (fun i _ e => e), (hX.trans (hb.mono hs)).alloc (by omega) _, by omega, by omega⟩
structure CmpW (W : World) (bx pw : Nat) (bs : List UInt8) (X : World) : Prop where
 box : Blk X bx 100 #[.pointer (some ⟨pw, 0, none⟩)]
 wr : ∃ v, WrAt X pw v bs
 bel : Below W.heap.size W X
 lo : W.heap.size ≤ pw
 lb : W.heap.size ≤ bx
theorem CmpW.below {W X Y : World} {bx pw : Nat} {bs : List UInt8} (h : CmpW W bx pw bs X) (b : Below X.heap.size X Y) : CmpW W bx pw bs Y := by
 obtain ⟨v, hv⟩ := h.wr
 exact ⟨h.box.of_block (b.block _ h.box.lt), ⟨v, hv.fr (Fr.of_below b : Fr S0 X Y) (fun e => e) (fun i _ e => e)⟩, h.bel.trans (b.mono h.bel.size), h.lo, h.lb⟩
theorem CmpW.step {W X Y : World} {bx pw : Nat} {bs bs' : List UInt8} {v v' : Value} (h : CmpW W bx pw bs X) (hv : WrAt X pw v bs) (s : WStep X pw v Y v' bs') : CmpW W bx pw bs' Y := by
 have hne : ∀ i, (i = pw ∨ v.ownBlock = some i) → i ≠ bx := fun i e => by
  rcases e with rfl | e
  ·exact hv.blk.ne_type h.box (by decide)
  ·rintro rfl
   have := row_type hv.row (T := 100) (by decide) i e
   exact this _ _ h.box
 exact ⟨h.box.fr s.fr (fun e => hne _ e rfl), ⟨v', s.at_⟩, h.bel.trans (s.fr.below h.bel.size (fun i e => by
  rcases e with rfl | e
  ·exact h.lo
  ·have := (hv.row.lt i e).1
   have := h.lo
   omega)), h.lo, h.lb⟩
theorem wstep_blk {X Y : World} {pw e : Nat} {T : TypeId} {cs : Array Value} {bs bs' : List UInt8} {v v' : Value} (hb : Blk X e T cs) (hv : WrAt X pw v bs) (s : WStep X pw v Y v' bs') (h1 : T ≠ 201) (h2 : T ≠ 5) : Blk Y e T cs :=
 hb.fr s.fr (fun i => by
  rcases i with rfl | i
  ·exact hb.ne_type hv.blk h1 rfl
  ·exact row_type hv.row (T := T) (Ne.symm h2) e i _ _ hb)
theorem wstep_keep {X Y : World} {pw : Nat} (T : TypeId) {bs bs' : List UInt8} {v v' : Value} (hv : WrAt X pw v bs) (s : WStep X pw v Y v' bs') (h1 : T ≠ 201) (h2 : T ≠ 5) : KeepT T X Y := KeepT.of_fr s.fr (fun i e cs z hz => by
 rcases e with rfl | e
 ·have := (show X.heap[i]? = _ from hv.blk).symm.trans hz
  simp only [Option.some.injEq, Obj.cells.injEq] at this
  exact h1 this.2.1.symm
 ·exact row_type hv.row (T := T) (Ne.symm h2) i e _ _ hz)
set_option maxRecDepth 100000 in
set_option maxHeartbeats 4000000 in
theorem compact_any {w : World} {dp dq p m q k : Nat} {v sv : Value} {ds : DSt} {s : NSt} (h : DiskAt w dp dq v sv ds) (hg : DGood ds) (hn : NS w p m q k s) (hT : (snapB s).length ≤ 80000000) (hV : ∀ x ∈ s.a.L, x.2.2.2.size ≤ 65536) :
  Calls Tryz.prog 17 #[.pointer (some ⟨dp, 0, none⟩), .pointer (some ⟨p, 0, none⟩), .pointer (some ⟨q, 0, none⟩)] w fun e w' =>
   (65536 < (snapB s).length → e = .returned (.int .i64 11) ∧ Below w.heap.size w w') ∧
   ((snapB s).length ≤ 65536 → e = .returned (.int .i64 0) ∧ ∃ sv', DStep w dp dq v sv w' (.slice none 0 0) sv' ⟨[], 0, snapB s, true⟩) := by
 have H := Lib.hid h
 have HN := Lib.hid hn
 clear h hn
 obtain ⟨⟨an, ar, ad, ab, aL⟩, ⟨lb, lu, lt, lL⟩⟩ := s
 have hga := HN.out.a.good
 have hgl := HN.out.l.good
 have hrg := hga.range
 have hlb0 := hgl.b0
 have hba := hga.base
 have h0 := hga.list0
 have hlen := hga.len
 have hpos := HN.out.a.pos
 simp only at hrg hba h0 hlen hpos hlb0
 obtain ⟨rr, rfl⟩ := Int.eq_ofNat_of_zero_le hrg.1
 obtain ⟨dd, rfl⟩ := Int.eq_ofNat_of_zero_le hrg.2.2.1
 obtain ⟨bb, rfl⟩ := Int.eq_ofNat_of_zero_le hba.1
 obtain ⟨lb, rfl⟩ := Int.eq_ofNat_of_zero_le hlb0
 have HGA := Lib.hid hga
 have HGL := Lib.hid hgl
 have hx4 : ∀ x ∈ [rr, dd, bb, aL.length], x < 9223372036854775808 := by simp; omega
 have HX4 := Lib.hid hx4
 clear hga hgl hx4
 go_enter Tryz.func17, Tryz.ntmps17
 go_upto_region 4 with (first
  | (go_at_call 58; refine (dcopy_any H.out hg).mono ?_; rintro e w2 ⟨_, _, _, _, rfl, _, _, hb2⟩; have HB2 := Lib.hid hb2; have HN2 := Lib.hid (HN.out.below hb2); clear hb2)
  | (go_at_call 60; refine (copy_S p m _ w2 HN2.out.a).mono ?_; rintro e w3 ⟨_, _, rfl, _, _, _, hb3⟩; have HB3 := Lib.hid hb3; have HN3 := Lib.hid (HN2.out.below hb3); clear hb3)
  | (go_at_call 61; refine (lcopy_any HN3.out.l).mono ?_; rintro e w4 ⟨_, _, rfl, _, _, _, hb4⟩; have HB4 := Lib.hid hb4; have HN4 := Lib.hid (HN3.out.below hb4); clear hb4)
  | (go_at_call 77; refine (promised_S p m _ w4 HN4.out.a).mono ?_; rintro e w5 ⟨rfl, hb5⟩; have HB5 := Lib.hid hb5; have HN5 := Lib.hid (HN4.out.below hb5); clear hb5)
  | (go_at_call 78; refine (list_S p m _ w5 0 HN5.out.a).mono ?_; rintro e w6 ⟨vE, rfl, hE, hb6⟩; rw [h0] at hE; have HB6 := Lib.hid hb6; have HN6 := Lib.hid (HN5.out.below hb6); have HE6 := Lib.hid hE; clear hb6 hE))
 have hb7 : Below w6.heap.size w6 (w6.alloc (.cells #[.int .i64 (rr : Int), .int .i64 (dd : Int)] 24)) := (Below.refl _ _).alloc (Nat.le_refl _) _
 have e0 := (Blk.new w6 24 #[.int .i64 (rr : Int), .int .i64 (dd : Int)]).cell (i := 0) (v := .int .i64 (rr : Int)) rfl
 have e1 := (Blk.new w6 24 #[.int .i64 (rr : Int), .int .i64 (dd : Int)]).cell (i := 1) (v := .int .i64 (dd : Int)) rfl
 have hn7 := HN6.out.below hb7
 have he7 := HE6.out.below hb7
 have c0 := hn7.a.at_.c0
 have c4 := hn7.a.at_.c4
 have hB7 := bchain (bchain (bchain (bchain (bchain HB2.out HB3.out) HB4.out) HB5.out) HB6.out) hb7
 obtain ⟨bl, hbl⟩ : ∃ bl, bl = w6.heap.size := ⟨_, rfl⟩
 rw [← hbl] at e0 e1 ⊢
 have HN7 := Lib.hid hn7
 have HE7 := Lib.hid he7
 have HB7 := Lib.hid hB7
 obtain ⟨A7, c7, rfl, _, _⟩ := he7.view
 clear hb7 hn7 he7 hB7 hbl HE6 HN2 HN3 HN4 HN5 HN6 HB2 HB3 HB4 HB5 HB6
 generalize (w6.alloc (.cells #[.int .i64 (rr : Int), .int .i64 (dd : Int)] 24)) = W at *
 go_cut [9] (fun t9 wx => Cut4 W (uintsB [rr, dd, bb, aL.length]) t9 wx)
 case first =>
  have hblW : bl < W.heap.size := by obtain ⟨o, ho, _⟩ := cells_of_cell e0; exact (Array.getElem?_eq_some_iff.1 ho).1
  have hpW : p < W.heap.size := HN7.out.a.lt.1
  clear HE7 HN7 HB7 HN HGA HGL H
  as_aux_lemma =>
   refine wp_region_held_drew (S := (fun X => X.cell? ⟨bl, 0, none⟩ = some (.int .i64 (rr : Int)) ∧ X.cell? ⟨bl, 1, none⟩ = some (.int .i64 (dd : Int)) ∧ X.cell? ⟨p, 0, none⟩ = some (.int .i64 an) ∧ X.cell? ⟨p, 4, none⟩ = some (.int .i64 (bb : Int)))) (by kernel_rfl) ?_ (fun hHeld => ?_)
   ·exact ⟨e0, e1, c0, c4⟩
   try dsimp only at hHeld
   refine hY 0 (some 39) hHeld ?_
   refine hY 1 (some 40) hHeld ?_
   refine hY 2 (some 41) hHeld ?_
   refine hY 3 (some 42) hHeld ?_
   refine hY 4 (some 43) hHeld ?_
   refine hY 6 (some 45) hHeld ?_
   refine hY 7 (some 46) hHeld ?_
   refine wpAnyH_ready (rs := [5, 10]) (by kernel_rfl) (by simp) ?_
   refine (AllReadyH.cons rfl (fun K' hK' => ?_) (AllReadyH.cons rfl (fun K' hK' => ?_) AllReadyH.nil))
   ·go_simp
    (refine (base_cells p an (bb : Int) _ hpos hHeld.2.2.1 hHeld.2.2.2).mono ?_; rintro e w8 ⟨rfl, rfl⟩)
    go_wp2_with fail
    refine hK'.out _ _ ?_ (fun hHeld => ?_)
    ·first | exact hHeld | exact ⟨x0, x1, x2, x3⟩ | exact ⟨Lib.cell?_alloc_some _ x0, Lib.cell?_alloc_some _ x1, Lib.cell?_alloc_some _ x2, Lib.cell?_alloc_some _ x3⟩ | exact keep_set (by omega) (by omega) ⟨x0, x1, x2, x3⟩ | go_keep
    clear hK' K'
    try dsimp only at hHeld
    try simp only [Act.put, List.setIfInBounds_toArray, List.set_cons_zero, List.set_cons_succ]
    refine wpAnyH_ready (rs := [8, 10]) (by kernel_rfl) (by simp) ?_
    refine (AllReadyH.cons rfl (fun K' hK' => ?_) (AllReadyH.cons rfl (fun K' hK' => ?_) AllReadyH.nil))
    ·go_simp
     refine hK'.out _ _ ?_ (fun hHeld => ?_)
     ·first | exact hHeld | exact ⟨x0, x1, x2, x3⟩ | exact ⟨Lib.cell?_alloc_some _ x0, Lib.cell?_alloc_some _ x1, Lib.cell?_alloc_some _ x2, Lib.cell?_alloc_some _ x3⟩ | exact keep_set (by omega) (by omega) ⟨x0, x1, x2, x3⟩ | go_keep
     clear hK' K'
     try dsimp only at hHeld
     try simp only [Act.put, List.setIfInBounds_toArray, List.set_cons_zero, List.set_cons_succ]
     refine wpAnyH_ready (rs := [9, 10]) (by kernel_rfl) (by simp) ?_
     refine (AllReadyH.cons rfl (fun K' hK' => ?_) (AllReadyH.cons rfl (fun K' hK' => ?_) AllReadyH.nil))
     ·go_simp
      (refine (newWriter_any _ 4 [rr, dd, bb, aL.length] _ (by simp) HX4.out (by first | (simp; done) | (simp; omega)) (by first | exact ints_at _ _ (by simp) [rr, dd, bb, aL.length] | exact ints_at2 _ _ _ (by simp) [rr, dd, bb, aL.length])).mono ?_; rintro e w8 ⟨pw, vw, rfl, hW8, hpw, hb8⟩; have x0 := bcell hb8 hHeld.1; have x1 := bcell hb8 hHeld.2.1; have x2 := bcell hb8 hHeld.2.2.1; have x3 := bcell hb8 hHeld.2.2.2; (first | (have hbx : Blk w8 W.heap.size 100 #[.pointer none] := (show Blk ((W.alloc (.cells #[.pointer none] 100)).alloc (.cells #[.int .i64 (rr : Int), .int .i64 (dd : Int), .int .i64 (bb : Int), .int .i64 ((aL.length : Nat) : Int)] 3)).drew W.heap.size 100 #[.pointer none] from (Blk.new W 100 #[.pointer none]).alloc _).of_block (hb8.block _ (by first | (simp; done) | (simp; omega)))) | (have hbx : Blk w8 (W.heap.size + 1) 100 #[.pointer none] := (show Blk ((W.alloc (.cells #[.int .i64 (rr : Int), .int .i64 (dd : Int), .int .i64 (bb : Int), .int .i64 ((aL.length : Nat) : Int)] 3)).alloc (.cells #[.pointer none] 100)).drew (W.heap.size + 1) 100 #[.pointer none] from blk_new1 W _ _ _).of_block (hb8.block _ (by first | (simp; done) | (simp; omega)))) | (have hbx : True := trivial)); (try have x5 := Blk.cell (i := 0) (v := .pointer none) hbx rfl); (try have z5 := Blk.frozen hbx 0); have HW8 := Lib.hid hW8; have HB8 := Lib.hid hb8; have HBX := Lib.hid hbx; clear hW8 hb8 hbx)
      go_wp2_with fail
      refine hK'.out _ _ ?_ (fun hHeld => ?_)
      ·first | exact hHeld | exact ⟨x0, x1, x2, x3⟩ | exact ⟨Lib.cell?_alloc_some _ x0, Lib.cell?_alloc_some _ x1, Lib.cell?_alloc_some _ x2, Lib.cell?_alloc_some _ x3⟩ | exact keep_set (by omega) (by omega) ⟨x0, x1, x2, x3⟩ | go_keep
      clear hK' K'
      try dsimp only at hHeld
      try simp only [Act.put, List.setIfInBounds_toArray, List.set_cons_zero, List.set_cons_succ]
      refine wpAnyH_ready (rs := [10]) (by kernel_rfl) (by simp) ?_
      refine (AllReadyH.cons rfl (fun K' hK' => ?_) AllReadyH.nil)
      go_simp
      refine hK'.out _ _ ?_ (fun hHeld => ?_)
      ·first | exact hHeld | exact ⟨x0, x1, x2, x3⟩ | exact ⟨Lib.cell?_alloc_some _ x0, Lib.cell?_alloc_some _ x1, Lib.cell?_alloc_some _ x2, Lib.cell?_alloc_some _ x3⟩ | exact keep_set (by omega) (by omega) ⟨x0, x1, x2, x3⟩ | go_keep
      clear hK' K'
      try dsimp only at hHeld
      try simp only [Act.put, List.setIfInBounds_toArray, List.set_cons_zero, List.set_cons_succ]
      refine wpAnyH_ready (rs := [11]) (by kernel_rfl) (by simp) ?_
      refine (AllReadyH.cons rfl (fun K' hK' => ?_) AllReadyH.nil)
      go_simp
      refine hK'.out _ _ ?_ (fun hHeld => ?_)
      ·first | exact hHeld | exact ⟨x0, x1, x2, x3⟩ | exact ⟨Lib.cell?_alloc_some _ x0, Lib.cell?_alloc_some _ x1, Lib.cell?_alloc_some _ x2, Lib.cell?_alloc_some _ x3⟩ | exact keep_set (by omega) (by omega) ⟨x0, x1, x2, x3⟩ | go_keep
      clear hK' K'
      try dsimp only at hHeld
      try simp only [Act.put, List.setIfInBounds_toArray, List.set_cons_zero, List.set_cons_succ]
      refine wpAnyH_done (by kernel_rfl) ?_ _
      (go_wp2_with fail; go_meet; first | exact leaf4 (((Below.refl _ W).alloc (Nat.le_refl _) _).alloc (by simp) _).drew HW8.out hpw HB8.out HBX.out (by omega) (by first | (simp; done) | (simp; omega)) | exact leaf4b (((Below.refl _ W).alloc (Nat.le_refl _) _)).drew HW8.out hpw HB8.out)
     ·go_simp
      refine hK'.out _ _ ?_ (fun hHeld => ?_)
      ·first | exact hHeld | exact ⟨x0, x1, x2, x3⟩ | exact ⟨Lib.cell?_alloc_some _ x0, Lib.cell?_alloc_some _ x1, Lib.cell?_alloc_some _ x2, Lib.cell?_alloc_some _ x3⟩ | exact keep_set (by omega) (by omega) ⟨x0, x1, x2, x3⟩ | go_keep
      clear hK' K'
      try dsimp only at hHeld
      try simp only [Act.put, List.setIfInBounds_toArray, List.set_cons_zero, List.set_cons_succ]
      refine wpAnyH_ready (rs := [9]) (by kernel_rfl) (by simp) ?_
      refine (AllReadyH.cons rfl (fun K' hK' => ?_) AllReadyH.nil)
      go_simp
      (refine (newWriter_any _ 4 [rr, dd, bb, aL.length] _ (by simp) HX4.out (by first | (simp; done) | (simp; omega)) (by first | exact ints_at _ _ (by simp) [rr, dd, bb, aL.length] | exact ints_at2 _ _ _ (by simp) [rr, dd, bb, aL.length])).mono ?_; rintro e w8 ⟨pw, vw, rfl, hW8, hpw, hb8⟩; have x0 := bcell hb8 hHeld.1; have x1 := bcell hb8 hHeld.2.1; have x2 := bcell hb8 hHeld.2.2.1; have x3 := bcell hb8 hHeld.2.2.2; (first | (have hbx : Blk w8 W.heap.size 100 #[.pointer none] := (show Blk ((W.alloc (.cells #[.pointer none] 100)).alloc (.cells #[.int .i64 (rr : Int), .int .i64 (dd : Int), .int .i64 (bb : Int), .int .i64 ((aL.length : Nat) : Int)] 3)).drew W.heap.size 100 #[.pointer none] from (Blk.new W 100 #[.pointer none]).alloc _).of_block (hb8.block _ (by first | (simp; done) | (simp; omega)))) | (have hbx : Blk w8 (W.heap.size + 1) 100 #[.pointer none] := (show Blk ((W.alloc (.cells #[.int .i64 (rr : Int), .int .i64 (dd : Int), .int .i64 (bb : Int), .int .i64 ((aL.length : Nat) : Int)] 3)).alloc (.cells #[.pointer none] 100)).drew (W.heap.size + 1) 100 #[.pointer none] from blk_new1 W _ _ _).of_block (hb8.block _ (by first | (simp; done) | (simp; omega)))) | (have hbx : True := trivial)); (try have x5 := Blk.cell (i := 0) (v := .pointer none) hbx rfl); (try have z5 := Blk.frozen hbx 0); have HW8 := Lib.hid hW8; have HB8 := Lib.hid hb8; have HBX := Lib.hid hbx; clear hW8 hb8 hbx)
      go_wp2_with fail
      refine hK'.out _ _ ?_ (fun hHeld => ?_)
      ·first | exact hHeld | exact ⟨x0, x1, x2, x3⟩ | exact ⟨Lib.cell?_alloc_some _ x0, Lib.cell?_alloc_some _ x1, Lib.cell?_alloc_some _ x2, Lib.cell?_alloc_some _ x3⟩ | exact keep_set (by omega) (by omega) ⟨x0, x1, x2, x3⟩ | go_keep
      clear hK' K'
      try dsimp only at hHeld
      try simp only [Act.put, List.setIfInBounds_toArray, List.set_cons_zero, List.set_cons_succ]
      refine wpAnyH_ready (rs := [11]) (by kernel_rfl) (by simp) ?_
      refine (AllReadyH.cons rfl (fun K' hK' => ?_) AllReadyH.nil)
      go_simp
      refine hK'.out _ _ ?_ (fun hHeld => ?_)
      ·first | exact hHeld | exact ⟨x0, x1, x2, x3⟩ | exact ⟨Lib.cell?_alloc_some _ x0, Lib.cell?_alloc_some _ x1, Lib.cell?_alloc_some _ x2, Lib.cell?_alloc_some _ x3⟩ | exact keep_set (by omega) (by omega) ⟨x0, x1, x2, x3⟩ | go_keep
      clear hK' K'
      try dsimp only at hHeld
      try simp only [Act.put, List.setIfInBounds_toArray, List.set_cons_zero, List.set_cons_succ]
      refine wpAnyH_done (by kernel_rfl) ?_ _
      (go_wp2_with fail; go_meet; first | exact leaf4 (((Below.refl _ W).alloc (Nat.le_refl _) _).alloc (by simp) _).drew HW8.out hpw HB8.out HBX.out (by omega) (by first | (simp; done) | (simp; omega)) | exact leaf4b (((Below.refl _ W).alloc (Nat.le_refl _) _)).drew HW8.out hpw HB8.out)
    ·go_simp
     refine hK'.out _ _ ?_ (fun hHeld => ?_)
     ·first | exact hHeld | exact ⟨x0, x1, x2, x3⟩ | exact ⟨Lib.cell?_alloc_some _ x0, Lib.cell?_alloc_some _ x1, Lib.cell?_alloc_some _ x2, Lib.cell?_alloc_some _ x3⟩ | exact keep_set (by omega) (by omega) ⟨x0, x1, x2, x3⟩ | go_keep
     clear hK' K'
     try dsimp only at hHeld
     try simp only [Act.put, List.setIfInBounds_toArray, List.set_cons_zero, List.set_cons_succ]
     refine wpAnyH_ready (rs := [8]) (by kernel_rfl) (by simp) ?_
     refine (AllReadyH.cons rfl (fun K' hK' => ?_) AllReadyH.nil)
     go_simp
     refine hK'.out _ _ ?_ (fun hHeld => ?_)
     ·first | exact hHeld | exact ⟨x0, x1, x2, x3⟩ | exact ⟨Lib.cell?_alloc_some _ x0, Lib.cell?_alloc_some _ x1, Lib.cell?_alloc_some _ x2, Lib.cell?_alloc_some _ x3⟩ | exact keep_set (by omega) (by omega) ⟨x0, x1, x2, x3⟩ | go_keep
     clear hK' K'
     try dsimp only at hHeld
     try simp only [Act.put, List.setIfInBounds_toArray, List.set_cons_zero, List.set_cons_succ]
     refine wpAnyH_ready (rs := [9]) (by kernel_rfl) (by simp) ?_
     refine (AllReadyH.cons rfl (fun K' hK' => ?_) AllReadyH.nil)
     go_simp
     (refine (newWriter_any _ 4 [rr, dd, bb, aL.length] _ (by simp) HX4.out (by first | (simp; done) | (simp; omega)) (by first | exact ints_at _ _ (by simp) [rr, dd, bb, aL.length] | exact ints_at2 _ _ _ (by simp) [rr, dd, bb, aL.length])).mono ?_; rintro e w8 ⟨pw, vw, rfl, hW8, hpw, hb8⟩; have x0 := bcell hb8 hHeld.1; have x1 := bcell hb8 hHeld.2.1; have x2 := bcell hb8 hHeld.2.2.1; have x3 := bcell hb8 hHeld.2.2.2; (first | (have hbx : Blk w8 W.heap.size 100 #[.pointer none] := (show Blk ((W.alloc (.cells #[.pointer none] 100)).alloc (.cells #[.int .i64 (rr : Int), .int .i64 (dd : Int), .int .i64 (bb : Int), .int .i64 ((aL.length : Nat) : Int)] 3)).drew W.heap.size 100 #[.pointer none] from (Blk.new W 100 #[.pointer none]).alloc _).of_block (hb8.block _ (by first | (simp; done) | (simp; omega)))) | (have hbx : Blk w8 (W.heap.size + 1) 100 #[.pointer none] := (show Blk ((W.alloc (.cells #[.int .i64 (rr : Int), .int .i64 (dd : Int), .int .i64 (bb : Int), .int .i64 ((aL.length : Nat) : Int)] 3)).alloc (.cells #[.pointer none] 100)).drew (W.heap.size + 1) 100 #[.pointer none] from blk_new1 W _ _ _).of_block (hb8.block _ (by first | (simp; done) | (simp; omega)))) | (have hbx : True := trivial)); (try have x5 := Blk.cell (i := 0) (v := .pointer none) hbx rfl); (try have z5 := Blk.frozen hbx 0); have HW8 := Lib.hid hW8; have HB8 := Lib.hid hb8; have HBX := Lib.hid hbx; clear hW8 hb8 hbx)
     go_wp2_with fail
     refine hK'.out _ _ ?_ (fun hHeld => ?_)
     ·first | exact hHeld | exact ⟨x0, x1, x2, x3⟩ | exact ⟨Lib.cell?_alloc_some _ x0, Lib.cell?_alloc_some _ x1, Lib.cell?_alloc_some _ x2, Lib.cell?_alloc_some _ x3⟩ | exact keep_set (by omega) (by omega) ⟨x0, x1, x2, x3⟩ | go_keep
     clear hK' K'
     try dsimp only at hHeld
     try simp only [Act.put, List.setIfInBounds_toArray, List.set_cons_zero, List.set_cons_succ]
     refine wpAnyH_ready (rs := [11]) (by kernel_rfl) (by simp) ?_
     refine (AllReadyH.cons rfl (fun K' hK' => ?_) AllReadyH.nil)
     go_simp
     refine hK'.out _ _ ?_ (fun hHeld => ?_)
     ·first | exact hHeld | exact ⟨x0, x1, x2, x3⟩ | exact ⟨Lib.cell?_alloc_some _ x0, Lib.cell?_alloc_some _ x1, Lib.cell?_alloc_some _ x2, Lib.cell?_alloc_some _ x3⟩ | exact keep_set (by omega) (by omega) ⟨x0, x1, x2, x3⟩ | go_keep
     clear hK' K'
     try dsimp only at hHeld
     try simp only [Act.put, List.setIfInBounds_toArray, List.set_cons_zero, List.set_cons_succ]
     refine wpAnyH_done (by kernel_rfl) ?_ _
     (go_wp2_with fail; go_meet; first | exact leaf4 (((Below.refl _ W).alloc (Nat.le_refl _) _).alloc (by simp) _).drew HW8.out hpw HB8.out HBX.out (by omega) (by first | (simp; done) | (simp; omega)) | exact leaf4b (((Below.refl _ W).alloc (Nat.le_refl _) _)).drew HW8.out hpw HB8.out)
   ·go_simp
    refine hK'.out _ _ ?_ (fun hHeld => ?_)
    ·first | exact hHeld | exact ⟨x0, x1, x2, x3⟩ | exact ⟨Lib.cell?_alloc_some _ x0, Lib.cell?_alloc_some _ x1, Lib.cell?_alloc_some _ x2, Lib.cell?_alloc_some _ x3⟩ | exact keep_set (by omega) (by omega) ⟨x0, x1, x2, x3⟩ | go_keep
    clear hK' K'
    try dsimp only at hHeld
    try simp only [Act.put, List.setIfInBounds_toArray, List.set_cons_zero, List.set_cons_succ]
    refine wpAnyH_ready (rs := [5]) (by kernel_rfl) (by simp) ?_
    refine (AllReadyH.cons rfl (fun K' hK' => ?_) AllReadyH.nil)
    go_simp
    (refine (base_cells p an (bb : Int) _ hpos hHeld.2.2.1 hHeld.2.2.2).mono ?_; rintro e w8 ⟨rfl, rfl⟩)
    go_wp2_with fail
    refine hK'.out _ _ ?_ (fun hHeld => ?_)
    ·first | exact hHeld | exact ⟨x0, x1, x2, x3⟩ | exact ⟨Lib.cell?_alloc_some _ x0, Lib.cell?_alloc_some _ x1, Lib.cell?_alloc_some _ x2, Lib.cell?_alloc_some _ x3⟩ | exact keep_set (by omega) (by omega) ⟨x0, x1, x2, x3⟩ | go_keep
    clear hK' K'
    try dsimp only at hHeld
    try simp only [Act.put, List.setIfInBounds_toArray, List.set_cons_zero, List.set_cons_succ]
    refine wpAnyH_ready (rs := [8]) (by kernel_rfl) (by simp) ?_
    refine (AllReadyH.cons rfl (fun K' hK' => ?_) AllReadyH.nil)
    go_simp
    refine hK'.out _ _ ?_ (fun hHeld => ?_)
    ·first | exact hHeld | exact ⟨x0, x1, x2, x3⟩ | exact ⟨Lib.cell?_alloc_some _ x0, Lib.cell?_alloc_some _ x1, Lib.cell?_alloc_some _ x2, Lib.cell?_alloc_some _ x3⟩ | exact keep_set (by omega) (by omega) ⟨x0, x1, x2, x3⟩ | go_keep
    clear hK' K'
    try dsimp only at hHeld
    try simp only [Act.put, List.setIfInBounds_toArray, List.set_cons_zero, List.set_cons_succ]
    refine wpAnyH_ready (rs := [9]) (by kernel_rfl) (by simp) ?_
    refine (AllReadyH.cons rfl (fun K' hK' => ?_) AllReadyH.nil)
    go_simp
    (refine (newWriter_any _ 4 [rr, dd, bb, aL.length] _ (by simp) HX4.out (by first | (simp; done) | (simp; omega)) (by first | exact ints_at _ _ (by simp) [rr, dd, bb, aL.length] | exact ints_at2 _ _ _ (by simp) [rr, dd, bb, aL.length])).mono ?_; rintro e w8 ⟨pw, vw, rfl, hW8, hpw, hb8⟩; have x0 := bcell hb8 hHeld.1; have x1 := bcell hb8 hHeld.2.1; have x2 := bcell hb8 hHeld.2.2.1; have x3 := bcell hb8 hHeld.2.2.2; (first | (have hbx : Blk w8 W.heap.size 100 #[.pointer none] := (show Blk ((W.alloc (.cells #[.pointer none] 100)).alloc (.cells #[.int .i64 (rr : Int), .int .i64 (dd : Int), .int .i64 (bb : Int), .int .i64 ((aL.length : Nat) : Int)] 3)).drew W.heap.size 100 #[.pointer none] from (Blk.new W 100 #[.pointer none]).alloc _).of_block (hb8.block _ (by first | (simp; done) | (simp; omega)))) | (have hbx : Blk w8 (W.heap.size + 1) 100 #[.pointer none] := (show Blk ((W.alloc (.cells #[.int .i64 (rr : Int), .int .i64 (dd : Int), .int .i64 (bb : Int), .int .i64 ((aL.length : Nat) : Int)] 3)).alloc (.cells #[.pointer none] 100)).drew (W.heap.size + 1) 100 #[.pointer none] from blk_new1 W _ _ _).of_block (hb8.block _ (by first | (simp; done) | (simp; omega)))) | (have hbx : True := trivial)); (try have x5 := Blk.cell (i := 0) (v := .pointer none) hbx rfl); (try have z5 := Blk.frozen hbx 0); have HW8 := Lib.hid hW8; have HB8 := Lib.hid hb8; have HBX := Lib.hid hbx; clear hW8 hb8 hbx)
    go_wp2_with fail
    refine hK'.out _ _ ?_ (fun hHeld => ?_)
    ·first | exact hHeld | exact ⟨x0, x1, x2, x3⟩ | exact ⟨Lib.cell?_alloc_some _ x0, Lib.cell?_alloc_some _ x1, Lib.cell?_alloc_some _ x2, Lib.cell?_alloc_some _ x3⟩ | exact keep_set (by omega) (by omega) ⟨x0, x1, x2, x3⟩ | go_keep
    clear hK' K'
    try dsimp only at hHeld
    try simp only [Act.put, List.setIfInBounds_toArray, List.set_cons_zero, List.set_cons_succ]
    refine wpAnyH_ready (rs := [11]) (by kernel_rfl) (by simp) ?_
    refine (AllReadyH.cons rfl (fun K' hK' => ?_) AllReadyH.nil)
    go_simp
    refine hK'.out _ _ ?_ (fun hHeld => ?_)
    ·first | exact hHeld | exact ⟨x0, x1, x2, x3⟩ | exact ⟨Lib.cell?_alloc_some _ x0, Lib.cell?_alloc_some _ x1, Lib.cell?_alloc_some _ x2, Lib.cell?_alloc_some _ x3⟩ | exact keep_set (by omega) (by omega) ⟨x0, x1, x2, x3⟩ | go_keep
    clear hK' K'
    try dsimp only at hHeld
    try simp only [Act.put, List.setIfInBounds_toArray, List.set_cons_zero, List.set_cons_succ]
    refine wpAnyH_done (by kernel_rfl) ?_ _
    (go_wp2_with fail; go_meet; first | exact leaf4 (((Below.refl _ W).alloc (Nat.le_refl _) _).alloc (by simp) _).drew HW8.out hpw HB8.out HBX.out (by omega) (by first | (simp; done) | (simp; omega)) | exact leaf4b (((Below.refl _ W).alloc (Nat.le_refl _) _)).drew HW8.out hpw HB8.out)
 case rest =>
 obtain ⟨bx, pw, v8, rfl, hbx, hwr, hbel, hlo, hlb⟩ := hcut
 obtain ⟨W8, rfl⟩ : ∃ W8 : World, W8 = wc := ⟨_, rfl⟩
 have HC8 : Hid (CmpW W bx pw (uintsB [rr, dd, bb, aL.length]) W8) := ⟨hbx, ⟨v8, hwr⟩, hbel, hlo, hlb⟩
 have HV : Hid (∀ x ∈ aL, x.2.2.2.size ≤ 65536) := hV
 have hT0 : (snapB ⟨⟨an, (rr : Int), (dd : Int), (bb : Int), aL⟩, ⟨(lb : Int), lu, lt, lL⟩⟩).length = (((uintsB [rr, dd, bb, aL.length] ++ aL.flatMap entB) ++ uintsB [lb, lL.length]) ++ lL.flatMap valuB).length := rfl
 rw [hT0] at hT
 simp only [List.length_append] at hT
 have HT := Lib.hid hT
 clear hbx hwr hbel hlo hlb hT hT0 hV e0 e1 c0 c4
 go_wp2_with fail
 go_loopg [51] aL.length (fun g c wr => ∃ i : Nat, i ≤ aL.length ∧ g = aL.length - i ∧ c = .int .i64 i ∧ CmpW W bx pw (uintsB [rr, dd, bb, aL.length] ++ (aL.take i).flatMap entB) wr)
 case atStart => exact ⟨0, Nat.zero_le _, rfl, rfl, by simpa using HC8.out⟩
 case round =>
  obtain ⟨i, hi, rfl, rfl, hc⟩ := hrel
  by_cases hlt : i < aL.length
  case pos =>
   obtain ⟨y, hy⟩ : ∃ y, aL[i]? = some y := ⟨_, List.getElem?_eq_getElem hlt⟩
   obtain ⟨sl, er, ed, ev⟩ := y
   have hen := HGA.out.ent (p := (sl, er, ed, ev)) (List.mem_of_getElem? hy)
   have hev := HV.out _ (List.mem_of_getElem? hy)
   simp only at hen hev
   obtain ⟨sn, rfl⟩ := Int.eq_ofNat_of_zero_le hen.1
   obtain ⟨en, rfl⟩ := Int.eq_ofNat_of_zero_le hen.2.2.1
   obtain ⟨dn, rfl⟩ := Int.eq_ofNat_of_zero_le hen.2.2.2.2.1
   obtain ⟨A, cp, hv, _, hcell⟩ := (HE7.out.below hc.bel).view
   simp only [Value.slice.injEq] at hv
   obtain ⟨rfl, _, rfl⟩ := hv
   obtain ⟨g, rfl, _, hgl, hcs⟩ := hcell (by omega)
   obtain ⟨q0, q1, q2, q3⟩ := hcs i _ _ hy
   simp only at q0 q1 q2 q3
   have hstep := flat_step entB aL i _ hy
   have hle1 := flat_len entB aL i
   have hle2 := flat_len entB aL (i + 1)
   have hT := HT.out
   rw [hstep] at hle2
   have hbe : entB ((sn : Int), (en : Int), (dn : Int), ev) = uintsB [sn, en, dn] ++ textB ev.data.toList := rfl
   rw [hbe] at hle2
   simp only [List.length_append] at hle2
   have hc2 := hc.below (((Below.refl _ wr).alloc (Nat.le_refl _) (.cells #[.int .i64 (sn : Int), .int .i64 (en : Int), .int .i64 (dn : Int), .string ev] 128)).alloc (by simp) (.cells #[.int .i64 (sn : Int), .int .i64 (en : Int), .int .i64 (dn : Int)] 3))
   have hc1 := hc.below ((Below.refl _ wr).alloc (Nat.le_refl _) (.cells #[.int .i64 (sn : Int), .int .i64 (en : Int), .int .i64 (dn : Int), .string ev] 128))
   obtain ⟨v0, hvw⟩ := hc.wr
   have hv0 := hvw.fr (((Fr.refl S0 wr).alloc (.cells #[.int .i64 (sn : Int), .int .i64 (en : Int), .int .i64 (dn : Int), .string ev] 128)).alloc (.cells #[.int .i64 (sn : Int), .int .i64 (en : Int), .int .i64 (dn : Int)] 3)) (fun e => e) (fun i _ e => e)
   have hbl := (Blk.new wr 128 #[.int .i64 (sn : Int), .int .i64 (en : Int), .int .i64 (dn : Int), .string ev])
   have d0 := hbl.cell (i := 0) (v := .int .i64 (sn : Int)) rfl
   have d1 := hbl.cell (i := 1) (v := .int .i64 (en : Int)) rfl
   have d2 := hbl.cell (i := 2) (v := .int .i64 (dn : Int)) rfl
   have d3 := hbl.cell (i := 3) (v := .string ev) rfl
   have e1 := hc1.box.cell (i := 0) (v := .pointer (some ⟨pw, 0, none⟩)) rfl
   have hpwl : pw < wr.heap.size := by obtain ⟨v1, hv1⟩ := hc.wr; exact hv1.blk.lt
   have HNU := Lib.hid (numbers_any pw (wr.heap.size + 1) 3 v0 _ [sn, en, dn] _ hv0 (by simp only [List.length_append]; omega) (by simp) (by simp; omega) (by simp) (by omega) (fun e => by have := (hvw.row.lt _ e).2; omega) (ints_at _ _ (by simp) [sn, en, dn]))
   have HC2 := Lib.hid hc2
   have HV0 := Lib.hid hv0
   have HBL := Lib.hid (hbl.alloc (.cells #[.int .i64 (sn : Int), .int .i64 (en : Int), .int .i64 (dn : Int)] 3))
   have HST := Lib.hid hstep
   have hl5 : (uintsB [rr, dd, bb, aL.length] ++ (aL.take i).flatMap entB ++ uintsB [sn, en, dn]).length ≤ 100000000 := by simp only [List.length_append]; omega
   clear hc hc2 hc1 hv0 hvw hbl hstep hcell hcs hT
   go_wp2_with (first
    | (go_at_call 80; refine HNU.out.mono ?_; rintro e w5 ⟨v5, rfl, hS5⟩; have hc5 := HC2.out.step HV0.out hS5; have hb5 := wstep_blk HBL.out HV0.out hS5 (by decide) (by decide); have f0 := hc5.box.cell (i := 0) (v := .pointer (some ⟨pw, 0, none⟩)) rfl; have f3 := hb5.cell (i := 3) (v := .string ev) rfl; have HS5 := Lib.hid hS5; have HC5 := Lib.hid hc5; clear hS5 hc5 hb5)
    | (go_at_call 68; refine (wtext_any pw v5 _ ev w5 HS5.out.at_ hl5 (by omega)).mono ?_; rintro e w6 ⟨v6, rfl, hS6⟩; have HC6 := Lib.hid (HC5.out.step HS5.out.at_ hS6); clear hS6))
   go_roundg (aL.length - (i + 1))
   case measure => omega
   case rel =>
    refine ⟨i + 1, by omega, rfl, by push_cast; rfl, ?_⟩
    have := HC6.out
    rw [HST.out]
    rwa [show entB ((sn : Int), (en : Int), (dn : Int), ev) = uintsB [sn, en, dn] ++ textB ev.data.toList from rfl, ← List.append_assoc, ← List.append_assoc]
  case neg =>
   obtain rfl : i = aL.length := by omega
   rw [List.take_length] at hc
   have hN9 := HN7.out.below hc.bel
   have HL9 := Lib.hid hN9.l
   have c1 : wr.cell? ⟨q, 1, none⟩ = some (.int .i64 (lb : Int)) := hN9.l.at_.c1
   have c0 := hN9.l.at_.c0
   have HC9 := Lib.hid hc
   have hlg := HGL.out
   have hbt : (lb : Int) ≤ 4096 := by have h1 := hlg.bu; have h2 := hlg.ut; have h3 := hlg.t1; simp only at h1 h2 h3; omega
   have HKEY : Hid (∀ y ∈ lL, (lb : Int) ≤ y.1 ∧ y.1 < 4096) := fun y hy => ⟨(hlg.keys y hy).1, (hlg.key hy).2⟩
   have HSRT : Hid (Srt lL) := hlg.srt
   have HSZ : Hid (∀ y ∈ lL, y.2.size ≤ 65536) := hlg.size
   have hll : lL.length ≤ 4096 := hlg.len
   obtain ⟨i0, hi0, hz0, hz1, hz2⟩ := info_parts info_int
   have HI := Lib.hid hi0
   have HZ0 := Lib.hid hz0
   have HZ1 := Lib.hid hz1
   have HZ2 := Lib.hid hz2
   obtain ⟨W9, rfl⟩ : ∃ W9 : World, W9 = wr := ⟨_, rfl⟩
   clear hc hN9 hlg hi0 hz0 hz1 hz2
   go_wp2_with (go_at_call 81; refine (lbase_any HL9.out.at_).mono ?_; rintro e w' ⟨rfl, rfl⟩)
   go_loopg [12, 13] (4096 - (lb : Int)).toNat (fun g c12 c13 wr => ∃ x : Int, (lb : Int) ≤ x ∧ x ≤ 4096 ∧ g = (4096 - x).toNat ∧ c13 = .int .i64 x ∧ IntRow wr W9.heap.size c12 (hasL lL x) ∧ Below W9.heap.size W9 wr)
   case atStart =>
    refine ⟨(lb : Int), Int.le_refl _, hbt, rfl, rfl, ?_, Below.refl _ _⟩
    ·rw [hasL_start (fun y hy => (HKEY.out y hy).1)]
     exact IntRow.nil _ _
   case round =>
    obtain ⟨x, hx1, hx2, rfl, rfl, hrow, hbel⟩ := hrel
    have HB := Lib.hid hbel
    have HR := Lib.hid hrow
    have hll2 : (hasL lL x).length ≤ 4096 := by unfold hasL; rw [List.length_map]; exact Nat.le_trans (List.length_filter_le _ _) hll
    obtain ⟨A2, p2, rfl, hp2, _⟩ := hrow.view
    have hz9 := hbel.size
    clear hrow hbel
    by_cases hx : x < 4096
    case pos =>
     have HG := Lib.hid (lget_any x (HL9.out.below HB.out).at_ ⟨by omega, by omega⟩)
     have HSTEP := Lib.hid (hasL_step HSRT.out x)
     have hw1 : (x : Int) + 1 = x + 1 := rfl
     cases his : (get x lL).isSome with
     | false =>
      have HG2 : Hid (Calls Tryz.prog 82 #[.pointer (some ⟨q, 0, none⟩), .int .i64 x] wr fun e w' => e = .returned (.tuple #[.string ((get x lL).getD ⟨#[]⟩), .bool false]) ∧ wr = w') := by
       have := HG.out
       unfold getV at this
       rw [his] at this
       exact this
      have HIS := Lib.hid his
      clear HG his
      go_wp2_with (go_at_call 82; refine HG2.out.mono ?_; rintro e w5 ⟨rfl, rfl⟩)
      go_roundg (4096 - (x + 1)).toNat
      case measure => omega
      case rel =>
       refine ⟨x + 1, by omega, by omega, rfl, rfl, ?_, HB.out⟩
       rw [HSTEP.out, HIS.out]
       simpa using HR.out
     | true =>
      have HG2 : Hid (Calls Tryz.prog 82 #[.pointer (some ⟨q, 0, none⟩), .int .i64 x] wr fun e w' => e = .returned (.tuple #[.string ((get x lL).getD ⟨#[]⟩), .bool true]) ∧ wr = w') := by
       have := HG.out
       unfold getV at this
       rw [his] at this
       exact this
      have HIS := Lib.hid his
      clear HG his
      go_wp2_with (first
       | (go_at_call 82; refine HG2.out.mono ?_; rintro e w5 ⟨rfl, rfl⟩)
       | (at_builtin; refine wpList_append_own _ rfl _ _ 31 rfl W9.heap.size 3 i0 (.int .i64 0) 1 8 Tryz.underlying31 HI.out HZ0.out HZ1.out HZ2.out rfl (by decide) _ _ _ rfl (World.ownsRow.alloc HR.out _) ⟨wr.heap.size, 0, none⟩ 1 1 [.int .i64 x] rfl rfl (cell_one_new _ _ _) (by simp [Value.oneCell']) (by unfold maxLen; omega) (by omega) (by simp; omega) ?_; intro v' w4 hown' hgrow _; have HOWN := Lib.hid hown'; have HGR := Lib.hid hgrow; clear hown' hgrow))
      go_roundg (4096 - (x + 1)).toNat
      case measure => omega
      case rel =>
       refine ⟨x + 1, by omega, by omega, rfl, rfl, ?_, ?_⟩
       ·rw [HSTEP.out, HIS.out]
        have := HOWN.out
        rw [if_pos rfl]
        unfold IntRow
        rw [List.length_append, List.map_append]
        exact this
       ·exact (HB.out.alloc hz9 _).trans ((Fr.of_grown HGR.out (fun i e => e)).below (by simp; omega) (fun i e => (HR.out.lt i e).1))
    case neg =>
     obtain rfl : x = 4096 := by omega
     have hks : hasL lL 4096 = lL.map (·.1) := hasL_end (fun y hy => (HKEY.out y hy).2)
     have hlen2 : (hasL lL 4096).length = lL.length := by rw [hks, List.length_map]
     have hR2 := HR.out
     rw [hks, List.length_map] at hR2
     rw [hlen2]
     have HR2 := Lib.hid hR2
     have hc9 := HC9.out.below HB.out
     obtain ⟨v0, hvw⟩ := hc9.wr
     have hv0 : WrAt (wr.alloc (.cells #[.int .i64 (lb : Int), .int .i64 ((lL.length : Nat) : Int)] 3)).drew pw v0 _ := hvw.fr (((Fr.refl S0 wr).alloc (.cells #[.int .i64 (lb : Int), .int .i64 ((lL.length : Nat) : Int)] 3)).drew) (fun e => e) (fun i _ e => e)
     have hc2 : CmpW W bx pw _ (wr.alloc (.cells #[.int .i64 (lb : Int), .int .i64 ((lL.length : Nat) : Int)] 3)).drew := hc9.below ((Below.refl _ wr).alloc (Nat.le_refl _) (.cells #[.int .i64 (lb : Int), .int .i64 ((lL.length : Nat) : Int)] 3)).drew
     have hT := HT.out
     have HNU := Lib.hid (numbers_any pw wr.heap.size 2 v0 _ [lb, lL.length] _ hv0 (by simp only [List.length_append]; omega) (by simp) (by simp; omega) (by simp) (by have := hvw.blk.lt; omega) (fun e => by have := (hvw.row.lt _ e).2; omega) (ints_at _ _ rfl [lb, lL.length]))
     have y0 := hc9.box.cell (i := 0) (v := .pointer (some ⟨pw, 0, none⟩)) rfl
     have hl9 := (HL9.out.below HB.out).at_
     have y1 := hl9.c0
     have y2 : wr.cell? ⟨q, 1, none⟩ = some (.int .i64 (lb : Int)) := hl9.c1
     have HC2 := Lib.hid hc2
     have HV0 := Lib.hid hv0
     have HKT : Hid (KeepT 3 wr (wr.alloc (.cells #[.int .i64 (lb : Int), .int .i64 ((lL.length : Nat) : Int)] 3)).drew) := KeepT.below ((Below.refl _ wr).alloc (Nat.le_refl _) (.cells #[.int .i64 (lb : Int), .int .i64 ((lL.length : Nat) : Int)] 3)).drew
     clear hR2 hc9 hvw hv0 hc2 hl9 hT HC9 hks HR
     go_upto_region 18 with fail
     refine wp_region_held_drew (S := (fun X => X.cell? ⟨bx, 0, none⟩ = some (.pointer (some ⟨pw, 0, none⟩)) ∧ X.cell? ⟨q, 0, none⟩ = some (.map (some k)) ∧ X.cell? ⟨q, 1, none⟩ = some (.int .i64 (lb : Int)))) (by kernel_rfl) ?_ (fun hHeld => ?_)
     ·exact ⟨y0, y1, y2⟩
     try dsimp only at hHeld
     refine hY 0 (some 89) hHeld ?_
     refine hY 1 (some 90) hHeld ?_
     refine hY 3 (some 92) hHeld ?_
     refine hY 4 (some 93) hHeld ?_
     refine wpAnyH_ready (rs := [2]) (by kernel_rfl) (by simp) ?_
     refine (AllReadyH.cons rfl (fun K' hK' => ?_) AllReadyH.nil)
     go_simp
     (refine (lbase_cells q k (lb : Int) _ hHeld.2.1 hHeld.2.2).mono ?_; rintro e w8' ⟨rfl, rfl⟩)
     go_wp2_with fail
     refine hK'.out _ _ ?_ (fun hHeld => ?_)
     ·first | exact hHeld | exact ⟨x0, x1, x2⟩ | go_keep
     clear hK' K'
     try dsimp only at hHeld
     try simp only [Act.put, List.setIfInBounds_toArray, List.set_cons_zero, List.set_cons_succ]
     refine wpAnyH_ready (rs := [5]) (by kernel_rfl) (by simp) ?_
     refine (AllReadyH.cons rfl (fun K' hK' => ?_) AllReadyH.nil)
     go_simp
     refine hK'.out _ _ ?_ (fun hHeld => ?_)
     ·first | exact hHeld | exact ⟨x0, x1, x2⟩ | go_keep
     clear hK' K'
     try dsimp only at hHeld
     try simp only [Act.put, List.setIfInBounds_toArray, List.set_cons_zero, List.set_cons_succ]
     refine wpAnyH_ready (rs := [6]) (by kernel_rfl) (by simp) ?_
     refine (AllReadyH.cons rfl (fun K' hK' => ?_) AllReadyH.nil)
     go_simp
     (refine HNU.out.mono ?_; rintro e w10 ⟨v10, rfl, hS10⟩; have hc10 := HC2.out.step HV0.out hS10; have hk10 := KeepT.row (HKT.out.trans (wstep_keep 3 HV0.out hS10 (by decide) (by decide))) HR2.out; have x0 := hc10.box.cell (i := 0) (v := .pointer (some ⟨pw, 0, none⟩)) rfl; have hl10 := (HN7.out.below hc10.bel).l.at_; have x1 := hl10.c0; have x2 : w10.cell? ⟨q, 1, none⟩ = some (.int .i64 (lb : Int)) := hl10.c1; have HC10 := Lib.hid hc10; have HK10 := Lib.hid hk10; clear hS10 hc10 hk10 hl10)
     go_wp2_with fail
     refine hK'.out _ _ ?_ (fun hHeld => ?_)
     ·first | exact hHeld | exact ⟨x0, x1, x2⟩ | go_keep
     clear hK' K'
     try dsimp only at hHeld
     try simp only [Act.put, List.setIfInBounds_toArray, List.set_cons_zero, List.set_cons_succ]
     refine wpAnyH_done (by kernel_rfl) ?_ _
     clear HNU HC2 HV0 HKT HR2 y0 y1 y2
     go_wp2_with fail
     go_loopg [98] lL.length (fun g c wt => ∃ i : Nat, i ≤ lL.length ∧ g = lL.length - i ∧ c = .int .i64 i ∧ CmpW W bx pw (((uintsB [rr, dd, bb, aL.length] ++ aL.flatMap entB) ++ uintsB [lb, lL.length]) ++ (lL.take i).flatMap valuB) wt ∧ wt.ownsRow W9.heap.size 3 1 (.slice A2 lL.length p2) lL.length ((lL.map (·.1)).map (Value.int .i64)))
     case atStart => exact ⟨0, Nat.zero_le _, rfl, rfl, by simpa using HC10.out, by have := HK10.out; rw [List.length_map] at this; exact this⟩
     case round =>
      obtain ⟨i, hi, rfl, rfl, hc, hrow⟩ := hrel
      by_cases hlt : i < lL.length
      case pos =>
       obtain ⟨y, hy⟩ : ∃ y, lL[i]? = some y := ⟨_, List.getElem?_eq_getElem hlt⟩
       obtain ⟨kk, vv⟩ := y
       have hkk := HKEY.out (kk, vv) (List.mem_of_getElem? hy)
       have hvz := HSZ.out (kk, vv) (List.mem_of_getElem? hy)
       simp only at hkk hvz
       obtain ⟨kn, rfl⟩ := Int.eq_ofNat_of_zero_le (show 0 ≤ kk by omega)
       have hget : get (kn : Int) lL = some vv := get_of_mem HSRT.out (List.mem_of_getElem? hy)
       obtain ⟨g, cp, hA, hq0, _⟩ := row_at hrow (i := i) (x := .int .i64 (kn : Int)) (by rw [List.getElem?_map, List.getElem?_map, hy]; rfl)
       simp only [Value.slice.injEq] at hA
       obtain ⟨rfl, _, rfl⟩ := hA
       have hL := (HN7.out.below hc.bel).l
       have HG : Hid (Calls Tryz.prog 82 #[.pointer (some ⟨q, 0, none⟩), .int .i64 (kn : Int)] wr fun e w' => e = .returned (.tuple #[.string vv, .bool true]) ∧ wr = w') := by
        have := lget_any (kn : Int) hL.at_ ⟨by omega, by omega⟩
        unfold getV at this
        rw [show get (kn : Int) (LogSt.L ⟨(lb : Int), lu, lt, lL⟩) = some vv from hget] at this
        exact this
       have hstep := flat_step valuB lL i _ hy
       have hle1 := flat_len valuB lL i
       have hle2 := flat_len valuB lL (i + 1)
       have hT := HT.out
       have hbe : valuB ((kn : Int), vv) = uintsB [kn] ++ textB vv.data.toList := rfl
       rw [hstep, hbe] at hle2
       simp only [List.length_append] at hle2
       obtain ⟨v0, hvw⟩ := hc.wr
       have hv0 := hvw.fr ((Fr.refl S0 wr).alloc (.cells #[.int .i64 (kn : Int)] 3)) (fun e => e) (fun i _ e => e)
       have hc2 := hc.below ((Below.refl _ wr).alloc (Nat.le_refl _) (.cells #[.int .i64 (kn : Int)] 3))
       have e1 := hc.box.cell (i := 0) (v := .pointer (some ⟨pw, 0, none⟩)) rfl
       have HNU := Lib.hid (numbers_any pw wr.heap.size 1 v0 _ [kn] _ hv0 (by simp only [List.length_append]; omega) (by simp) (by simp; omega) (by simp) (by have := hvw.blk.lt; omega) (fun e => by have := (hvw.row.lt _ e).2; omega) (ints_at _ _ rfl [kn]))
       have HC2 := Lib.hid hc2
       have HV0 := Lib.hid hv0
       have HKT : Hid (KeepT 3 wr (wr.alloc (.cells #[.int .i64 (kn : Int)] 3))) := KeepT.below ((Below.refl _ wr).alloc (Nat.le_refl _) (.cells #[.int .i64 (kn : Int)] 3))
       have HST := Lib.hid hstep
       have HROW := Lib.hid hrow
       have hl5 : ((uintsB [rr, dd, bb, aL.length] ++ aL.flatMap entB ++ uintsB [lb, lL.length]) ++ (lL.take i).flatMap valuB ++ uintsB [kn]).length ≤ 100000000 := by simp only [List.length_append]; omega
       clear hc hc2 hv0 hvw hstep hrow hT hL hget
       go_wp2_with (first
        | (go_at_call 82; refine HG.out.mono ?_; rintro e w4 ⟨rfl, rfl⟩)
        | (go_at_call 80; refine HNU.out.mono ?_; rintro e w5 ⟨v5, rfl, hS5⟩; have hc5 := HC2.out.step HV0.out hS5; have hk5 := HKT.out.trans (wstep_keep 3 HV0.out hS5 (by decide) (by decide)); have f0 := hc5.box.cell (i := 0) (v := .pointer (some ⟨pw, 0, none⟩)) rfl; have HS5 := Lib.hid hS5; have HC5 := Lib.hid hc5; have HK5 := Lib.hid hk5; clear hS5 hc5 hk5)
        | (go_at_call 68; refine (wtext_any pw v5 _ vv w5 HS5.out.at_ hl5 (by omega)).mono ?_; rintro e w6 ⟨v6, rfl, hS6⟩; have HC6 := Lib.hid (HC5.out.step HS5.out.at_ hS6); have HK6 := Lib.hid (HK5.out.trans (wstep_keep 3 HS5.out.at_ hS6 (by decide) (by decide))); clear hS6))
       go_roundg (lL.length - (i + 1))
       case measure => omega
       case rel =>
        refine ⟨i + 1, by omega, rfl, by push_cast; rfl, ?_, KeepT.row HK6.out HROW.out⟩
        have := HC6.out
        rw [HST.out]
        rwa [show valuB ((kn : Int), vv) = uintsB [kn] ++ textB vv.data.toList from rfl, ← List.append_assoc, ← List.append_assoc]
      case neg =>
       obtain rfl : i = lL.length := by omega
       rw [List.take_length] at hc
       obtain ⟨v0, hvw⟩ := hc.wr
       have e1 := hc.box.cell (i := 0) (v := .pointer (some ⟨pw, 0, none⟩)) rfl
       have hT := HT.out
       have hbel := HB7.out.trans (hc.bel.mono HB7.out.size)
       have HBEL := Lib.hid hbel
       have HVW := Lib.hid hvw
       have hsn : snapB ⟨⟨an, (rr : Int), (dd : Int), (bb : Int), aL⟩, ⟨(lb : Int), lu, lt, lL⟩⟩ = ((uintsB [rr, dd, bb, aL.length] ++ aL.flatMap entB) ++ uintsB [lb, lL.length]) ++ lL.flatMap valuB := rfl
       have hlen9 : (((uintsB [rr, dd, bb, aL.length] ++ aL.flatMap entB) ++ uintsB [lb, lL.length]) ++ lL.flatMap valuB).length ≤ 80000000 := by simp only [List.length_append]; omega
       generalize ((uintsB [rr, dd, bb, aL.length] ++ aL.flatMap entB) ++ uintsB [lb, lL.length]) ++ lL.flatMap valuB = BS at *
       have HSN := Lib.hid hsn
       clear hc hvw hbel hT hsn hrow
       by_cases hle : BS.length ≤ 65536
       case pos =>
        go_wp2_with (first
         | (go_at_call 66; refine (done_yes pw v0 _ wr HVW.out hle).mono ?_; rintro e w11 ⟨vo, rfl, hvo, hb11⟩; have hD11 := (H.out.below HBEL.out).below hb11; obtain ⟨a9, n9, c9, rfl⟩ := row_shape hvo; have HD11 := Lib.hid hD11; have HVO := Lib.hid hvo; have HB11 := Lib.hid hb11; clear hD11 hvo hb11)
         | (go_at_call 27; refine (dsave_yes _ BS HD11.out (LRow.bsIn (LRow.of_row HVO.out)) hle).mono ?_; rintro e w12 ⟨rfl, sv', hs12⟩; have HS12 := Lib.hid hs12; clear hs12))
        go_returns
        rw [HSN.out]
        exact ⟨fun h => by omega, fun _ => ⟨rfl, sv', (DStep.below H.out (bchain HBEL.out HB11.out)).trans HS12.out⟩⟩
       case neg =>
        go_wp2_with (go_at_call 66; refine (done_no pw v0 _ wr HVW.out (by omega)).mono ?_; rintro e w11 ⟨rfl, hb11⟩; have HB11 := Lib.hid hb11; clear hb11)
        go_returns
        rw [HSN.out]
        exact ⟨fun _ => ⟨rfl, bchain HBEL.out HB11.out⟩, fun h => absurd h hle⟩
end Go.Proofs.YtlfikhblmbidmaaGreatDoor