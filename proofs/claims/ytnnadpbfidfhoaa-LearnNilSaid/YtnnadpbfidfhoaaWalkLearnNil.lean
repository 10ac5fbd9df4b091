/- The walk of skaldlaw13.LearnNil: it returns true, and writes nothing that was there. -/
import Derived.Test.YtnnadpbfidfhoaaLArgs
import Derived.OpenShut
import Derived.Deep.DeepCutAuto
import Derived.Deep.CutBlock
import Derived.Deep.LoopGhost
import Derived.Deep.RegionHeld3
set_option linter.unusedVariables false
set_option linter.unusedSimpArgs false
namespace Go.Proofs.Ytnnadpbfidfhoaa.learnNil
open Go.RowKit Go.Shelf
def N1 : LSt := ⟨3, 0, [(6, ⟨false, ⟨#[]⟩, 2, 0, ⟨#[118]⟩, 2⟩)]⟩
def N2 : LSt := ⟨3, 0, [(6, ⟨true, ⟨#[118]⟩, 2, 0, ⟨#[118]⟩, 6⟩)]⟩
theorem n1 : adR W0 1 2 0 6 ⟨#[118]⟩ = ((false, 0), N1) := by kernel_rfl
theorem n2 : adR N1 2 2 0 6 ⟨#[118]⟩ = ((true, 0), N2) := by kernel_rfl
theorem n3 : opn N1.L = [6] := by kernel_rfl
theorem n4 : opn N2.L = [] := by kernel_rfl

set_option maxRecDepth 100000 in
set_option maxHeartbeats 8000000 in
theorem walk (node k : Int) (b : Int × Int) (w : World) (w0 : (Lit.int .i64 node).wf = true) (w1 : (Lit.int .i64 k).wf = true) (w2 : in64 b.1 ∧ in64 b.2) :
    Calls Try.prog 8 #[.int .i64 node, .int .i64 k, .agg #[.int .i64 b.1, .int .i64 b.2]] w fun e w' => e = .returned (.bool true) ∧ Below w.heap.size w w' := by
  obtain ⟨b1, b2⟩ := b
  have hE := fun (a b c d : Int) (w : World) => eqBal a b c d w
  have hG := eqGBal
  have hB0 := fun w => bldBal0 w
  clear w0 w1 w2
  simp only
  go_enter Try.func8, Try.ntmps8
  go_wp2_with fail
  have hw : ∃ W : World, W = (((w.alloc (.cells #[.int .i64 b1, .int .i64 b2] 31)).alloc (.cells #[.int .i64 0, .int .i64 0, .int .i64 0, .map none] 65)).alloc (.cells #[.pointer none, .pointer (some ⟨w.heap.size + 1, 0, none⟩)] 26)) := ⟨_, rfl⟩
  obtain ⟨W, hW⟩ := hw
  have kb : Blk W w.heap.size 31 #[.int .i64 b1, .int .i64 b2] := by rw [hW]; exact ((Blk.new w _ _).alloc _).alloc _
  have kl : Blk W (w.heap.size + 1) 65 #[.int .i64 0, .int .i64 0, .int .i64 0, .map none] := by
    rw [hW]
    have := (Blk.new (w.alloc (.cells #[.int .i64 b1, .int .i64 b2] 31)) 65 #[.int .i64 0, .int .i64 0, .int .i64 0, .map none]).alloc (.cells #[.pointer none, .pointer (some ⟨w.heap.size + 1, 0, none⟩)] 26)
    rwa [World.size_alloc] at this
  have ks : Blk W (w.heap.size + 1 + 1) 26 #[.pointer none, .pointer (some ⟨w.heap.size + 1, 0, none⟩)] := by
    rw [hW]
    have := Blk.new ((w.alloc (.cells #[.int .i64 b1, .int .i64 b2] 31)).alloc (.cells #[.int .i64 0, .int .i64 0, .int .i64 0, .map none] 65)) 26 #[.pointer none, .pointer (some ⟨w.heap.size + 1, 0, none⟩)]
    rwa [World.size_alloc, World.size_alloc] at this
  have B0 : Hid (Below w.heap.size w W) := by rw [Hid, hW]; exact bchain (bchain (box_below _ _) (box_below _ _)) (box_below _ _)
  rw [← hW]
  obtain ⟨bb, hbb⟩ : ∃ bb, bb = w.heap.size := ⟨_, rfl⟩
  obtain ⟨bl, hbl⟩ : ∃ bl, bl = w.heap.size + 1 := ⟨_, rfl⟩
  obtain ⟨bs, hbs⟩ : ∃ bs, bs = w.heap.size + 1 + 1 := ⟨_, rfl⟩
  rw [← hbs] at ks ⊢
  rw [← hbl] at kl ks ⊢
  rw [← hbb] at kb ⊢
  clear hW hbb hbl hbs
  have c0 := kb.cell (i := 0) (v := .int .i64 b1) rfl
  have c1 := kb.cell (i := 1) (v := .int .i64 b2) rfl
  have l0 := kl.cell (i := 0) (v := .int .i64 0) rfl
  have s0 := ks.cell (i := 0) (v := .pointer none) rfl
  have s1 := ks.cell (i := 1) (v := .pointer (some ⟨bl, 0, none⟩)) rfl
  have hx : ∀ i : Nat, i < 2 → ∃ x, W.cell? ⟨bs, i, none⟩ = some x ∧ BadL W x := fun i hi => by
    match i, hi with
    | 0, _ => exact ⟨_, s0, .inl rfl⟩
    | 1, _ => exact ⟨_, s1, .inr ⟨bl, rfl, l0⟩⟩
  have HX := Lib.hid hx
  clear kb kl ks s0 s1 l0 hx
  go_loopg [29] 2 (fun g c wr => ∃ i : Nat, i ≤ 2 ∧ g = 2 - i ∧ c = .int .i64 i ∧ Below W.heap.size W wr)
  case atStart => exact ⟨0, by omega, rfl, rfl, Below.refl _ _⟩
  case round =>
    obtain ⟨i, hi, rfl, rfl, hB⟩ := hrel
    by_cases hlt : i < 2
    · have hlt' : (i : Int) < 2 := by omega
      obtain ⟨x, hx, hbad⟩ := HX.out i hlt
      have x0 := bcell hB hx
      have X0 := Lib.hid (hbad.below hB)
      have d0 := bcell hB c0
      have d1 := bcell hB c1
      clear hx hbad
      go_upto_region 8 with (first
        | (go_at_call 12; refine (nil_add x node b1 b2 k ⟨#[118]⟩ _ X0.out).mono ?_; rintro e y1 ⟨rfl, e1⟩; have X1 := Lib.hid (X0.out.below e1); have B1 := Lib.hid (hB.trans (e1.mono hB.size)); clear e1)
        | (go_at_call 13; refine (nil_chosen x k _ X1.out).mono ?_; rintro e w' ⟨rfl, rfl⟩)
        | (go_at_call 14; refine (nil_votes x k _ X1.out).mono ?_; rintro e y2 ⟨rfl, e2⟩; have X2 := Lib.hid (X1.out.below e2); have B2 := Lib.hid (B1.out.trans (e2.mono B1.out.size)); clear e2))
      have eb := box_below y2 (.cells #[.int .i64 0, .int .i64 0] 31)
      have X3 := Lib.hid (X2.out.below eb)
      have B3 := Lib.hid (B2.out.trans (eb.mono B2.out.size))
      clear eb
      go_wp2_with (first
        | (go_at_call 17; refine (nil_learn x k ⟨#[118]⟩ _ X3.out).mono ?_; rintro e w' ⟨rfl, rfl⟩)
        | (go_at_call 18; refine (nil_forget x k _ X3.out).mono ?_; rintro e w' ⟨rfl, rfl⟩)
        | (go_at_call 19; refine (nil_upto x _ X3.out).mono ?_; rintro e w' ⟨rfl, rfl⟩)
        | (go_at_call 15; refine (nil_open x _ X3.out).mono ?_; rintro e w' ⟨rfl, rfl⟩)
        | (go_at_call 25; refine (nil_copy x _ X3.out).mono ?_; rintro e w' ⟨rfl, rfl⟩))
      go_roundg (2 - (i + 1))
      case measure => omega
      case rel => exact ⟨i + 1, by omega, rfl, by go_num, B3.out⟩
    · have e : i = 2 := by omega
      subst e
      have B4 := Lib.hid (B0.out.trans (hB.mono B0.out.size))
      clear hB hlt
      obtain ⟨w4, rfl⟩ : ∃ w4 : World, w4 = wr := ⟨_, rfl⟩
      go_upto_region 18 with (first
        | (go_at_call 11; refine (lnew_S 3 _ ⟨by decide, by decide⟩).mono ?_; rintro e w5 ⟨p, m, rfl, t5, hp, hm, b5⟩; have T5 := Lib.hid t5; have B5 := Lib.hid (B4.out.trans (b5.mono B4.out.size)); have hB4 := B4.out.size; clear t5 b5)
        | (go_at_call 12; refine (add_S p m W0 1 2 0 6 ⟨#[118]⟩ _ T5.out).mono ?_; rw [n1]; rintro e w6 ⟨rfl, t6, f6⟩; have T6 := Lib.hid t6; have B6 := Lib.hid (Fr.upB B5.out f6 (fun i e => by rcases e with e | e <;> omega)); clear t6 f6)
        | (go_at_call 15; refine (open_S p m N1 _ T6.out).mono ?_; rintro e w7 ⟨vo, rfl, r7, b7⟩; rw [n3] at r7; have T7 := Lib.hid (T6.out.below b7); have B7 := Lib.hid (B6.out.trans (b7.mono B6.out.size)); have R7 := Lib.hid r7; have hv7 := r7.one; obtain ⟨g, cap, cur, hv7, hblk, hc7⟩ := hv7; subst hv7; have hg7 : w6.heap.size ≤ g := (r7.lt g rfl).1; have KG := Lib.hid hblk; clear r7 b7 hblk))
      have hnp : ¬ p = g := by obtain ⟨⟨u, hT, _⟩, _⟩ := T7.out; exact fun e => hT.blk.ne_type KG.out (by decide) e
      have hnm : ¬ m = g := by obtain ⟨⟨u, hT, _⟩, _⟩ := T7.out; obtain ⟨es, c, hb⟩ := hT.map.block; exact fun e => Blk.ne_map KG.out hb e.symm
      have hfz := KG.out.frozen 0
      have hf : Fr (S1 g) w7 (w7.setCell ⟨g, 0, none⟩ (.int .i64 9)) := (Fr.refl (S1 g) w7).setCell (p := ⟨g, 0, none⟩) (.inl (show S1 g g from rfl)) _
      have h76 := T6.out.lt
      have hsz6 : w6.heap.size ≤ w7.heap.size := by have := KG.out.lt; have := B7.out.size; omega
      have T8 := Lib.hid (T7.out.fr hf hnp hnm)
      have B8 : Hid (Below w.heap.size w (w7.setCell ⟨g, 0, none⟩ (.int .i64 9))) := Lib.hid (Fr.upB B7.out hf (fun i e => by have e : i = g := e; have := B6.out.size; omega))
      clear hf
      go_wp2_with (first
        | (go_at_call 25; refine (lcopy_S p m N1 _ T8.out).mono ?_; rintro e w9 ⟨q, n, rfl, t9, hq, hn, b9⟩; have hpl := T8.out.lt; have T9 := Lib.hid (T8.out.below b9); have Q9 := Lib.hid t9; have B9 := Lib.hid (B8.out.trans (b9.mono B8.out.size)); have hB8 := B8.out.size; clear t9 b9)
        | (go_at_call 12; refine (add_S q n N1 2 2 0 6 ⟨#[118]⟩ _ Q9.out).mono ?_; rw [n2]; rintro e wA ⟨rfl, tA, fA⟩; have QA := Lib.hid tA; have TA := Lib.hid (T9.out.fr fA (fun e => by rcases e with e | e <;> omega) (fun e => by rcases e with e | e <;> omega)); have BA := Lib.hid (Fr.upB B9.out fA (fun i e => by rcases e with e | e <;> omega)); clear tA fA))
      have tokO : True := trivial
      go_wp2_with (first
        | (go_at_call 15; have _t := tokO; refine (open_S p m N1 _ TA.out).mono ?_; rw [n3]; rintro e wB ⟨vB, rfl, rB, bB⟩; have bB' := bchain bB (box_below wB (.cells #[.int .i64 6] 3)); have QB := Lib.hid (QA.out.below bB'); have RB := Lib.hid (rB.below (box_below wB (.cells #[.int .i64 6] 3))); have BB := Lib.hid (BA.out.trans (bB'.mono BA.out.size)); clear rB bB bB' tokO)
        | (go_at_call 16; refine (equal_rows _ _ _ _ _ _ _ RB.out (lit_int wB 6) (by decide) (by decide)).mono ?_; rw [show decide (([6] : List Int) = [6]) = true from rfl]; rintro e wC ⟨rfl, bC⟩; have QC := Lib.hid (QB.out.below bC); have BC := Lib.hid (BB.out.trans (bC.mono BB.out.size)); clear bC)
        | (go_at_call 15; refine (open_S q n N2 _ QC.out).mono ?_; rw [n4]; rintro e wD ⟨vD, rfl, rD, bD⟩; obtain ⟨AD, kD, hvD, _, _⟩ := rD.view; simp only [List.length_nil] at hvD; subst hvD; have BD := Lib.hid (BC.out.trans (bD.mono BC.out.size)); clear rD bD)
        | (go_at_call 10; refine (works_any _).mono ?_; rintro e wk ⟨rfl, bk⟩; have BK := Lib.hid (BD.out.trans (bk.mono BD.out.size)); clear bk))
      go_returns
      exact ⟨rfl, BK.out⟩
end Go.Proofs.Ytnnadpbfidfhoaa.learnNil
