/- The reference's acceptor: Accept. -/
import Derived.Test.YtnbiihnfggcakaaRAccF
import Derived.Deep.DeepMust
set_option linter.unusedVariables false
set_option linter.unusedSimpArgs false
namespace Go.Proofs.Ytnbiihnfggcakaa
open Go.RowKit Go.Maps Go.Shelf

theorem cellsE_one (L : EL) : ∀ u ∈ cellsE L, u.oneCell' := by
  intro u hu
  obtain ⟨p, _, hu⟩ := List.mem_flatMap.1 hu
  exact entCells_one p u hu

def RAccPost (p : Nat) (s : ASt) (r1 d1 k : Int) (x : ByteArray) (w : World) (e : Ending) (w' : World) : Prop :=
  ∃ v', e = .returned (.int .i64 0) ∧ RAt w' p v' (acS s r1 d1 k x) ∧ Fr (S1 p) w w'

set_option maxRecDepth 100000 in
set_option maxHeartbeats 2000000 in
theorem raccept_yes (p : Nat) (v : Value) (s : ASt) (r1 d1 k : Int) (x : ByteArray) (w : World) (h : RAt w p v s) (hE : acE s r1 d1 k x = 0) :
    Calls Try.prog 26 #[.pointer (some ⟨p, 0, none⟩), balV r1 d1, .int .i64 k, .string x] w (RAccPost p s r1 d1 k x w) := by
  have h1 := h.below (box_below w (.cells #[.int .i64 r1, .int .i64 d1] 30))
  have hb := box_below w (.cells #[.int .i64 r1, .int .i64 d1] 30)
  have b1 := Blk.new w 30 #[.int .i64 r1, .int .i64 d1]
  have c0 := h1.c0
  have c1 := h1.c2
  have c2 := h1.c3
  have c3 := h1.c4
  have c4 := h1.c5
  have hlt := h.blk.lt
  have e0 := b1.cell (i := 0) (v := .int .i64 r1) rfl
  have e1 := b1.cell (i := 1) (v := .int .i64 d1) rfl
  have hE0 := hE
  have hg : goodB s.n r1 d1 = true := by
    cases hg : goodB s.n r1 d1
    · simp [acE, accE, hg] at hE
    · rfl
  have hk : 0 ≤ k ∧ k < 4096 := by
    refine Classical.byContradiction fun hc => ?_
    rw [acE, accE, if_pos (by right; omega)] at hE
    simp at hE
  have hG : ¬ (goodB s.n r1 d1 = false ∨ k < 0 ∨ 4096 ≤ k) := by rw [hg]; simp; omega
  have hk0' : decide (k < 0) = false := by simp; omega
  have hk1' : decide (k ≥ 4096) = false := by simp; omega
  rw [acE, accE, if_neg hG] at hE
  have hs : ¬ 65536 < x.size := fun hc => by rw [if_pos hc] at hE; simp at hE
  have hs' : decide ((x.size : Int) > 65536) = false := by simp; omega
  rw [if_neg hs] at hE
  have ho : ¬ ordB (r1, d1) (s.r, s.d) < 0 := fun hc => by rw [if_pos hc] at hE; simp at hE
  have ho' : decide (ordB (r1, d1) (s.r, s.d) < 0) = false := by simpa using ho
  rw [if_neg ho] at hE
  have hbs : ¬ k < s.base := fun hc => by rw [if_pos hc] at hE; simp at hE
  have hbs' : decide (k < s.base) = false := by simpa using hbs
  have hgd := h.good.acc r1 d1 k x
  rw [acS_ok hE0] at hgd
  have hg2 := h.good.prom r1 d1 0
  have HS := Lib.hid h.good.srt
  have HGD := Lib.hid hgd
  have hlen0 := h.good.len
  have HT := Lib.hid h1
  have HB := Lib.hid hb
  have HE0 := Lib.hid hE0
  clear h h1 b1 hb hE hE0 hG hs ho hbs hgd hg2
  go_enter Try.func26, Try.ntmps26
  go_wp2_with (first
    | (go_at_call 46; refine (rvalid p _ c0).mono ?_; rintro e w' ⟨rfl, rfl⟩)
    | (go_at_call 47; refine (rgood_any p v s r1 d1 _ HT.out).mono ?_; rintro e w2 ⟨rfl, b2⟩; have q0 := bcell b2 c0; have q1 := bcell b2 c1; have q2 := bcell b2 c2; have q3 := bcell b2 e0; have q4 := bcell b2 e1; have q5 := bcell b2 c4; have HT2 := Lib.hid (HT.out.below b2); have HB2 := Lib.hid (bchain HB.out b2); clear b2))
  clear c0 c1 c2 c3 c4 e0 e1
  go_region_held3 (fun W => W.cell? ⟨w.heap.size, 0, none⟩ = some (.int .i64 r1) ∧ W.cell? ⟨w.heap.size, 1, none⟩ = some (.int .i64 d1) ∧ W.cell? ⟨p, 2, none⟩ = some (.int .i64 s.r) ∧ W.cell? ⟨p, 3, none⟩ = some (.int .i64 s.d))
    (first | exact ⟨by assumption, by assumption, by assumption, by assumption⟩ | go_keep)
    (first
      | (go_at_call 48; refine (rorder_any _ _ _ _ _).mono ?_; rintro e w3 ⟨rfl, b3⟩; have u0 := bcell b3 q0; have u1 := bcell b3 q1; have u2 := bcell b3 q2; have u3 := bcell b3 q3; have u4 := bcell b3 q4; have u5 := bcell b3 q5; have HB3 := Lib.hid b3; clear b3))
  have hb3 : Below w.heap.size w w3 := bchain HB2.out ((Below.refl _ _).drew.trans (HB3.out.mono (by simp)))
  have hgb : AGood (withB s r1 d1) := by
    obtain ⟨q1, q2, q3, q4, q5, q6⟩ := accE_zero.1 HE0.out
    have hp : prE s r1 d1 0 = 0 := promE_zero.2 ⟨q1, by omega, by omega, q5⟩
    have := HT.out.good.prom r1 d1 0
    rwa [prS_ok hp] at this
  have t3 := HT2.out.drew.below HB3.out
  have f1 := t3.blk.frozen 2
  have f2 := t3.blk.frozen 3
  have hs := t3.setBal r1 d1 hgb
  have e0 : ((w3.setCell ⟨p, 2, none⟩ (.int .i64 r1)).setCell ⟨p, 3, none⟩ (.int .i64 d1)).cell? ⟨w.heap.size, 0, none⟩ = some (.int .i64 r1) := hs.2.cell (fun e => by have e : w.heap.size = p := e; omega) u3
  have e1 : ((w3.setCell ⟨p, 2, none⟩ (.int .i64 r1)).setCell ⟨p, 3, none⟩ (.int .i64 d1)).cell? ⟨w.heap.size, 1, none⟩ = some (.int .i64 d1) := hs.2.cell (fun e => by have e : w.heap.size = p := e; omega) u4
  have HB4 := Lib.hid hb3
  have HA := Lib.hid hs.1
  have HF := Lib.hid hs.2
  clear q0 q1 q2 q3 q4 q5 hb3 t3 hs
  go_wp2_with fail
  clear u0 u1 u2 u3 u4 u5 f1 f2
  generalize ((w3.setCell ⟨p, 2, none⟩ (.int .i64 r1)).setCell ⟨p, 3, none⟩ (.int .i64 d1)) = W4 at *
  obtain ⟨A, cap, rfl, hcap, hc⟩ := HA.out.row.view
  have d4 := HA.out.c4
  simp only at hcap hc
  have HC := Lib.hid hc
  obtain ⟨i0, hi, hz0, hz1, hz2⟩ := info_parts info_ent
  have HI := Lib.hid hi
  have HZ0 := Lib.hid hz0
  have HZ1 := Lib.hid hz1
  have HZ2 := Lib.hid hz2
  clear hi hz0 hz1 hz2 hc
  go_loopw [9, 10] (fun v5 c wr => ∃ i : Nat, i ≤ s.L.length ∧ c = .int .i64 i ∧ EntRow wr W4.heap.size v5 (lowL k (s.L.take i)) ∧ Below W4.heap.size W4 wr) (fun _ c _ => s.L.length - (intOf c).toNat)
  case atStart => exact ⟨0, by omega, rfl, EntRow.nil _ _, Below.refl _ _⟩
  case round =>
    obtain ⟨i, hi, rfl, hrow, hB⟩ := hrel
    have HROW := Lib.hid hrow
    have z4 := bcell hB d4
    clear hrow
    by_cases hlt : i < s.L.length
    · obtain ⟨g, rfl, _, hg9, hcells⟩ := HC.out (by omega)
      obtain ⟨⟨y, a1, a2, a3⟩, hs⟩ : ∃ q, s.L[i]? = some q := ⟨_, List.getElem?_eq_getElem hlt⟩
      obtain ⟨m1, m2, m3, m4⟩ := hcells i _ _ hs
      have z5 := bcell hB m1
      have z6 := bcell hB m2
      have z7 := bcell hB m3
      have z8 := bcell hB m4
      have HSn := Lib.hid (take_snoc hs)
      have hnl : (lowL k (s.L.take i)).length ≤ i := Nat.le_trans (List.length_filter_le _ _) (List.length_take_le i s.L)
      clear m1 m2 m3 m4 hcells hs
      by_cases hx : y < k
      · have hx' : decide (y < k) = true := by simpa using hx
        have HL : Hid (lowL k (s.L.take (i + 1)) = lowL k (s.L.take i) ++ [(y, a1, a2, a3)]) := by
          rw [Hid, HSn.out]; simp [lowL, hx]
        go_wp2_with (first
          | (at_builtin; go_must (refine wpList_app rfl _ _ 32 rfl W4.heap.size 43 i0 (entV 0 (0, 0, ⟨#[]⟩)) 4 40 Try.underlying32 HI.out HZ0.out HZ1.out HZ2.out rfl (by decide) _ _ _ rfl (World.ownsRow.alloc HROW.out _) (some ⟨wr.heap.size, 0, none⟩) 1 1 (entCells (y, a1, a2, a3)) rfl (by simp) (by omega) (reads_new _ _ (entCells (y, a1, a2, a3)) 1 4 rfl) (entCells_one _) (by unfold maxLen; omega) (by omega) (by have := hB.size; simp; omega) ?_)))
        intro v' w4 hown hgrow _
        have hne1 : ∀ k', some k' = _ → W4.heap.size ≤ k' := fun k' hk' => (HROW.out.lt k' hk'.symm).1
        have hown' : EntRow w4 W4.heap.size v' (lowL k (s.L.take (i + 1))) := by
          rw [HL.out]
          unfold EntRow
          rw [cellsE_append, List.length_append]
          exact hown
        have hB4 := (hB.alloc hB.size _).grown hgrow (by have := hB.size; simp; omega) (fun k' ek => by have := hne1 k' ek.symm; omega)
        go_wp2_with fail
        go_roundw
        case rel => exact ⟨i + 1, by omega, by go_num, hown', hB4⟩
        case measure => simp [intOf]; omega
      · have hx' : decide (y < k) = false := by simpa using hx
        have HL : Hid (lowL k (s.L.take (i + 1)) = lowL k (s.L.take i)) := by
          rw [Hid, HSn.out]; simp [lowL, hx]
        clear hx
        go_wp2_with fail
        go_roundw
        case rel => exact ⟨i + 1, by omega, by go_num, by rw [HL.out]; exact HROW.out, hB⟩
        case measure => simp [intOf]; omega
    · have e : i = s.L.length := by omega
      have hr := HROW.out
      rw [e, List.take_length] at hr
      have HR := Lib.hid hr
      have y0 := bcell hB e0
      have y1 := bcell hB e1
      have TR := Lib.hid (HA.out.below hB)
      subst e
      have hnl : (lowL k s.L).length ≤ 4096 := Nat.le_trans (List.length_filter_le _ _) hlen0
      have hB0 := hB.size
      clear hr
      go_wp2_with (first
          | (at_builtin; go_must (refine wpList_app rfl _ _ 32 rfl W4.heap.size 43 i0 (entV 0 (0, 0, ⟨#[]⟩)) 4 40 Try.underlying32 HI.out HZ0.out HZ1.out HZ2.out rfl (by decide) _ _ _ rfl (World.ownsRow.alloc HR.out _) (some ⟨wr.heap.size, 0, none⟩) 1 1 (entCells (k, r1, d1, x)) rfl (by simp) (by omega) (reads_new _ _ (entCells (k, r1, d1, x)) 1 4 rfl) (entCells_one _) (by unfold maxLen; omega) (by omega) (by simp; omega) ?_)))
      intro v6 w6 hown6 hgrow6 _
      have hne6 : ∀ k', some k' = _ → W4.heap.size ≤ k' := fun k' hk' => (HR.out.lt k' hk'.symm).1
      have ho6 : EntRow w6 W4.heap.size v6 (lowL k s.L ++ [(k, r1, d1, x)]) := by
        unfold EntRow
        rw [cellsE_append, List.length_append]
        exact hown6
      have hB6 := (hB.alloc hB.size _).grown hgrow6 (by simp; omega) (fun k' ek => by have := hne6 k' ek.symm; omega)
      have hB60 := hB6.size
      have O6 := Lib.hid ho6
      have T6 := Lib.hid (HA.out.below hB6)
      clear hown6 hgrow6 hne6 ho6 y0 y1 TR HR
      obtain ⟨w9, rfl⟩ : ∃ w9 : World, w9 = w6 := ⟨_, rfl⟩
      go_wp2_with (first
          | (go_at_call 33; refine (rlist_any p _ (withB s r1 d1) (k + 1) _ T6.out).mono ?_; rintro e w7 ⟨v7, rfl, r7, b7⟩; have hl7 : (listL (k + 1) s.L).length ≤ 4096 := Nat.le_trans (List.length_filter_le _ _) hlen0; have O7 := Lib.hid (O6.out.below b7); obtain ⟨A7, k7, hv7, hle7, hA7, hmx7, hr7, _⟩ := row_view r7; subst hv7; have HA7 := Lib.hid hA7; have HR7 := Lib.hid hr7; have B7 := Lib.hid b7; have T7 := Lib.hid (T6.out.below b7); clear r7 hA7 hr7)
          | (at_builtin; go_must (refine wpList_app rfl _ _ 32 rfl W4.heap.size 43 i0 (entV 0 (0, 0, ⟨#[]⟩)) 4 40 Try.underlying32 HI.out HZ0.out HZ1.out HZ2.out rfl (by decide) _ _ _ rfl O7.out A7 (listL (k + 1) s.L).length k7 (cellsE (listL (k + 1) s.L)) rfl HA7.out hle7 HR7.out (cellsE_one _) (by simp only [List.length_append, List.length_singleton]; unfold maxLen; omega) (by simp only [List.length_append, List.length_singleton]; omega) (by have := B7.out.size; omega) ?_)))
      intro v8 w8 hown8 hgrow8 _
      have hne8 : ∀ k', some k' = _ → W4.heap.size ≤ k' := fun k' hk' => (O7.out.lt k' hk'.symm).1
      have b7 := B7.out
      have hB8 := (bchain hB6 b7).grown hgrow8 (by have := b7.size; omega) (fun k' ek => by have := hne8 k' ek.symm; omega)
      have ho8 : EntRow w8 W4.heap.size v8 (put k (r1, d1, x) s.L) := by
        rw [← put_parts HS.out]
        unfold EntRow
        rw [cellsE_append, List.length_append, List.length_append, List.length_singleton]
        exact hown8
      have T8 := Lib.hid (HA.out.below hB8)
      obtain ⟨A8, k8, hv8, _⟩ := row_view ho8
      subst hv8
      have O8 := Lib.hid ho8
      have f4 := T8.out.blk.frozen 4
      have y4 := T8.out.c4
      clear hown8 hgrow8 hne8 ho8 b7
      go_wp2_with fail
      go_returns
      have hf : Fr (S1 p) w8 (w8.setCell ⟨p, 4, none⟩ (.slice A8 (put k (r1, d1, x) s.L).length k8)) := (Fr.refl (S1 p) w8).setCell (p := ⟨p, 4, none⟩) (.inl (show S1 p p from rfl)) _
      unfold RAccPost
      rw [acS_ok HE0.out]
      refine ⟨_, rfl, ⟨T8.out.blk.set 4 _, ?_, HGD.out⟩, (((Fr.of_below HB4.out).trans HF.out).trans (Fr.of_below hB8)).trans hf⟩
      exact row_lower (row_fr O8.out hf fun g hg' hs => row_ne_blk O8.out T8.out.blk (by decide) g hg' hs) (Nat.zero_le _)
end Go.Proofs.Ytnbiihnfggcakaa
