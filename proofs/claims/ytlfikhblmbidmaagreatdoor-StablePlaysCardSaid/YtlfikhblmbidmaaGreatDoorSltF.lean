import Derived.Test.YtlfikhblmbidmaaGreatDoorMrgG
set_option linter.all false
namespace Go.Proofs.YtlfikhblmbidmaaGreatDoor
open Go.RowKit Go.Maps Go.Shelf
theorem cutold_any (q : Nat) (x k : Int) (v : Value) (w : World) (h : w.cell? ⟨q, 0, none⟩ = some (.int .i64 k)) :
  Calls Tryz.prog 187 #[.int .i64 x, v, .pointer (some ⟨q, 0, none⟩)] w fun e w' => e = .returned (.bool (decide (x < k))) ∧ w = w' := by
 go_enter Tryz.func187, Tryz.ntmps187
 go_wp2
 go_ret
 exact ⟨rfl, rfl⟩
structure FD {β : Type} (f : Int → β → Value) (k : Int) (L M : List (Int × β)) (left : Lit → Bool) : Prop where
 srt : Srt M
 mem : ∀ q, q ∈ M ↔ q ∈ L ∧ (left (.int .i64 q.1) = true ∨ ¬ q.1 < k)
namespace FD
variable {β : Type} {f : Int → β → Value} {k x : Int} {L M : List (Int × β)} {left : Lit → Bool}
theorem start (f : Int → β → Value) (k : Int) {L : List (Int × β)} (h : Srt L) : FD f k L L (Maps.has (dat (encF f L))) :=
 ⟨h, fun q => ⟨fun hq => ⟨hq, .inl (by rw [dat_has, get_encF, get_of_mem h (v := q.2) hq]; rfl)⟩, fun hq => hq.1⟩⟩
theorem keep (h : FD f k L M left) (hx : ¬ x < k) : FD f k L M (fun z => left z && !z.sameKey (.int .i64 x)) := by
 refine ⟨h.srt, fun q => ?_⟩
 rw [h.mem q]
 simp only [same_eq]
 refine and_congr_right fun _ => ?_
 by_cases e : q.1 = x
 ·subst e; simp [hx]
 ·have : (q.1 == x) = false := by simpa using e
  simp [this]
theorem gone (h : FD f k L M left) (hx : x < k) : FD f k L (del x M) (fun z => left z && !z.sameKey (.int .i64 x)) := by
 refine ⟨srt_del h.srt, fun q => ?_⟩
 rw [mem_del, h.mem q]
 simp only [same_eq]
 by_cases e : q.1 = x
 ·subst e; simp [hx]
 ·have : (q.1 == x) = false := by simpa using e
  simp [this, e]
theorem done (h : FD f k L M left) (hs : Srt L) (hl : ∀ z, left z = false) : M = L.filter (fun p => !decide (p.1 < k)) := by
 refine srt_ext h.srt (hs.filter _) fun q => ?_
 rw [h.mem q, List.mem_filter, hl]
 simp
end FD
set_option maxRecDepth 100000 in
set_option maxHeartbeats 1000000 in
theorem mdel_any (m q : Nat) (k : Int) (L : VL) (w : World) (hm : MapIs Tryz.prog 3 w m (encF strV L)) (hq : w.cell? ⟨q, 0, none⟩ = some (.int .i64 k)) :
  Calls Tryz.prog 186 #[.map (some m), .func (.func 187) #[] #[.pointer (some ⟨q, 0, none⟩)]] w fun e w' =>
   e = .returned (.tuple #[]) ∧ MapIs Tryz.prog 3 w' m (encF strV (L.filter fun p => !decide (p.1 < k))) ∧ Fr (S1 m) w w' := by
 have hsrt : Srt L := srt_encF (hm.srt (int_keyed Tryz.underlying3))
 have hqm : q ≠ m := by
  obtain ⟨es, c, hb⟩ := hm.block
  obtain ⟨o, ho, hc⟩ := cells_of_cell hq
  rintro rfl
  rw [hb] at ho
  cases ho
  cases hc
 have hql : q < w.heap.size := by
  obtain ⟨o, ho, _⟩ := cells_of_cell hq
  exact (Array.getElem?_eq_some_iff.1 ho).1
 have hml := hm.lt
 have HS := Lib.hid hsrt
 have HM := Lib.hid hm
 clear hm hsrt
 go_enter Tryz.func186, Tryz.ntmps186
 go_wp2_with (first
  | (at_range; refine wpList_range_own _ rfl _ 167 rfl 3 9 (int_keyed Tryz.underlying3) Tryz.underlying167 RV m _ (dat (encF strV L)) rfl HM.out ?_; rintro w2 hr2 hg2 hs2))
 go_frame
 obtain ⟨rr, hrr⟩ : ∃ rr, rr = w.heap.size := ⟨_, rfl⟩
 rw [← hrr] at hr2 ⊢
 have hf2 : Fr (S1 m) w w2 := Fr.of_grown hg2 (fun i e => by cases e)
 have HR2 := Lib.hid hr2
 have HF2 := Lib.hid hf2
 have hW1 : rr ≤ w.heap.size := by omega
 have hW2 : w.heap.size ≤ rr := by omega
 clear hr2 hf2 hg2 hs2 hrr
 go_loopw [8] (fun _ wr => ∃ (M : VL) (left : Lit → Bool) (cnt : Nat), wr.ranges Tryz.prog 3 RV m rr _ (dat (encF strV M)) left cnt ∧ FD strV k L M left ∧ Fr (fun i => i = m ∨ i = rr) w wr) (fun _ wr => wr.rangeLeft m rr)
 case atStart => exact ⟨L, _, _, HR2.out, FD.start strV k HS.out, HF2.out.mono (fun i e => .inl e)⟩
 case round =>
  obtain ⟨M, left, cnt, hrg, hfa, hF⟩ := hrel
  have hcnt := hrg.left_eq
  have HCNT := Lib.hid hcnt
  have HRG := Lib.hid hrg
  have HFA := Lib.hid hfa
  have hrlt := hrg.lt
  have x1 := hF.cell (p := ⟨q, 0, none⟩) (by rintro (e | e) <;> simp at e <;> omega) hq
  clear hcnt hrg hfa
  go_wp2_with (first
   | (at_next; refine wpList_next_encF _ strV rfl _ rfl 3 Tryz.underlying3 m rr _ M left cnt rfl HRG.out ?_ ?_))
  ·-- NO ENTRY IS LEFT
   intro h0 hl
   have hd := HFA.out.done HS.out hl
   have HD := Lib.hid hd
   have HF4 := Lib.hid hF
   clear h0 hl hd hF
   go_wp2_with fail
   go_returns
   rw [← HD.out]
   refine ⟨rfl, MapIs.of HRG.out.owns, HF4.out.mono' (fun i hi e => by rcases e with e | e; exact e; have e : i = rr := e; omega)⟩
  ·-- ONE MORE
   rintro x ea w3 cnt' hwx hlx hget hrg3 hlt3 hg3 hs3 hen
   have hsv := HRG.out.ne
   have y1 : w3.cell? ⟨q, 0, none⟩ = some (.int .i64 k) := (World.cell?_of_block (hg3.block q (by omega) (by simp; omega))).trans x1
   have hF3 : Fr (fun i => i = m ∨ i = rr) w w3 := hF.trans (Fr.of_grown hg3 (fun i e => by cases e; exact .inr rfl))
   have HRG3 := Lib.hid hrg3
   have HF3 := Lib.hid hF3
   clear x1 hrg3 hg3 hs3 hF3 hF hlx hget
   by_cases hx : x < k
   ·have HN := Lib.hid (HFA.out.gone hx)
    go_wp2_with (first
     | (go_at_call 187; refine (cutold_any q x k _ _ y1).mono ?_; rintro e w' ⟨rfl, rfl⟩)
     | (at_delete; refine wpList_delete_ranges _ rfl _ _ 167 3 rfl 9 (int_keyed Tryz.underlying3) Tryz.underlying167 RV m rr _ _ _ _ rfl HRG3.out (.int .i64 x) (.int .i64 x) rfl (keyOf_int_mk Tryz.underlying3 hwx) ?_; rintro w4 cnt4 hrg4 hle4 hturn))
    rw [dat_del, del_encF, Maps.strike_twice] at hrg4
    go_wp2_with fail
    go_frame
    go_roundw
    case rel => exact ⟨del x M, _, cnt4, hrg4, HN.out, HF3.out.trans (Fr.of_grown hturn.grown (fun i e => by cases e; exact .inl rfl))⟩
    case measure => rw [hrg4.left_eq, HCNT.out]; omega
   ·have hx' : decide (x < k) = false := by simpa using hx
    have HN := Lib.hid (HFA.out.keep hx)
    clear hx
    go_wp2_with (first
     | (go_at_call 187; refine (cutold_any q x k _ _ y1).mono ?_; rintro e w' ⟨rfl, rfl⟩))
    go_roundw
    case rel => exact ⟨M, _, cnt', HRG3.out, HN.out, HF3.out⟩
    case measure => rw [HRG3.out.left_eq, HCNT.out]; exact hlt3
def cutPre (s : LogSt) (u : Int) : LogSt := { base := u, upto := max s.upto u, top := max s.top u, L := s.L.filter fun p => !decide (p.1 < u) }
theorem cut_keep {W : World} {B p i : Nat} {v z : Value} (h : W.cell? ⟨B, 0, none⟩ = some z) (hp : p ≠ B) : (W.setCell ⟨p, i, none⟩ v).cell? ⟨B, 0, none⟩ = some z :=
 (World.cell?_setCell_other _ _ _ _ (by simp [Ne.symm hp])).trans h
theorem cut_at {w W : World} {p m : Nat} {s : LogSt} {u : Int} (hk : Blk W p 169 #[.map (some m), .int .i64 u, .int .i64 s.upto, .int .i64 s.top]) (hm : MapIs Tryz.prog 3 W m (encF strV (s.L.filter fun p => !decide (p.1 < u)))) (hf : Fr (lF p m) w W) (hne : p ≠ m) :
  LStep w p m ((W.setCell ⟨p, 2, none⟩ (.int .i64 (max s.upto u))).setCell ⟨p, 3, none⟩ (.int .i64 (max s.top u))).drew (cutPre s u) := by
 refine ⟨((hf.setCell (.inl (.inl rfl)) _).setCell (.inl (.inl rfl)) _).drew, (hk.set 2 _).set 3 _, ?_⟩
 exact ((hm.of_block (Below.heap_setCell _ _ _ m (Ne.symm hne))).of_block (Below.heap_setCell _ _ _ m (Ne.symm hne))).of_block rfl
set_option maxRecDepth 100000 in
set_option maxHeartbeats 1000000 in
theorem lcut_any {w : World} {p m : Nat} {s : LogSt} (u : Int) (h : LogAt w p m s) (hg : LGood s) (h0 : 0 ≤ u) (h1 : u ≤ 4096) :
  Calls Tryz.prog 131 #[.pointer (some ⟨p, 0, none⟩), .int .i64 u] w fun e w' => e = .returned (.tuple #[]) ∧ LogAt w' p m (lcut s u) ∧ Fr (lF p m) w w' := by
 have hb1 := box_below w (.cells #[.int .i64 u] 3)
 have hb := Blk.new w 3 #[.int .i64 u]
 have e0 := hb.cell (i := 0) (v := .int .i64 u) rfl
 have h1' := h.below hb1
 have c0 := h1'.c0
 have hlt := h.lt
 have H1 := Lib.hid h1'
 have HB1 := Lib.hid hb1
 have HB := Lib.hid hb
 clear h h1' hb hb1
 go_enter Tryz.func131, Tryz.ntmps131
 go_upto_region 3 with (first
  | (go_at_call 186; refine (mdel_any m w.heap.size u s.L _ H1.out.map e0).mono ?_; rintro e w2 ⟨rfl, hm2, hf2⟩; have HM2 := Lib.hid hm2; have HF2 := Lib.hid hf2; have HK2 := Lib.hid (H1.out.blk.fr hf2 H1.out.ne); have e2 := hf2.cell (p := ⟨w.heap.size, 0, none⟩) (show ¬ w.heap.size = m by omega) e0; have f1 := HK2.out.frozen 1; have d1 := HK2.out.cell (i := 1) (v := .int .i64 s.base) rfl; clear hm2 hf2))
 have hm0 := H1.out.ne
 have HK3 := Lib.hid (HK2.out.set 1 (.int .i64 u))
 have HM3 := Lib.hid (HM2.out.of_block (Below.heap_setCell w2 ⟨p, 1, none⟩ (.int .i64 u) m (Ne.symm hm0)))
 have HF3 : Hid (Fr (lF p m) w (w2.setCell ⟨p, 1, none⟩ (.int .i64 u))) := ((Fr.of_below HB1.out : Fr (lF p m) _ _).trans (HF2.out.mono (fun i e => .inr e))).setCell (.inl (.inl rfl)) _
 have e3 : (w2.setCell ⟨p, 1, none⟩ (.int .i64 u)).cell? ⟨w.heap.size, 0, none⟩ = some (.int .i64 u) := cut_keep e2 (by omega)
 have q2 := HK3.out.cell (i := 2) (v := .int .i64 s.upto) rfl
 have q3 := HK3.out.cell (i := 3) (v := .int .i64 s.top) rfl
 have f2 := HK3.out.frozen 2
 have f3 := HK3.out.frozen 3
 clear HM2 HF2 HK2 e2 f1 d1 c0
 have hpB : p ≠ w.heap.size := by omega
 have HU : Hid ((0 ≤ (cutPre s u).upto ∧ (cutPre s u).upto ≤ (cutPre s u).top) ∧ (cutPre s u).top ≤ 4096) := by
  have := hg.ut
  have := hg.t1
  show (0 ≤ max s.upto u ∧ max s.upto u ≤ max s.top u) ∧ max s.top u ≤ 4096
  omega
 generalize w2.setCell ⟨p, 1, none⟩ (.int .i64 u) = w3 at *
 have HL : Hid (LStep w p m ((w3.setCell ⟨p, 2, none⟩ (.int .i64 (max s.upto u))).setCell ⟨p, 3, none⟩ (.int .i64 (max s.top u))).drew (cutPre s u)) := (cut_at HK3.out HM3.out HF3.out hm0)
 refine wp_region_held_drew (S := (fun W => W.cell? ⟨w.heap.size, 0, none⟩ = some (.int .i64 u))) (by kernel_rfl) ?_ (fun hHeld => ?_)
 ·exact e3
 try dsimp only at hHeld
 refine hY 0 (some 14) hHeld ?_
 refine hY 1 (some 15) hHeld ?_
 refine hY 2 (some 16) hHeld ?_
 refine hY 3 (some 17) hHeld ?_
 refine hY 4 (some 18) hHeld ?_
 refine hY 6 (some 20) hHeld ?_
 refine hY 8 (some 22) hHeld ?_
 refine hY 9 (some 23) hHeld ?_
 refine hY 10 (some 24) hHeld ?_
 refine hY 12 (some 26) hHeld ?_
 refine wpAnyH_ready (rs := [5, 11]) (by kernel_rfl) (by simp) ?_
 refine (AllReadyH.cons rfl (fun K' hK' => ?_) (AllReadyH.cons rfl (fun K' hK' => ?_) AllReadyH.nil))
 ·go_simp
  refine hK'.out _ _ ?_ (fun hHeld => ?_)
  ·first | exact hHeld | exact cut_keep hHeld hpB | exact cut_keep (cut_keep e3 hpB) hpB
  clear hK' K'
  try dsimp only at hHeld
  try simp only [Act.put, List.setIfInBounds_toArray, List.set_cons_zero, List.set_cons_succ]
  refine hY 7 (some 21) hHeld ?_
  refine wpAnyH_ready (rs := [11]) (by kernel_rfl) (by simp) ?_
  refine (AllReadyH.cons rfl (fun K' hK' => ?_) AllReadyH.nil)
  go_simp
  refine hK'.out _ _ ?_ (fun hHeld => ?_)
  ·first | exact hHeld | exact cut_keep hHeld hpB | exact cut_keep (cut_keep e3 hpB) hpB
  clear hK' K'
  try dsimp only at hHeld
  try simp only [Act.put, List.setIfInBounds_toArray, List.set_cons_zero, List.set_cons_succ]
  refine hY 13 (some 27) hHeld ?_
  refine hY 14 (some 28) hHeld ?_
  refine hY 15 (some 29) hHeld ?_
  refine wpAnyH_ready (rs := [16]) (by kernel_rfl) (by simp) ?_
  refine (AllReadyH.cons rfl (fun K' hK' => ?_) AllReadyH.nil)
  go_simp
  refine hK'.out _ _ ?_ (fun hHeld => ?_)
  ·first | exact hHeld | exact cut_keep hHeld hpB | exact cut_keep (cut_keep e3 hpB) hpB
  clear hK' K'
  try dsimp only at hHeld
  try simp only [Act.put, List.setIfInBounds_toArray, List.set_cons_zero, List.set_cons_succ]
  refine hY 17 (some 30) hHeld ?_
  refine hY 18 (some 31) hHeld ?_
  refine wpAnyH_ready (rs := [19]) (by kernel_rfl) (by simp) ?_
  refine (AllReadyH.cons rfl (fun K' hK' => ?_) AllReadyH.nil)
  go_simp
  refine hK'.out _ _ ?_ (fun hHeld => ?_)
  ·first | exact hHeld | exact cut_keep hHeld hpB | exact cut_keep (cut_keep e3 hpB) hpB
  clear hK' K'
  try dsimp only at hHeld
  try simp only [Act.put, List.setIfInBounds_toArray, List.set_cons_zero, List.set_cons_succ]
  refine wpAnyH_done (by kernel_rfl) ?_ _
  (go_wp2_with (go_at_call 126; refine (lfill_any HL.out.at_ HU.out.1 HU.out.2).mono ?_; rintro e w7 ⟨rfl, h7⟩; have H7 := Lib.hid h7; clear h7); go_returns; exact ⟨rfl, H7.out.at_, HL.out.fr.trans H7.out.fr⟩)
 ·go_simp
  refine hK'.out _ _ ?_ (fun hHeld => ?_)
  ·first | exact hHeld | exact cut_keep hHeld hpB | exact cut_keep (cut_keep e3 hpB) hpB
  clear hK' K'
  try dsimp only at hHeld
  try simp only [Act.put, List.setIfInBounds_toArray, List.set_cons_zero, List.set_cons_succ]
  refine hY 13 (some 27) hHeld ?_
  refine wpAnyH_ready (rs := [5]) (by kernel_rfl) (by simp) ?_
  refine (AllReadyH.cons rfl (fun K' hK' => ?_) AllReadyH.nil)
  go_simp
  refine hK'.out _ _ ?_ (fun hHeld => ?_)
  ·first | exact hHeld | exact cut_keep hHeld hpB | exact cut_keep (cut_keep e3 hpB) hpB
  clear hK' K'
  try dsimp only at hHeld
  try simp only [Act.put, List.setIfInBounds_toArray, List.set_cons_zero, List.set_cons_succ]
  refine hY 7 (some 21) hHeld ?_
  refine hY 14 (some 28) hHeld ?_
  refine hY 15 (some 29) hHeld ?_
  refine wpAnyH_ready (rs := [16]) (by kernel_rfl) (by simp) ?_
  refine (AllReadyH.cons rfl (fun K' hK' => ?_) AllReadyH.nil)
  go_simp
  refine hK'.out _ _ ?_ (fun hHeld => ?_)
  ·first | exact hHeld | exact cut_keep hHeld hpB | exact cut_keep (cut_keep e3 hpB) hpB
  clear hK' K'
  try dsimp only at hHeld
  try simp only [Act.put, List.setIfInBounds_toArray, List.set_cons_zero, List.set_cons_succ]
  refine hY 17 (some 30) hHeld ?_
  refine hY 18 (some 31) hHeld ?_
  refine wpAnyH_ready (rs := [19]) (by kernel_rfl) (by simp) ?_
  refine (AllReadyH.cons rfl (fun K' hK' => ?_) AllReadyH.nil)
  go_simp
  refine hK'.out _ _ ?_ (fun hHeld => ?_)
  ·first | exact hHeld | exact cut_keep hHeld hpB | exact cut_keep (cut_keep e3 hpB) hpB
  clear hK' K'
  try dsimp only at hHeld
  try simp only [Act.put, List.setIfInBounds_toArray, List.set_cons_zero, List.set_cons_succ]
  refine wpAnyH_done (by kernel_rfl) ?_ _
  (go_wp2_with (go_at_call 126; refine (lfill_any HL.out.at_ HU.out.1 HU.out.2).mono ?_; rintro e w7 ⟨rfl, h7⟩; have H7 := Lib.hid h7; clear h7); go_returns; exact ⟨rfl, H7.out.at_, HL.out.fr.trans H7.out.fr⟩)
section
variable {w : World} {p m : Nat} {s : LogSt}
set_option maxHeartbeats 1000000 in
theorem lfor_any (u : Int) (h : LS w p m s) : Calls Tryz.prog 46 #[.pointer (some ⟨p, 0, none⟩), .int .i64 u] w fun e w' => e = .returned (.int .i64 (lforE s u)) ∧ LS w' p m (lforS s u) ∧ Fr (lF p m) w w' := by
 have c1 := h.at_.c1
 have c2 := h.at_.c2
 have HC := Lib.hid (lcheck_any u h.at_)
 have H := Lib.hid h
 clear h
 by_cases h0 : u < 0 ∨ 4096 < u
 ·have he : lforE s u = 2 := by unfold lforE; rw [if_pos h0]
  have hs : lforS s u = s := by unfold lforS; rw [if_neg (by rw [he]; omega)]
  rw [he, hs]
  rw [if_pos h0] at HC
  go_enter Tryz.func46, Tryz.ntmps46
  go_wp2_with (go_at_call 130; refine HC.out.mono ?_; rintro e w' ⟨rfl, rfl⟩)
  go_returns
  exact ⟨rfl, H.out, Fr.refl _ _⟩
 rw [if_neg h0] at HC
 by_cases h1 : s.upto < u
 ·have he : lforE s u = 3 := by unfold lforE; rw [if_neg h0, if_pos h1]
  have hs : lforS s u = s := by unfold lforS; rw [if_neg (by rw [he]; omega)]
  have d1 : decide (u > s.upto) = true := by simpa using h1
  rw [he, hs]
  go_enter Tryz.func46, Tryz.ntmps46
  go_wp2_with (go_at_call 130; refine HC.out.mono ?_; rintro e w' ⟨rfl, rfl⟩)
  go_returns
  exact ⟨rfl, H.out, Fr.refl _ _⟩
 have he : lforE s u = 0 := by unfold lforE; rw [if_neg h0, if_neg h1]
 have d1 : decide (u > s.upto) = false := by simpa using h1
 by_cases h2 : s.base < u
 ·have hs : lforS s u = lcut s u := by unfold lforS; rw [if_pos ⟨he, h2⟩]
  have d2 : decide (u > s.base) = true := by simpa using h2
  have hg := H.out.good.forg u
  rw [hs] at hg
  rw [he, hs]
  have HK := Lib.hid (lcut_any u H.out.at_ H.out.good (by omega) (by omega))
  go_enter Tryz.func46, Tryz.ntmps46
  go_wp2_with (first
   | (go_at_call 130; refine HC.out.mono ?_; rintro e w' ⟨rfl, rfl⟩)
   | (go_at_call 131; refine HK.out.mono ?_; rintro e w' ⟨rfl, ha, hf⟩; have HA := Lib.hid ha; have HF := Lib.hid hf; clear ha hf))
  go_returns
  exact ⟨rfl, ⟨HA.out, hg⟩, HF.out⟩
 ·have hs : lforS s u = s := by unfold lforS; rw [if_neg (fun e => h2 e.2)]
  have d2 : decide (u > s.base) = false := by simpa using h2
  rw [he, hs]
  go_enter Tryz.func46, Tryz.ntmps46
  go_wp2_with (go_at_call 130; refine HC.out.mono ?_; rintro e w' ⟨rfl, rfl⟩)
  go_returns
  exact ⟨rfl, H.out, Fr.refl _ _⟩
set_option maxHeartbeats 1000000 in
theorem ljmp_any (u : Int) (h : LS w p m s) : Calls Tryz.prog 164 #[.pointer (some ⟨p, 0, none⟩), .int .i64 u] w fun e w' => e = .returned (.int .i64 (ljmpE s u)) ∧ LS w' p m (ljmpS s u) ∧ Fr (lF p m) w w' := by
 have c1 := h.at_.c1
 have c2 := h.at_.c2
 have HC := Lib.hid (lcheck_any u h.at_)
 have H := Lib.hid h
 clear h
 by_cases h0 : u < 0 ∨ 4096 < u
 ·have he : ljmpE s u = 2 := by unfold ljmpE; rw [if_pos h0]
  have hs : ljmpS s u = s := by unfold ljmpS; rw [if_neg (by rw [he]; omega)]
  rw [he, hs]
  rw [if_pos h0] at HC
  go_enter Tryz.func164, Tryz.ntmps164
  go_wp2_with (go_at_call 130; refine HC.out.mono ?_; rintro e w' ⟨rfl, rfl⟩)
  go_returns
  exact ⟨rfl, H.out, Fr.refl _ _⟩
 rw [if_neg h0] at HC
 by_cases h1 : u < s.upto
 ·have he : ljmpE s u = 8 := by unfold ljmpE; rw [if_neg h0, if_pos h1]
  have hs : ljmpS s u = s := by unfold ljmpS; rw [if_neg (by rw [he]; omega)]
  have d1 : decide (u < s.upto) = true := by simpa using h1
  rw [he, hs]
  go_enter Tryz.func164, Tryz.ntmps164
  go_wp2_with (go_at_call 130; refine HC.out.mono ?_; rintro e w' ⟨rfl, rfl⟩)
  go_returns
  exact ⟨rfl, H.out, Fr.refl _ _⟩
 have he : ljmpE s u = 0 := by unfold ljmpE; rw [if_neg h0, if_neg h1]
 have d1 : decide (u < s.upto) = false := by simpa using h1
 have hs : ljmpS s u = lcut s u := by unfold ljmpS; rw [if_pos he]
 have hg := H.out.good.jump u
 rw [hs] at hg
 rw [he, hs]
 have HK := Lib.hid (lcut_any u H.out.at_ H.out.good (by omega) (by omega))
 go_enter Tryz.func164, Tryz.ntmps164
 go_wp2_with (first
  | (go_at_call 130; refine HC.out.mono ?_; rintro e w' ⟨rfl, rfl⟩)
  | (go_at_call 131; refine HK.out.mono ?_; rintro e w' ⟨rfl, ha, hf⟩; have HA := Lib.hid ha; have HF := Lib.hid hf; clear ha hf))
 go_returns
 exact ⟨rfl, ⟨HA.out, hg⟩, HF.out⟩
end
end Go.Proofs.YtlfikhblmbidmaaGreatDoor