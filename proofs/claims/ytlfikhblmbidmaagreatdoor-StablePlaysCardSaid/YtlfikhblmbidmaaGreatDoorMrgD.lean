/- Laid together by gen/merge.py: DskA DskB DskC DskD DskE DskF. -/
import Derived.Test.YtlfikhblmbidmaaGreatDoorMrgC
import Derived.Deep.DeepCutAuto
import Derived.Deep.CutBlock
import Derived.Deep.LoopGhost
set_option linter.all false
namespace Go.Proofs.YtlfikhblmbidmaaGreatDoor
open Go.RowKit Go.Maps
def LRow (W : World) (v : Value) (bs : List UInt8) : Prop :=
 (v = .slice none 0 0 ∧ bs = []) ∨ ∃ g cap cur, v = .slice (some ⟨g, 0, none⟩) bs.length cap ∧ W.heap[g]? = some (.cells cur 5 (0, 0)) ∧ bs.length ≤ cap ∧ cap ≤ cur.size ∧ cap ≤ maxLen ∧ cur.toList.take bs.length = bs.map u8V
theorem LRow.nil (W : World) : LRow W (.slice none 0 0) [] := .inl ⟨rfl, rfl⟩
theorem LRow.shape {W : World} {v : Value} {bs : List UInt8} (h : LRow W v bs) : ∃ A c, v = .slice A bs.length c := by
 rcases h with ⟨rfl, rfl⟩ | ⟨g, cap, cur, rfl, _⟩
 ·exact ⟨none, 0, rfl⟩
 ·exact ⟨_, cap, rfl⟩
theorem LRow.of_row {W : World} {lo : Nat} {v : Value} {bs : List UInt8} (h : W.ownsRow lo 5 1 v bs.length (bs.map u8V)) : LRow W v bs := by
 rcases h.2 with ⟨rfl, hn⟩ | ⟨g, cap, cur, rfl, hb, hg, hle, hcap, hsz, htake⟩
 ·exact .inl ⟨rfl, List.length_eq_zero_iff.1 hn⟩
 ·exact .inr ⟨g, cap, cur, rfl, hg, hle, by omega, hcap, by simpa using htake⟩
theorem LRow.bsIn {W : World} {v : Value} {bs : List UInt8} (h : LRow W v bs) : BsIn W v bs := by
 rcases h with ⟨rfl, rfl⟩ | ⟨g, cap, cur, rfl, hg, hle, hsz, hcap, htake⟩
 ·exact ⟨none, 0, rfl, Nat.le_refl _, by unfold maxLen; omega, fun h => absurd h (by simp)⟩
 ·refine ⟨_, cap, rfl, hle, hcap, fun h0 => ⟨g, 0, rfl, (Array.getElem?_eq_some_iff.1 hg).1, fun i z hz => ?_⟩⟩
  rw [Nat.zero_add]
  have hB : Blk W g 5 cur := hg
  refine hB.cell ?_
  have hil : i < bs.length := (List.getElem?_eq_some_iff.1 hz).1
  have h1 : (bs.map u8V)[i]? = some (u8V z) := by rw [List.getElem?_map, hz]; rfl
  rw [← htake, List.getElem?_take, if_pos (by omega)] at h1
  rw [← Array.getElem?_toList]
  exact h1
theorem LRow.lt {W : World} {v : Value} {bs : List UInt8} (h : LRow W v bs) {i : Nat} (e : v.ownBlock = some i) : i < W.heap.size := by
 rcases h with ⟨rfl, rfl⟩ | ⟨g, cap, cur, rfl, hg, _⟩
 ·cases e
 ·cases e; exact (Array.getElem?_eq_some_iff.1 hg).1
theorem LRow.type {W : World} {v : Value} {bs : List UInt8} (h : LRow W v bs) {i : Nat} (e : v.ownBlock = some i) : ∃ cur, W.heap[i]? = some (.cells cur 5 (0, 0)) := by
 rcases h with ⟨rfl, rfl⟩ | ⟨g, cap, cur, rfl, hg, _⟩
 ·cases e
 ·cases e; exact ⟨cur, hg⟩
theorem LRow.fr {S : Nat → Prop} {W W' : World} {v : Value} {bs : List UInt8} (h : LRow W v bs) (k : Fr S W W') (hS : ∀ i, v.ownBlock = some i → ¬ S i) : LRow W' v bs := by
 rcases h with h | ⟨g, cap, cur, rfl, hg, r⟩
 ·exact .inl h
 ·exact .inr ⟨g, cap, cur, rfl, (k.block g (Array.getElem?_eq_some_iff.1 hg).1 (hS g rfl)).trans hg, r⟩
structure DSt where
 b : List UInt8
 safe : Nat
 st : List UInt8
 has : Bool
structure DGood (s : DSt) : Prop where
 safe : s.safe ≤ s.b.length
 most : s.b.length ≤ 16777216
 st : s.st.length ≤ 65536
def newD : DSt := ⟨[], 0, [], false⟩
theorem DGood.new : DGood newD := ⟨by decide, by decide, by decide⟩
structure DiskAt (w : World) (p q : Nat) (v sv : Value) (s : DSt) : Prop where
 d : Blk w p 109 #[.pointer (some ⟨q, 0, none⟩), sv, .bool s.has]
 l : Blk w q 107 #[v, .int .i64 ((s.safe : Nat) : Int)]
 row : LRow w v s.b
 srow : LRow w sv s.st
 ne : ∀ i, v.ownBlock = some i → sv.ownBlock ≠ some i
def dF (p q : Nat) (v sv : Value) (i : Nat) : Prop := i = p ∨ i = q ∨ v.ownBlock = some i ∨ sv.ownBlock = some i
namespace DiskAt
variable {w w' : World} {p q : Nat} {v sv : Value} {s : DSt}
theorem fr {S : Nat → Prop} (h : DiskAt w p q v sv s) (k : Fr S w w') (hS : ∀ i, dF p q v sv i → ¬ S i) : DiskAt w' p q v sv s :=
 ⟨h.d.fr k (hS p (.inl rfl)), h.l.fr k (hS q (.inr (.inl rfl))), h.row.fr k (fun i e => hS i (.inr (.inr (.inl e)))), h.srow.fr k (fun i e => hS i (.inr (.inr (.inr e)))), h.ne⟩
theorem below (h : DiskAt w p q v sv s) (k : Below w.heap.size w w') : DiskAt w' p q v sv s := h.fr (Fr.of_below (S := S0) k) (fun _ _ e => e)
theorem lt (h : DiskAt w p q v sv s) {i : Nat} (hi : dF p q v sv i) : i < w.heap.size := by
 rcases hi with rfl | rfl | e | e
 ·exact h.d.lt
 ·exact h.l.lt
 ·exact h.row.lt e
 ·exact h.srow.lt e
theorem nePQ (h : DiskAt w p q v sv s) : p ≠ q := h.d.ne_type h.l (by decide)
theorem neRow (h : DiskAt w p q v sv s) {i : Nat} (e : v.ownBlock = some i ∨ sv.ownBlock = some i) : i ≠ p ∧ i ≠ q := by
 have : ∃ cur, w.heap[i]? = some (.cells cur 5 (0, 0)) := by
  rcases e with e | e
  ·exact h.row.type e
  ·exact h.srow.type e
 obtain ⟨cur, hc⟩ := this
 constructor
 ·rintro rfl
  have := (show w.heap[i]? = _ from h.d).symm.trans hc
  simp at this
 ·rintro rfl
  have := (show w.heap[i]? = _ from h.l).symm.trans hc
  simp at this
end DiskAt
theorem dnew_any (w : World) : Calls Tryz.prog 14 #[] w fun e w' => ∃ p q, e = .returned (.pointer (some ⟨p, 0, none⟩)) ∧ DiskAt w' p q (.slice none 0 0) (.slice none 0 0) newD ∧ w.heap.size ≤ p ∧ w.heap.size ≤ q ∧ Below w.heap.size w w' := by
 go_enter Tryz.func14, Tryz.ntmps14
 go_wp2_with fail
 go_returns
 refine ⟨w.heap.size + 1, w.heap.size, rfl, ⟨?_, (Blk.new w _ _).alloc _, LRow.nil _, LRow.nil _, fun i e => by cases e⟩, by omega, Nat.le_refl _, ((Below.refl _ w).alloc (Nat.le_refl _) _).alloc (by simp) _⟩
 have := Blk.new (w.alloc (.cells #[.slice none 0 0, .int .i64 0] 107)) 109 #[.pointer (some ⟨w.heap.size, 0, none⟩), .slice none 0 0, .bool false]
 rwa [World.size_alloc] at this
theorem down_any (p q : Nat) (w : World) (h : w.cell? ⟨p, 0, none⟩ = some (.pointer (some ⟨q, 0, none⟩))) :
  Calls Tryz.prog 95 #[.pointer (some ⟨p, 0, none⟩)] w fun e w' => e = .returned (.pointer (some ⟨q, 0, none⟩)) ∧ w = w' := by
 go_enter Tryz.func95, Tryz.ntmps95
 go_wp2_with fail
 go_returns
 exact ⟨rfl, rfl⟩
section
variable {w : World} {p q : Nat} {v sv : Value} {s : DSt}
theorem llen_any (h : DiskAt w p q v sv s) : Calls Tryz.prog 106 #[.pointer (some ⟨q, 0, none⟩)] w fun e w' => e = .returned (.int .i64 ((s.b.length : Nat) : Int)) ∧ w = w' := by
 have c0 := h.l.cell (i := 0) rfl
 obtain ⟨A, c, rfl⟩ := h.row.shape
 clear h
 go_enter Tryz.func106, Tryz.ntmps106
 go_wp2_with fail
 go_returns
 exact ⟨rfl, rfl⟩
theorem lsafe_any (h : DiskAt w p q v sv s) : Calls Tryz.prog 99 #[.pointer (some ⟨q, 0, none⟩)] w fun e w' => e = .returned (.int .i64 ((s.safe : Nat) : Int)) ∧ w = w' := by
 have c1 := h.l.cell (i := 1) rfl
 clear h
 go_enter Tryz.func99, Tryz.ntmps99
 go_wp2_with fail
 go_returns
 exact ⟨rfl, rfl⟩
theorem dlen_any (h : DiskAt w p q v sv s) : Calls Tryz.prog 33 #[.pointer (some ⟨p, 0, none⟩)] w fun e w' => e = .returned (.int .i64 ((s.b.length : Nat) : Int)) ∧ w = w' := by
 have HO := Lib.hid (down_any p q w (h.d.cell (i := 0) rfl))
 have HL := Lib.hid (llen_any h)
 clear h
 go_enter Tryz.func33, Tryz.ntmps33
 go_wp2_with (first
  | (go_at_call 95; refine HO.out.mono ?_; rintro e w2 ⟨rfl, rfl⟩)
  | (go_at_call 106; refine HL.out.mono ?_; rintro e w2 ⟨rfl, rfl⟩))
 go_returns
 exact ⟨rfl, rfl⟩
theorem dsafe_any (h : DiskAt w p q v sv s) : Calls Tryz.prog 30 #[.pointer (some ⟨p, 0, none⟩)] w fun e w' => e = .returned (.int .i64 ((s.safe : Nat) : Int)) ∧ w = w' := by
 have HO := Lib.hid (down_any p q w (h.d.cell (i := 0) rfl))
 have HL := Lib.hid (lsafe_any h)
 clear h
 go_enter Tryz.func30, Tryz.ntmps30
 go_wp2_with (first
  | (go_at_call 95; refine HO.out.mono ?_; rintro e w2 ⟨rfl, rfl⟩)
  | (go_at_call 99; refine HL.out.mono ?_; rintro e w2 ⟨rfl, rfl⟩))
 go_returns
 exact ⟨rfl, rfl⟩
structure DStep (w : World) (p q : Nat) (v sv : Value) (w' : World) (v' sv' : Value) (s' : DSt) : Prop where
 fr : Fr (dF p q v sv) w w'
 own : ∀ i, dF p q v' sv' i → dF p q v sv i ∨ w.heap.size ≤ i
 at_ : DiskAt w' p q v' sv' s'
theorem DStep.refl (h : DiskAt w p q v sv s) : DStep w p q v sv w v sv s := ⟨Fr.refl _ _, fun i e => .inl e, h⟩
theorem DStep.trans {w' w'' : World} {v' sv' v'' sv'' : Value} {s' s'' : DSt} (h : DStep w p q v sv w' v' sv' s') (k : DStep w' p q v' sv' w'' v'' sv'' s'') : DStep w p q v sv w'' v'' sv'' s'' := by
 refine ⟨h.fr.trans' k.fr (fun i hi e => ?_), fun i e => ?_, k.at_⟩
 ·rcases h.own i e with e | e
  ·exact e
  ·omega
 ·rcases k.own i e with e | e
  ·exact h.own i e
  ·exact .inr (Nat.le_trans h.fr.size e)
theorem DStep.below {w' : World} (h : DiskAt w p q v sv s) (k : Below w.heap.size w w') : DStep w p q v sv w' v sv s := ⟨Fr.of_below k, fun i e => .inl e, h.below k⟩
theorem DStep.below_ {w' w'' : World} {v' sv' : Value} {s' : DSt} (h : DStep w p q v sv w' v' sv' s') (k : Below w'.heap.size w' w'') : DStep w p q v sv w'' v' sv' s' := h.trans (DStep.below h.at_ k)
theorem lsync_any (h : DiskAt w p q v sv s) : Calls Tryz.prog 166 #[.pointer (some ⟨q, 0, none⟩)] w fun e w' => e = .returned (.tuple #[]) ∧ DStep w p q v sv w' v sv { s with safe := s.b.length } := by
 have H := Lib.hid h
 have c0 := h.l.cell (i := 0) rfl
 have c1 := h.l.cell (i := 1) rfl
 have f1 := h.l.frozen 1
 obtain ⟨A, c, hv⟩ := h.row.shape
 have HVV := Lib.hid hv
 rw [hv] at c0
 clear h hv
 go_enter Tryz.func166, Tryz.ntmps166
 go_wp2_with fail
 go_returns
 have hfr : Fr (S1 q) w (w.setCell ⟨q, 1, none⟩ (.int .i64 (s.b.length : Int))) := (Fr.refl (S1 q) w).setCell (p := ⟨q, 1, none⟩) (.inl (show _ = _ from rfl)) _
 refine ⟨rfl, hfr.mono (fun i e => .inr (.inl e)), fun i e => .inl e, ⟨H.out.d.fr hfr H.out.nePQ, H.out.l.set 1 _, H.out.row.fr hfr (fun i e => (H.out.neRow (.inl e)).2), H.out.srow.fr hfr (fun i e => (H.out.neRow (.inr e)).2), H.out.ne⟩⟩
theorem dsync_any (h : DiskAt w p q v sv s) : Calls Tryz.prog 76 #[.pointer (some ⟨p, 0, none⟩)] w fun e w' => e = .returned (.tuple #[]) ∧ DStep w p q v sv w' v sv { s with safe := s.b.length } := by
 have HO := Lib.hid (down_any p q w (h.d.cell (i := 0) rfl))
 have HL := Lib.hid (lsync_any h)
 clear h
 go_enter Tryz.func76, Tryz.ntmps76
 go_wp2_with (first
  | (go_at_call 95; refine HO.out.mono ?_; rintro e w2 ⟨rfl, rfl⟩)
  | (go_at_call 166; refine HL.out.mono ?_; rintro e w2 ⟨rfl, hS⟩; have HS := Lib.hid hS; clear hS))
 go_returns
 exact ⟨rfl, HS.out⟩
end
end Go.Proofs.YtlfikhblmbidmaaGreatDoor
namespace Go.Proofs.YtlfikhblmbidmaaGreatDoor
open Go.RowKit Go.Maps
theorem fr_set (w : World) (q i : Nat) (x : Value) : Fr (S1 q) w (w.setCell ⟨q, i, none⟩ x) := (Fr.refl (S1 q) w).setCell (p := ⟨q, i, none⟩) (.inl (show _ = _ from rfl)) _
section
variable {w : World} {p q : Nat} {v sv : Value} {s : DSt}
set_option maxHeartbeats 1000000 in
theorem dsave_yes (u : Value) (bs : List UInt8) (h : DiskAt w p q v sv s) (hu : BsIn w u bs) (hl : bs.length ≤ 65536) :
  Calls Tryz.prog 27 #[.pointer (some ⟨p, 0, none⟩), u] w fun e w' => e = .returned (.int .i64 0) ∧ ∃ sv', DStep w p q v sv w' (.slice none 0 0) sv' ⟨[], 0, bs, true⟩ := by
 have H := Lib.hid h
 have HO := Lib.hid (down_any p q w (h.d.cell (i := 0) rfl))
 have HC := Lib.hid (sclone_any u bs w hu (by omega))
 obtain ⟨A, c, rfl, hle, hcm⟩ := hu.shape
 clear h hu
 go_enter Tryz.func27, Tryz.ntmps27
 go_wp2_with (first
  | (go_at_call 95; refine HO.out.mono ?_; rintro e w2 ⟨rfl, rfl⟩)
  | (go_at_call 96; refine HC.out.mono ?_; rintro e w2 ⟨vo, rfl, ho, b2⟩; have H2 := Lib.hid (H.out.below b2); have d1 := H2.out.d.cell (i := 1) rfl; have d2 := H2.out.d.cell (i := 2) rfl; have f1 := H2.out.d.frozen 1; have f2 := H2.out.d.frozen 2; have l0 := H2.out.l.cell (i := 0) rfl; have l1 := H2.out.l.cell (i := 1) rfl; have g0 := H2.out.l.frozen 0; have g1 := H2.out.l.frozen 1; have hne := H2.out.nePQ; have HB2 := Lib.hid b2; have HOW := Lib.hid ho; obtain ⟨a9, n9, c9, rfl⟩ := row_shape ho; clear b2 ho))
 go_returns
 have hfr : Fr (dF p q v sv) w2 ((((w2.setCell ⟨p, 1, none⟩ (.slice a9 n9 c9)).setCell ⟨p, 2, none⟩ (.bool true)).setCell ⟨q, 0, none⟩ (.slice none 0 0)).setCell ⟨q, 1, none⟩ (.int .i64 0)) :=
  ((((Fr.refl _ w2).setCell (p := ⟨p, 1, none⟩) (.inl (.inl rfl)) _).setCell (p := ⟨p, 2, none⟩) (.inl (.inl rfl)) _).setCell (p := ⟨q, 0, none⟩) (.inl (.inr (.inl rfl))) _).setCell (p := ⟨q, 1, none⟩) (.inl (.inr (.inl rfl))) _
 have hrow := LRow.of_row HOW.out
 refine ⟨rfl, _, (Fr.of_below HB2.out).trans hfr, fun i e => ?_, ?_, ?_, LRow.nil _, hrow.fr hfr (fun i e e' => ?_), fun i e => by cases e⟩
 ·rcases e with e | e | e | e
  ·exact .inl (.inl e)
  ·exact .inl (.inr (.inl e))
  ·cases e
  ·exact .inr (HOW.out.lt i e).1
 ·exact ((((H2.out.d.set 1 _).set 2 _).setOther (p := ⟨q, 0, none⟩) hne _).setOther (p := ⟨q, 1, none⟩) hne _)
 ·exact (((H2.out.l.setOther (p := ⟨p, 1, none⟩) (Ne.symm hne) _).setOther (p := ⟨p, 2, none⟩) (Ne.symm hne) _).set 0 _).set 1 _
 ·have := (HOW.out.lt i e).1
  have := H.out.lt e'
  omega
theorem dsnap_no (h : DiskAt w p q v sv s) (hs : s.has = false) :
  Calls Tryz.prog 54 #[.pointer (some ⟨p, 0, none⟩)] w fun e w' => e = .returned (.tuple #[.slice none 0 0, .bool false]) ∧ w = w' := by
 have HO := Lib.hid (down_any p q w (h.d.cell (i := 0) rfl))
 have d2 := h.d.cell (i := 2) rfl
 rw [hs] at d2
 clear h
 go_enter Tryz.func54, Tryz.ntmps54
 go_wp2_with (go_at_call 95; refine HO.out.mono ?_; rintro e w2 ⟨rfl, rfl⟩)
 go_returns
 exact ⟨rfl, rfl⟩
theorem dsnap_yes (h : DiskAt w p q v sv s) (hs : s.has = true) (hl : s.st.length ≤ 100000000) :
  Calls Tryz.prog 54 #[.pointer (some ⟨p, 0, none⟩)] w fun e w' => ∃ vo, e = .returned (.tuple #[vo, .bool true]) ∧ RowB w.heap.size w' vo s.st ∧ Below w.heap.size w w' := by
 have HO := Lib.hid (down_any p q w (h.d.cell (i := 0) rfl))
 have HC := Lib.hid (sclone_any sv s.st w h.srow.bsIn hl)
 have d1 := h.d.cell (i := 1) rfl
 have d2 := h.d.cell (i := 2) rfl
 rw [hs] at d2
 obtain ⟨A, c, rfl⟩ := h.srow.shape
 clear h
 go_enter Tryz.func54, Tryz.ntmps54
 go_wp2_with (first
  | (go_at_call 95; refine HO.out.mono ?_; rintro e w2 ⟨rfl, rfl⟩)
  | (go_at_call 96; refine HC.out.mono ?_; rintro e w2 ⟨vo, rfl, ho, b2⟩; have HB2 := Lib.hid b2; have HOW := Lib.hid ho; clear b2 ho))
 go_returns
 exact ⟨_, rfl, HOW.out, HB2.out⟩
abbrev CellsD (p q : Nat) (v sv : Value) (has : Bool) (sf : Nat) (w W : World) : Prop :=
 Below w.heap.size w W ∧ W.cell? ⟨p, 1, none⟩ = some sv ∧ W.cell? ⟨p, 2, none⟩ = some (.bool has) ∧ W.cell? ⟨q, 0, none⟩ = some v ∧ W.cell? ⟨q, 1, none⟩ = some (.int .i64 ((sf : Nat) : Int))
theorem keepD {p q : Nat} {v sv : Value} {has : Bool} {sf : Nat} {w W W' : World} (h : CellsD p q v sv has sf w W) (b : Below W.heap.size W W') : CellsD p q v sv has sf w W' :=
 ⟨h.1.trans (b.mono h.1.size), bcell b h.2.1, bcell b h.2.2.1, bcell b h.2.2.2.1, bcell b h.2.2.2.2⟩
theorem copy_leaf {p' q' : Nat} {has : Bool} {sf : Nat} {wA wB Wq Wf : World} {vA vB : Value} {lA lB : Nat} {s : DSt} (hA : RowB lA wA vA s.b) (hB : RowB lB wB vB s.st) (fA : Fr S0 wA Wf) (fB : Fr S0 wB Wf) (hd : Blk Wf p' 109 #[.pointer (some ⟨q', 0, none⟩), vB, .bool has])
  (hl : Blk Wq q' 107 #[vA, .int .i64 ((sf : Nat) : Int)]) (fq : Fr S0 Wq Wf) (hh : s.has = has) (hs : s.safe = sf) (hne : ∀ i, vA.ownBlock = some i → vB.ownBlock ≠ some i) : DiskAt Wf p' q' vA vB s :=
 ⟨by rw [hh]; exact hd, by rw [hs]; exact hl.fr fq (fun e => e), (LRow.of_row hA).fr fA (fun _ _ e => e), (LRow.of_row hB).fr fB (fun _ _ e => e), hne⟩
theorem copy_own {p' q' : Nat} {w W1 W2 wA wB : World} {vA vB : Value} {x y : List UInt8} (hA : RowB W1.heap.size wA vA x) (hB : RowB W2.heap.size wB vB y) (sA : w.heap.size ≤ W1.heap.size) (sB : w.heap.size ≤ W2.heap.size) (zA : W1.heap.size ≤ wA.heap.size) (zB : W2.heap.size ≤ wB.heap.size)
  (hp : wA.heap.size ≤ p' ∨ wB.heap.size ≤ p') (hq : wA.heap.size ≤ q' ∨ wB.heap.size ≤ q') : ∀ i, dF p' q' vA vB i → w.heap.size ≤ i := fun i e => by
 rcases e with rfl | rfl | e | e
 ·omega
 ·omega
 ·have := (World.ownsRow.lt hA i e).1; omega
 ·have := (World.ownsRow.lt hB i e).1; omega
theorem blk_new1 (w : World) (o : Obj) (t : TypeId) (cs : Array Value) : Blk ((w.alloc o).alloc (.cells cs t)) (w.heap.size + 1) t cs := by
 have := Blk.new (w.alloc o) t cs
 rwa [World.size_alloc] at this
theorem rows_ne {lA lB : Nat} {wA wB : World} {vA vB : Value} {x y : List UInt8} (hA : RowB lA wA vA x) (hB : RowB lB wB vB y) (h : wA.heap.size ≤ lB ∨ wB.heap.size ≤ lA) : ∀ i, vA.ownBlock = some i → vB.ownBlock ≠ some i := fun i e e' => by
 have h1 := World.ownsRow.lt hA i e
 have h2 := World.ownsRow.lt hB i e'
 omega
set_option maxRecDepth 100000 in
set_option maxHeartbeats 2000000 in
theorem dcopy_any (h : DiskAt w p q v sv s) (hg : DGood s) :
  Calls Tryz.prog 58 #[.pointer (some ⟨p, 0, none⟩)] w fun e w' => ∃ p' q' v' sv', e = .returned (.pointer (some ⟨p', 0, none⟩)) ∧ DiskAt w' p' q' v' sv' s ∧ (∀ i, dF p' q' v' sv' i → w.heap.size ≤ i) ∧ Below w.heap.size w w' := by
 have HO := Lib.hid (down_any p q w (h.d.cell (i := 0) rfl))
 have HG1 := Lib.hid (show s.b.length ≤ 100000000 by have := hg.most; omega)
 have HG2 := Lib.hid (show s.st.length ≤ 100000000 by have := hg.st; omega)
 have H := Lib.hid h
 have d1 := h.d.cell (i := 1) (v := sv) rfl
 have d2 := h.d.cell (i := 2) rfl
 have l0 := h.l.cell (i := 0) (v := v) rfl
 have l1 := h.l.cell (i := 1) rfl
 have HV := Lib.hid h.row.bsIn
 have HSV := Lib.hid h.srow.bsIn
 obtain ⟨has, hhas⟩ : ∃ x, s.has = x := ⟨_, rfl⟩
 obtain ⟨sf, hsf⟩ : ∃ x, s.safe = x := ⟨_, rfl⟩
 rw [hhas] at d2
 rw [hsf] at l1
 have HH := Lib.hid hhas
 have HF := Lib.hid hsf
 clear h hg hhas hsf
 go_enter Tryz.func58, Tryz.ntmps58
 go_wp2_with (go_at_call 95; refine HO.out.mono ?_; rintro e w2 ⟨rfl, rfl⟩)
 have HD0 := Lib.hid (show CellsD p q v sv has sf w w.drew from ⟨(Below.refl _ w).drew, d1, d2, l0, l1⟩)
 clear d1 d2 l0 l1
 refine wp_region_held_drew (S := (fun W => CellsD p q v sv has sf w W)) (by kernel_rfl) ?_ (fun hHeld => ?_)
 ·exact HD0.out
 try dsimp only at hHeld
 refine hY 0 (some 8) hHeld ?_
 refine hY 1 (some 9) hHeld ?_
 refine hY 2 (some 10) hHeld ?_
 refine hY 3 (some 11) hHeld ?_
 refine hY 5 (some 13) hHeld ?_
 refine hY 6 (some 14) hHeld ?_
 refine hY 7 (some 15) hHeld ?_
 refine hY 8 (some 16) hHeld ?_
 refine hY 11 (some 19) hHeld ?_
 refine hY 12 (some 20) hHeld ?_
 refine hY 13 (some 21) hHeld ?_
 refine hY 14 (some 22) hHeld ?_
 refine hY 16 (some 24) hHeld ?_
 refine hY 17 (some 25) hHeld ?_
 refine hY 18 (some 26) hHeld ?_
 refine hY 19 (some 27) hHeld ?_
 refine wpAnyH_ready (rs := [4]) (by kernel_rfl) (by simp) ?_
 refine (AllReadyH.cons rfl (fun K' hK' => ?_) AllReadyH.nil)
 go_simp
 (first | ((with_reducible refine (sclone_any v s.b _ (HV.out.below hHeld.1) HG1.out).mono ?_); rintro e wA ⟨vA, rfl, hA, bA⟩; have SA := Lib.hid hHeld.1.size; obtain ⟨aA, nA, cA, rfl⟩ := row_shape hA; have ZA := Lib.hid bA.size; have HA := Lib.hid (show RowB _ wA (.slice aA nA cA) s.b from hA); have FA := Lib.hid (Fr.of_below bA : Fr S0 _ wA); clear hA) | ((with_reducible refine (sclone_any sv s.st _ (HSV.out.below hHeld.1) HG2.out).mono ?_); rintro e wB ⟨vB, rfl, hB, bB⟩; have SB := Lib.hid hHeld.1.size; obtain ⟨aB, nB, cB, rfl⟩ := row_shape hB; have ZB := Lib.hid bB.size; have HB := Lib.hid (show RowB _ wB (.slice aB nB cB) s.st from hB); have FB := Lib.hid (Fr.of_below bB : Fr S0 _ wB); clear hB))
 go_wp2_with fail
 refine hK'.out _ _ ?_ (fun hHeld => ?_)
 ·first | exact keepD hHeld bA | exact keepD hHeld bB | exact keepD hHeld ((Below.refl _ _).alloc (Nat.le_refl _) _)
 clear hK' K'
 try dsimp only at hHeld
 try simp only [Act.put, List.setIfInBounds_toArray, List.set_cons_zero, List.set_cons_succ]
 refine hY 9 (some 17) hHeld ?_
 refine wpAnyH_ready (rs := [10, 15]) (by kernel_rfl) (by simp) ?_
 refine (AllReadyH.cons rfl (fun K' hK' => ?_) (AllReadyH.cons rfl (fun K' hK' => ?_) AllReadyH.nil))
 ·go_simp
  refine hK'.out _ _ ?_ (fun hHeld => ?_)
  ·first | exact keepD hHeld bA | exact keepD hHeld bB | exact keepD hHeld ((Below.refl _ _).alloc (Nat.le_refl _) _)
  clear hK' K'
  try dsimp only at hHeld
  try simp only [Act.put, List.setIfInBounds_toArray, List.set_cons_zero, List.set_cons_succ]
  refine wpAnyH_ready (rs := [15]) (by kernel_rfl) (by simp) ?_
  refine (AllReadyH.cons rfl (fun K' hK' => ?_) AllReadyH.nil)
  go_simp
  (first | ((with_reducible refine (sclone_any v s.b _ (HV.out.below hHeld.1) HG1.out).mono ?_); rintro e wA ⟨vA, rfl, hA, bA⟩; have SA := Lib.hid hHeld.1.size; obtain ⟨aA, nA, cA, rfl⟩ := row_shape hA; have ZA := Lib.hid bA.size; have HA := Lib.hid (show RowB _ wA (.slice aA nA cA) s.b from hA); have FA := Lib.hid (Fr.of_below bA : Fr S0 _ wA); clear hA) | ((with_reducible refine (sclone_any sv s.st _ (HSV.out.below hHeld.1) HG2.out).mono ?_); rintro e wB ⟨vB, rfl, hB, bB⟩; have SB := Lib.hid hHeld.1.size; obtain ⟨aB, nB, cB, rfl⟩ := row_shape hB; have ZB := Lib.hid bB.size; have HB := Lib.hid (show RowB _ wB (.slice aB nB cB) s.st from hB); have FB := Lib.hid (Fr.of_below bB : Fr S0 _ wB); clear hB))
  go_wp2_with fail
  refine hK'.out _ _ ?_ (fun hHeld => ?_)
  ·first | exact keepD hHeld bA | exact keepD hHeld bB | exact keepD hHeld ((Below.refl _ _).alloc (Nat.le_refl _) _)
  clear hK' K'
  try dsimp only at hHeld
  try simp only [Act.put, List.setIfInBounds_toArray, List.set_cons_zero, List.set_cons_succ]
  refine hY 20 (some 28) hHeld ?_
  refine wpAnyH_ready (rs := [21]) (by kernel_rfl) (by simp) ?_
  refine (AllReadyH.cons rfl (fun K' hK' => ?_) AllReadyH.nil)
  go_simp
  refine hK'.out _ _ ?_ (fun hHeld => ?_)
  ·first | exact keepD hHeld bA | exact keepD hHeld bB | exact keepD hHeld ((Below.refl _ _).alloc (Nat.le_refl _) _)
  clear hK' K'
  try dsimp only at hHeld
  try simp only [Act.put, List.setIfInBounds_toArray, List.set_cons_zero, List.set_cons_succ]
  refine hY 22 (some 2) hHeld ?_
  refine wpAnyH_done (by kernel_rfl) ?_ _
  (have HHELD := Lib.hid hHeld; go_wp2; go_returns; refine ⟨_, _, _, _, rfl, copy_leaf HA.out HB.out ?_ ?_ (by first | exact Blk.new _ _ _ | exact blk_new1 _ _ _ _) (Blk.new _ _ _) ?_ HH.out HF.out (rows_ne HA.out HB.out ?_), ?_, HHELD.out.1⟩; (first | exact (((Fr.refl S0 wA).alloc _).trans FB.out).alloc _ | exact (FB.out.alloc _).alloc _ | exact ((Fr.refl S0 wA).alloc _).alloc _); (first | exact (Fr.refl S0 wB).alloc _ | exact ((Fr.refl S0 wB).alloc _).alloc _ | exact (FA.out.alloc _).alloc _); (first | exact FB.out.alloc _ | exact (Fr.refl S0 _).alloc _); (first | exact .inl (by simp) | exact .inr (by simp)); exact copy_own HA.out HB.out SA.out SB.out ZA.out ZB.out (by simp) (by simp))
 ·go_simp
  (first | ((with_reducible refine (sclone_any v s.b _ (HV.out.below hHeld.1) HG1.out).mono ?_); rintro e wA ⟨vA, rfl, hA, bA⟩; have SA := Lib.hid hHeld.1.size; obtain ⟨aA, nA, cA, rfl⟩ := row_shape hA; have ZA := Lib.hid bA.size; have HA := Lib.hid (show RowB _ wA (.slice aA nA cA) s.b from hA); have FA := Lib.hid (Fr.of_below bA : Fr S0 _ wA); clear hA) | ((with_reducible refine (sclone_any sv s.st _ (HSV.out.below hHeld.1) HG2.out).mono ?_); rintro e wB ⟨vB, rfl, hB, bB⟩; have SB := Lib.hid hHeld.1.size; obtain ⟨aB, nB, cB, rfl⟩ := row_shape hB; have ZB := Lib.hid bB.size; have HB := Lib.hid (show RowB _ wB (.slice aB nB cB) s.st from hB); have FB := Lib.hid (Fr.of_below bB : Fr S0 _ wB); clear hB))
  go_wp2_with fail
  refine hK'.out _ _ ?_ (fun hHeld => ?_)
  ·first | exact keepD hHeld bA | exact keepD hHeld bB | exact keepD hHeld ((Below.refl _ _).alloc (Nat.le_refl _) _)
  clear hK' K'
  try dsimp only at hHeld
  try simp only [Act.put, List.setIfInBounds_toArray, List.set_cons_zero, List.set_cons_succ]
  refine wpAnyH_ready (rs := [10]) (by kernel_rfl) (by simp) ?_
  refine (AllReadyH.cons rfl (fun K' hK' => ?_) AllReadyH.nil)
  go_simp
  refine hK'.out _ _ ?_ (fun hHeld => ?_)
  ·first | exact keepD hHeld bA | exact keepD hHeld bB | exact keepD hHeld ((Below.refl _ _).alloc (Nat.le_refl _) _)
  clear hK' K'
  try dsimp only at hHeld
  try simp only [Act.put, List.setIfInBounds_toArray, List.set_cons_zero, List.set_cons_succ]
  refine hY 20 (some 28) hHeld ?_
  refine wpAnyH_ready (rs := [21]) (by kernel_rfl) (by simp) ?_
  refine (AllReadyH.cons rfl (fun K' hK' => ?_) AllReadyH.nil)
  go_simp
  refine hK'.out _ _ ?_ (fun hHeld => ?_)
  ·first | exact keepD hHeld bA | exact keepD hHeld bB | exact keepD hHeld ((Below.refl _ _).alloc (Nat.le_refl _) _)
  clear hK' K'
  try dsimp only at hHeld
  try simp only [Act.put, List.setIfInBounds_toArray, List.set_cons_zero, List.set_cons_succ]
  refine hY 22 (some 2) hHeld ?_
  refine wpAnyH_done (by kernel_rfl) ?_ _
  (have HHELD := Lib.hid hHeld; go_wp2; go_returns; refine ⟨_, _, _, _, rfl, copy_leaf HA.out HB.out ?_ ?_ (by first | exact Blk.new _ _ _ | exact blk_new1 _ _ _ _) (Blk.new _ _ _) ?_ HH.out HF.out (rows_ne HA.out HB.out ?_), ?_, HHELD.out.1⟩; (first | exact (((Fr.refl S0 wA).alloc _).trans FB.out).alloc _ | exact (FB.out.alloc _).alloc _ | exact ((Fr.refl S0 wA).alloc _).alloc _); (first | exact (Fr.refl S0 wB).alloc _ | exact ((Fr.refl S0 wB).alloc _).alloc _ | exact (FA.out.alloc _).alloc _); (first | exact FB.out.alloc _ | exact (Fr.refl S0 _).alloc _); (first | exact .inl (by simp) | exact .inr (by simp)); exact copy_own HA.out HB.out SA.out SB.out ZA.out ZB.out (by simp) (by simp))
end
end Go.Proofs.YtlfikhblmbidmaaGreatDoor
namespace Go.Proofs.YtlfikhblmbidmaaGreatDoor
open Go.RowKit Go.Maps
section
variable (w : World)
theorem run_append_lrow (ty : TypeId) (i : TypeInfo) (hi : Tryz.prog.info? 5 = some i) (hz : i.zero = some (.int .u8 0)) (hsize : i.size = 1) (hby : i.bytes = 1)
  (v : Value) (bs : List UInt8) (hown : LRow w v bs) (u : Value) (cs : List UInt8) (hr : BsIn w u cs) (h0 : 0 < cs.length) (h63 : bs.length + cs.length ≤ 1000000000) :
  ∃ v' w', (Builtin.append_ #[26, 26] ty #[v, u]).run Tryz.prog w = .ok v' w' ∧ LRow w' v' (bs ++ cs) ∧ w.grownBy w' v.ownBlock ∧ (v'.ownBlock = v.ownBlock ∨ v'.ownBlock = some w.heap.size) := by
 obtain ⟨A, c, rfl, hle, hmax, hcells⟩ := hr
 have ht := Tryz.underlying26
 obtain ⟨b, off, rfl, hb, hc⟩ := hcells h0
 have hc : ∀ j z, (cs.map u8V)[j]? = some z → w.cell? ((⟨b, off, none⟩ : Addr).add j) = some z := fun j z hz => by
  rw [List.getElem?_map] at hz
  cases hy : cs[j]? with
  | none => rw [hy] at hz; cases hz
  | some y =>
   rw [hy] at hz
   cases hz
   rw [Addr.add_lit]
   exact hc j y hy
 rcases hown with ⟨rfl, rfl⟩ | ⟨g, cap, cur, rfl, hg, hnc, hcs, hcm, htake⟩
 ·obtain ⟨v', w', hrun, h2, h3, _, h5⟩ := run_append_own_at (P := Tryz.prog) w w.heap.size 26 ty 5 i (.int .u8 0) 1 1 ht hi hz hsize hby rfl (by decide) (.slice none 0 0) 0 [] (World.ownsRow_nil _ _ _ _) ⟨b, off, none⟩ cs.length c (cs.map u8V) (by simp) hc (u8_one cs) (by unfold maxLen; omega) (by omega) (Nat.le_refl _)
  refine ⟨v', w', hrun, LRow.of_row (lo := w.heap.size) ?_, h3, h5⟩
  simpa using h2
 ·by_cases hroom : bs.length + cs.length ≤ cap
  ·have hr := run_append_room (P := Tryz.prog) w 26 ty 5 i ht hi g bs.length cap cur hg ⟨b, off, none⟩ cs.length c (cs.map u8V) (by rw [hsize]; simp) hc (u8_one cs) hroom (by rw [hsize]; simp; omega)
   refine ⟨_, _, hr, .inr ⟨g, cap, _, by rw [List.length_append], setRow_heap w g cur _ _ _ hg, by rw [List.length_append]; exact hroom, ?_, hcm, ?_⟩, ⟨rfl, rfl, rfl, by simp, fun k _ hk => setRow_other w g k _ (fun e => hk (by simp [Value.ownBlock, e]))⟩, .inl rfl⟩
   ·rw [hsize]
    simp
    omega
   ·rw [hsize, Nat.mul_one, htake, List.length_append, List.map_append, List.toList_toArray, List.append_assoc]
    rw [← List.append_assoc, List.take_append_of_le_length (by simp)]
    exact List.take_of_length_le (by simp)
  ·have hB : Blk w g 5 cur := hg
   have holds : ∀ j x, (bs.map u8V)[j]? = some x → w.cell? ((⟨g, 0, none⟩ : Addr).add j) = some x := fun j x hx => by
    rw [Addr.add_lit, Nat.zero_add]
    refine hB.cell ?_
    have hj : j < bs.length := by have := (List.getElem?_eq_some_iff.1 hx).1; simpa using this
    rw [← htake, List.getElem?_take, if_pos hj] at hx
    rw [← Array.getElem?_toList]
    exact hx
   have hr := run_append_grow (P := Tryz.prog) w 26 ty 5 i (.int .u8 0) ht hi hz ⟨g, 0, none⟩ bs.length cap (bs.map u8V) (by rw [hsize]; simp) holds ⟨b, off, none⟩ cs.length c (cs.map u8V) (by rw [hsize]; simp) hc (by omega) (by omega) (by rw [hby]; exact growslice_fits (by omega) (by omega))
   have hge := grownCap_ge w (bs.length + cs.length) cap 5
   have hmx := grownCap_le_maxLen w (bs.length + cs.length) cap 5 (by unfold maxLen; omega)
   refine ⟨_, _, hr, .inr ⟨w.heap.size, _, _, by rw [List.length_append], World.alloc_heap_new w.drew _, by rw [List.length_append]; exact hge, ?_, hmx, ?_⟩, ⟨rfl, rfl, rfl, by simp, fun k hk _ => Below.heap_alloc w.drew _ k hk⟩, .inr rfl⟩
   ·simp only [Array.size_append, List.size_toArray, size_zeroCells, List.length_map]
    simp [Value.cells]
    omega
   ·rw [List.length_append, List.map_append]
    simp only [Array.toList_append, List.append_assoc]
    rw [← List.append_assoc, List.take_append_of_le_length (by simp)]
    exact List.take_of_length_le (by simp)
theorem wpList_append_lrow {ops : Array Oper} {rest : List Oper} {o : Oper} {a : Act} {Q : Exit → Act → World → Prop} (hgd : o.guard = none) (s x : Operand)
  (ho : o.op = .call { callee := .builtin .append, args := #[s, x], argTypes := #[26, 26] })
  (v : Value) (bs : List UInt8) (hs : a.eval s = v) (hown : LRow w v bs) (u : Value) (cs : List UInt8) (hx : a.eval x = u) (hr : BsIn w u cs) (h0 : 0 < cs.length) (h63 : bs.length + cs.length ≤ 1000000000)
  (h : ∀ v' w', LRow w' v' (bs ++ cs) → w.grownBy w' v.ownBlock → (v'.ownBlock = v.ownBlock ∨ v'.ownBlock = some w.heap.size) → wpList Tryz.prog ops Q rest (a.put o.dst v') w') : wpList Tryz.prog ops Q (o :: rest) a w := by
 refine wpList_plain hgd fun K hK => ?_
 obtain ⟨i0, hi, hz0, hz1, hz2⟩ := info_parts info_u8
 obtain ⟨v', w', hrun, h2, h3, h4⟩ := run_append_lrow w o.type i0 hi hz0 hz1 hz2 v bs hown u cs hr h0 h63
 unfold Oper.wp execOp
 simp only [ho, resolve, invoke, builtin, Sem.run_bind, Sem.run_pure, Result.andThen_ok, List.map_toArray, List.map_cons, List.map_nil, hs, hx, hrun]
 exact hK _ _ (h v' w' h2 h3 h4)
end
section
variable {w : World} {p q : Nat} {v sv : Value} {s : DSt}
theorem app_leaf {w2 w3 : World} {v3 : Value} {fb : List UInt8} (h : DiskAt w p q v sv s) (h2 : DiskAt w2 p q v sv s) (b2 : Below w.heap.size w w2) (l3 : Blk w3 q 107 #[v, .int .i64 ((s.safe : Nat) : Int)]) (f3 : Fr (fun i => v.ownBlock = some i) w2 w3) (o3 : LRow w3 v3 (s.b ++ fb))
  (hoa : v3.ownBlock = v.ownBlock ∨ v3.ownBlock = some w2.heap.size) : DStep w p q v sv (w3.setCell ⟨q, 0, none⟩ v3) v3 sv { s with b := s.b ++ fb } := by
 have hq : ∀ i, v3.ownBlock = some i → i ≠ q := fun i e e2 => by
  subst e2
  obtain ⟨cur, hc⟩ := o3.type e
  have := (show w3.heap[i]? = _ from l3).symm.trans hc
  simp at this
 have fs := fr_set w3 q 0 v3
 refine ⟨((Fr.of_below b2).trans' f3 (fun i _ e => .inr (.inr (.inl e)))).trans' fs (fun i _ e => .inr (.inl e)), fun i e => ?_, ⟨?_, l3.set 0 v3, o3.fr fs (fun i e => hq i e), (h2.srow.fr f3 (fun i e e2 => h2.ne i e2 e)).fr fs (fun i e => (h2.neRow (.inr e)).2), fun i e e2 => ?_⟩⟩
 ·rcases e with e | e | e | e
  ·exact .inl (.inl e)
  ·exact .inl (.inr (.inl e))
  ·rcases hoa with hoa | hoa
   ·exact .inl (.inr (.inr (.inl (hoa ▸ e))))
   ·rw [hoa] at e
    cases e
    exact .inr b2.size
  ·exact .inl (.inr (.inr (.inr e)))
 ·exact (h2.d.fr f3 (fun e => (h2.neRow (.inl e)).1 rfl)).fr fs h2.nePQ
 ·rcases hoa with hoa | hoa
  ·exact h2.ne i (hoa ▸ e) e2
  ·rw [hoa] at e
   cases e
   exact absurd (h2.srow.lt e2) (Nat.lt_irrefl _)
theorem dapp_yes (u : Value) (bs : List UInt8) (h : DiskAt w p q v sv s) (hg : DGood s) (hF : FoursAt w) (hu : BsIn w u bs) (hl : bs.length ≤ 65536) (hf : s.b.length + 8 + bs.length ≤ 16777216) :
  Calls Tryz.prog 49 #[.pointer (some ⟨p, 0, none⟩), u] w fun e w' => e = .returned (.int .i64 0) ∧ ∃ v', DStep w p q v sv w' v' sv { s with b := s.b ++ frameB bs } := by
 have HO := Lib.hid (down_any p q w (h.d.cell (i := 0) rfl))
 have hM := make_yes u bs w hu hF hl
 have hfl := frameB_length bs
 generalize frameB bs = fb at *
 have HM := Lib.hid hM
 have hd : ¬ (16777216 < (s.b.length : Int) + (fb.length : Int)) := by omega
 have hm := hg.most
 have hfb : fb.length ≤ 65544 := by omega
 have hf0 : 0 < fb.length := by omega
 have H := Lib.hid h
 obtain ⟨A, c, hv⟩ := h.row.shape
 have HVV := Lib.hid hv
 clear h hu hM hg hfl hf
 go_enter Tryz.func49, Tryz.ntmps49
 go_wp2_with (first
  | (go_at_call 95; refine HO.out.mono ?_; rintro e w2 ⟨rfl, rfl⟩)
  | (go_at_call 135; refine HM.out.mono ?_; rintro e w2 ⟨vo, rfl, ho, b2⟩; have H2 := Lib.hid (H.out.below b2); have l0 := H2.out.l.cell (i := 0) (v := v) rfl; rw [hv] at l0; have HB2 := Lib.hid b2; have HU := Lib.hid (bsIn_row ho); obtain ⟨a9, c9, rfl, _⟩ := (bsIn_row ho).shape; clear b2 ho hv)
  | (at_builtin; refine wpList_append_lrow _ rfl _ _ rfl v s.b HVV.out.symm H2.out.row _ _ rfl HU.out hf0 (by omega) ?_; intro v3 w3 ho3 hg3 hoa3; obtain ⟨a3, c3, rfl⟩ := ho3.shape; have f3 : Fr (fun i => v.ownBlock = some i) w2 w3 := Fr.of_grown hg3 (fun i e => e); have l3 := H2.out.l.fr f3 (fun e => (H2.out.neRow (.inl e)).2 rfl); have r0 := l3.cell (i := 0) (v := v) rfl; have r1 := l3.frozen 0; have HL3 := Lib.hid l3; have HF3 := Lib.hid f3; have HO3 := Lib.hid ho3; have HOA := Lib.hid hoa3; clear ho3 hg3 hoa3 f3 l3))
 go_returns
 rw [← List.length_append]
 exact ⟨rfl, _, app_leaf H.out H2.out HB2.out HL3.out HF3.out HO3.out HOA.out⟩
theorem write_yes (u : Value) (bs : List UInt8) (h : DiskAt w p q v sv s) (hg : DGood s) (hF : FoursAt w) (hu : BsIn w u bs) (hl : bs.length ≤ 65536) (hf : s.b.length + 8 + bs.length ≤ 16777216) :
  Calls Tryz.prog 16 #[.pointer (some ⟨p, 0, none⟩), u] w fun e w' => e = .returned (.int .i64 0) ∧ ∃ v', DStep w p q v sv w' v' sv { s with b := s.b ++ frameB bs, safe := (s.b ++ frameB bs).length } := by
 have HA := Lib.hid (dapp_yes u bs h hg hF hu hl hf)
 clear h hg hu hf
 go_enter Tryz.func16, Tryz.ntmps16
 go_wp2_with (first
  | (go_at_call 49; refine HA.out.mono ?_; rintro r w2 ⟨rfl, v', hS⟩; have HS := Lib.hid hS; clear hS)
  | (go_at_call 76; refine (dsync_any HS.out.at_).mono ?_; rintro r w3 ⟨rfl, hT⟩; have HT := Lib.hid hT; clear hT))
 go_returns
 exact ⟨rfl, v', HS.out.trans HT.out⟩
end
end Go.Proofs.YtlfikhblmbidmaaGreatDoor
namespace Go.Proofs.YtlfikhblmbidmaaGreatDoor
open Go.RowKit Go.Maps
def keptN (s : DSt) (left : Int) : Nat := (max 0 (min left ((s.b.length : Int) - s.safe))).toNat
def tornD (s : DSt) (left : Int) : DSt := { s with b := s.b.take (allF (s.b.take (s.safe + keptN s left))).2, safe := (allF (s.b.take (s.safe + keptN s left))).2 }
theorem int_eq {a b : Int} (h : a = b) : Value.int .i64 a = .int .i64 b := by rw [h]
section
variable {w : World} {p q : Nat} {v sv : Value} {s : DSt}
theorem LRow.cut {W : World} {A : Option Addr} {n c E : Nat} {bs : List UInt8} (h : LRow W (.slice A n c) bs) (hE : E ≤ bs.length) : LRow W (.slice A E E) (bs.take E) := by
 rcases h with ⟨h, rfl⟩ | ⟨g, cap, cur, h, hg, hle, hsz, hcap, htake⟩
 ·cases h
  simp at hE
  subst hE
  exact .inl ⟨rfl, rfl⟩
 ·cases h
  have hl : (bs.take E).length = E := by simp; omega
  refine .inr ⟨g, E, cur, by rw [hl], hg, by omega, by omega, by omega, ?_⟩
  rw [hl, List.map_take, ← htake, List.take_take, Nat.min_eq_left hE]
theorem tear_leaf {A : Option Addr} {c : Nat} {w5 : World} {E : Nat} (h : DiskAt w p q (.slice A s.b.length c) sv s) (h5 : DiskAt w5 p q (.slice A s.b.length c) sv s) (hb : Below w.heap.size w w5) (hE : E ≤ s.b.length) :
  DStep w p q (.slice A s.b.length c) sv ((w5.setCell ⟨q, 0, none⟩ (.slice A E E)).setCell ⟨q, 1, none⟩ (.int .i64 (E : Int))) (.slice A E E) sv { s with b := s.b.take E, safe := E } := by
 have fs : Fr (S1 q) w5 ((w5.setCell ⟨q, 0, none⟩ (.slice A E E)).setCell ⟨q, 1, none⟩ (.int .i64 (E : Int))) := (fr_set w5 q 0 _).trans (fr_set _ q 1 _)
 have ho : ∀ i, (Value.slice A E E).ownBlock = some i → (Value.slice A s.b.length c).ownBlock = some i := fun i e => by
  cases A with
  | none => cases e
  | some a => exact e
 refine ⟨(Fr.of_below hb).trans' fs (fun i _ e => .inr (.inl e)), fun i e => ?_, ⟨h5.d.fr fs h5.nePQ, (h5.l.set 0 _).set 1 _, (h5.row.cut hE).fr fs (fun i e => (h5.neRow (.inl (ho i e))).2), h5.srow.fr fs (fun i e => (h5.neRow (.inr e)).2), fun i e e2 => h5.ne i (ho i e) e2⟩⟩
 rcases e with e | e | e | e
 ·exact .inl (.inl e)
 ·exact .inl (.inr (.inl e))
 ·exact .inl (.inr (.inr (.inl (ho i e))))
 ·exact .inl (.inr (.inr (.inr e)))
set_option maxRecDepth 100000 in
set_option maxHeartbeats 2000000 in
theorem ltear_any (left : Int) (h : DiskAt w p q v sv s) (hg : DGood s) (hF : FoursAt w) (hl : -9223372036854775808 ≤ left ∧ left ≤ 9223372036854775807) :
  Calls Tryz.prog 137 #[.pointer (some ⟨q, 0, none⟩), .int .i64 left] w fun e w' => e = .returned (.tuple #[]) ∧ ∃ v', DStep w p q v sv w' v' sv (tornD s left) := by
 have H := Lib.hid h
 obtain ⟨A, c, rfl⟩ := h.row.shape
 obtain ⟨A', c', hv', hlc, hcm⟩ := h.row.bsIn.shape
 cases hv'
 have l0 := h.l.cell (i := 0) (v := .slice A s.b.length c) rfl
 have l1 := h.l.cell (i := 1) (v := .int .i64 ((s.safe : Nat) : Int)) rfl
 have hs := hg.safe
 have hm := hg.most
 have HF := Lib.hid hF
 clear h hg hF
 go_enter Tryz.func137, Tryz.ntmps137
 go_upto_region 1 with fail
 go_cut [1] (fun c1 wx => c1 = .int .i64 ((keptN s left : Nat) : Int) ∧ Below w.heap.size w wx)
 case first =>
  by_cases h1 : left ≤ 0 ∨ s.b.length ≤ s.safe
  ·have e : keptN s left = 0 := by unfold keptN; omega
   have E := Lib.hid e
   clear e
   go_region
   all_goals (try go_wp2_with fail)
   all_goals go_meet
   all_goals exact ⟨by first | (rw [E.out]; done) | (rw [E.out]; rfl) | (exact int_eq (by have := E.out; omega)), (Below.refl _ w).drew⟩
  ·by_cases h2 : (s.b.length : Int) - s.safe < left
   ·have h3 : s.safe < s.b.length := by omega
    have e : ((keptN s left : Nat) : Int) = (s.b.length : Int) - s.safe := by unfold keptN; omega
    have E := Lib.hid e
    clear e
    go_region
    all_goals (try go_wp2_with fail)
    all_goals go_meet
    all_goals exact ⟨by first | (rw [E.out]; done) | (rw [E.out]; rfl) | (exact int_eq (by have := E.out; omega)), (Below.refl _ w).drew⟩
   ·have h3 : s.safe < s.b.length := by omega
    have e : ((keptN s left : Nat) : Int) = left := by unfold keptN; omega
    have E := Lib.hid e
    clear e
    go_region
    all_goals (try go_wp2_with fail)
    all_goals go_meet
    all_goals exact ⟨by first | (rw [E.out]; done) | (rw [E.out]; rfl) | (exact int_eq (by have := E.out; omega)), (Below.refl _ w).drew⟩
 case rest =>
  obtain ⟨hc1, hbc⟩ := hcut
  subst hc1
  have hk : s.safe + keptN s left ≤ s.b.length := by unfold keptN; omega
  have HC := Lib.hid (H.out.fr (Fr.of_below hbc : Fr S0 _ _) (fun _ _ e => e))
  have l0 := HC.out.l.cell (i := 0) (v := .slice A s.b.length c) rfl
  have l1 := HC.out.l.cell (i := 1) (v := .int .i64 ((s.safe : Nat) : Int)) rfl
  obtain ⟨k, hkk⟩ : ∃ k, keptN s left = k := ⟨_, rfl⟩
  have HKK := Lib.hid hkk
  rw [hkk] at hk ⊢
  clear hkk
  have HSUB := Lib.hid (fun (A : Option Addr) (c : Nat) (h1 : s.safe + k = 0 ∨ A = some (⟨0, 0, none⟩ : Addr)) => True.intro)
  have hsub : BsIn wc (.slice A (s.safe + k) c) (s.b.take (s.safe + k)) := by
   have hl2 : (s.b.take (s.safe + k)).length = s.safe + k := by simp; omega
   obtain ⟨A2, c2, e2, _, _, h3⟩ := HC.out.row.bsIn
   cases e2
   exact ⟨A, c, by rw [hl2], by omega, hcm, fun h0 => by
    rw [hl2] at h0
    obtain ⟨b, off, k1, k2, k3⟩ := h3 (by omega)
    exact ⟨b, off, k1, k2, fun i z hz => k3 i z (by rw [List.getElem?_take] at hz; split at hz; exact hz; cases hz)⟩⟩
  have HS := Lib.hid hsub
  have HFC := Lib.hid (HF.out.below hbc)
  have hr1 : IntKind.i64.wrap ((s.safe : Int) + (k : Int)) = (s.safe : Int) + (k : Int) := by rw [IntKind.wrap_i64]; omega
  have hr2 : (0 : Int) ≤ (s.safe : Int) + (k : Int) := by omega
  have hr3 : (s.safe : Int) + (k : Int) ≤ (c : Int) := by omega
  have hr4 : ((s.safe : Int) + (k : Int)).toNat = s.safe + k := by omega
  have HBC := Lib.hid hbc
  have HD0 := Lib.hid (show Below wc.heap.size wc wc.drew ∧ wc.drew.cell? ⟨q, 0, none⟩ = some (.slice A s.b.length c) ∧ wc.drew.cell? ⟨q, 1, none⟩ = some (.int .i64 ((s.safe : Nat) : Int)) from ⟨(Below.refl _ _).drew, l0, l1⟩)
  clear hsub hbc HSUB
  go_wp2_with fail
  refine wp_region_held_drew (S := (fun W => Below wc.heap.size wc W ∧ W.cell? ⟨q, 0, none⟩ = some (.slice A s.b.length c) ∧ W.cell? ⟨q, 1, none⟩ = some (.int .i64 ((s.safe : Nat) : Int)))) (by kernel_rfl) ?_ (fun hHeld => ?_)
  ·exact HD0.out
  try dsimp only at hHeld
  refine hY 0 (some 22) hHeld ?_
  refine hY 1 (some 23) hHeld ?_
  refine hY 2 (some 24) hHeld ?_
  refine hY 3 (some 25) hHeld ?_
  refine hY 4 (some 26) hHeld ?_
  refine hY 5 (some 27) hHeld ?_
  refine hY 6 (some 28) hHeld ?_
  refine hY 7 (some 29) hHeld ?_
  refine hY 8 (some 30) hHeld ?_
  refine hY 9 (some 31) hHeld ?_
  refine hY 10 (some 32) hHeld ?_
  refine wpAnyH_ready (rs := [11]) (by kernel_rfl) (by simp) ?_
  refine (AllReadyH.cons rfl (fun K' hK' => ?_) AllReadyH.nil)
  go_simp
  (refine (all_any _ _ _ (HFC.out.below hHeld.1) (HS.out.below hHeld.1) (by simp; omega)).mono ?_; rintro e w5 ⟨vo, xs, rfl, hxc, hrow, hxs, b5⟩; clear hxc hrow hxs)
  go_wp2_with fail
  refine hK'.out _ _ ?_ (fun hHeld => ?_)
  ·exact ⟨hHeld.1.trans (b5.mono hHeld.1.size), bcell b5 hHeld.2.1, bcell b5 hHeld.2.2⟩
  clear hK' K'
  try dsimp only at hHeld
  try simp only [Act.put, List.setIfInBounds_toArray, List.set_cons_zero, List.set_cons_succ]
  refine hY 12 (some 21) hHeld ?_
  refine hY 13 (some 34) hHeld ?_
  refine hY 14 (some 35) hHeld ?_
  refine hY 15 (some 4) hHeld ?_
  refine hY 16 (some 5) hHeld ?_
  refine wpAnyH_done (by kernel_rfl) ?_ _
  have hend : (allF (s.b.take (s.safe + k))).2 ≤ s.safe + k := by
   have := allF_le (s.safe + k) (s.b.take (s.safe + k)) (by simp; omega)
   simp at this
   omega
  have HE := Lib.hid (show tornD s left = { s with b := s.b.take (allF (s.b.take (s.safe + k))).2, safe := (allF (s.b.take (s.safe + k))).2 } by unfold tornD; rw [HKK.out])
  generalize (allF (s.b.take (s.safe + k))).2 = E at *
  have H5 := Lib.hid (HC.out.below hHeld.1)
  have HB5 := Lib.hid hHeld.1
  have m0 := H5.out.l.cell (i := 0) (v := .slice A s.b.length c) rfl
  have m1 := H5.out.l.cell (i := 1) (v := .int .i64 ((s.safe : Nat) : Int)) rfl
  have g0 := H5.out.l.frozen 0
  have g1 := H5.out.l.frozen 1
  clear l0 l1
  clear hHeld hr1 hr2 hr3 hr4
  go_wp2_with fail
  go_end0
  rw [HE.out]
  exact ⟨rfl, _, tear_leaf H.out H5.out (HBC.out.trans (HB5.out.mono HBC.out.size)) (by omega)⟩
theorem dtear_any (left : Int) (h : DiskAt w p q v sv s) (hg : DGood s) (hF : FoursAt w) (hl : -9223372036854775808 ≤ left ∧ left ≤ 9223372036854775807) :
  Calls Tryz.prog 51 #[.pointer (some ⟨p, 0, none⟩), .int .i64 left] w fun e w' => e = .returned (.tuple #[]) ∧ ∃ v', DStep w p q v sv w' v' sv (tornD s left) := by
 have HO := Lib.hid (down_any p q w (h.d.cell (i := 0) rfl))
 have HL := Lib.hid (ltear_any left h hg hF hl)
 clear h hg hF
 go_enter Tryz.func51, Tryz.ntmps51
 go_wp2_with (first
  | (go_at_call 95; refine HO.out.mono ?_; rintro e w2 ⟨rfl, rfl⟩)
  | (go_at_call 137; refine HL.out.mono ?_; rintro e w2 ⟨rfl, v', hS⟩; have HS := Lib.hid hS; clear hS))
 go_returns
 exact ⟨rfl, _, HS.out⟩
end
end Go.Proofs.YtlfikhblmbidmaaGreatDoor
namespace Go.Proofs.YtlfikhblmbidmaaGreatDoor
open Go.RowKit Go.Maps
attribute [local go_sem] Oper.semAt_some
theorem cellsX_at : ∀ (xs : List FrmX) (i : Nat) (x : FrmX), xs[i]? = some x → (cellsX xs)[i * 2]? = some (.int .i64 ((x.at_ : Nat) : Int)) ∧ (cellsX xs)[i * 2 + 1]? = some x.v
 | [], i, x, h => by simp at h
 | y :: xs, 0, x, h => by
  simp at h
  subst h
  exact ⟨rfl, rfl⟩
 | y :: xs, i + 1, x, h => by
  have ih := cellsX_at xs i x (by simpa using h)
  have e : cellsX (y :: xs) = [.int .i64 ((y.at_ : Nat) : Int), y.v] ++ cellsX xs := rfl
  rw [e, List.getElem?_append_right (by simp; omega), List.getElem?_append_right (by simp; omega)]
  have e1 : (i + 1) * 2 - [Value.int .i64 ((y.at_ : Nat) : Int), y.v].length = i * 2 := by simp; omega
  have e2 : (i + 1) * 2 + 1 - [Value.int .i64 ((y.at_ : Nat) : Int), y.v].length = i * 2 + 1 := by simp; omega
  rw [e1, e2]
  exact ih
theorem row_frame {W : World} {lo : Nat} {v : Value} {xs : List FrmX} (h : W.ownsRow lo 251 2 v xs.length (cellsX xs)) {i : Nat} {x : FrmX} (hx : xs[i]? = some x) :
  ∃ g cap, v = .slice (some ⟨g, 0, none⟩) xs.length cap ∧ g < W.heap.size ∧ W.cell? ⟨g, i * 2, none⟩ = some (.int .i64 ((x.at_ : Nat) : Int)) ∧ W.cell? ⟨g, i * 2 + 1, none⟩ = some x.v := by
 obtain ⟨h1, h2⟩ := cellsX_at xs i x hx
 have hc := h
 rcases h.2 with ⟨_, hn⟩ | ⟨g, cap, cur, rfl, _, hg, _⟩
 ·rw [List.length_eq_zero_iff.1 hn] at hx
  simp at hx
 ·have := h.cells (g := g) rfl
  have a1 := this _ _ h1
  have a2 := this _ _ h2
  rw [Addr.add_lit, Nat.zero_add] at a1 a2
  exact ⟨g, cap, rfl, (Array.getElem?_eq_some_iff.1 hg).1, a1, a2⟩
theorem row_len {W : World} {lo size k : Nat} {e : TypeId} {v : Value} {xs : List Value} (h : W.ownsRow lo e size v k xs) : ∃ A c, v = .slice A k c := by
 rcases h.2 with ⟨rfl, hn⟩ | ⟨g, cap, cur, rfl, _⟩
 ·exact ⟨none, 0, by rw [hn]⟩
 ·exact ⟨_, cap, rfl⟩
abbrev RecX := Value × List UInt8
def RecG (lo : Nat) (pre : List RecX) (x : RecX) (W : World) : Prop := RowB lo W x.1 x.2
def KpR (A B : World) : Prop := KeepT 5 A B ∧ KeepT 251 A B ∧ A.heap.size ≤ B.heap.size
theorem KpR.trans {A B C : World} (h : KpR A B) (k : KpR B C) : KpR A C := ⟨h.1.trans k.1, h.2.1.trans k.2.1, Nat.le_trans h.2.2 k.2.2⟩
theorem allF_count : ∀ (k : Nat) (r : List UInt8), r.length ≤ k → (allF r).1.length ≤ r.length := by
 intro k
 induction k with
 | zero => intro r hr; rw [List.length_eq_zero_iff.1 (by omega : r.length = 0), allF_none nextF_nil]; exact Nat.le_refl _
 | succ k ih =>
  intro r hr
  cases h : nextF r with
  | none => rw [allF_none h]; exact Nat.zero_le _
  | some p =>
   obtain ⟨c, r'⟩ := p
   have hlt := nextF_lt h
   have := ih r' (by omega)
   rw [allF_some h]
   simp only [List.length_cons]
   omega
set_option maxRecDepth 100000 in
set_option maxHeartbeats 2000000 in
theorem contents_seq (n : Nat) (hn : 1 ≤ n) (B q : Nat) (lv : Value) (bs : List UInt8) (w : World) (hF0 : FoursAt w) (hv : BsIn w lv bs) (hl : bs.length ≤ 100000000) (hB : Boxed w B 105 (.pointer (some ⟨q, 0, none⟩))) (hc : w.cell? ⟨q, 0, none⟩ = some lv) :
  SeqG Fence.wide n Tryz.prog 200 #[.pointer (some ⟨B, 0, none⟩)] (fun x : RecX => #[x.1]) KpR (RecG w.heap.size) (fun xs => xs.map (·.2) = (allF bs).1) (bs.length + 1) w := by
 intro l J W hW hJ hY h0
 have hro : Fence.wide.round = none := rfl
 have hcB := bcell hW hB.cell
 have hcl := bcell hW hc
 have HA := Lib.hid (all_any lv bs W (hF0.below hW) (hv.below hW) hl)
 have hcn := allF_count bs.length bs (Nat.le_refl _)
 refine callsIn_of_wp Tryz.func200 rfl trivial ?_ hro
 simp only [Tryz.ntmps200, List.size_toArray, List.length_cons, List.length_nil, Nat.reduceAdd, Nat.reduceSub, Array.replicate_succ, Array.replicate_zero, List.push_toArray, List.append_toArray, List.nil_append, List.cons_append]
 clear hc hB hv
 gi_wp2_with (refine ⟨trivial, ?_⟩; gi_at_call 192; refine (callsIn_wide.2 HA.out).mono ?_; rintro e w2 ⟨vo, xs, rfl, hxc, hrow, hxs, b2⟩; obtain ⟨a9, c9, rfl⟩ := row_len hrow; have hxl := congrArg List.length hxc; rw [List.length_map] at hxl; have HXC := Lib.hid hxc; have HROW := Lib.hid hrow; have HXS := Lib.hid hxs; have HB2 := Lib.hid b2; have hxn : xs.length ≤ bs.length := (by omega); clear hxc hrow hxs b2 hxl)
 have hj0 : J [] w2 := hJ _ _ _ none h0 (below_grown HB2.out) (fun r e => by cases e)
 have hz2 := HB2.out.size
 obtain ⟨rx, hrx⟩ : ∃ rx : List RecX, rx = xs.map fun x => (x.v, x.c) := ⟨_, rfl⟩
 have HRX := Lib.hid hrx
 have hrl : rx.length = xs.length := by rw [hrx]; simp
 clear hrx
 gi_loopw [19] (fun c wr => ∃ k : Nat, k ≤ xs.length ∧ c = .int .i64 k ∧ J (rx.take k) wr ∧ KpR w2 wr) (fun c _ => xs.length - (intOf c).toNat)
 case atStart => exact ⟨0, Nat.zero_le _, rfl, hj0, KeepT.refl _ _, KeepT.refl _ _, Nat.le_refl _⟩
 case round =>
  obtain ⟨k, hk, rfl, hj, hkp⟩ := hrel
  by_cases hlt : k < xs.length
  ·obtain ⟨x, hx⟩ : ∃ x, xs[k]? = some x := ⟨_, List.getElem?_eq_getElem hlt⟩
   have hrw := KeepT.row hkp.2.1 HROW.out
   obtain ⟨g, cap, e1, hg, k1, k2⟩ := row_frame hrw hx
   cases e1
   have hxr := (HXS.out x (List.mem_of_getElem? hx)).keep hkp.1
   have hG := Lib.hid (RowB.lower (lo' := w.heap.size) hxr hW.size)
   obtain ⟨nx, at_, xv, xc⟩ := x
   obtain ⟨a7, n7, c7, rfl⟩ : ∃ a n c, xv = Value.slice a n c := row_shape hxr
   have hrk : rx[k]? = some (.slice a7 n7 c7, xc) := by rw [HRX.out, List.getElem?_map, hx]; rfl
   have htk : (rx.take k).length = k := by rw [List.length_take]; omega
   have hb3 : Below wr.heap.size wr (wr.alloc (.cells #[.int .i64 (at_ : Int), .slice a7 n7 c7] 251)) := (Below.refl _ _).alloc (Nat.le_refl _) _
   obtain ⟨fn, tmps, assign, body, hy, hR⟩ := hY (rx.take k) (.slice a7 n7 c7, xc) (wr.alloc (.cells #[.int .i64 (at_ : Int), .slice a7 n7 c7] 251)) (hJ _ _ _ none hj (below_grown hb3) (fun r e => by cases e)) (RowB.keep hG.out (KeepT.below hb3)) (by omega)
   dsimp only at hy
   have HKP := Lib.hid (hkp.trans ⟨KeepT.below hb3, KeepT.below hb3, hb3.size⟩)
   have HRK := Lib.hid hrk
   clear hkp hrw hxr hx hrk hb3
   gi_wp2
   refine hR.mono ?_
   rintro e W4 ⟨rfl, hj4, hk4⟩
   have HJ4 := Lib.hid hj4
   have HK4 := Lib.hid (HKP.out.trans hk4)
   clear hj4 hk4
   gi_wp2
   refine ⟨⟨k + 1, by omega, by go_num, by rw [take_snoc HRK.out]; exact HJ4.out, HK4.out⟩, by simp [intOf]; omega⟩
  ·obtain rfl : k = xs.length := by omega
   rw [← hrl, List.take_length] at hj
   gi_wp2
   go_end0
   refine ⟨⟨_, rfl⟩, rx, ?_, hj⟩
   rw [HRX.out, List.map_map]
   exact HXC.out
end Go.Proofs.YtlfikhblmbidmaaGreatDoor
namespace Go.Proofs.YtlfikhblmbidmaaGreatDoor
open Go.RowKit Go.Maps
attribute [local go_sem] Oper.semAt_some
structure RecRow (W : World) (lo : Nat) (v : Value) (xs : List RecX) : Prop where
 row : W.ownsRow lo 26 1 v xs.length (xs.map (·.1))
 rows : ∀ x ∈ xs, RowB lo W x.1 x.2
theorem info_bs : (Tryz.prog.info? 26).map (fun i => (i.zero, i.size, i.bytes)) = some (some (.slice none 0 0), 1, 24) := by kernel_rfl
theorem contents_any (q : Nat) (w : World) :
  Calls Tryz.prog 146 #[.pointer (some ⟨q, 0, none⟩)] w fun e w' => e = .returned (.func (.func 200) #[] #[.pointer (some ⟨w.heap.size, 0, none⟩)]) ∧ w' = w.alloc (.cells #[.pointer (some ⟨q, 0, none⟩)] 105) := by
 go_enter Tryz.func146, Tryz.ntmps146
 go_wp2
 go_ret
 exact ⟨rfl, rfl⟩
theorem rrows_own (lo : Nat) : Own (fun (pre : List RecX) W => ∀ x ∈ pre, RowB lo W x.1 x.2) := fun s X Y row hs hg hr x hx => (hs x hx).keep (KeepT.grown hg hr)
theorem leaf_rec {W w1 : World} {lo bO k : Nat} {v v' : Value} {xs ys : List Value} {tmp : Obj} (hv : Boxed W bO 49 v) (hrow : W.ownsRow lo 26 1 v k xs)
  (hlo : lo ≤ W.heap.size) (hO : lo ≤ bO) (hown : w1.ownsRow lo 26 1 v' (k + 1) ys) (hg : (W.alloc tmp).grownBy w1 v.ownBlock) :
  Boxed w1 bO 49 v ∧ (∀ B, KeepsFrom B W (w1.setCell ⟨bO, 0, none⟩ v')) ∧ KpR W (w1.setCell ⟨bO, 0, none⟩ v') ∧ Below lo W (w1.setCell ⟨bO, 0, none⟩ v') ∧
  Boxed (w1.setCell ⟨bO, 0, none⟩ v') bO 49 v' ∧ (w1.setCell ⟨bO, 0, none⟩ v').ownsRow lo 26 1 v' (k + 1) ys := by
 obtain ⟨hv1, hv2, hr2, hk2, hb2⟩ := hv.appended (by decide) hrow hlo hO hown hg
 have hfr : Fr (fun i => i = bO ∨ v.ownBlock = some i) W (w1.setCell ⟨bO, 0, none⟩ v') :=
  (((Fr.refl _ W).alloc tmp).trans' (Fr.of_grown (S := fun i => v.ownBlock = some i) hg (fun i e => e)) (fun i _ e => .inr e)).setCell (p := ⟨bO, 0, none⟩) (.inl (.inl rfl)) v'
 have hkt : ∀ T, 49 ≠ T → 26 ≠ T → KeepT T W (w1.setCell ⟨bO, 0, none⟩ v') := fun T h1 h2 => KeepT.of_fr hfr (fun i hi => by
  rcases hi with rfl | e
  ·exact box_type hv h1
  ·exact row_type hrow h2 i e)
 exact ⟨hv1, fun B => hk2.from B, ⟨hkt _ (by decide) (by decide), hkt _ (by decide) (by decide), hfr.size⟩, hb2, hv2, hr2⟩
set_option maxRecDepth 100000 in
set_option maxHeartbeats 2000000 in
theorem appendRec_any (q Bl : Nat) (lv : Value) (bs : List UInt8) (w : World) (hF0 : FoursAt w) (hv : BsIn w lv bs) (hl : bs.length ≤ 100000000) (hB : Boxed w Bl 105 (.pointer (some ⟨q, 0, none⟩))) (hc : w.cell? ⟨q, 0, none⟩ = some lv) :
  Calls Tryz.prog 199 #[.slice none 0 0, .func (.func 200) #[] #[.pointer (some ⟨Bl, 0, none⟩)]] w fun e w' => ∃ vo xs, e = .returned vo ∧ xs.map (·.2) = (allF bs).1 ∧ RecRow w' w.heap.size vo xs ∧ Below w.heap.size w w' := by
 refine (callsIn_wide (n := 6)).1 ?_
 have hro : Fence.wide.round = none := rfl
 obtain ⟨i0, hi, hz0, hz1, hz2⟩ := info_parts info_bs
 have HI := Lib.hid hi
 have HZ0 := Lib.hid hz0
 have HZ1 := Lib.hid hz1
 have HZ2 := Lib.hid hz2
 clear hi hz0 hz1 hz2
 refine callsIn_of_wp_marks Tryz.func199 rfl trivial ?_ hro
 simp only [Tryz.ntmps199, List.size_toArray, List.length_cons, List.length_nil, Nat.reduceAdd, Nat.reduceSub, Array.replicate_succ, Array.replicate_zero, List.push_toArray, List.append_toArray, List.nil_append, List.cons_append]
 gi_wp2
 have bO : Boxed (w.alloc (.cells #[.slice none 0 0] 49)) w.heap.size 49 (.slice none 0 0) := Boxed.new w _ _
 have hB0 : Below w.heap.size w (w.alloc (.cells #[.slice none 0 0] 49)) := (Below.refl _ w).alloc (Nat.le_refl _) _
 have hS0 : (w.alloc (.cells #[.slice none 0 0] 49)).heap.size = w.heap.size + 1 := by simp
 have HF1 := Lib.hid (hF0.below hB0)
 have HV1 := Lib.hid (hv.below hB0)
 have HBl := Lib.hid (hB.alloc (.cells #[.slice none 0 0] 49))
 have HC1 := Lib.hid (bcell hB0 hc)
 clear hF0 hv hB hc
 generalize w.alloc (.cells #[.slice none 0 0] 49) = W0 at *
 refine wpIn_rangeFunc_gd hro (by omega) (gf := 200) (lb := #[.pointer (some ⟨Bl, 0, none⟩)]) rfl trivial (enters_of Tryz.func200 (by kernel_rfl) rfl)
  (contents_seq (6 - 1) (by omega) Bl q lv bs W0 HF1.out HV1.out hl HBl.out HC1.out)
  KpR.trans (fun W l o o' hl ho hc hw => ⟨KeepT.putObj o' ho hc, KeepT.putObj o' ho hc, (belowK_b (w := W0) (n₀ := w.heap.size) (by omega) W l o o' hl ho hc hw).size⟩) (Below.refl _ _) (fun _ => rfl)
  (fun (pre : List RecX) W => (∃ v, Boxed W w.heap.size 49 v ∧ W.ownsRow w.heap.size 26 1 v pre.length (pre.map (·.1)) ∧ True) ∧ (∀ x ∈ pre, RowB w.heap.size W x.1 x.2) ∧ Below w.heap.size w W ∧ w.heap.size + 1 ≤ W.heap.size)
  (OwnFrom.and (Own.from (holdsRow_own w.heap.size w.heap.size 49 26 1 (fun pre : List RecX => List.length pre) (fun pre : List RecX => pre.map (·.1)) (fun _ _ => True)) _) (OwnFrom.and (Own.from (rrows_own w.heap.size) _) (OwnFrom.and (ownFrom_below (Nat.le_refl _) (by omega)) (fun s A B row hs hg hr => Nat.le_trans hs hg.size))))
  (fun pre x s A B row hs hg hr => hs.keep (KeepT.grown hg (fun r e => (hr r e).2)))
  ⟨⟨_, bO, World.ownsRow_nil _ _ _ _, trivial⟩, fun x hx => by (cases hx), hB0, by omega⟩
  (fun (x : RecX) a' W => a' = { tmps := #[.slice none 0 0, .func (.func 200) #[] #[.pointer (some ⟨Bl, 0, none⟩)], .pointer (some ⟨w.heap.size, 0, none⟩), undef, .slice none 0 0, x.1,
   .func (.func 200) #[] #[.pointer (some ⟨Bl, 0, none⟩)], x.1, undef, undef, undef, undef, undef], defers := [] })
  (fun x a' s X Y row hs hg hr => hs) ?assign ?body ?done
 case assign =>
  rintro l pre ⟨v, cs⟩ W K hI hG hK
  have HII := Lib.hid hI
  have HG := Lib.hid hG
  clear hI hG
  gi_wp2
  exact hK _ _ (KeepsFrom.refl _ _) ⟨KeepT.refl _ _, KeepT.refl _ _, Nat.le_refl _⟩ HII.out HG.out rfl
 case body =>
  rintro l pre ⟨v, cs⟩ a' W ⟨⟨vo, h1, h2, _⟩, h4, h5, h6⟩ hG rfl hlt
  have HG := Lib.hid hG
  obtain ⟨a9, n9, c9, rfl⟩ : ∃ a n c, v = Value.slice a n c := row_shape (show W.ownsRow _ _ _ v _ _ from hG)
  clear hG
  have hc1 := h1.cell
  have H1 := Lib.hid h1
  have H2 := Lib.hid h2
  have H4 := Lib.hid h4
  have H5 := Lib.hid h5
  clear h1 h2 h4 h5
  gi_wp2_with (gi_at_builtin; refine wpListIn_append_own _ rfl _ _ 49 rfl w.heap.size 26 i0 (.slice none 0 0) 1 24 Tryz.underlying49 HI.out HZ0.out HZ1.out HZ2.out rfl (by decide) _ _ _ rfl (H2.out.alloc _) ⟨W.heap.size, 0, none⟩ 1 1 [.slice a9 n9 c9] rfl rfl (cell_one_new _ _ _) (by simp [Value.oneCell']) (by unfold maxLen; omega) (by omega) (by have := H5.out.size; simp; omega) ?_; intro v' w1 hown' hgrow _; obtain ⟨g', cap', rfl⟩ := ownsRow_succ hown'; have HL := Lib.hid (leaf_rec H1.out H2.out H5.out.size (Nat.le_refl _) hown' hgrow); have q1 := HL.out.1.cell; have q2 := HL.out.1.frozen; clear hown' hgrow)
  obtain ⟨_, k1, k2, kb, k3, k4⟩ := HL.out
  refine ⟨k1 _, k2, ⟨_, k3, ?_⟩, fun xa xb hx => ?_, H5.out.trans kb, Nat.le_trans h6 k2.2.2⟩
  ·rw [List.length_append, List.map_append]
   exact k4
  ·rcases List.mem_append.1 hx with hx | hx
   ·exact (H4.out _ hx).keep k2.1
   ·obtain ⟨rfl, rfl⟩ := Prod.mk.inj (List.mem_singleton.1 hx)
    exact RowB.keep (RowB.lower HG.out (by omega)) k2.1
 case done =>
  rintro D ys W hD hc ⟨⟨vo, h1, h2, _⟩, h4, h5, h6⟩ hK
  obtain ⟨a9, n9, c9, rfl⟩ := row_shape h2
  have hc1 := h1.cell
  gi_wp2
  refine ⟨by simp, .inl ⟨_, _, rfl, run_takeDeferred hK, ?_⟩⟩
  exact ⟨.slice a9 n9 c9, by simp [results, Tryz.results199, go_sem], _, ys, rfl, hc, ⟨ownsRow_putObj h2 (.deferred none) hK rfl, fun x hx => (h4 x hx).keep (KeepT.putObj _ hK rfl)⟩, h5.trans (belowK_b (w := W0) (by omega) W D _ _ hD hK rfl rfl)⟩
theorem drecords_any {w : World} {p q : Nat} {v sv : Value} {s : DSt} (h : DiskAt w p q v sv s) (hg : DGood s) (hF : FoursAt w) :
  Calls Tryz.prog 55 #[.pointer (some ⟨p, 0, none⟩)] w fun e w' => ∃ vo xs, e = .returned vo ∧ xs.map (·.2) = (allF s.b).1 ∧ RecRow w' w.heap.size vo xs ∧ Below w.heap.size w w' := by
 have HO := Lib.hid (down_any p q w (h.d.cell (i := 0) rfl))
 have H := Lib.hid h
 have HF := Lib.hid hF
 have hm : s.b.length ≤ 100000000 := by have := hg.most; omega
 have hb : Below w.heap.size w (w.alloc (.cells #[.pointer (some ⟨q, 0, none⟩)] 105)) := (Below.refl _ w).alloc (Nat.le_refl _) _
 have hA := appendRec_any q w.heap.size v s.b _ (hF.below hb) (h.row.bsIn.below hb) hm (Boxed.new w 105 (.pointer (some ⟨q, 0, none⟩))) (bcell hb (h.l.cell (i := 0) rfl))
 have HC : Hid (Calls Tryz.prog 145 #[.func (.func 200) #[] #[.pointer (some ⟨w.heap.size, 0, none⟩)]] (w.alloc (.cells #[.pointer (some ⟨q, 0, none⟩)] 105)) fun e w' => ∃ vo xs, e = .returned vo ∧ xs.map (·.2) = (allF s.b).1 ∧ RecRow w' (w.alloc (.cells #[.pointer (some ⟨q, 0, none⟩)] 105)).heap.size vo xs ∧ Below (w.alloc (.cells #[.pointer (some ⟨q, 0, none⟩)] 105)).heap.size (w.alloc (.cells #[.pointer (some ⟨q, 0, none⟩)] 105)) w') := by
  have HA := Lib.hid hA
  clear hA hb hF h
  go_enter Tryz.func145, Tryz.ntmps145
  go_wp2_with (go_at_call 199; refine HA.out.mono ?_; rintro e w' ⟨vo, xs, rfl, hx, hr, hb⟩; have HX := Lib.hid hx; have HR := Lib.hid hr; have HB := Lib.hid hb; clear hx hr hb)
  go_returns
  exact ⟨_, xs, rfl, HX.out, HR.out, HB.out⟩
 clear hA hb hF h hg
 go_enter Tryz.func55, Tryz.ntmps55
 go_wp2_with (first
  | (go_at_call 95; refine HO.out.mono ?_; rintro e w2 ⟨rfl, rfl⟩)
  | (go_at_call 146; refine (contents_any q _).mono ?_; rintro e w2 ⟨rfl, rfl⟩)
  | (go_at_call 145; refine HC.out.mono ?_; rintro e w' ⟨vo, xs, rfl, hx, hr, hb⟩; have HX := Lib.hid hx; have HR := Lib.hid hr; have HB := Lib.hid hb; clear hx hr hb))
 go_returns
 exact ⟨_, xs, rfl, HX.out, ⟨World.ownsRow.mono HR.out.row (by simp), fun x hx => (HR.out.rows x hx).lower (by simp)⟩, ((Below.refl _ w).alloc (Nat.le_refl _) _).trans (HB.out.mono (by simp))⟩
end Go.Proofs.YtlfikhblmbidmaaGreatDoor