/- Laid together by gen/merge.py: R3V R3A R3C UintP R3D ParsP R3E R3F. -/
import Derived.Test.YtlfikhblmbidmaaGreatDoorMrgH
import Derived.Deep.RegionHeld3
import Derived.Maps.AppendAt
import Derived.Deep.AppendLies
import Derived.Lib.ConvBytes
import Derived.Test.YtlfikhblmbidmaaGreatDoorMrgA
import Derived.Deep.DeepCutAuto
import Derived.Deep.CutBlock
import Derived.Deep.LoopGhost
import Derived.Test.YtlfikhblmbidmaaGreatDoorMrgE
set_option linter.all false
namespace Go.Proofs.YtlfikhblmbidmaaGreatDoor
open Go.RowKit Go.Maps
def valQ (n r d : Int) : Bool := decide (r ≥ 1) && (decide (r ≤ 1073741824) && (decide (d ≥ 0) && decide (d < n)))
theorem rvalid_any (r d n : Int) (w : World) :
  Calls Tryz.prog 170 #[balV r d, .int .i64 n] w fun e w' => e = .returned (.bool (valQ n r d)) ∧ Below w.heap.size w w' := by
 have hb := box_below w (.cells #[.int .i64 r, .int .i64 d] 24)
 unfold valQ
 cases h4 : decide (r ≥ 1)
 case false =>
  go_enter Tryz.func170, Tryz.ntmps170
  go_wp2_with fail
  go_returns
  exact ⟨rfl, hb⟩
 cases h5 : decide (r ≤ 1073741824)
 case false =>
  go_enter Tryz.func170, Tryz.ntmps170
  go_wp2_with fail
  go_returns
  exact ⟨rfl, hb⟩
 cases h6 : decide (d ≥ 0)
 case false =>
  go_enter Tryz.func170, Tryz.ntmps170
  go_wp2_with fail
  go_returns
  exact ⟨rfl, hb⟩
 cases h7 : decide (d < n)
 case false =>
  go_enter Tryz.func170, Tryz.ntmps170
  go_wp2_with fail
  go_returns
  exact ⟨rfl, hb⟩
 go_enter Tryz.func170, Tryz.ntmps170
 go_wp2_with fail
 go_returns
 exact ⟨rfl, hb⟩
theorem valQ_ok (r d : Int) : valQ 7 r d = okB r d := by
 have h := okB_iff r d
 cases hk : okB r d
 ·rw [hk] at h
  have : ¬ (1 ≤ r ∧ r ≤ 1073741824 ∧ 0 ≤ d ∧ d ≤ 6) := fun e => by cases h.2 e
  unfold valQ
  rw [Bool.eq_false_iff]
  intro e
  simp at e
  exact this (by omega)
 ·rw [hk] at h
  have := h.1 rfl
  unfold valQ
  simp
  omega
theorem rgood_any (r d : Int) (w : World) : Calls Tryz.prog 84 #[balV r d] w fun e w' => e = .returned (.bool (okB r d)) ∧ Below w.heap.size w w' := by
 have hb0 := box_below w (.cells #[.int .i64 r, .int .i64 d] 24)
 have hv := rvalid_any r d 7 (w.alloc (.cells #[.int .i64 r, .int .i64 d] 24))
 rw [valQ_ok] at hv
 have HV := Lib.hid hv
 clear hv
 go_enter Tryz.func84, Tryz.ntmps84
 go_wp2_with (go_at_call 170; refine HV.out.mono ?_; rintro e w2 ⟨rfl, hb⟩)
 go_returns
 exact ⟨rfl, bchain hb0 hb⟩
end Go.Proofs.YtlfikhblmbidmaaGreatDoor
namespace Go.Proofs.YtlfikhblmbidmaaGreatDoor
open Go.RowKit Go.Maps
structure RwAt (w : World) (p : Nat) (v : Value) (bs : List UInt8) : Prop where
 blk : Blk w p 218 #[.bool true, v]
 row : w.ownsRow (p + 1) 5 1 v bs.length (bs.map u8V)
structure RwStep (w : World) (p : Nat) (v : Value) (w' : World) (v' : Value) (bs' : List UInt8) : Prop where
 fr : Fr (fun i => i = p ∨ v.ownBlock = some i) w w'
 own : ∀ i, v'.ownBlock = some i → v.ownBlock = some i ∨ w.heap.size ≤ i
 at_ : RwAt w' p v' bs'
theorem RwStep.refl {w : World} {p : Nat} {v : Value} {bs : List UInt8} (h : RwAt w p v bs) : RwStep w p v w v bs := ⟨Fr.refl _ _, fun i e => .inl e, h⟩
theorem RwStep.trans {w w' w'' : World} {p : Nat} {v v' v'' : Value} {bs bs' : List UInt8} (h : RwStep w p v w' v' bs) (k : RwStep w' p v' w'' v'' bs') : RwStep w p v w'' v'' bs' := by
 refine ⟨h.fr.trans' k.fr (fun i hi e => ?_), fun i e => ?_, k.at_⟩
 ·rcases e with e | e
  ·exact .inl e
  ·rcases h.own i e with e' | e'
   ·exact .inr e'
   ·omega
 ·rcases k.own i e with e' | e'
  ·exact h.own i e'
  ·exact .inr (Nat.le_trans h.fr.size e')
theorem RwAt.fr {S : Nat → Prop} {w w' : World} {p : Nat} {v : Value} {bs : List UInt8} (h : RwAt w p v bs) (k : Fr S w w') (hp : ¬ S p) (hv : ∀ i, v.ownBlock = some i → ¬ S i) : RwAt w' p v bs := ⟨h.blk.fr k hp, row_fr h.row k hv⟩
theorem RwAt.below {w w' : World} {p : Nat} {v : Value} {bs : List UInt8} (h : RwAt w p v bs) (k : Below w.heap.size w w') : RwAt w' p v bs := h.fr (Fr.of_below k : Fr S0 w w') (fun e => e) (fun _ _ e => e)
theorem RwStep.below {w w' : World} {p : Nat} {v : Value} {bs : List UInt8} (h : RwAt w p v bs) (k : Below w.heap.size w w') : RwStep w p v w' v bs := ⟨Fr.of_below k, fun i e => .inl e, h.below k⟩
theorem RwAt.shape {w : World} {p : Nat} {v : Value} {bs : List UInt8} (h : RwAt w p v bs) : ∃ a cap, v = .slice a bs.length cap := row_len h.row
theorem rwnew (w : World) : Calls Tryz.prog 85 #[] w fun e w' => ∃ p, e = .returned (.pointer (some ⟨p, 0, none⟩)) ∧ RwAt w' p (.slice none 0 0) [] ∧ w.heap.size ≤ p ∧ Below w.heap.size w w' := by
 go_enter Tryz.func85, Tryz.ntmps85
 go_wp2_with fail
 go_returns
 exact ⟨_, rfl, ⟨Blk.new _ _ _, World.ownsRow_nil _ _ _ _⟩, Nat.le_refl _, (Below.refl _ w).alloc (Nat.le_refl _) _⟩
theorem rwvalid (p : Nat) (w : World) (h : w.cell? ⟨p, 0, none⟩ = some (.bool true)) : Calls Tryz.prog 213 #[.pointer (some ⟨p, 0, none⟩)] w fun e w' => e = .returned (.bool true) ∧ w = w' := by
 go_enter Tryz.func213, Tryz.ntmps213
 go_wp2_with fail
 go_returns
 exact ⟨rfl, rfl⟩
theorem bw_below (w : World) (e : TypeId) (s : ByteArray) : Below w.heap.size w (Lib.bytesWorld w e s) :=
 ⟨rfl, rfl, rfl, by rw [Lib.bytesWorld_size]; omega, fun i hi => Lib.bytesWorld_at_old w e s i hi⟩
theorem lrow_cells {W : World} {v : Value} {cs : List UInt8} (h : LRow W v cs) (h0 : 0 < cs.length) : ∃ a c, v = .slice (some a) cs.length c ∧ ∀ j z, (cs.map u8V)[j]? = some z → W.cell? (a.add j) = some z := by
 obtain ⟨A, c, rfl, hle, hmax, hcells⟩ := h.bsIn
 obtain ⟨b, off, rfl, hb, hc⟩ := hcells h0
 refine ⟨⟨b, off, none⟩, c, rfl, fun j z hz => ?_⟩
 rw [List.getElem?_map] at hz
 cases hy : cs[j]? with
 | none => rw [hy] at hz; cases hz
 | some y =>
  rw [hy] at hz
  cases hz
  rw [Addr.add_lit]
  exact hc j y hy
theorem lrow_new (w : World) (x : UInt8) : LRow (w.alloc (.cells #[u8V x] 5)) (.slice (some ⟨w.heap.size, 0, none⟩) 1 1) [x] :=
 .inr ⟨w.heap.size, 1, #[u8V x], rfl, Blk.new w _ _, Nat.le_refl _, Nat.le_refl _, by unfold maxLen; omega, rfl⟩
set_option maxRecDepth 100000 in
set_option maxHeartbeats 2000000 in
theorem rnum_any : ∀ (f n : Nat) (w : World), n < f → n < 18446744073709551616 → Calls Tryz.prog 172 #[.int .u64 (n : Int)] w fun e w' => ∃ vo, e = .returned vo ∧ LRow w' vo (uintB n) ∧ Below w.heap.size w w'
 | 0, n, w, h, _ => by omega
 | f + 1, n, w, h, hm => by
  by_cases hn : n < 128
  ·rw [uintB_lt hn]
   have hw : ((UInt8.ofNat n).toNat : Int) = (n : Int) := by rw [UInt8.toNat_ofNat']; omega
   have hl : decide ((n : Int) < 128) = true := by simp; omega
   have HL := lrow_new w (UInt8.ofNat n)
   rw [show u8V (UInt8.ofNat n) = .int .u8 (n : Int) by rw [← hw]] at HL
   have HLL := Lib.hid HL
   clear HL hw
   go_enter Tryz.func172, Tryz.ntmps172
   go_wp2_with fail
   go_returns
   exact ⟨_, rfl, HLL.out, (Below.refl _ w).alloc (Nat.le_refl _) _⟩
  ·rw [uintB_ge hn]
   have hw : ((UInt8.ofNat (n % 128 + 128)).toNat : Int) = (n : Int) % 128 + 128 := by rw [UInt8.toNat_ofNat']; omega
   have hu : u8V (UInt8.ofNat (n % 128 + 128)) = .int .u8 ((n : Int) % 128 + 128) := by rw [← hw]
   have ih := rnum_any f (n / 128) (w.alloc (.cells #[u8V (UInt8.ofNat (n % 128 + 128))] 5)) (by omega) (by omega)
   have hL := lrow_new w (UInt8.ofNat (n % 128 + 128))
   rw [hu] at ih hL
   rw [show ((n / 128 : Nat) : Int) = (n : Int) / 128 by omega] at ih
   have IH := Lib.hid ih
   have HL := Lib.hid hL
   have hlen := uintB_len10 (n := n / 128) (by omega)
   have h0 : 0 < (uintB (n / 128)).length := by
    by_cases h2 : n / 128 < 128
    ·rw [uintB_lt h2]; simp
    ·rw [uintB_ge h2]; simp
   have hl : decide ((n : Int) < 128) = false := by simp; omega
   clear ih hL hw hu
   go_enter Tryz.func172, Tryz.ntmps172
   go_wp2_with (first
    | (go_at_call 172; refine IH.out.mono ?_; rintro e w2 ⟨vo, rfl, ho, hb⟩; have HO := Lib.hid ho; obtain ⟨a9, c9, rfl⟩ := ho.shape; have H2 := Lib.hid (HL.out.fr (Fr.of_below hb : Fr S0 _ _) (fun _ _ e => e)); have HB2 := Lib.hid (bchain ((Below.refl _ w).alloc (Nat.le_refl _) _) hb); clear ho hb)
    | (at_builtin; refine wpList_append_lrow _ rfl _ _ rfl _ _ rfl H2.out _ _ rfl HO.out.bsIn h0 (by simp; omega) ?_; intro v3 w3 ho3 hg3 hoa3; have HO3 := Lib.hid ho3; have HG3 := Lib.hid hg3; clear ho3 hg3 hoa3))
   go_returns
   exact ⟨_, rfl, HO3.out, Fr.upB HB2.out (Fr.of_grown (S := S1 w.heap.size) HG3.out (fun i e => by cases e; rfl)) (fun i e => by have e : i = w.heap.size := e; omega)⟩
set_option maxRecDepth 100000 in
set_option maxHeartbeats 2000000 in
theorem radd_any (p : Nat) (v : Value) (bs : List UInt8) (w : World) (h : RwAt w p v bs) (a : Addr) (c : Nat) (cs : List UInt8) (hc : ∀ j z, (cs.map u8V)[j]? = some z → w.cell? (a.add j) = some z) (hl : bs.length + cs.length ≤ 1000000000) :
  Calls Tryz.prog 171 #[.pointer (some ⟨p, 0, none⟩), .slice (some a) cs.length c] w fun e w' => ∃ v', e = .returned (.tuple #[]) ∧ RwStep w p v w' v' (bs ++ cs) := by
 obtain ⟨i0, hi, hz0, hz1, hz2⟩ := info_parts info_u8
 have HI := Lib.hid hi
 have HZ0 := Lib.hid hz0
 have HZ1 := Lib.hid hz1
 have HZ2 := Lib.hid hz2
 clear hi hz0 hz1 hz2
 have c0 := h.blk.cell (i := 0) (v := .bool true) rfl
 have c1 := h.blk.cell (i := 1) (v := v) rfl
 have hrb : ∀ i, v.ownBlock = some i → p + 1 ≤ i ∧ i < w.heap.size := fun i e => h.row.lt i e
 have hp := h.blk.lt
 have H := Lib.hid h
 have HC := Lib.hid hc
 clear h hc
 go_enter Tryz.func171, Tryz.ntmps171
 go_wp2_with (first
  | (go_at_call 213; refine (rwvalid p w c0).mono ?_; rintro e w' ⟨rfl, rfl⟩)
  | (at_builtin; refine wpList_append_own_at _ rfl _ _ 26 rfl (p + 1) 5 i0 (.int .u8 0) 1 1 Tryz.underlying26 HI.out HZ0.out HZ1.out HZ2.out rfl (by decide) v _ _ rfl H.out.row a cs.length c (cs.map u8V) rfl (by simp) HC.out (u8_one cs) (by unfold maxLen; omega) (by omega) (by omega) ?_; intro v3 wa hra hga _ hoa; obtain ⟨a3, n3, c3, rfl⟩ : ∃ a3 n3 c3, v3 = Value.slice a3 n3 c3 := row_shape hra; have HRA := Lib.hid hra; have HOA := Lib.hid hoa; have fa0 : Fr (fun i => v.ownBlock = some i) w wa := Fr.of_grown hga (fun i e => e); have hBW := H.out.blk.fr fa0 (fun e => by have := hrb _ e; omega); have hc1 := hBW.cell (i := 1) (v := v) rfl; have hf1 := hBW.frozen 1; have HBW := Lib.hid hBW; have HFA := Lib.hid fa0; clear hra hga hoa hBW fa0))
 go_returns
 refine ⟨_, rfl, ⟨(HFA.out.mono (fun i e => .inr e)).setCell (.inl (.inl rfl)) _, fun i e => ?_, ⟨HBW.out.set 1 _, ?_⟩⟩⟩
 ·rcases HOA.out with h | h
  ·exact .inl (h ▸ e)
  ·rw [h] at e
   cases e
   exact .inr (Nat.le_refl _)
 ·have := ownsRow_setCell_below HRA.out (a := ⟨p, 1, none⟩) (show p < p + 1 by omega) (.slice a3 n3 c3)
  rw [List.length_append, List.map_append]
  exact this
theorem rwuint (p n : Nat) (v : Value) (bs : List UInt8) (w : World) (h : RwAt w p v bs) (hn : n < 18446744073709551616) (hl : bs.length ≤ 100000000) :
  Calls Tryz.prog 86 #[.pointer (some ⟨p, 0, none⟩), .int .u64 (n : Int)] w fun e w' => ∃ v', e = .returned (.tuple #[]) ∧ RwStep w p v w' v' (bs ++ uintB n) := by
 have hlen := uintB_len10 hn
 have H := Lib.hid h
 have HN := Lib.hid (rnum_any (n + 1) n w (by omega) hn)
 clear h
 go_enter Tryz.func86, Tryz.ntmps86
 go_wp2_with (first
  | (go_at_call 172; refine HN.out.mono ?_; rintro e w2 ⟨vo, rfl, ho, hb⟩; obtain ⟨a9, c9, rfl, hm9⟩ := lrow_cells ho (uintB_pos n); have HM9 := Lib.hid hm9; have HB := Lib.hid hb; clear ho hb hm9)
  | (go_at_call 171; refine (radd_any p v bs _ (H.out.below HB.out) a9 c9 (uintB n) HM9.out (by omega)).mono ?_; rintro e w3 ⟨v3, rfl, hs⟩; have HS := Lib.hid hs; clear hs))
 go_returns
 exact ⟨v3, rfl, (RwStep.below H.out HB.out).trans HS.out⟩
set_option maxRecDepth 100000 in
set_option maxHeartbeats 2000000 in
theorem rwtext (p : Nat) (v : Value) (bs : List UInt8) (s : ByteArray) (w : World) (h : RwAt w p v bs) (hs : s.size ≤ 1000000) (hl : bs.length ≤ 100000000) :
  Calls Tryz.prog 89 #[.pointer (some ⟨p, 0, none⟩), .string s] w fun e w' => ∃ v', e = .returned (.tuple #[]) ∧ RwStep w p v w' v' (bs ++ textB s.data.toList) := by
 have hsl : s.data.toList.length = s.size := by simp
 have hlen := uintB_len10 (n := s.size) (by omega)
 have H := Lib.hid h
 have HN := Lib.hid (rnum_any (s.size + 1) s.size w (by omega) (by omega))
 have HT : Hid (bs ++ textB s.data.toList = (bs ++ uintB s.size) ++ s.data.toList) := by rw [Hid, textB, hsl, List.append_assoc]
 have hcv : ∀ W : World, (convert 9 26 (.string s)).run Tryz.prog W = .ok (.slice (some ⟨W.heap.size, 0, none⟩) s.size (grownCap W s.size 0 5)) (Lib.bytesWorld W 5 s) := fun W => Lib.run_convert_string_bytes W _ _ _ s Tryz.underlying9 Tryz.underlying26 Tryz.underlying5
 have HADD : Hid (∀ (v3 : Value) (w2 w3 : World), RwStep w2 p v w3 v3 (bs ++ uintB s.size) → Calls Tryz.prog 171 #[.pointer (some ⟨p, 0, none⟩), .slice (some ⟨w3.heap.size, 0, none⟩) s.size (grownCap w3 s.size 0 5)] (Lib.bytesWorld w3 5 s) fun e w' => ∃ v', e = .returned (.tuple #[]) ∧ RwStep w3 p v3 w' v' ((bs ++ uintB s.size) ++ s.data.toList)) := fun v3 w2 w3 hst => by
  have hbw := bw_below w3 5 s
  have := radd_any p v3 (bs ++ uintB s.size) (Lib.bytesWorld w3 5 s) (hst.at_.below hbw) ⟨w3.heap.size, 0, none⟩ (grownCap w3 s.size 0 5) s.data.toList (fun j z hz => ?_) (by rw [List.length_append, hsl]; omega)
  ·rw [hsl] at this
   refine this.mono ?_
   rintro e w' ⟨v', rfl, hs⟩
   exact ⟨v', rfl, (RwStep.below hst.at_ hbw).trans hs⟩
  ·rw [List.getElem?_map] at hz
   cases hy : s.data.toList[j]? with
   | none => rw [hy] at hz; cases hz
   | some y =>
    rw [hy] at hz
    cases hz
    have hj : j < s.size := by rw [← hsl]; exact (List.getElem?_eq_some_iff.1 hy).1
    rw [Addr.add_lit, Nat.zero_add, Lib.bytesWorld_cell w3 _ s j hj]
    show some (Value.int .u8 _) = some (Value.int .u8 _)
    rw [List.getD_eq_getElem?_getD, hy]
    rfl
 rw [HT.out]
 clear h
 go_enter Tryz.func89, Tryz.ntmps89
 go_wp2_with (first
  | (go_at_call 172; refine HN.out.mono ?_; rintro e w2 ⟨vo, rfl, ho, hb⟩; obtain ⟨a9, c9, rfl, hm9⟩ := lrow_cells ho (uintB_pos s.size); have HM9 := Lib.hid hm9; have HB := Lib.hid hb; clear ho hb hm9)
  | (go_at_call 171; (with_reducible refine (radd_any p v bs _ (H.out.below HB.out) a9 c9 (uintB s.size) HM9.out ?_).mono ?_); omega; rintro e w3 ⟨v3, rfl, hs3⟩; have HS := Lib.hid hs3; clear hs3)
  | (go_at_call 171; (with_reducible refine (HADD.out _ _ _ HS.out).mono ?_); rintro e w4 ⟨v4, rfl, hs4⟩; have HS4 := Lib.hid hs4; clear hs4))
 go_returns
 exact ⟨v4, rfl, ((RwStep.below H.out HB.out).trans HS.out).trans HS4.out⟩
end Go.Proofs.YtlfikhblmbidmaaGreatDoor
namespace Go.Proofs.YtlfikhblmbidmaaGreatDoor
open Go.RowKit Go.Maps
structure RrAt (w : World) (p : Nat) (v : Value) (s : Rd) : Prop where
 blk : Blk w p 222 #[.bool true, v, .bool s.isNone]
 bs : BsIn w v (s.getD [])
 nil : s = none → v = .slice none 0 0
 ty : 0 < (s.getD []).length → ∀ i, v.ownBlock = some i → ∃ cur, w.heap[i]? = some (.cells cur 5 (0, 0))
theorem RrAt.below {w w' : World} {p : Nat} {v : Value} {s : Rd} (h : RrAt w p v s) (k : Below w.heap.size w w') : RrAt w' p v s :=
 ⟨h.blk.of_block (k.block _ h.blk.lt), h.bs.below k, h.nil, fun h0 i e => by
  obtain ⟨cur, hc⟩ := h.ty h0 i e
  exact ⟨cur, (k.block i (Array.getElem?_eq_some_iff.1 hc).1).trans hc⟩⟩
theorem RrAt.fr {S : Nat → Prop} {w w' : World} {p : Nat} {v : Value} {s : Rd} (h : RrAt w p v s) (k : Fr S w w') (hp : ¬ S p) (hS : ∀ i, S i → ∀ cur, w.heap[i]? ≠ some (.cells cur 5 (0, 0))) : RrAt w' p v s := by
 have hty : 0 < (s.getD []).length → ∀ i, v.ownBlock = some i → ∃ cur, w'.heap[i]? = some (.cells cur 5 (0, 0)) := fun h0 i e => by
  obtain ⟨cur, hc⟩ := h.ty h0 i e
  exact ⟨cur, (k.block i (Array.getElem?_eq_some_iff.1 hc).1 (fun hs => hS i hs cur hc)).trans hc⟩
 refine ⟨h.blk.fr k hp, ?_, h.nil, hty⟩
 have ht := h.ty
 obtain ⟨A, cap, rfl, hle, hm, hc⟩ := h.bs
 refine ⟨A, cap, rfl, hle, hm, fun h0 => ?_⟩
 obtain ⟨b, off, rfl, hb, hcell⟩ := hc h0
 obtain ⟨cur, hcur⟩ := ht h0 b rfl
 have hblk := k.block b hb (fun hs => hS b hs cur hcur)
 refine ⟨b, off, rfl, Nat.lt_of_lt_of_le hb k.size, fun i z hz => ?_⟩
 rw [← hcell i z hz]
 simp [World.cell?, hblk]
theorem BsIn.setR {w : World} {p i : Nat} {u x y : Value} {b1 : Value} {bs : List UInt8} (h : BsIn w u bs) (hb : Blk w p 222 #[.bool true, x, b1]) (hx : ∃ A n c, x = .slice A n c) (h1 : ∃ z, b1 = .bool z) : BsIn (w.setCell ⟨p, i, none⟩ y) u bs := by
 obtain ⟨A, cap, e, hle, hm, hc⟩ := h
 refine ⟨A, cap, e, hle, hm, fun h0 => ?_⟩
 obtain ⟨b, off, hA, hlt, hcells⟩ := hc h0
 refine ⟨b, off, hA, by simpa [World.setCell] using hlt, fun j z hz => ?_⟩
 have hcell := hcells j z hz
 have hne : b ≠ p := by
  rintro rfl
  have h2 : w.cell? ⟨b, off + j, none⟩ = (#[.bool true, x, b1] : Array Value)[off + j]? := by simp [World.cell?, show w.heap[b]? = _ from hb]
  rw [h2] at hcell
  obtain ⟨A', n', c', rfl⟩ := hx
  obtain ⟨z', rfl⟩ := h1
  have hj : off + j < 3 := (Array.getElem?_eq_some_iff.1 hcell).1
  rcases (show off + j = 0 ∨ off + j = 1 ∨ off + j = 2 by omega) with e | e | e <;> rw [e] at hcell <;> simp at hcell
 exact (World.cell?_setCell_other _ _ _ _ (by simp [hne])).trans hcell
structure RrStep (w : World) (p : Nat) (w' : World) (v' : Value) (s' : Rd) : Prop where
 fr : Fr (S1 p) w w'
 at_ : RrAt w' p v' s'
theorem RrStep.refl {w : World} {p : Nat} {v : Value} {s : Rd} (h : RrAt w p v s) : RrStep w p w v s := ⟨Fr.refl _ _, h⟩
theorem RrStep.trans {w w' w'' : World} {p : Nat} {v v' : Value} {s s' : Rd} (h : RrStep w p w' v s) (k : RrStep w' p w'' v' s') : RrStep w p w'' v' s' := ⟨h.fr.trans k.fr, k.at_⟩
theorem RrStep.below {w w' : World} {p : Nat} {v : Value} {s : Rd} (h : RrAt w p v s) (k : Below w.heap.size w w') : RrStep w p w' v s := ⟨Fr.of_below k, h.below k⟩
theorem RrAt.vs {w : World} {p : Nat} {v : Value} {s : Rd} (h : RrAt w p v s) : ∃ A c, v = .slice A (s.getD []).length c := by
 obtain ⟨A, c, e, _⟩ := h.bs
 exact ⟨A, c, e⟩
theorem RrAt.put {w : World} {p : Nat} {v u : Value} {s : Rd} {bs : List UInt8} (h : RrAt w p v s) (hs : s ≠ none) (hu : BsIn w u bs) (hu2 : 0 < bs.length → 0 < (s.getD []).length ∧ ∀ i, u.ownBlock = some i → v.ownBlock = some i) : RrStep w p (w.setCell ⟨p, 1, none⟩ u) u (some bs) := by
 obtain ⟨A, c, rfl⟩ := h.vs
 refine ⟨(Fr.refl (S1 p) w).setCell (.inl (show S1 p p from rfl)) _, ⟨?_, hu.setR h.blk ⟨_, _, _, rfl⟩ ⟨_, rfl⟩, fun e => (by cases e), fun h0 i e => ?_⟩⟩
 ·have := h.blk.set 1 u
  cases s with
  | none => exact absurd rfl hs
  | some b => exact this
 ·obtain ⟨k1, k2⟩ := hu2 h0
  obtain ⟨cur, hc⟩ := h.ty k1 i (k2 i e)
  have hne : i ≠ p := by
   rintro rfl
   have := (show w.heap[i]? = _ from h.blk).symm.trans hc
   simp at this
  exact ⟨cur, (Below.heap_setCell _ _ _ _ hne).trans hc⟩
theorem run_append_zero (ty : TypeId) (g : Nat) (A : Option Addr) (c : Nat) (w : World) : (Builtin.append_ #[26, 26] ty #[.slice (some ⟨g, 0, none⟩) 0 0, .slice A 0 c]).run Tryz.prog w = .ok (.slice (some ⟨g, 0, none⟩) 0 0) w := by
 obtain ⟨i0, hi, hz0, hz1, hz2⟩ := info_parts info_u8
 cases A <;> simp [Builtin.append_, run_underlying Tryz.underlying26, sizeOf, typeInfo, hi, Builtin.lenOf, Builtin.firstCells, storeCells, loadCells, loadCellsFrom]
theorem wpList_append_zero {w : World} {ops : Array Oper} {rest : List Oper} {o : Oper} {a : Act} {Q : Exit → Act → World → Prop} (hgd : o.guard = none) (s x : Operand)
  (ho : o.op = .call { callee := .builtin .append, args := #[s, x], argTypes := #[26, 26] })
  (g : Nat) (hs : a.eval s = .slice (some ⟨g, 0, none⟩) 0 0) (A : Option Addr) (c : Nat) (hx : a.eval x = .slice A 0 c)
  (h : wpList Tryz.prog ops Q rest (a.put o.dst (.slice (some ⟨g, 0, none⟩) 0 0)) w) : wpList Tryz.prog ops Q (o :: rest) a w := by
 refine wpList_plain hgd fun K hK => ?_
 have hrun := run_append_zero o.type g A c w
 unfold Oper.wp execOp
 simp only [ho, resolve, invoke, builtin, Sem.run_bind, Sem.run_pure, Result.andThen_ok, List.map_toArray, List.map_cons, List.map_nil, hs, hx, hrun]
 exact hK _ _ h
theorem rrvalid (p : Nat) (w : World) (h : w.cell? ⟨p, 0, none⟩ = some (.bool true)) : Calls Tryz.prog 177 #[.pointer (some ⟨p, 0, none⟩)] w fun e w' => e = .returned (.bool true) ∧ w = w' := by
 go_enter Tryz.func177, Tryz.ntmps177
 go_wp2_with fail
 go_returns
 exact ⟨rfl, rfl⟩
set_option maxRecDepth 100000 in
set_option maxHeartbeats 2000000 in
theorem rrread (u : Value) (bs : List UInt8) (w : World) (h : BsIn w u bs) (hl : bs.length ≤ 100000000) :
  Calls Tryz.prog 90 #[u] w fun e w' => ∃ p v, e = .returned (.pointer (some ⟨p, 0, none⟩)) ∧ RrAt w' p v (some bs) ∧ w.heap.size ≤ p ∧ Below w.heap.size w w' := by
 obtain ⟨i0, hi, hz0, hz1, hz2⟩ := info_parts info_u8
 have HI := Lib.hid hi
 have HZ0 := Lib.hid hz0
 have HZ1 := Lib.hid hz1
 have HZ2 := Lib.hid hz2
 clear hi hz0 hz1 hz2
 obtain ⟨A, c, rfl, hle, hm, hcells⟩ := h
 have hb1 := box_below w (.cells #[] 5)
 by_cases h0 : bs.length = 0
 ·obtain rfl : bs = [] := List.eq_nil_of_length_eq_zero h0
  clear hcells
  show Calls Tryz.prog 90 #[.slice A 0 c] w _
  go_enter Tryz.func90, Tryz.ntmps90
  go_wp2_with (at_builtin; refine wpList_append_zero rfl _ _ rfl w.heap.size rfl A c rfl ?_)
  clear hl hle h0
  refine bodyPost_ret (v := .pointer (some ⟨w.heap.size + 1, 0, none⟩)) (by simp [results, Tryz.results90, go_sem]) rfl ?_
  refine ⟨_, _, rfl, ⟨blk_new1 _ _ _ _, ⟨_, 0, rfl, Nat.le_refl _, by unfold maxLen; omega, fun h => absurd h (by simp)⟩, fun e => (by cases e), fun h => absurd h (by simp)⟩, by omega, hb1.alloc hb1.size _⟩
 ·obtain ⟨b, off, rfl, hb, hc⟩ := hcells (by omega)
  have HM : Hid (∀ j z, (bs.map u8V)[j]? = some z → w.cell? ((⟨b, off, none⟩ : Addr).add j) = some z) := fun j z hz => by
   rw [List.getElem?_map] at hz
   cases hy : bs[j]? with
   | none => rw [hy] at hz; cases hz
   | some y =>
    rw [hy] at hz
    cases hz
    rw [Addr.add_lit]
    exact hc j y hy
  have HFN := Lib.hid (show (bs.map u8V).length = bs.length * 1 by simp)
  clear hcells hc
  go_enter Tryz.func90, Tryz.ntmps90
  go_wp2_with (at_builtin; refine wpList_append_own_at _ rfl _ _ 26 rfl w.heap.size 5 i0 (.int .u8 0) 1 1 Tryz.underlying26 HI.out HZ0.out HZ1.out HZ2.out rfl (by decide) _ 0 [] rfl (World.ownsRow_made w #[] 0 (Nat.le_refl _) (Nat.zero_le _) (by simp)) ⟨b, off, none⟩ bs.length c (bs.map u8V) rfl HFN.out (fun j u hu => Lib.cell?_alloc_some _ (HM.out j u hu)) (u8_one bs) (by unfold maxLen; omega) (by omega) (by simp) ?_; intro v9 w9 hown' hgrow _ hoa; obtain ⟨A9, n9, c9, rfl⟩ := row_shape hown'; have HOWN := Lib.hid hown'; have HGR := Lib.hid hgrow; clear hown' hgrow hoa)
  go_returns
  have hown : w9.ownsRow w.heap.size 5 1 (.slice A9 n9 c9) bs.length (bs.map u8V) := by simpa using HOWN.out
  have f9 : Fr (S1 w.heap.size) (w.alloc (.cells #[] 5)) w9 := Fr.of_grown HGR.out (fun i e => by cases e; rfl)
  have hb9 : Below w.heap.size w w9 := Fr.upB hb1 f9 (fun i e => by have e : i = w.heap.size := e; omega)
  exact ⟨_, _, rfl, ⟨Blk.new w9 _ _, (LRow.bsIn (LRow.of_row hown)).below ((Below.refl _ w9).alloc (Nat.le_refl _) _), fun e => (by cases e), fun _ i e => (LRow.fr (LRow.of_row hown) (Fr.of_below (S := S0) ((Below.refl _ w9).alloc (Nat.le_refl _) _)) (fun _ _ e => e)).type e⟩, hb9.size, hb9.alloc hb9.size _⟩
theorem rrfail (p : Nat) (v : Value) (s : Rd) (w : World) (h : RrAt w p v s) :
  Calls Tryz.prog 176 #[.pointer (some ⟨p, 0, none⟩)] w fun e w' => e = .returned (.tuple #[]) ∧ RrStep w p w' (.slice none 0 0) none := by
 have c0 := h.blk.cell (i := 0) (v := .bool true) rfl
 have c1 := h.blk.cell (i := 1) (v := v) rfl
 have c2 := h.blk.cell (i := 2) (v := .bool s.isNone) rfl
 have f1 := h.blk.frozen 1
 have f2 := h.blk.frozen 2
 have H := Lib.hid h.blk
 clear h
 go_enter Tryz.func176, Tryz.ntmps176
 go_wp2_with (go_at_call 177; refine (rrvalid p w c0).mono ?_; rintro e w' ⟨rfl, rfl⟩)
 go_returns
 exact ⟨rfl, ((Fr.refl (S1 p) w).setCell (.inl (show S1 p p from rfl)) _).setCell (.inl (show S1 p p from rfl)) _, (H.out.set 2 _).set 1 _, LRow.bsIn (LRow.nil _), fun _ => rfl, fun h => absurd h (by simp)⟩
theorem rrend (p : Nat) (v : Value) (s : Rd) (w : World) (h : RrAt w p v s) :
  Calls Tryz.prog 94 #[.pointer (some ⟨p, 0, none⟩)] w fun e w' => e = .returned (.int .i64 (endE s)) ∧ w = w' := by
 have c0 := h.blk.cell (i := 0) (v := .bool true) rfl
 have c2 := h.blk.cell (i := 2) (v := .bool s.isNone) rfl
 obtain ⟨A, c, hv⟩ := h.vs
 have c1 := h.blk.cell (i := 1) (v := v) rfl
 rw [hv] at c1
 clear h hv
 cases s with
 | none =>
  go_enter Tryz.func94, Tryz.ntmps94
  go_wp2_with (go_at_call 177; refine (rrvalid p w c0).mono ?_; rintro e w' ⟨rfl, rfl⟩)
  go_returns
  exact ⟨rfl, rfl⟩
 | some b =>
  by_cases h0 : b.length = 0
  ·have hd : decide (0 < b.length) = false := decide_eq_false (by omega)
   have he : endE (some b) = 0 := by rw [List.eq_nil_of_length_eq_zero h0]; rfl
   rw [he]
   clear h0
   go_enter Tryz.func94, Tryz.ntmps94
   go_wp2_with (go_at_call 177; refine (rrvalid p w c0).mono ?_; rintro e w' ⟨rfl, rfl⟩)
   go_returns
   exact ⟨rfl, rfl⟩
  ·have hd : decide (0 < b.length) = true := decide_eq_true (by omega)
   have he : endE (some b) = 10 := endE_other _ (fun e => h0 (by cases e; rfl))
   rw [he]
   clear h0
   go_enter Tryz.func94, Tryz.ntmps94
   go_wp2_with (go_at_call 177; refine (rrvalid p w c0).mono ?_; rintro e w' ⟨rfl, rfl⟩)
   go_returns
   exact ⟨rfl, rfl⟩
end Go.Proofs.YtlfikhblmbidmaaGreatDoor
namespace Go.Proofs.YtlfikhblmbidmaaGreatDoor
def digs : List UInt8 → Nat
 | [] => 0
 | c :: r => c.toNat % 128 + 128 * digs r
theorem digs_snoc (c : UInt8) : ∀ l : List UInt8, digs (l ++ [c]) = digs l + c.toNat % 128 * 128 ^ l.length
 | [] => by simp [digs]
 | x :: r => by
  rw [List.cons_append, digs, digs_snoc c r, digs, List.length_cons, Nat.pow_succ, Nat.mul_add]
  have : 128 * (c.toNat % 128 * 128 ^ r.length) = c.toNat % 128 * (128 ^ r.length * 128) := by
   rw [Nat.mul_comm 128, Nat.mul_assoc]
  omega
theorem digs_uint : ∀ (f n : Nat), n < f → digs (uintB n) = n
 | 0, n, h => by omega
 | f + 1, n, h => by
  by_cases h1 : n < 128
  ·rw [uintB_lt h1]
   simp only [digs, UInt8.toNat_ofNat']
   omega
  ·rw [uintB_ge h1]
   have ih := digs_uint f (n / 128) (by omega)
   simp only [digs, UInt8.toNat_ofNat', ih]
   omega
theorem uint_bytes : ∀ (f n : Nat), n < f → ∃ l c, uintB n = l ++ [c] ∧ c.toNat < 128 ∧ ∀ x ∈ l, 128 ≤ x.toNat
 | 0, n, h => by omega
 | f + 1, n, h => by
  by_cases h1 : n < 128
  ·exact ⟨[], UInt8.ofNat n, by rw [uintB_lt h1]; rfl, by rw [UInt8.toNat_ofNat']; omega, by simp⟩
  ·obtain ⟨l, c, he, hc, hl⟩ := uint_bytes f (n / 128) (by omega)
   refine ⟨UInt8.ofNat (n % 128 + 128) :: l, c, by rw [uintB_ge h1, he]; rfl, hc, fun x hx => ?_⟩
   rcases List.mem_cons.1 hx with rfl | hx
   ·rw [UInt8.toNat_ofNat']; omega
   ·exact hl x hx
theorem ref_yes {b : List UInt8} {i M : Nat} (h : b.take (i + 1) = uintB M) (hM : M < 18446744073709551616) : rdU (some b) = (M, some (b.drop (i + 1))) := by
 have := rdU_enc hM (b.drop (i + 1))
 rwa [← h, List.take_append_drop] at this
theorem rdU_none_of {b : List UInt8} (h : ∀ n r, n < 18446744073709551616 → b ≠ uintB n ++ r) : rdU (some b) = (0, none) := by
 cases hu : rdU (some b) with
 | mk n s =>
  cases s with
  | some r =>
   obtain ⟨h1, h2⟩ := rdU_dec hu
   exact absurd (Option.some.inj h2) (h n r h1)
  | none =>
   simp only [rdU] at hu
   cases hn : numB 0 0 b with
   | none => rw [hn] at hu; simp at hu; rw [← hu]
   | some x => rw [hn] at hu; simp at hu
theorem uint_at {b r : List UInt8} {n : Nat} (h : b = uintB n ++ r) : ∃ k c, (uintB n).length = k + 1 ∧ b[k]? = some c ∧ c.toNat < 128 ∧ (∀ j c, j < k → b[j]? = some c → 128 ≤ c.toNat) ∧ b.take (k + 1) = uintB n := by
 obtain ⟨l, c, he, hc, hl⟩ := uint_bytes (n + 1) n (by omega)
 have hlen : (uintB n).length = l.length + 1 := by rw [he]; simp
 refine ⟨l.length, c, hlen, ?_, hc, fun j x hj hx => ?_, ?_⟩
 ·rw [h, he]
  simp
 ·rw [h, he, List.append_assoc, List.getElem?_append_left hj] at hx
  exact hl x (List.mem_of_getElem? hx)
 ·rw [h, ← hlen]
  simp
theorem ref_no {b : List UInt8} {i : Nat} {c : UInt8} (hi : b[i]? = some c) (hlow : ∀ j x, j < i → b[j]? = some x → 128 ≤ x.toNat) (hc : c.toNat < 128) (hne : ¬ uintB (digs (b.take (i + 1)) % 18446744073709551616) = b.take (i + 1)) : rdU (some b) = (0, none) := by
 refine rdU_none_of fun n r hn he => ?_
 obtain ⟨k, x, hlen, hk, hx, hl, ht⟩ := uint_at he
 have hki : k = i := by
  rcases Nat.lt_trichotomy k i with h | h | h
  ·have := hlow k x h hk; omega
  ·exact h
  ·have := hl i c h hi; omega
 subst hki
 refine hne ?_
 rw [ht, digs_uint (n + 1) n (by omega), Nat.mod_eq_of_lt hn]
theorem ref_end {b : List UInt8} {i : Nat} (hlow : ∀ j x, j < i → b[j]? = some x → 128 ≤ x.toNat) (hend : b.length ≤ i ∨ 10 ≤ i) : rdU (some b) = (0, none) := by
 refine rdU_none_of fun n r hn he => ?_
 obtain ⟨k, x, hlen, hk, hx, hl, ht⟩ := uint_at he
 have h10 := uintB_len10 hn
 have hkb : k < b.length := (List.getElem?_eq_some_iff.1 hk).1
 have := hlow k x (by omega) hk
 omega
theorem digs_step {b : List UInt8} {i : Nat} {c : UInt8} (h : b[i]? = some c) : digs (b.take (i + 1)) = digs (b.take i) + c.toNat % 128 * 128 ^ i := by
 have hi : i < b.length := (List.getElem?_eq_some_iff.1 h).1
 rw [List.take_add_one, h]
 show digs (b.take i ++ [c]) = _
 rw [digs_snoc, List.length_take, Nat.min_eq_left (by omega)]
end Go.Proofs.YtlfikhblmbidmaaGreatDoor
namespace Go.Proofs.YtlfikhblmbidmaaGreatDoor
open Go.RowKit Go.Maps
set_option maxRecDepth 100000 in
set_option maxHeartbeats 2000000 in
theorem rruint (p : Nat) (v : Value) (s : Rd) (w : World) (h : RrAt w p v s) (hl : (s.getD []).length ≤ 100000000) :
  Calls Tryz.prog 175 #[.pointer (some ⟨p, 0, none⟩)] w fun e w' => ∃ v', e = .returned (.int .u64 ((rdU s).1 : Int)) ∧ RrStep w p w' v' (rdU s).2 := by
 have c0 := h.blk.cell (i := 0) (v := .bool true) rfl
 have c2 := h.blk.cell (i := 2) (v := .bool s.isNone) rfl
 cases s with
 | none =>
  have H := Lib.hid h
  clear h
  go_enter Tryz.func175, Tryz.ntmps175
  go_wp2_with (go_at_call 177; refine (rrvalid p w c0).mono ?_; rintro e w' ⟨rfl, rfl⟩)
  go_returns
  exact ⟨_, rfl, RrStep.refl H.out⟩
 | some b =>
  have hl : b.length ≤ 100000000 := hl
  obtain ⟨A, c, rfl, hle, hm, hcells⟩ : ∃ A c, v = .slice A b.length c ∧ b.length ≤ c ∧ c ≤ maxLen ∧ (0 < b.length → ∃ g off, A = some ⟨g, off, none⟩ ∧ g < w.heap.size ∧ ∀ i z, b[i]? = some z → w.cell? ⟨g, off + i, none⟩ = some (u8V z)) := by
   obtain ⟨A, c, e, h1, h2, h3⟩ := h.bs
   exact ⟨A, c, e, h1, h2, h3⟩
  have hm' : c ≤ 9223372036854775807 := by unfold maxLen at hm; omega
  have H := Lib.hid h
  have HC := Lib.hid hcells
  clear h hcells
  go_enter Tryz.func175, Tryz.ntmps175
  go_wp2_with (go_at_call 177; refine (rrvalid p w c0).mono ?_; rintro e w' ⟨rfl, rfl⟩)
  go_loopg [3, 4] 10 (fun g n i wr => ∃ k : Nat, k ≤ 10 ∧ k ≤ b.length ∧ g = 10 - k ∧ n = .int .u64 ((digs (b.take k) % 18446744073709551616 : Nat) : Int) ∧ i = .int .i64 k ∧ (∀ j x, j < k → b[j]? = some x → 128 ≤ x.toNat) ∧ wr = w)
  case atStart => exact ⟨0, by omega, by omega, rfl, by simp [digs], rfl, fun j x h => by omega, rfl⟩
  case round =>
   obtain ⟨k, hk, hkb, rfl, rfl, rfl, hlow, rfl⟩ := hrel
   have d0 := H.out.blk.cell (i := 0) (v := .bool true) rfl
   have d1 := H.out.blk.cell (i := 1) (v := .slice A b.length c) rfl
   have HLOW := Lib.hid hlow
   clear hlow
   by_cases hl1 : k < b.length
   case neg =>
    have hd1 : decide ((k : Int) < (b.length : Int)) = false := decide_eq_false (by omega)
    have HEND := Lib.hid (ref_end HLOW.out (by omega))
    go_wp2_with (go_at_call 176; refine (rrfail p _ _ _ H.out).mono ?_; rintro e w2 ⟨rfl, hs⟩; have HS := Lib.hid hs; clear hs)
    go_returns
    rw [HEND.out]
    exact ⟨_, rfl, HS.out⟩
   case pos =>
   by_cases hl2 : k < 10
   case neg =>
    have hd1 : decide ((k : Int) < (b.length : Int)) = true := decide_eq_true (by omega)
    have hd2 : decide ((k : Int) < 10) = false := decide_eq_false (by omega)
    have HEND := Lib.hid (ref_end HLOW.out (by omega))
    go_wp2_with (go_at_call 176; refine (rrfail p _ _ _ H.out).mono ?_; rintro e w2 ⟨rfl, hs⟩; have HS := Lib.hid hs; clear hs)
    go_returns
    rw [HEND.out]
    exact ⟨_, rfl, HS.out⟩
   case pos =>
    obtain ⟨g, off, rfl, hg, hc⟩ := HC.out (by omega)
    obtain ⟨x, hx⟩ : ∃ x, b[k]? = some x := ⟨_, List.getElem?_eq_getElem hl1⟩
    have hq : wr.cell? ⟨g, off + k, none⟩ = some (.int .u8 (x.toNat : Int)) := hc k x hx
    clear hc
    obtain ⟨M, hM⟩ : ∃ M, digs (b.take (k + 1)) % 18446744073709551616 = M := ⟨_, rfl⟩
    have hsum : IntKind.u64.wrap (((digs (b.take k) : Nat) : Int) % 18446744073709551616 + IntKind.u64.wrap ((x.toNat : Int) % 128 * 2 ^ (7 * k))) = (M : Int) := by
     have h1 := digs_step hx
     rw [show (128 : Nat) ^ k = 2 ^ (7 * k) by rw [Nat.pow_mul]] at h1
     obtain ⟨P, hP⟩ : ∃ P, x.toNat % 128 * 2 ^ (7 * k) = P := ⟨_, rfl⟩
     have h2 : (x.toNat : Int) % 128 * 2 ^ (7 * k) = (P : Int) := by rw [← hP]; push_cast; rfl
     rw [h2, IntKind.wrap_u64, IntKind.wrap_u64, ← hM, h1, hP]
     omega
    have hM64 : M < 18446744073709551616 := by omega
    have HM := Lib.hid hM
    have HX := Lib.hid hx
    go_upto_region 8 with fail
    try rw [hsum]
    clear hsum hM hx
    by_cases hx1 : x.toNat < 128
    case neg =>
     have hx1' : decide ((x.toNat : Int) < 128) = false := by simp; omega
     go_wp2_with fail
     go_roundg (10 - (k + 1))
     case measure => omega
     case rel =>
      refine ⟨k + 1, by omega, by omega, rfl, by rw [HM.out], by go_num, fun j y hj hy => ?_, rfl⟩
      by_cases e : j = k
      ·subst e
       have := HX.out.symm.trans hy
       cases this
       omega
      ·exact HLOW.out j y (by omega) hy
    case pos =>
     have hx1' : decide ((x.toNat : Int) < 128) = true := by simp; omega
     obtain ⟨K1, hK1⟩ : ∃ K1, k + 1 = K1 := ⟨_, rfl⟩
     have hw1 : IntKind.i64.wrap ((k : Int) + 1) = (K1 : Int) := by rw [IntKind.wrap_i64]; omega
     have hKc : K1 ≤ c := by omega
     have hKb : K1 ≤ b.length := by omega
     have HK1 := Lib.hid hK1
     have hcut : Hid (BsIn wr (.slice (some ⟨g, off, none⟩) K1 c) (b.take K1)) := by
      have hbs := H.out.bs
      obtain ⟨A', c', e, _, h2, h3⟩ := hbs
      cases e
      obtain ⟨g', off', e2, h4, h5⟩ := h3 (by show 0 < b.length; omega)
      cases e2
      have hl : (b.take K1).length = K1 := by rw [List.length_take]; omega
      refine ⟨_, c, by rw [hl], by rw [hl]; omega, h2, fun _ => ⟨g, off, rfl, h4, fun i z hz => ?_⟩⟩
      rw [List.getElem?_take] at hz
      split at hz
      ·exact h5 i z hz
      ·cases hz
     clear hK1
     have hbd : Below wr.heap.size wr wr.drew := (Below.refl _ wr).drew
     have e1 := bcell hbd d1
     obtain ⟨SB, hSB⟩ : ∃ t, sB (b.take K1) = t := ⟨_, rfl⟩
     obtain ⟨SA, hSA⟩ : ∃ t, sB (uintB M) = t := ⟨_, rfl⟩
     have HSA := Lib.hid hSA
     have HSB := Lib.hid hSB
     have hcv := conv_bs (hcut.out.below hbd)
     rw [hSB] at hcv
     clear hSA hSB
     have HN := Lib.hid (rnum_any (M + 1) M wr.drew (by omega) hM64)
     have HRD := Lib.hid (H.out.below hbd)
     go_upto_region 9 with fail
     refine wp_region_held_drew (S := (fun W => W.cell? ⟨p, 1, none⟩ = some (.slice (some ⟨g, off, none⟩) b.length c) ∧ (convert 26 9 (.slice (some ⟨g, off, none⟩) K1 c)).run Tryz.prog W = .ok (.string SB) W)) (by kernel_rfl) ?_ (fun hHeld => ?_)
     ·exact ⟨e1, hcv⟩
     try dsimp only at hHeld
     refine hY 0 (some 49) hHeld ?_
     refine hY 3 (some 52) hHeld ?_
     refine hY 4 (some 53) hHeld ?_
     refine hY 5 (some 54) hHeld ?_
     refine hY 6 (some 55) hHeld ?_
     refine hY 7 (some 56) hHeld ?_
     refine hY 8 (some 57) hHeld ?_
     refine hY 9 (some 58) hHeld ?_
     refine hY 10 (some 59) hHeld ?_
     refine wpAnyH_ready (rs := [1]) (by kernel_rfl) (by simp) ?_
     refine (AllReadyH.cons rfl (fun K' hK' => ?_) AllReadyH.nil)
     go_simp
     (refine HN.out.mono ?_; rintro e w2 ⟨vo, rfl, ho, hb⟩; obtain ⟨a9, c9, rfl⟩ := ho.shape; have HO := Lib.hid ho; have HB2 := Lib.hid hb; have f1 := bcell hb e1; have hcv2 := conv_bs (hcut.out.below (hbd.trans (hb.mono hbd.size))); rw [HSB.out] at hcv2; have hcv3 := conv_bs ho.bsIn; rw [HSA.out] at hcv3; clear hb ho)
     go_wp2_with fail
     refine hK'.out _ _ ?_ (fun hHeld => ?_)
     ·first | exact hHeld | exact ⟨f1, hcv2⟩
     clear hK' K'
     try dsimp only at hHeld
     try simp only [Act.put, List.setIfInBounds_toArray, List.set_cons_zero, List.set_cons_succ]
     refine wpAnyH_ready (rs := [2]) (by kernel_rfl) (by simp) ?_
     refine (AllReadyH.cons rfl (fun K' hK' => ?_) AllReadyH.nil)
     go_simp
     refine hK'.out _ _ ?_ (fun hHeld => ?_)
     ·first | exact hHeld | exact ⟨f1, hcv2⟩
     clear hK' K'
     try dsimp only at hHeld
     try simp only [Act.put, List.setIfInBounds_toArray, List.set_cons_zero, List.set_cons_succ]
     refine hY 11 (some 60) hHeld ?_
     refine wpAnyH_done (by kernel_rfl) ?_ _
     have HR2 := Lib.hid (HRD.out.below HB2.out)
     have hfr : Fr (S1 p) wr w2 := Fr.of_below (hbd.trans (HB2.out.mono hbd.size))
     have hz1 := HR2.out.blk.frozen 1
     have HFR := Lib.hid hfr
     clear hcv3 hcv2 hHeld hfr
     by_cases heq : uintB M = b.take K1
     case pos =>
      have hcmp : (SA.toList == SB.toList) = true := by rw [← HSA.out, ← HSB.out, sB_eq]; simpa using heq
      have HY := Lib.hid (ref_yes (i := k) (by rw [HK1.out]; exact heq.symm) hM64)
      rw [HK1.out] at HY
      have HPUT : Hid (∀ (A : Option Addr) (c' : Nat), (b.length - K1 = 0 ∨ A = some ⟨g, off + K1, none⟩) → b.length - K1 ≤ c' → c' ≤ maxLen → RrStep w2 p (w2.setCell ⟨p, 1, none⟩ (.slice A (b.length - K1) c')) (.slice A (b.length - K1) c') (some (b.drop K1))) := fun A c' h1 h2 h3 => by
       obtain ⟨A', c'', e, _, _, h5⟩ := HR2.out.bs
       cases e
       obtain ⟨g', off', e2, h6, h7⟩ := h5 (by show 0 < b.length; omega)
       cases e2
       have := bs_sub (cap := 0) (i := K1) (n := b.length - K1) h6 (by show K1 + (b.length - K1) ≤ b.length; omega) h7 A c' h1 h2 h3
       rw [show ((some b).getD []) = b from rfl, List.take_of_length_le (by simp)] at this
       refine HR2.out.put (by simp) this (fun h0 => ⟨by show 0 < b.length; omega, fun i e => ?_⟩)
       rw [List.length_drop] at h0
       obtain rfl := h1.resolve_left (by omega)
       exact e
      clear heq
      simp only [hcmp, Bool.not_true]
      go_wp2_with fail
      ·go_returns
       rw [HY.out]
       have h9 := HPUT.out (some ⟨g, off, none⟩) 0 (.inl (by omega)) (by omega) (by unfold maxLen; omega)
       exact ⟨rfl, _, HFR.out.trans h9.fr, h9.at_⟩
      ·go_returns
       rw [HY.out]
       have h9 := HPUT.out (some ⟨g, off + K1, none⟩) (c - K1) (.inr rfl) (by omega) (by omega)
       exact ⟨rfl, _, HFR.out.trans h9.fr, h9.at_⟩
     case neg =>
      have hcmp : (SA.toList == SB.toList) = false := by rw [← HSA.out, ← HSB.out, sB_eq]; simpa using heq
      have HNO := Lib.hid (ref_no HX.out HLOW.out hx1 (by rw [HM.out, HK1.out]; exact heq))
      clear heq
      simp only [hcmp, Bool.not_false]
      go_wp2_with (go_at_call 176; refine (rrfail p _ _ _ HR2.out).mono ?_; rintro e w3 ⟨rfl, hs⟩; have HS := Lib.hid hs; clear hs)
      go_returns
      rw [HNO.out]
      exact ⟨_, rfl, ⟨HFR.out.trans HS.out.fr, HS.out.at_⟩⟩
end Go.Proofs.YtlfikhblmbidmaaGreatDoor
namespace Go.Proofs.YtlfikhblmbidmaaGreatDoor
def rdM (most : Nat) (s : Rd) : Nat × Rd := if (rdU s).1 ≤ most then rdU s else (0, none)
theorem rdM_yes {most : Nat} {s : Rd} (h : (rdU s).1 ≤ most) : rdM most s = rdU s := if_pos h
theorem rdM_no {most : Nat} {s : Rd} (h : ¬ (rdU s).1 ≤ most) : rdM most s = (0, none) := if_neg h
theorem rdM_n (most : Nat) : rdM most none = (0, none) := rdM_yes (Nat.zero_le _)
theorem rdM_le (most : Nat) (s : Rd) : (rdM most s).1 ≤ most := by
 unfold rdM
 split
 ·assumption
 ·exact Nat.zero_le _
theorem rdT_n : rdT none = ([], none) := rfl
theorem rdN_M {most : Nat} {s : Rd} (h : (rdU s).1 ≤ most) : rdN most s = some (rdM most s) := by rw [rdN_yes h, rdM_yes h]
def refBal (k : Nat) (s : Rd) : Nat × Nat × Rd := if k = 1 ∨ k = 2 then ((rdM 1073741824 s).1, (rdM 6 (rdM 1073741824 s).2).1, (rdM 6 (rdM 1073741824 s).2).2) else (0, 0, s)
def refVal (k : Nat) (s : Rd) : Nat × List UInt8 × Rd := if k = 2 ∨ k = 3 then ((rdM 4095 s).1, (rdT (rdM 4095 s).2).1, (rdT (rdM 4095 s).2).2) else (0, [], s)
theorem refVal_n (k : Nat) : (refVal k none).2.2 = none := by
 unfold refVal
 split
 ·rw [rdM_n, rdT_n]
 ·rfl
def refBad (b : List UInt8) (k ro no : Nat) (s : Rd) : Prop := 65536 < b.length ∨ k = 0 ∨ (k < 3 ∧ okB ro no = false) ∨ endE s ≠ 0
def refK (b : List UInt8) : Nat := (rdM 3 (some b)).1
def refQ (b : List UInt8) : Nat × Nat × Rd := refBal (refK b) (rdM 3 (some b)).2
def refT (b : List UInt8) : Nat × List UInt8 × Rd := refVal (refK b) (refQ b).2.2
theorem okB_nat (ro no : Nat) (h1 : ro ≤ 1073741824) (h2 : no ≤ 6) : okB ro no = decide (1 ≤ ro) := by
 by_cases h : 1 ≤ ro
 ·rw [decide_eq_true h]
  exact (okB_iff _ _).2 (by omega)
 ·rw [decide_eq_false h, Bool.eq_false_iff]
  intro e
  have := (okB_iff _ _).1 e
  omega
theorem last_eq (x : Rec) (s : Rd) : (match (some (x, s) : Option (Rec × Rd)) with | some (y, some []) => some y | _ => none) = if endE s ≠ 0 then none else some x := by
 cases s with
 | none => rfl
 | some r => cases r <;> rfl
theorem parse_bad {b : List UInt8} (h : refBad b (refK b) (refQ b).1 (refQ b).2.1 (refT b).2.2) : parseP b = none := by
 unfold parseP
 split
 ·rfl
 rename_i hlen
 unfold readR
 by_cases h3 : (rdU (some b)).1 ≤ 3
 case neg => rw [rdN_no h3]; rfl
 rw [rdN_M h3]
 obtain ⟨⟨k, s1⟩, hk⟩ : ∃ p, rdM 3 (some b) = p := ⟨_, rfl⟩
 have hK : refK b = k := by unfold refK; rw [hk]
 have hk3 : k ≤ 3 := by have := rdM_le 3 (some b); rw [hk] at this; exact this
 rw [hK] at h
 unfold refT refQ at h
 rw [hK, hk] at h
 rw [hk]
 show (match (if k = 0 then none else (readB k s1).bind fun q => (readS k q.2.2).bind fun t => some ((⟨k, q.1, q.2.1, t.1, t.2.1⟩ : Rec), t.2.2)) with | some (x, some []) => some x | _ => none) = none
 by_cases h0 : k = 0
 ·rw [if_pos h0]
 rw [if_neg h0]
 -- the ballot
 by_cases hkb : k = 3
 ·subst hkb
  have e1 : refBal 3 s1 = (0, 0, s1) := rfl
  simp only [e1] at h
  have e2 : readB 3 s1 = some (0, 0, s1) := rfl
  rw [e2]
  show (match ((readS 3 s1).bind fun t => some ((⟨3, 0, 0, t.1, t.2.1⟩ : Rec), t.2.2)) with | some (x, some []) => some x | _ => none) = none
  by_cases h4 : (rdU s1).1 ≤ 4095
  ·have e3 : readS 3 s1 = some ((rdM 4095 s1).1, (rdT (rdM 4095 s1).2).1, (rdT (rdM 4095 s1).2).2) := by unfold readS; rw [if_neg (by decide), rdN_M h4]; rfl
   rw [e3]
   show (match (some ((⟨3, 0, 0, (rdM 4095 s1).1, (rdT (rdM 4095 s1).2).1⟩ : Rec), (rdT (rdM 4095 s1).2).2) : Option (Rec × Rd)) with | some (x, some []) => some x | _ => none) = none
   rw [last_eq]
   refine if_pos ?_
   rcases h with h | h | h | h
   ·exact absurd h hlen
   ·exact absurd h (by decide)
   ·exact absurd h.1 (by decide)
   ·exact h
  ·have e3 : readS 3 s1 = none := by unfold readS; rw [if_neg (by decide), rdN_no h4]; rfl
   rw [e3]
   rfl
 ·have hk12 : k = 1 ∨ k = 2 := by omega
  by_cases h5 : (rdU s1).1 ≤ 1073741824
  case neg =>
   have e2 : readB k s1 = none := by unfold readB; rw [if_neg hkb, rdN_no h5]; rfl
   rw [e2]; rfl
  by_cases h6 : (rdU (rdM 1073741824 s1).2).1 ≤ 6
  case neg =>
   have e2 : readB k s1 = none := by unfold readB; rw [if_neg hkb, rdN_M h5, Option.bind_some, rdN_no h6]; rfl
   rw [e2]; rfl
  have e1 : refBal k s1 = ((rdM 1073741824 s1).1, (rdM 6 (rdM 1073741824 s1).2).1, (rdM 6 (rdM 1073741824 s1).2).2) := if_pos hk12
  have h7 := rdM_le 1073741824 s1
  have h8 := rdM_le 6 (rdM 1073741824 s1).2
  rw [e1] at h
  generalize hA : rdM 1073741824 s1 = A at *
  generalize hC : rdM 6 A.2 = C at *
  by_cases h9 : 1 ≤ A.1
  case neg =>
   have e2 : readB k s1 = none := by unfold readB; rw [if_neg hkb, rdN_M h5, Option.bind_some, hA, rdN_M h6, Option.bind_some, hC, if_neg h9]
   rw [e2]; rfl
  have e2 : readB k s1 = some (A.1, C.1, C.2) := by unfold readB; rw [if_neg hkb, rdN_M h5, Option.bind_some, hA, rdN_M h6, Option.bind_some, hC, if_pos h9]
  rw [e2]
  have hok : okB A.1 C.1 = true := by rw [okB_nat _ _ h7 h8]; exact decide_eq_true h9
  show (match ((readS k C.2).bind fun t => some ((⟨k, A.1, C.1, t.1, t.2.1⟩ : Rec), t.2.2)) with | some (x, some []) => some x | _ => none) = none
  by_cases hk1 : k = 1
  ·subst hk1
   have e3 : readS 1 C.2 = some (0, [], C.2) := rfl
   have e4 : refVal 1 C.2 = (0, [], C.2) := rfl
   simp only [e4] at h
   rw [e3]
   show (match (some ((⟨1, A.1, C.1, 0, []⟩ : Rec), C.2) : Option (Rec × Rd)) with | some (x, some []) => some x | _ => none) = none
   rw [last_eq]
   refine if_pos ?_
   rcases h with h | h | h | h
   ·exact absurd h hlen
   ·exact absurd h (by decide)
   ·rw [hok] at h; exact absurd h.2 (by simp)
   ·exact h
  ·obtain rfl : k = 2 := by omega
   by_cases h4 : (rdU C.2).1 ≤ 4095
   ·have e3 : readS 2 C.2 = some ((rdM 4095 C.2).1, (rdT (rdM 4095 C.2).2).1, (rdT (rdM 4095 C.2).2).2) := by unfold readS; rw [if_neg (by decide), rdN_M h4]; rfl
    have e4 : refVal 2 C.2 = ((rdM 4095 C.2).1, (rdT (rdM 4095 C.2).2).1, (rdT (rdM 4095 C.2).2).2) := rfl
    simp only [e4] at h
    rw [e3]
    show (match (some ((⟨2, A.1, C.1, (rdM 4095 C.2).1, (rdT (rdM 4095 C.2).2).1⟩ : Rec), (rdT (rdM 4095 C.2).2).2) : Option (Rec × Rd)) with | some (x, some []) => some x | _ => none) = none
    rw [last_eq]
    refine if_pos ?_
    rcases h with h | h | h | h
    ·exact absurd h hlen
    ·exact absurd h (by decide)
    ·rw [hok] at h; exact absurd h.2 (by simp)
    ·exact h
   ·have e3 : readS 2 C.2 = none := by unfold readS; rw [if_neg (by decide), rdN_no h4]; rfl
    rw [e3]; rfl
theorem parse_good {b : List UInt8} (h : ¬ refBad b (refK b) (refQ b).1 (refQ b).2.1 (refT b).2.2) : parseP b = some ⟨refK b, (refQ b).1, (refQ b).2.1, (refT b).1, (refT b).2.1⟩ := by
 have hlen : ¬ 65536 < b.length := fun e => h (.inl e)
 have hk0 : refK b ≠ 0 := fun e => h (.inr (.inl e))
 have hg : ¬ (refK b < 3 ∧ okB (refQ b).1 (refQ b).2.1 = false) := fun e => h (.inr (.inr (.inl e)))
 have he : endE (refT b).2.2 = 0 := Classical.byContradiction fun e => h (.inr (.inr (.inr e)))
 clear h
 have h3 : (rdU (some b)).1 ≤ 3 := Classical.byContradiction fun e => hk0 (by unfold refK; rw [rdM_no e])
 unfold parseP
 rw [if_neg hlen]
 unfold readR
 rw [rdN_M h3, Option.bind_some]
 obtain ⟨⟨k, s1⟩, hk⟩ : ∃ p, rdM 3 (some b) = p := ⟨_, rfl⟩
 have hK : refK b = k := by unfold refK; rw [hk]
 have hk3 : k ≤ 3 := by have := rdM_le 3 (some b); rw [hk] at this; exact this
 have hQ : refQ b = refBal k s1 := by unfold refQ; rw [hK, hk]
 have hT : refT b = refVal k (refBal k s1).2.2 := by unfold refT; rw [hQ, hK]
 rw [hT] at he ⊢
 rw [hQ] at hg ⊢
 rw [hK] at hk0 hg ⊢
 rw [hk]
 show (match (if k = 0 then none else (readB k s1).bind fun q => (readS k q.2.2).bind fun t => some ((⟨k, q.1, q.2.1, t.1, t.2.1⟩ : Rec), t.2.2)) with | some (x, some []) => some x | _ => none) = _
 rw [if_neg hk0]
 have hnn : ∀ (k : Nat) (s : Rd), endE (refVal k s).2.2 = 0 → s ≠ none := fun k s e hs => by
  rw [hs, refVal_n] at e
  cases e
 have hS : ∀ (k ro no : Nat) (s : Rd), (k = 1 ∨ k = 2 ∨ k = 3) → endE (refVal k s).2.2 = 0 → (match ((readS k s).bind fun t => some ((⟨k, ro, no, t.1, t.2.1⟩ : Rec), t.2.2)) with | some (x, some []) => some x | _ => none) = some ⟨k, ro, no, (refVal k s).1, (refVal k s).2.1⟩ := fun k ro no s hk123 e => by
  by_cases hk1 : k = 1
  ·subst hk1
   show (match (some ((⟨1, ro, no, 0, []⟩ : Rec), s) : Option (Rec × Rd)) with | some (x, some []) => some x | _ => none) = _
   rw [last_eq]
   exact if_neg (fun e2 => e2 e)
  ·have h23 : k = 2 ∨ k = 3 := by omega
   have e4 : refVal k s = ((rdM 4095 s).1, (rdT (rdM 4095 s).2).1, (rdT (rdM 4095 s).2).2) := if_pos h23
   rw [e4] at e ⊢
   have h4 : (rdU s).1 ≤ 4095 := Classical.byContradiction fun e2 => by
    rw [rdM_no e2, rdT_n] at e
    cases e
   have e3 : readS k s = some ((rdM 4095 s).1, (rdT (rdM 4095 s).2).1, (rdT (rdM 4095 s).2).2) := by unfold readS; rw [if_neg hk1, rdN_M h4]; rfl
   rw [e3]
   show (match (some ((⟨k, ro, no, (rdM 4095 s).1, (rdT (rdM 4095 s).2).1⟩ : Rec), (rdT (rdM 4095 s).2).2) : Option (Rec × Rd)) with | some (x, some []) => some x | _ => none) = _
   rw [last_eq]
   exact if_neg (fun e2 => e2 e)
 by_cases hkb : k = 3
 ·subst hkb
  exact hS 3 0 0 s1 (by omega) he
 ·have hk12 : k = 1 ∨ k = 2 := by omega
  have e1 : refBal k s1 = ((rdM 1073741824 s1).1, (rdM 6 (rdM 1073741824 s1).2).1, (rdM 6 (rdM 1073741824 s1).2).2) := if_pos hk12
  have hn := hnn _ _ he
  rw [e1] at he hg hn ⊢
  have h6 : (rdU (rdM 1073741824 s1).2).1 ≤ 6 := Classical.byContradiction fun e2 => hn (by show (rdM 6 (rdM 1073741824 s1).2).2 = none; rw [rdM_no e2])
  have h5 : (rdU s1).1 ≤ 1073741824 := Classical.byContradiction fun e2 => hn (by show (rdM 6 (rdM 1073741824 s1).2).2 = none; rw [rdM_no e2, rdM_n])
  have h7 := rdM_le 1073741824 s1
  have h8 := rdM_le 6 (rdM 1073741824 s1).2
  have h9 : 1 ≤ (rdM 1073741824 s1).1 := Classical.byContradiction fun e2 => hg ⟨by omega, by rw [okB_nat _ _ h7 h8]; exact decide_eq_false e2⟩
  have e2 : readB k s1 = some ((rdM 1073741824 s1).1, (rdM 6 (rdM 1073741824 s1).2).1, (rdM 6 (rdM 1073741824 s1).2).2) := by unfold readB; rw [if_neg hkb, rdN_M h5, Option.bind_some, rdN_M h6, Option.bind_some, if_pos h9]
  rw [e2]
  exact hS k _ _ _ (by omega) he
end Go.Proofs.YtlfikhblmbidmaaGreatDoor
namespace Go.Proofs.YtlfikhblmbidmaaGreatDoor
open Go.RowKit Go.Maps
theorem rdT_of {s : Rd} {n : Nat} {r : List UInt8} (h : rdU s = (n, some r)) : rdT s = if n ≤ 65536 ∧ n ≤ r.length then (r.take n, some (r.drop n)) else ([], none) := by
 cases s with
 | none => cases h
 | some b =>
  simp only [rdU] at h
  simp only [rdT]
  cases hn : numB 0 0 b with
  | none => rw [hn] at h; simp at h
  | some x =>
   obtain ⟨m, k⟩ := x
   rw [hn] at h
   simp only [Prod.mk.injEq, Option.some.injEq] at h
   obtain ⟨rfl, rfl⟩ := h
   simp only [List.length_drop, List.drop_drop]
theorem rdT_of_none {s : Rd} {n : Nat} (h : rdU s = (n, none)) : rdT s = ([], none) := by
 cases s with
 | none => rfl
 | some b =>
  simp only [rdU] at h
  simp only [rdT]
  cases hn : numB 0 0 b with
  | none => rfl
  | some x => rw [hn] at h; simp at h
theorem rdU_len {s : Rd} (l : Nat) (h : (s.getD []).length ≤ l) : ((rdU s).2.getD []).length ≤ l := by
 cases hu : rdU s with
 | mk n t =>
  cases t with
  | none => exact Nat.zero_le _
  | some r =>
   obtain ⟨_, rfl⟩ := rdU_dec hu
   have : (uintB n ++ r).length ≤ l := h
   rw [List.length_append] at this
   show r.length ≤ l
   omega
theorem rdU_lt (s : Rd) : (rdU s).1 < 18446744073709551616 := by
 cases hu : rdU s with
 | mk n t =>
  cases t with
  | some r => exact (rdU_dec hu).1
  | none =>
   cases s with
   | none => simp only [rdU] at hu; cases hu; decide
   | some b =>
    simp only [rdU] at hu
    cases hn : numB 0 0 b with
    | none => rw [hn] at hu; simp at hu; rw [← hu]; decide
    | some x => rw [hn] at hu; simp at hu
theorem RrStep.drop {w2 : World} {p c n : Nat} {A : Option Addr} {r : List UInt8} (h : RrAt w2 p (.slice A r.length c) (some r)) (hn : n ≤ r.length) (A' : Option Addr) (c' : Nat) (h1 : r.length - n = 0 ∨ A' = A.map (fun x => x.add n)) (h2 : r.length - n ≤ c') (h3 : c' ≤ maxLen) :
  RrStep w2 p (w2.setCell ⟨p, 1, none⟩ (.slice A' (r.length - n) c')) (.slice A' (r.length - n) c') (some (r.drop n)) := by
 have hl : (r.drop n).length = r.length - n := by simp
 have hb : BsIn w2 (.slice A' (r.length - n) c') (r.drop n) := by
  refine ⟨A', c', by rw [hl], by rw [hl]; exact h2, h3, fun h0 => ?_⟩
  rw [hl] at h0
  obtain rfl := h1.resolve_left (by omega)
  obtain ⟨A2, c2, e, _, _, h5⟩ := h.bs
  cases e
  obtain ⟨g, off, rfl, h6, h7⟩ := h5 (by show 0 < r.length; omega)
  refine ⟨g, off + n, by simp only [Option.map_some, Addr.add_lit], h6, fun i z hz => ?_⟩
  rw [List.getElem?_drop] at hz
  rw [Nat.add_assoc]
  exact h7 _ z hz
 refine h.put (by simp) hb (fun h0 => ⟨by show 0 < r.length; rw [hl] at h0; omega, fun i e => ?_⟩)
 rw [hl] at h0
 obtain rfl := h1.resolve_left (by omega)
 cases A with
 | none => cases e
 | some a =>
  have e : some (a.add n).block = some i := e
  rw [show (a.add n).block = a.block by unfold Addr.add; split <;> rfl] at e
  exact e
theorem RrAt.cut {w : World} {p c n : Nat} {A : Option Addr} {r : List UInt8} (h : RrAt w p (.slice A r.length c) (some r)) (hn : n ≤ r.length) : BsIn w (.slice A n c) (r.take n) := by
 obtain ⟨A', c', e, h1, h2, h3⟩ := h.bs
 cases e
 have hl : (r.take n).length = n := by rw [List.length_take]; omega
 refine ⟨A, c, by rw [hl], by rw [hl]; exact Nat.le_trans hn h1, h2, fun h0 => ?_⟩
 rw [hl] at h0
 obtain ⟨g, off, e2, h4, h5⟩ := h3 (by show 0 < r.length; omega)
 refine ⟨g, off, e2, h4, fun i z hz => ?_⟩
 rw [List.getElem?_take] at hz
 split at hz
 ·exact h5 i z hz
 ·cases hz
set_option maxRecDepth 100000 in
set_option maxHeartbeats 2000000 in
theorem rrtext (p : Nat) (v : Value) (s : Rd) (w : World) (h : RrAt w p v s) (hl : (s.getD []).length ≤ 100000000) :
  Calls Tryz.prog 93 #[.pointer (some ⟨p, 0, none⟩)] w fun e w' => ∃ v', e = .returned (.string (sB (rdT s).1)) ∧ RrStep w p w' v' (rdT s).2 := by
 have HU := Lib.hid (rruint p v s w h hl)
 have hlen := rdU_len _ hl
 have hlt := rdU_lt s
 have h0 := h.blk.cell (i := 0) (v := .bool true) rfl
 clear h
 obtain ⟨⟨n, t⟩, hu⟩ : ∃ x, rdU s = x := ⟨_, rfl⟩
 rw [hu] at HU hlen hlt
 cases t with
 | none =>
  rw [rdT_of_none hu]
  clear hu
  go_enter Tryz.func93, Tryz.ntmps93
  go_wp2_with (first
   | (go_at_call 175; refine HU.out.mono ?_; rintro e w2 ⟨v2, rfl, hs⟩; have HS := Lib.hid hs; have c0 := hs.at_.blk.cell (i := 0) (v := .bool true) rfl; have c2 := hs.at_.blk.cell (i := 2) (v := .bool true) rfl; clear hs)
   | (go_at_call 177; refine (rrvalid p _ c0).mono ?_; rintro e w' ⟨rfl, rfl⟩))
  go_returns
  exact ⟨_, rfl, HS.out⟩
 | some r =>
  have hlen : r.length ≤ 100000000 := hlen
  have hlt : n < 18446744073709551616 := hlt
  have hwl : IntKind.u64.wrap (r.length : Int) = (r.length : Int) := by rw [IntKind.wrap_u64]; omega
  rw [rdT_of hu]
  clear hu
  by_cases hc : n ≤ 65536 ∧ n ≤ r.length
  case neg =>
   rw [if_neg hc]
   have hor : 65536 < n ∨ (n ≤ 65536 ∧ r.length < n) := by omega
   have hd : (decide (65536 < n) || decide (r.length < n)) = true := by simp; omega
   rcases hor with h1 | ⟨h1, h2⟩
   ·have d1 : decide ((n : Int) > 65536) = true := decide_eq_true (by omega)
    clear hd hc
    go_enter Tryz.func93, Tryz.ntmps93
    go_wp2_with (first
     | (go_at_call 175; refine HU.out.mono ?_; rintro e w2 ⟨v2, rfl, hs⟩; have HS := Lib.hid hs; have c0 := hs.at_.blk.cell (i := 0) (v := .bool true) rfl; have c1 := hs.at_.blk.cell (i := 1) (v := v2) rfl; have c2 := hs.at_.blk.cell (i := 2) (v := .bool false) rfl; clear hs)
     | (go_at_call 177; refine (rrvalid p _ c0).mono ?_; rintro e w' ⟨rfl, rfl⟩)
     | (go_at_call 176; refine (rrfail p _ _ _ HS.out.at_).mono ?_; rintro e w3 ⟨rfl, hs⟩; have HS3 := Lib.hid hs; clear hs))
    go_returns
    exact ⟨_, rfl, HS.out.trans HS3.out⟩
   ·have d1 : decide ((n : Int) > 65536) = false := decide_eq_false (by omega)
    have d2 : decide ((n : Int) > (r.length : Int)) = true := decide_eq_true (by omega)
    clear hd hc
    go_enter Tryz.func93, Tryz.ntmps93
    go_wp2_with (first
     | (go_at_call 175; refine HU.out.mono ?_; rintro e w2 ⟨v2, rfl, hs⟩; obtain ⟨A, c, rfl⟩ := hs.at_.vs; have HS := Lib.hid hs; have c0 := hs.at_.blk.cell (i := 0) (v := .bool true) rfl; have c1 := hs.at_.blk.cell (i := 1) (v := .slice A r.length c) rfl; have c2 := hs.at_.blk.cell (i := 2) (v := .bool false) rfl; clear hs)
     | (go_at_call 177; refine (rrvalid p _ c0).mono ?_; rintro e w' ⟨rfl, rfl⟩)
     | (go_at_call 176; refine (rrfail p _ _ _ HS.out.at_).mono ?_; rintro e w3 ⟨rfl, hs⟩; have HS3 := Lib.hid hs; clear hs))
    go_returns
    exact ⟨_, rfl, HS.out.trans HS3.out⟩
  case pos =>
   rw [if_pos hc]
   obtain ⟨hn1, hn2⟩ := hc
   have d1 : decide ((n : Int) > 65536) = false := decide_eq_false (by omega)
   have d2 : decide ((n : Int) > (r.length : Int)) = false := decide_eq_false (by omega)
   go_enter Tryz.func93, Tryz.ntmps93
   go_upto_region 7 with (first
    | (go_at_call 175; refine HU.out.mono ?_; rintro e w2 ⟨v2, rfl, hs⟩; obtain ⟨A, c, rfl⟩ := hs.at_.vs; have HS := Lib.hid hs; have c0 := hs.at_.blk.cell (i := 0) (v := .bool true) rfl; have c1 := hs.at_.blk.cell (i := 1) (v := .slice A r.length c) rfl; have c2 := hs.at_.blk.cell (i := 2) (v := .bool false) rfl; have f1 := hs.at_.blk.frozen 1; clear hs)
    | (go_at_call 177; refine (rrvalid p _ c0).mono ?_; rintro e w' ⟨rfl, rfl⟩))
   have hcv := conv_bs (RrAt.cut HS.out.at_ hn2)
   have hcc : r.length ≤ c ∧ c ≤ maxLen := by
    obtain ⟨A', c', e, k1, k2, _⟩ := HS.out.at_.bs
    cases e
    exact ⟨k1, k2⟩
   obtain ⟨hc1, hc2⟩ := hcc
   have hnc : n ≤ c := by omega
   go_wp2_with fail
   ·go_returns
    have h9 := RrStep.drop (r := r) HS.out.at_ hn2 A 0 (.inl (by omega)) (by omega) (by unfold maxLen; omega)
    exact ⟨rfl, _, HS.out.trans h9⟩
   ·go_returns
    have h9 := RrStep.drop (r := r) HS.out.at_ hn2 (A.map (fun x => x.add n)) (c - n) (.inr rfl) (by omega) (by omega)
    exact ⟨rfl, _, HS.out.trans h9⟩
theorem BsIn.setX {w : World} {q i : Nat} {u y : Value} {T : TypeId} {cs : Array Value} {bs : List UInt8} (h : BsIn w u bs) (hb : Blk w q T cs) (hcs : ∀ (i : Nat) (x : Value), cs[i]? = some x → ∀ z, x ≠ u8V z) : BsIn (w.setCell ⟨q, i, none⟩ y) u bs := by
 obtain ⟨A, cap, e, hle, hm, hc⟩ := h
 refine ⟨A, cap, e, hle, hm, fun h0 => ?_⟩
 obtain ⟨b, off, hA, hlt, hcells⟩ := hc h0
 refine ⟨b, off, hA, by simpa [World.setCell] using hlt, fun j z hz => ?_⟩
 have hcell := hcells j z hz
 have hne : b ≠ q := by
  rintro rfl
  have h2 : w.cell? ⟨b, off + j, none⟩ = cs[off + j]? := by simp [World.cell?, show w.heap[b]? = _ from hb]
  rw [h2] at hcell
  exact hcs _ _ hcell z rfl
 exact (World.cell?_setCell_other _ _ _ _ (by simp [hne])).trans hcell
theorem RrAt.setX {w : World} {p q i : Nat} {v y : Value} {s : Rd} {T : TypeId} {cs : Array Value} (h : RrAt w p v s) (hb : Blk w q T cs) (hcs : ∀ (i : Nat) (x : Value), cs[i]? = some x → ∀ z, x ≠ u8V z) (hne : q ≠ p) : RrAt (w.setCell ⟨q, i, none⟩ y) p v s :=
 ⟨h.blk.of_block (Below.heap_setCell _ _ _ _ (Ne.symm hne)), h.bs.setX hb hcs, h.nil, fun h0 j e => by
  obtain ⟨cur, hc⟩ := h.ty h0 j e
  by_cases hj : j = q
  ·subst hj
   have hcc := (show w.heap[j]? = _ from hb).symm.trans hc
   simp only [Option.some.injEq, Obj.cells.injEq] at hcc
   obtain ⟨rfl, rfl, _⟩ := hcc
   exact ⟨_, hb.set i y⟩
  ·exact ⟨cur, (Below.heap_setCell _ _ _ _ hj).trans hc⟩⟩
theorem no_bytes2 (x y : Int) : ∀ (i : Nat) (z : Value), (#[.int .i64 x, .int .i64 y] : Array Value)[i]? = some z → ∀ b, z ≠ u8V b := fun i z h b e => by
 subst e
 have hi := (Array.getElem?_eq_some_iff.1 h).1
 have hi : i < 2 := hi
 rcases (show i = 0 ∨ i = 1 by omega) with rfl | rfl <;> simp at h
theorem rdM_len {most : Nat} {s : Rd} (l : Nat) (h : (s.getD []).length ≤ l) : ((rdM most s).2.getD []).length ≤ l := by
 unfold rdM
 split
 ·exact rdU_len l h
 ·exact Nat.zero_le _
theorem rdT_len {s : Rd} (l : Nat) (h : (s.getD []).length ≤ l) : ((rdT s).2.getD []).length ≤ l := by
 have h1 := rdU_len l h
 cases hu : rdU s with
 | mk n t =>
  rw [hu] at h1
  cases t with
  | none => rw [rdT_of_none hu]; exact Nat.zero_le _
  | some r =>
   rw [rdT_of hu]
   split
   ·show (r.drop n).length ≤ l
    have : r.length ≤ l := h1
    rw [List.length_drop]
    omega
   ·exact Nat.zero_le _
theorem rsmall (p most : Nat) (v : Value) (s : Rd) (w : World) (h : RrAt w p v s) (hl : (s.getD []).length ≤ 100000000) (hm : most < 9223372036854775808) :
  Calls Tryz.prog 91 #[.pointer (some ⟨p, 0, none⟩), .int .u64 (most : Int)] w fun e w' => ∃ v', e = .returned (.int .i64 ((rdM most s).1 : Int)) ∧ RrStep w p w' v' (rdM most s).2 := by
 have HU := Lib.hid (rruint p v s w h hl)
 clear h
 obtain ⟨n, hn⟩ : ∃ n, (rdU s).1 = n := ⟨_, rfl⟩
 by_cases hle : n ≤ most
 ·rw [rdM_yes (by rw [hn]; exact hle)]
  rw [hn] at HU ⊢
  have hd : decide ((n : Int) > (most : Int)) = false := decide_eq_false (by omega)
  have hw : IntKind.i64.wrap (n : Int) = (n : Int) := by rw [IntKind.wrap_i64]; omega
  go_enter Tryz.func91, Tryz.ntmps91
  go_wp2_with (go_at_call 175; refine HU.out.mono ?_; rintro e w2 ⟨v2, rfl, hs⟩; have HS := Lib.hid hs; clear hs)
  go_returns
  exact ⟨_, rfl, HS.out⟩
 ·rw [rdM_no (by rw [hn]; exact hle)]
  rw [hn] at HU
  have hd : decide ((n : Int) > (most : Int)) = true := decide_eq_true (by omega)
  go_enter Tryz.func91, Tryz.ntmps91
  go_wp2_with (first
   | (go_at_call 175; refine HU.out.mono ?_; rintro e w2 ⟨v2, rfl, hs⟩; have HS := Lib.hid hs; clear hs)
   | (go_at_call 176; refine (rrfail p _ _ _ HS.out.at_).mono ?_; rintro e w3 ⟨rfl, hs⟩; have HS3 := Lib.hid hs; clear hs))
  go_returns
  exact ⟨_, rfl, HS.out.trans HS3.out⟩
theorem rsmallc (p : Nat) (c : Int) (most : Nat) (hc : (most : Int) = c) (v : Value) (s : Rd) (w : World) (h : RrAt w p v s) (hl : (s.getD []).length ≤ 100000000) (hm : most < 9223372036854775808) :
  Calls Tryz.prog 91 #[.pointer (some ⟨p, 0, none⟩), .int .u64 c] w fun e w' => ∃ v', e = .returned (.int .i64 ((rdM most s).1 : Int)) ∧ RrStep w p w' v' (rdM most s).2 := hc ▸ rsmall p most v s w h hl hm
set_option maxRecDepth 100000 in
set_option maxHeartbeats 2000000 in
theorem rballot_any (p : Nat) (v : Value) (s : Rd) (w : World) (h : RrAt w p v s) (hl : (s.getD []).length ≤ 100000000) :
  Calls Tryz.prog 92 #[.pointer (some ⟨p, 0, none⟩)] w fun e w' => ∃ v', e = .returned (balV ((rdM 1073741824 s).1 : Nat) ((rdM 6 (rdM 1073741824 s).2).1 : Nat)) ∧ RrStep w p w' v' (rdM 6 (rdM 1073741824 s).2).2 := by
 have hb := box_below w (.cells #[.int .i64 0, .int .i64 0] 24)
 have H1 := Lib.hid (h.below hb)
 have KB := Lib.hid (Blk.new w 24 #[.int .i64 0, .int .i64 0])
 have HS0 := Lib.hid (RrStep.below h hb)
 have hpl := h.blk.lt
 have hl2 := rdM_len (most := 1073741824) _ hl
 obtain ⟨⟨R, s1⟩, hr⟩ : ∃ x, rdM 1073741824 s = x := ⟨_, rfl⟩
 have HR := Lib.hid (rsmallc p 1073741824 1073741824 rfl v s _ H1.out hl (by decide))
 rw [hr] at HR hl2 ⊢
 obtain ⟨⟨D, s2⟩, hd⟩ : ∃ x, rdM 6 s1 = x := ⟨_, rfl⟩
 show Calls Tryz.prog 92 #[.pointer (some ⟨p, 0, none⟩)] w fun e w' => ∃ v', e = .returned (balV (R : Nat) ((rdM 6 s1).1 : Nat)) ∧ RrStep w p w' v' (rdM 6 s1).2
 have HD := Lib.hid (fun (v : Value) (w : World) (h : RrAt w p v s1) => rsmallc p 6 6 rfl v s1 w h hl2 (by decide))
 rw [hd] at HD ⊢
 clear h hr hd hb
 go_enter Tryz.func92, Tryz.ntmps92
 go_wp2_with (first
  | (go_at_call 91; (with_reducible refine HR.out.mono ?_); rintro e w2 ⟨v2, rfl, hs⟩; have HS := Lib.hid hs; have K2 := Lib.hid (KB.out.fr hs.fr (fun e => by have e : w.heap.size = p := e; omega)); clear hs)
  | (go_at_call 91; (with_reducible refine (HD.out _ _ HS.out.at_).mono ?_); rintro e w3 ⟨v3, rfl, hs⟩; have HS3 := Lib.hid hs; have K3 := Lib.hid (K2.out.fr hs.fr (fun e => by have e : w.heap.size = p := e; omega)); have k0 := K3.out.cell (i := 0) (v := .int .i64 0) rfl; have k1 := K3.out.cell (i := 1) (v := .int .i64 0) rfl; have g0 := K3.out.frozen 0; have g1 := K3.out.frozen 1; clear hs))
 have KF := (K3.out.set 0 (.int .i64 (R : Int))).set 1 (.int .i64 (D : Int))
 have r0 := KF.cell (i := 0) (v := .int .i64 (R : Int)) rfl
 have r1 := KF.cell (i := 1) (v := .int .i64 (D : Int)) rfl
 have hne : w.heap.size ≠ p := by omega
 refine bodyPost_ret (v := balV (R : Int) (D : Int)) (by simp [results, Tryz.results92, go_sem, r0, r1]) rfl ?_
 have a1 := HS3.out.at_.setX (i := 0) (y := .int .i64 (R : Int)) K3.out (no_bytes2 0 0) hne
 have a2 := a1.setX (i := 1) (y := .int .i64 (D : Int)) (K3.out.set 0 (.int .i64 (R : Int))) (no_bytes2 _ 0) hne
 have hfr := (HS.out.fr.trans HS3.out.fr)
 have hsz := hfr.size
 refine ⟨v3, rfl, ⟨?_, a2⟩⟩
 exact (((Fr.of_below (S := S1 p) (box_below w (.cells #[.int .i64 0, .int .i64 0] 24))).trans hfr).setCell (.inr (Nat.le_refl _)) _).setCell (.inr (Nat.le_refl _)) _
end Go.Proofs.YtlfikhblmbidmaaGreatDoor
namespace Go.Proofs.YtlfikhblmbidmaaGreatDoor
open Go.RowKit Go.Maps
structure PrS (w X : World) (q qb p : Nat) (v : Value) (s : Rd) (R N : Int) : Prop where
 rd : RrAt X p v s
 kq : Blk X q 24 #[.int .i64 0, .int .i64 0]
 kb : Blk X qb 24 #[.int .i64 R, .int .i64 N]
 bel : Below w.heap.size w X
 lp : w.heap.size ≤ p
 lq : w.heap.size ≤ q
 lb : w.heap.size ≤ qb
 n1 : q ≠ p
 n2 : qb ≠ p
 n3 : q ≠ qb
theorem PrS.step {w X Y : World} {q qb p : Nat} {v v' : Value} {s s' : Rd} {R N : Int} (h : PrS w X q qb p v s R N) (k : RrStep X p Y v' s') : PrS w Y q qb p v' s' R N :=
 ⟨k.at_, h.kq.fr k.fr h.n1, h.kb.fr k.fr h.n2, h.bel.trans (k.fr.below h.bel.size (fun i e => by have e : i = p := e; have := h.lp; omega)), h.lp, h.lq, h.lb, h.n1, h.n2, h.n3⟩
theorem PrS.below {w X Y : World} {q qb p : Nat} {v : Value} {s : Rd} {R N : Int} (h : PrS w X q qb p v s R N) (k : Below X.heap.size X Y) : PrS w Y q qb p v s R N := h.step (RrStep.below h.rd k)
theorem PrS.bal {w X : World} {q qb p : Nat} {v : Value} {s : Rd} {R N : Int} (h : PrS w X q qb p v s R N) (R2 N2 : Int) : PrS w ((X.setCell ⟨qb, 0, none⟩ (.int .i64 R2)).setCell ⟨qb, 1, none⟩ (.int .i64 N2)) q qb p v s R2 N2 := by
 have k1 := h.kb.set 0 (.int .i64 R2)
 have r1 := h.rd.setX (i := 0) (y := .int .i64 R2) h.kb (no_bytes2 R N) h.n2
 have r2 := r1.setX (i := 1) (y := .int .i64 N2) k1 (no_bytes2 R2 N) h.n2
 have hf : Fr (S1 qb) X ((X.setCell ⟨qb, 0, none⟩ (.int .i64 R2)).setCell ⟨qb, 1, none⟩ (.int .i64 N2)) := ((Fr.refl (S1 qb) X).setCell (.inl (show S1 qb qb from rfl)) _).setCell (.inl (show S1 qb qb from rfl)) _
 exact ⟨r2, h.kq.fr hf h.n3, k1.set 1 _, h.bel.trans (hf.below h.bel.size (fun i e => by have e : i = qb := e; have := h.lb; omega)), h.lp, h.lq, h.lb, h.n1, h.n2, h.n3⟩
def RPost (w : World) (b : List UInt8) (e : Ending) (w' : World) : Prop :=
 (match parseP b with
  | none => e = .returned (.tuple #[.int .i64 0, balV 0 0, .int .i64 0, .string ⟨#[]⟩, .int .i64 10])
  | some x => e = .returned (.tuple #[.int .i64 (x.k : Int), balV x.ro x.no, .int .i64 (x.sl : Int), .string (sB x.v), .int .i64 0])) ∧ Below w.heap.size w w'
theorem cell_setB {W : World} {q p i j : Nat} {v z : Value} (h : W.cell? ⟨p, i, none⟩ = some z) (hne : q ≠ p) : (W.setCell ⟨q, j, none⟩ v).cell? ⟨p, i, none⟩ = some z :=
 (World.cell?_setCell_other _ _ _ _ (by simp [Ne.symm hne])).trans h
theorem RPost.no {w w' : World} {b : List UInt8} (h : parseP b = none) (hb : Below w.heap.size w w') : RPost w b (.returned (.tuple #[.int .i64 0, balV 0 0, .int .i64 0, .string ⟨#[]⟩, .int .i64 10])) w' := by
 unfold RPost
 rw [h]
 exact ⟨rfl, hb⟩
theorem RPost.yes {w w' : World} {b : List UInt8} {x : Rec} (h : parseP b = some x) (hb : Below w.heap.size w w') : RPost w b (.returned (.tuple #[.int .i64 (x.k : Int), balV x.ro x.no, .int .i64 (x.sl : Int), .string (sB x.v), .int .i64 0])) w' := by
 unfold RPost
 rw [h]
 exact ⟨rfl, hb⟩
set_option maxRecDepth 100000 in
set_option maxHeartbeats 2000000 in
theorem rparse0 (u : Value) (b : List UInt8) (w : World) (hu : BsIn w u b) (hl : b.length ≤ 100000000) (hK : refK b = 0) : Calls Tryz.prog 25 #[u] w (RPost w b) := by
 obtain ⟨A0, c0, rfl, hle0, hm0⟩ := hu.shape
 have hb1 := box_below w (.cells #[.int .i64 0, .int .i64 0] 24)
 have HU1 := Lib.hid (hu.below hb1)
 have HB1 := Lib.hid hb1
 have KQ1 := Lib.hid (Blk.new w 24 #[.int .i64 0, .int .i64 0])
 obtain ⟨q, hq⟩ : ∃ q, w.heap.size = q := ⟨_, rfl⟩
 have hz1 : (w.alloc (.cells #[.int .i64 0, .int .i64 0] 24)).heap.size = q + 1 := by rw [World.size_alloc, hq]
 have hlb : ((some b : Rd).getD []).length ≤ 100000000 := hl
 have HS := Lib.hid (fun (p : Nat) (v : Value) (w : World) (h : RrAt w p v (some b)) => rsmallc p 3 3 rfl v (some b) w h hlb (by decide))
 have hl1 := rdM_len (most := 3) _ hlb
 have hT : refT b = refVal (refK b) (refQ b).2.2 := rfl
 have hQ : refQ b = refBal (refK b) (rdM 3 (some b)).2 := rfl
 rw [hK] at hT hQ
 obtain ⟨⟨k, s1⟩, hk⟩ : ∃ x, rdM 3 (some b) = x := ⟨_, rfl⟩
 have hkK : k = 0 := by
  have e : refK b = k := by unfold refK; rw [hk]
  omega
 subst hkK
 rw [hk] at HS hl1 hQ
 have hl1 : (s1.getD []).length ≤ 100000000 := hl1
 have hQ2 : refQ b = (0, 0, s1) := hQ
 have hT2 : refT b = (0, [], s1) := by rw [hT, hQ2]; rfl
 have HKQT : Hid (refK b = 0 ∧ refQ b = (0, 0, s1) ∧ refT b = (0, [], s1)) := ⟨hK, hQ2, hT2⟩
 clear hT hQ hQ2 hT2 hK hk hb1 hu
 go_enter Tryz.func25, Tryz.ntmps25
 go_upto_region 4 with (first
  | (go_at_call 90; refine (rrread _ b _ HU1.out hl).mono ?_; rintro e w2 ⟨p, v2, rfl, hr, hlo, hb⟩; have HR2 := Lib.hid hr; have HB2 := Lib.hid (bchain HB1.out hb); have KQ2 := Lib.hid (KQ1.out.of_block (hb.block _ (by omega))); have hlo2 : q + 1 ≤ p := (by rw [hz1] at hlo; exact hlo); clear hr hb hlo)
  | (go_at_call 91; (with_reducible refine (HS.out _ _ _ HR2.out).mono ?_); rintro e w3 ⟨v3, rfl, hs⟩; have HR3 := Lib.hid hs; clear hs))
 have hp3 := HR3.out.at_.blk.lt
 have P4 : Hid (PrS w (w3.alloc (.cells #[.int .i64 0, .int .i64 0] 24)) w.heap.size w3.heap.size p v3 s1 0 0) := by
  have hbel := HB2.out.trans (HR3.out.fr.below HB2.out.size (fun i e => by have e : i = p := e; omega))
  have hbx := box_below w3 (.cells #[.int .i64 0, .int .i64 0] 24)
  have kq3 := KQ2.out.fr HR3.out.fr (fun e => by have e : w.heap.size = p := e; omega)
  exact ⟨HR3.out.at_.below hbx, kq3.of_block (hbx.block _ kq3.lt), Blk.new w3 _ _, hbel.trans (hbx.mono hbel.size), by omega, Nat.le_refl _, hbel.size, by omega, by omega, by have := kq3.lt; omega⟩
 rw [hq] at P4
 have hqb : q ≠ w3.heap.size := P4.out.n3
 clear HR2 HR3 HB2 KQ1 KQ2
 obtain ⟨qb, hqbe⟩ : ∃ qb, w3.heap.size = qb := ⟨_, rfl⟩
 rw [hqbe] at P4 ⊢
 rw [hqbe] at hqb
 generalize (w3.alloc (.cells #[.int .i64 0, .int .i64 0] 24)) = w4 at *
 have b40 := P4.out.kb.cell (i := 0) (v := .int .i64 0) rfl
 have b41 := P4.out.kb.cell (i := 1) (v := .int .i64 0) rfl
 have fb0 := P4.out.kb.frozen 0
 have fb1 := P4.out.kb.frozen 1
 go_upto_region 10 with fail
 have kz0 := P4.out.kq.cell (i := 0) (v := .int .i64 0) rfl
 have kz1 := P4.out.kq.cell (i := 1) (v := .int .i64 0) rfl
 have gz0 := P4.out.kq.frozen 0
 have gz1 := P4.out.kq.frozen 1
 by_cases hlong : 65536 < b.length
 case pos =>
  have dl : decide ((b.length : Int) > 65536) = true := decide_eq_true (by omega)
  go_wp2_with fail
  have KF := (P4.out.kq.set 0 (.int .i64 0)).set 1 (.int .i64 0)
  have y0 := KF.cell (i := 0) (v := .int .i64 0) rfl
  have y1 := KF.cell (i := 1) (v := .int .i64 0) rfl
  refine bodyPost_ret (v := .tuple #[.int .i64 0, balV 0 0, .int .i64 0, .string ⟨#[]⟩, .int .i64 10]) (by simp [results, Tryz.results25, go_sem, y0, y1]) rfl ?_
  refine RPost.no (parse_bad (by rw [HKQT.out.1, HKQT.out.2.1, HKQT.out.2.2]; exact .inl hlong)) (P4.out.bel.trans (Fr.below (S := S1 q) (((Fr.refl (S1 q) _).setCell (.inl (show S1 q q from rfl)) _).setCell (.inl (show S1 q q from rfl)) _) P4.out.bel.size (fun i e => by have e : i = q := e; have := P4.out.lq; omega)))
 case neg =>
 have dl : decide ((b.length : Int) > 65536) = false := decide_eq_false (by omega)
 go_wp2_with fail
 have KF := (P4.out.kq.set 0 (.int .i64 0)).set 1 (.int .i64 0)
 have y0 := KF.cell (i := 0) (v := .int .i64 0) rfl
 have y1 := KF.cell (i := 1) (v := .int .i64 0) rfl
 refine bodyPost_ret (v := .tuple #[.int .i64 0, balV 0 0, .int .i64 0, .string ⟨#[]⟩, .int .i64 10]) (by simp [results, Tryz.results25, go_sem, y0, y1]) rfl ?_
 refine RPost.no (parse_bad (by rw [HKQT.out.1, HKQT.out.2.1, HKQT.out.2.2]; exact .inr (.inl rfl))) (P4.out.bel.trans (Fr.below (S := S1 q) (((Fr.refl (S1 q) _).setCell (.inl (show S1 q q from rfl)) _).setCell (.inl (show S1 q q from rfl)) _) P4.out.bel.size (fun i e => by have e : i = q := e; have := P4.out.lq; omega)))
set_option maxRecDepth 100000 in
set_option maxHeartbeats 2000000 in
theorem rparse1 (u : Value) (b : List UInt8) (w : World) (hu : BsIn w u b) (hl : b.length ≤ 100000000) (hK : refK b = 1) : Calls Tryz.prog 25 #[u] w (RPost w b) := by
 obtain ⟨A0, c0, rfl, hle0, hm0⟩ := hu.shape
 have hb1 := box_below w (.cells #[.int .i64 0, .int .i64 0] 24)
 have HU1 := Lib.hid (hu.below hb1)
 have HB1 := Lib.hid hb1
 have KQ1 := Lib.hid (Blk.new w 24 #[.int .i64 0, .int .i64 0])
 obtain ⟨q, hq⟩ : ∃ q, w.heap.size = q := ⟨_, rfl⟩
 have hz1 : (w.alloc (.cells #[.int .i64 0, .int .i64 0] 24)).heap.size = q + 1 := by rw [World.size_alloc, hq]
 have hlb : ((some b : Rd).getD []).length ≤ 100000000 := hl
 have HS := Lib.hid (fun (p : Nat) (v : Value) (w : World) (h : RrAt w p v (some b)) => rsmallc p 3 3 rfl v (some b) w h hlb (by decide))
 have hl1 := rdM_len (most := 3) _ hlb
 have hT : refT b = refVal (refK b) (refQ b).2.2 := rfl
 have hQ : refQ b = refBal (refK b) (rdM 3 (some b)).2 := rfl
 rw [hK] at hT hQ
 obtain ⟨⟨k, s1⟩, hk⟩ : ∃ x, rdM 3 (some b) = x := ⟨_, rfl⟩
 have hkK : k = 1 := by
  have e : refK b = k := by unfold refK; rw [hk]
  omega
 subst hkK
 rw [hk] at HS hl1 hQ
 have hl1 : (s1.getD []).length ≤ 100000000 := hl1
 obtain ⟨⟨R, a2⟩, hR⟩ : ∃ x, rdM 1073741824 s1 = x := ⟨_, rfl⟩
 obtain ⟨⟨N, s2⟩, hN⟩ : ∃ x, rdM 6 a2 = x := ⟨_, rfl⟩
 have hQ2 : refQ b = (R, N, s2) := by rw [hQ]; show ((rdM 1073741824 s1).1, (rdM 6 (rdM 1073741824 s1).2).1, (rdM 6 (rdM 1073741824 s1).2).2) = _; rw [hR]; show (R, (rdM 6 a2).1, (rdM 6 a2).2) = _; rw [hN]
 have hl2 : (s2.getD []).length ≤ 100000000 := by
  have h1 := rdM_len (most := 1073741824) _ hl1
  rw [hR] at h1
  have h2 := rdM_len (most := 6) _ h1
  show ((Prod.mk N s2).2.getD []).length ≤ _
  rw [← hN]
  exact h2
 have HBL := Lib.hid (fun (p : Nat) (v : Value) (w : World) (h : RrAt w p v s1) => rballot_any p v s1 w h hl1)
 rw [hR] at HBL
 have HBL : Hid (∀ (p : Nat) (v : Value) (w : World) (h : RrAt w p v s1), Calls Tryz.prog 92 #[.pointer (some ⟨p, 0, none⟩)] w fun e w' => ∃ v', e = .returned (balV (R : Nat) (N : Nat)) ∧ RrStep w p w' v' s2) := fun p v w h => by
  have := HBL.out p v w h
  rwa [show (rdM 6 ((R, a2) : Nat × Rd).2) = (N, s2) from hN] at this
 clear hR hN
 have hT2 : refT b = (0, [], s2) := by rw [hT, hQ2]; rfl
 have HKQT : Hid (refK b = 1 ∧ refQ b = (R, N, s2) ∧ refT b = (0, [], s2)) := ⟨hK, hQ2, hT2⟩
 clear hT hQ hQ2 hT2 hK hk hb1 hu
 go_enter Tryz.func25, Tryz.ntmps25
 go_upto_region 4 with (first
  | (go_at_call 90; refine (rrread _ b _ HU1.out hl).mono ?_; rintro e w2 ⟨p, v2, rfl, hr, hlo, hb⟩; have HR2 := Lib.hid hr; have HB2 := Lib.hid (bchain HB1.out hb); have KQ2 := Lib.hid (KQ1.out.of_block (hb.block _ (by omega))); have hlo2 : q + 1 ≤ p := (by rw [hz1] at hlo; exact hlo); clear hr hb hlo)
  | (go_at_call 91; (with_reducible refine (HS.out _ _ _ HR2.out).mono ?_); rintro e w3 ⟨v3, rfl, hs⟩; have HR3 := Lib.hid hs; clear hs))
 have hp3 := HR3.out.at_.blk.lt
 have P4 : Hid (PrS w (w3.alloc (.cells #[.int .i64 0, .int .i64 0] 24)) w.heap.size w3.heap.size p v3 s1 0 0) := by
  have hbel := HB2.out.trans (HR3.out.fr.below HB2.out.size (fun i e => by have e : i = p := e; omega))
  have hbx := box_below w3 (.cells #[.int .i64 0, .int .i64 0] 24)
  have kq3 := KQ2.out.fr HR3.out.fr (fun e => by have e : w.heap.size = p := e; omega)
  exact ⟨HR3.out.at_.below hbx, kq3.of_block (hbx.block _ kq3.lt), Blk.new w3 _ _, hbel.trans (hbx.mono hbel.size), by omega, Nat.le_refl _, hbel.size, by omega, by omega, by have := kq3.lt; omega⟩
 rw [hq] at P4
 have hqb : q ≠ w3.heap.size := P4.out.n3
 clear HR2 HR3 HB2 KQ1 KQ2
 obtain ⟨qb, hqbe⟩ : ∃ qb, w3.heap.size = qb := ⟨_, rfl⟩
 rw [hqbe] at P4 ⊢
 rw [hqbe] at hqb
 generalize (w3.alloc (.cells #[.int .i64 0, .int .i64 0] 24)) = w4 at *
 have b40 := P4.out.kb.cell (i := 0) (v := .int .i64 0) rfl
 have b41 := P4.out.kb.cell (i := 1) (v := .int .i64 0) rfl
 have fb0 := P4.out.kb.frozen 0
 have fb1 := P4.out.kb.frozen 1
 go_upto_region 10 with (first
  | (go_at_call 92; (with_reducible refine (HBL.out _ _ _ P4.out.rd).mono ?_); rintro e w5 ⟨v5, rfl, hs⟩; have P5 := Lib.hid ((P4.out.step hs).bal (R : Int) (N : Int)); have b50 := (P4.out.step hs).kb.cell (i := 0) (v := .int .i64 0) rfl; have b51 := (P4.out.step hs).kb.cell (i := 1) (v := .int .i64 0) rfl; have fc0 := (P4.out.step hs).kb.frozen 0; have fc1 := (P4.out.step hs).kb.frozen 1; have d50 := P5.out.kb.cell (i := 0) (v := .int .i64 (R : Int)) rfl; have d51 := P5.out.kb.cell (i := 1) (v := .int .i64 (N : Int)) rfl; clear hs))
 have kz0 := P5.out.kq.cell (i := 0) (v := .int .i64 0) rfl
 have kz1 := P5.out.kq.cell (i := 1) (v := .int .i64 0) rfl
 have gz0 := P5.out.kq.frozen 0
 have gz1 := P5.out.kq.frozen 1
 by_cases hlong : 65536 < b.length
 case pos =>
  have dl : decide ((b.length : Int) > 65536) = true := decide_eq_true (by omega)
  go_wp2_with fail
  have KF := (P5.out.kq.set 0 (.int .i64 0)).set 1 (.int .i64 0)
  have y0 := KF.cell (i := 0) (v := .int .i64 0) rfl
  have y1 := KF.cell (i := 1) (v := .int .i64 0) rfl
  refine bodyPost_ret (v := .tuple #[.int .i64 0, balV 0 0, .int .i64 0, .string ⟨#[]⟩, .int .i64 10]) (by simp [results, Tryz.results25, go_sem, y0, y1]) rfl ?_
  refine RPost.no (parse_bad (by rw [HKQT.out.1, HKQT.out.2.1, HKQT.out.2.2]; exact .inl hlong)) (P5.out.bel.trans (Fr.below (S := S1 q) (((Fr.refl (S1 q) _).setCell (.inl (show S1 q q from rfl)) _).setCell (.inl (show S1 q q from rfl)) _) P5.out.bel.size (fun i e => by have e : i = q := e; have := P5.out.lq; omega)))
 case neg =>
 have dl : decide ((b.length : Int) > 65536) = false := decide_eq_false (by omega)
 have HG := Lib.hid (fun w => rgood_any (R : Int) (N : Int) w)
 cases hg : okB (R : Int) (N : Int)
 case false =>
  rw [hg] at HG
  go_wp2_with (go_at_call 84; refine (HG.out _).mono ?_; rintro e w8 ⟨rfl, hb⟩; have P8 := Lib.hid (P5.out.below hb); have kw0 := P8.out.kq.cell (i := 0) (v := .int .i64 0) rfl; have kw1 := P8.out.kq.cell (i := 1) (v := .int .i64 0) rfl; have gw0 := P8.out.kq.frozen 0; have gw1 := P8.out.kq.frozen 1; clear hb)
  have KF := (P8.out.kq.set 0 (.int .i64 0)).set 1 (.int .i64 0)
  have y0 := KF.cell (i := 0) (v := .int .i64 0) rfl
  have y1 := KF.cell (i := 1) (v := .int .i64 0) rfl
  refine bodyPost_ret (v := .tuple #[.int .i64 0, balV 0 0, .int .i64 0, .string ⟨#[]⟩, .int .i64 10]) (by simp [results, Tryz.results25, go_sem, y0, y1]) rfl ?_
  refine RPost.no (parse_bad (by rw [HKQT.out.1, HKQT.out.2.1, HKQT.out.2.2]; exact .inr (.inr (.inl ⟨by decide, hg⟩)))) (P8.out.bel.trans (Fr.below (S := S1 q) (((Fr.refl (S1 q) _).setCell (.inl (show S1 q q from rfl)) _).setCell (.inl (show S1 q q from rfl)) _) P8.out.bel.size (fun i e => by have e : i = q := e; have := P8.out.lq; omega)))
 case true =>
 rw [hg] at HG
 by_cases he : endE s2 = 0
 case neg =>
  have he' : (endE s2 != 0) = true := by simpa using he
  go_wp2_with (first
  | (go_at_call 84; refine (HG.out _).mono ?_; rintro e w8 ⟨rfl, hb⟩; have P8 := Lib.hid (P5.out.below hb); have kw0 := P8.out.kq.cell (i := 0) (v := .int .i64 0) rfl; have kw1 := P8.out.kq.cell (i := 1) (v := .int .i64 0) rfl; have gw0 := P8.out.kq.frozen 0; have gw1 := P8.out.kq.frozen 1; have d80 := P8.out.kb.cell (i := 0) (v := .int .i64 (R : Int)) rfl; have d81 := P8.out.kb.cell (i := 1) (v := .int .i64 (N : Int)) rfl; clear hb)
  | (go_at_call 94; refine (rrend p _ s2 _ P8.out.rd).mono ?_; rintro e w9 ⟨rfl, rfl⟩))
  have KF := (P8.out.kq.set 0 (.int .i64 0)).set 1 (.int .i64 0)
  have y0 := KF.cell (i := 0) (v := .int .i64 0) rfl
  have y1 := KF.cell (i := 1) (v := .int .i64 0) rfl
  refine bodyPost_ret (v := .tuple #[.int .i64 0, balV 0 0, .int .i64 0, .string ⟨#[]⟩, .int .i64 10]) (by simp [results, Tryz.results25, go_sem, y0, y1]) rfl ?_
  refine RPost.no (parse_bad (by rw [HKQT.out.1, HKQT.out.2.1, HKQT.out.2.2]; exact .inr (.inr (.inr he)))) (P8.out.bel.trans (Fr.below (S := S1 q) (((Fr.refl (S1 q) _).setCell (.inl (show S1 q q from rfl)) _).setCell (.inl (show S1 q q from rfl)) _) P8.out.bel.size (fun i e => by have e : i = q := e; have := P8.out.lq; omega)))
 case pos =>
 have he' : (endE s2 != 0) = false := by simpa using he
 have HG2 := Lib.hid (parse_good (b := b) (by
  rw [HKQT.out.1, HKQT.out.2.1, HKQT.out.2.2]
  rintro (h | h | h | h)
  ·exact hlong h
  ·exact absurd h (by decide)
  ·rw [show okB ((R : Nat) : Int) ((N : Nat) : Int) = true from hg] at h; exact absurd h.2 (by simp)
  ·exact h he))
 rw [HKQT.out.1, HKQT.out.2.1, HKQT.out.2.2] at HG2
 go_upto_region 12 with (first
  | (go_at_call 84; refine (HG.out _).mono ?_; rintro e w8 ⟨rfl, hb⟩; have P8 := Lib.hid (P5.out.below hb); have kw0 := P8.out.kq.cell (i := 0) (v := .int .i64 0) rfl; have kw1 := P8.out.kq.cell (i := 1) (v := .int .i64 0) rfl; have gw0 := P8.out.kq.frozen 0; have gw1 := P8.out.kq.frozen 1; have d80 := P8.out.kb.cell (i := 0) (v := .int .i64 (R : Int)) rfl; have d81 := P8.out.kb.cell (i := 1) (v := .int .i64 (N : Int)) rfl; clear hb)
  | (go_at_call 94; refine (rrend p _ s2 _ P8.out.rd).mono ?_; rintro e w9 ⟨rfl, rfl⟩))
 have u0 := P8.out.kb.cell (i := 0) (v := .int .i64 (R : Int)) rfl
 have u1 := P8.out.kb.cell (i := 1) (v := .int .i64 (N : Int)) rfl
 refine wp_region_held_drew (S := (fun W => W.cell? ⟨qb, 0, none⟩ = some (.int .i64 (R : Int)) ∧ W.cell? ⟨qb, 1, none⟩ = some (.int .i64 (N : Int)))) (by kernel_rfl) ?_ (fun hHeld => ?_)
 ·exact ⟨u0, u1⟩
 try dsimp only at hHeld
 refine hY 0 (some 57) hHeld ?_
 refine hY 1 (some 58) hHeld ?_
 refine hY 2 (some 59) hHeld ?_
 refine hY 3 (some 60) hHeld ?_
 refine hY 4 (some 2) hHeld ?_
 refine wpAnyH_ready (rs := [5]) (by kernel_rfl) (by simp) ?_
 refine (AllReadyH.cons rfl (fun K' hK' => ?_) AllReadyH.nil)
 go_simp
 refine hK'.out _ _ ?_ (fun hHeld => ?_)
 ·first | exact hHeld | exact ⟨cell_setB (cell_setB hHeld.1 hqb) hqb, cell_setB (cell_setB hHeld.2 hqb) hqb⟩
 clear hK' K'
 try dsimp only at hHeld
 try simp only [Act.put, List.setIfInBounds_toArray, List.set_cons_zero, List.set_cons_succ]
 refine hY 6 (some 4) hHeld ?_
 refine hY 7 (some 5) hHeld ?_
 refine hY 8 (some 6) hHeld ?_
 refine wpAnyH_done (by kernel_rfl) ?_ _
 go_wp2_with fail
 have KF := (P8.out.kq.set 0 (.int .i64 (R : Int))).set 1 (.int .i64 (N : Int))
 have y0 := KF.cell (i := 0) (v := .int .i64 (R : Int)) rfl
 have y1 := KF.cell (i := 1) (v := .int .i64 (N : Int)) rfl
 refine bodyPost_ret (v := .tuple #[.int .i64 1, balV (R : Int) (N : Int), .int .i64 0, .string ⟨#[]⟩, .int .i64 0]) (by simp [results, Tryz.results25, go_sem, y0, y1]) rfl ?_
 exact RPost.yes HG2.out (P8.out.bel.trans (Fr.below (S := S1 q) ((((Fr.refl (S1 q) _).setCell (.inl (show S1 q q from rfl)) _).setCell (.inl (show S1 q q from rfl)) _).drew) P8.out.bel.size (fun i e => by have e : i = q := e; have := P8.out.lq; omega)))
set_option maxRecDepth 100000 in
set_option maxHeartbeats 2000000 in
theorem rparse2 (u : Value) (b : List UInt8) (w : World) (hu : BsIn w u b) (hl : b.length ≤ 100000000) (hK : refK b = 2) : Calls Tryz.prog 25 #[u] w (RPost w b) := by
 obtain ⟨A0, c0, rfl, hle0, hm0⟩ := hu.shape
 have hb1 := box_below w (.cells #[.int .i64 0, .int .i64 0] 24)
 have HU1 := Lib.hid (hu.below hb1)
 have HB1 := Lib.hid hb1
 have KQ1 := Lib.hid (Blk.new w 24 #[.int .i64 0, .int .i64 0])
 obtain ⟨q, hq⟩ : ∃ q, w.heap.size = q := ⟨_, rfl⟩
 have hz1 : (w.alloc (.cells #[.int .i64 0, .int .i64 0] 24)).heap.size = q + 1 := by rw [World.size_alloc, hq]
 have hlb : ((some b : Rd).getD []).length ≤ 100000000 := hl
 have HS := Lib.hid (fun (p : Nat) (v : Value) (w : World) (h : RrAt w p v (some b)) => rsmallc p 3 3 rfl v (some b) w h hlb (by decide))
 have hl1 := rdM_len (most := 3) _ hlb
 have hT : refT b = refVal (refK b) (refQ b).2.2 := rfl
 have hQ : refQ b = refBal (refK b) (rdM 3 (some b)).2 := rfl
 rw [hK] at hT hQ
 obtain ⟨⟨k, s1⟩, hk⟩ : ∃ x, rdM 3 (some b) = x := ⟨_, rfl⟩
 have hkK : k = 2 := by
  have e : refK b = k := by unfold refK; rw [hk]
  omega
 subst hkK
 rw [hk] at HS hl1 hQ
 have hl1 : (s1.getD []).length ≤ 100000000 := hl1
 obtain ⟨⟨R, a2⟩, hR⟩ : ∃ x, rdM 1073741824 s1 = x := ⟨_, rfl⟩
 obtain ⟨⟨N, s2⟩, hN⟩ : ∃ x, rdM 6 a2 = x := ⟨_, rfl⟩
 have hQ2 : refQ b = (R, N, s2) := by rw [hQ]; show ((rdM 1073741824 s1).1, (rdM 6 (rdM 1073741824 s1).2).1, (rdM 6 (rdM 1073741824 s1).2).2) = _; rw [hR]; show (R, (rdM 6 a2).1, (rdM 6 a2).2) = _; rw [hN]
 have hl2 : (s2.getD []).length ≤ 100000000 := by
  have h1 := rdM_len (most := 1073741824) _ hl1
  rw [hR] at h1
  have h2 := rdM_len (most := 6) _ h1
  show ((Prod.mk N s2).2.getD []).length ≤ _
  rw [← hN]
  exact h2
 have HBL := Lib.hid (fun (p : Nat) (v : Value) (w : World) (h : RrAt w p v s1) => rballot_any p v s1 w h hl1)
 rw [hR] at HBL
 have HBL : Hid (∀ (p : Nat) (v : Value) (w : World) (h : RrAt w p v s1), Calls Tryz.prog 92 #[.pointer (some ⟨p, 0, none⟩)] w fun e w' => ∃ v', e = .returned (balV (R : Nat) (N : Nat)) ∧ RrStep w p w' v' s2) := fun p v w h => by
  have := HBL.out p v w h
  rwa [show (rdM 6 ((R, a2) : Nat × Rd).2) = (N, s2) from hN] at this
 clear hR hN
 obtain ⟨⟨SL, a3⟩, hSL⟩ : ∃ x, rdM 4095 s2 = x := ⟨_, rfl⟩
 obtain ⟨⟨TX, s3⟩, hTX⟩ : ∃ x, rdT a3 = x := ⟨_, rfl⟩
 have hT2 : refT b = (SL, TX, s3) := by rw [hT, hQ2]; show ((rdM 4095 s2).1, (rdT (rdM 4095 s2).2).1, (rdT (rdM 4095 s2).2).2) = _; rw [hSL]; show (SL, (rdT a3).1, (rdT a3).2) = _; rw [hTX]
 have hl3 := rdM_len (most := 4095) _ hl2
 have HSM := Lib.hid (fun (p : Nat) (v : Value) (w : World) (h : RrAt w p v s2) => rsmallc p 4095 4095 rfl v s2 w h hl2 (by decide))
 rw [hSL] at HSM hl3
 have hl3 : (a3.getD []).length ≤ 100000000 := hl3
 have HTX := Lib.hid (fun (p : Nat) (v : Value) (w : World) (h : RrAt w p v a3) => rrtext p v a3 w h hl3)
 rw [hTX] at HTX
 clear hSL hTX
 have HKQT : Hid (refK b = 2 ∧ refQ b = (R, N, s2) ∧ refT b = (SL, TX, s3)) := ⟨hK, hQ2, hT2⟩
 clear hT hQ hQ2 hT2 hK hk hb1 hu
 go_enter Tryz.func25, Tryz.ntmps25
 go_upto_region 4 with (first
  | (go_at_call 90; refine (rrread _ b _ HU1.out hl).mono ?_; rintro e w2 ⟨p, v2, rfl, hr, hlo, hb⟩; have HR2 := Lib.hid hr; have HB2 := Lib.hid (bchain HB1.out hb); have KQ2 := Lib.hid (KQ1.out.of_block (hb.block _ (by omega))); have hlo2 : q + 1 ≤ p := (by rw [hz1] at hlo; exact hlo); clear hr hb hlo)
  | (go_at_call 91; (with_reducible refine (HS.out _ _ _ HR2.out).mono ?_); rintro e w3 ⟨v3, rfl, hs⟩; have HR3 := Lib.hid hs; clear hs))
 have hp3 := HR3.out.at_.blk.lt
 have P4 : Hid (PrS w (w3.alloc (.cells #[.int .i64 0, .int .i64 0] 24)) w.heap.size w3.heap.size p v3 s1 0 0) := by
  have hbel := HB2.out.trans (HR3.out.fr.below HB2.out.size (fun i e => by have e : i = p := e; omega))
  have hbx := box_below w3 (.cells #[.int .i64 0, .int .i64 0] 24)
  have kq3 := KQ2.out.fr HR3.out.fr (fun e => by have e : w.heap.size = p := e; omega)
  exact ⟨HR3.out.at_.below hbx, kq3.of_block (hbx.block _ kq3.lt), Blk.new w3 _ _, hbel.trans (hbx.mono hbel.size), by omega, Nat.le_refl _, hbel.size, by omega, by omega, by have := kq3.lt; omega⟩
 rw [hq] at P4
 have hqb : q ≠ w3.heap.size := P4.out.n3
 clear HR2 HR3 HB2 KQ1 KQ2
 obtain ⟨qb, hqbe⟩ : ∃ qb, w3.heap.size = qb := ⟨_, rfl⟩
 rw [hqbe] at P4 ⊢
 rw [hqbe] at hqb
 generalize (w3.alloc (.cells #[.int .i64 0, .int .i64 0] 24)) = w4 at *
 have b40 := P4.out.kb.cell (i := 0) (v := .int .i64 0) rfl
 have b41 := P4.out.kb.cell (i := 1) (v := .int .i64 0) rfl
 have fb0 := P4.out.kb.frozen 0
 have fb1 := P4.out.kb.frozen 1
 go_upto_region 10 with (first
  | (go_at_call 92; (with_reducible refine (HBL.out _ _ _ P4.out.rd).mono ?_); rintro e w5 ⟨v5, rfl, hs⟩; have P5 := Lib.hid ((P4.out.step hs).bal (R : Int) (N : Int)); have b50 := (P4.out.step hs).kb.cell (i := 0) (v := .int .i64 0) rfl; have b51 := (P4.out.step hs).kb.cell (i := 1) (v := .int .i64 0) rfl; have fc0 := (P4.out.step hs).kb.frozen 0; have fc1 := (P4.out.step hs).kb.frozen 1; have d50 := P5.out.kb.cell (i := 0) (v := .int .i64 (R : Int)) rfl; have d51 := P5.out.kb.cell (i := 1) (v := .int .i64 (N : Int)) rfl; clear hs)
  | (go_at_call 91; (with_reducible refine (HSM.out _ _ _ P5.out.rd).mono ?_); rintro e w6 ⟨v6, rfl, hs⟩; have P6 := Lib.hid (P5.out.step hs); clear hs)
  | (go_at_call 93; (with_reducible refine (HTX.out _ _ _ P6.out.rd).mono ?_); rintro e w7 ⟨v7, rfl, hs⟩; have P7 := Lib.hid (P6.out.step hs); have d70 := P7.out.kb.cell (i := 0) (v := .int .i64 (R : Int)) rfl; have d71 := P7.out.kb.cell (i := 1) (v := .int .i64 (N : Int)) rfl; clear hs))
 have kz0 := P7.out.kq.cell (i := 0) (v := .int .i64 0) rfl
 have kz1 := P7.out.kq.cell (i := 1) (v := .int .i64 0) rfl
 have gz0 := P7.out.kq.frozen 0
 have gz1 := P7.out.kq.frozen 1
 by_cases hlong : 65536 < b.length
 case pos =>
  have dl : decide ((b.length : Int) > 65536) = true := decide_eq_true (by omega)
  go_wp2_with fail
  have KF := (P7.out.kq.set 0 (.int .i64 0)).set 1 (.int .i64 0)
  have y0 := KF.cell (i := 0) (v := .int .i64 0) rfl
  have y1 := KF.cell (i := 1) (v := .int .i64 0) rfl
  refine bodyPost_ret (v := .tuple #[.int .i64 0, balV 0 0, .int .i64 0, .string ⟨#[]⟩, .int .i64 10]) (by simp [results, Tryz.results25, go_sem, y0, y1]) rfl ?_
  refine RPost.no (parse_bad (by rw [HKQT.out.1, HKQT.out.2.1, HKQT.out.2.2]; exact .inl hlong)) (P7.out.bel.trans (Fr.below (S := S1 q) (((Fr.refl (S1 q) _).setCell (.inl (show S1 q q from rfl)) _).setCell (.inl (show S1 q q from rfl)) _) P7.out.bel.size (fun i e => by have e : i = q := e; have := P7.out.lq; omega)))
 case neg =>
 have dl : decide ((b.length : Int) > 65536) = false := decide_eq_false (by omega)
 have HG := Lib.hid (fun w => rgood_any (R : Int) (N : Int) w)
 cases hg : okB (R : Int) (N : Int)
 case false =>
  rw [hg] at HG
  go_wp2_with (go_at_call 84; refine (HG.out _).mono ?_; rintro e w8 ⟨rfl, hb⟩; have P8 := Lib.hid (P7.out.below hb); have kw0 := P8.out.kq.cell (i := 0) (v := .int .i64 0) rfl; have kw1 := P8.out.kq.cell (i := 1) (v := .int .i64 0) rfl; have gw0 := P8.out.kq.frozen 0; have gw1 := P8.out.kq.frozen 1; clear hb)
  have KF := (P8.out.kq.set 0 (.int .i64 0)).set 1 (.int .i64 0)
  have y0 := KF.cell (i := 0) (v := .int .i64 0) rfl
  have y1 := KF.cell (i := 1) (v := .int .i64 0) rfl
  refine bodyPost_ret (v := .tuple #[.int .i64 0, balV 0 0, .int .i64 0, .string ⟨#[]⟩, .int .i64 10]) (by simp [results, Tryz.results25, go_sem, y0, y1]) rfl ?_
  refine RPost.no (parse_bad (by rw [HKQT.out.1, HKQT.out.2.1, HKQT.out.2.2]; exact .inr (.inr (.inl ⟨by decide, hg⟩)))) (P8.out.bel.trans (Fr.below (S := S1 q) (((Fr.refl (S1 q) _).setCell (.inl (show S1 q q from rfl)) _).setCell (.inl (show S1 q q from rfl)) _) P8.out.bel.size (fun i e => by have e : i = q := e; have := P8.out.lq; omega)))
 case true =>
 rw [hg] at HG
 by_cases he : endE s3 = 0
 case neg =>
  have he' : (endE s3 != 0) = true := by simpa using he
  go_wp2_with (first
  | (go_at_call 84; refine (HG.out _).mono ?_; rintro e w8 ⟨rfl, hb⟩; have P8 := Lib.hid (P7.out.below hb); have kw0 := P8.out.kq.cell (i := 0) (v := .int .i64 0) rfl; have kw1 := P8.out.kq.cell (i := 1) (v := .int .i64 0) rfl; have gw0 := P8.out.kq.frozen 0; have gw1 := P8.out.kq.frozen 1; have d80 := P8.out.kb.cell (i := 0) (v := .int .i64 (R : Int)) rfl; have d81 := P8.out.kb.cell (i := 1) (v := .int .i64 (N : Int)) rfl; clear hb)
  | (go_at_call 94; refine (rrend p _ s3 _ P8.out.rd).mono ?_; rintro e w9 ⟨rfl, rfl⟩))
  have KF := (P8.out.kq.set 0 (.int .i64 0)).set 1 (.int .i64 0)
  have y0 := KF.cell (i := 0) (v := .int .i64 0) rfl
  have y1 := KF.cell (i := 1) (v := .int .i64 0) rfl
  refine bodyPost_ret (v := .tuple #[.int .i64 0, balV 0 0, .int .i64 0, .string ⟨#[]⟩, .int .i64 10]) (by simp [results, Tryz.results25, go_sem, y0, y1]) rfl ?_
  refine RPost.no (parse_bad (by rw [HKQT.out.1, HKQT.out.2.1, HKQT.out.2.2]; exact .inr (.inr (.inr he)))) (P8.out.bel.trans (Fr.below (S := S1 q) (((Fr.refl (S1 q) _).setCell (.inl (show S1 q q from rfl)) _).setCell (.inl (show S1 q q from rfl)) _) P8.out.bel.size (fun i e => by have e : i = q := e; have := P8.out.lq; omega)))
 case pos =>
 have he' : (endE s3 != 0) = false := by simpa using he
 have HG2 := Lib.hid (parse_good (b := b) (by
  rw [HKQT.out.1, HKQT.out.2.1, HKQT.out.2.2]
  rintro (h | h | h | h)
  ·exact hlong h
  ·exact absurd h (by decide)
  ·rw [show okB ((R : Nat) : Int) ((N : Nat) : Int) = true from hg] at h; exact absurd h.2 (by simp)
  ·exact h he))
 rw [HKQT.out.1, HKQT.out.2.1, HKQT.out.2.2] at HG2
 go_upto_region 12 with (first
  | (go_at_call 84; refine (HG.out _).mono ?_; rintro e w8 ⟨rfl, hb⟩; have P8 := Lib.hid (P7.out.below hb); have kw0 := P8.out.kq.cell (i := 0) (v := .int .i64 0) rfl; have kw1 := P8.out.kq.cell (i := 1) (v := .int .i64 0) rfl; have gw0 := P8.out.kq.frozen 0; have gw1 := P8.out.kq.frozen 1; have d80 := P8.out.kb.cell (i := 0) (v := .int .i64 (R : Int)) rfl; have d81 := P8.out.kb.cell (i := 1) (v := .int .i64 (N : Int)) rfl; clear hb)
  | (go_at_call 94; refine (rrend p _ s3 _ P8.out.rd).mono ?_; rintro e w9 ⟨rfl, rfl⟩))
 have u0 := P8.out.kb.cell (i := 0) (v := .int .i64 (R : Int)) rfl
 have u1 := P8.out.kb.cell (i := 1) (v := .int .i64 (N : Int)) rfl
 refine wp_region_held_drew (S := (fun W => W.cell? ⟨qb, 0, none⟩ = some (.int .i64 (R : Int)) ∧ W.cell? ⟨qb, 1, none⟩ = some (.int .i64 (N : Int)))) (by kernel_rfl) ?_ (fun hHeld => ?_)
 ·exact ⟨u0, u1⟩
 try dsimp only at hHeld
 refine hY 0 (some 57) hHeld ?_
 refine hY 1 (some 58) hHeld ?_
 refine hY 2 (some 59) hHeld ?_
 refine hY 3 (some 60) hHeld ?_
 refine hY 4 (some 2) hHeld ?_
 refine wpAnyH_ready (rs := [5]) (by kernel_rfl) (by simp) ?_
 refine (AllReadyH.cons rfl (fun K' hK' => ?_) AllReadyH.nil)
 go_simp
 refine hK'.out _ _ ?_ (fun hHeld => ?_)
 ·first | exact hHeld | exact ⟨cell_setB (cell_setB hHeld.1 hqb) hqb, cell_setB (cell_setB hHeld.2 hqb) hqb⟩
 clear hK' K'
 try dsimp only at hHeld
 try simp only [Act.put, List.setIfInBounds_toArray, List.set_cons_zero, List.set_cons_succ]
 refine hY 6 (some 4) hHeld ?_
 refine hY 7 (some 5) hHeld ?_
 refine hY 8 (some 6) hHeld ?_
 refine wpAnyH_done (by kernel_rfl) ?_ _
 go_wp2_with fail
 have KF := (P8.out.kq.set 0 (.int .i64 (R : Int))).set 1 (.int .i64 (N : Int))
 have y0 := KF.cell (i := 0) (v := .int .i64 (R : Int)) rfl
 have y1 := KF.cell (i := 1) (v := .int .i64 (N : Int)) rfl
 refine bodyPost_ret (v := .tuple #[.int .i64 2, balV (R : Int) (N : Int), .int .i64 (SL : Int), .string (sB TX), .int .i64 0]) (by simp [results, Tryz.results25, go_sem, y0, y1]) rfl ?_
 exact RPost.yes HG2.out (P8.out.bel.trans (Fr.below (S := S1 q) ((((Fr.refl (S1 q) _).setCell (.inl (show S1 q q from rfl)) _).setCell (.inl (show S1 q q from rfl)) _).drew) P8.out.bel.size (fun i e => by have e : i = q := e; have := P8.out.lq; omega)))
set_option maxRecDepth 100000 in
set_option maxHeartbeats 2000000 in
theorem rparse3 (u : Value) (b : List UInt8) (w : World) (hu : BsIn w u b) (hl : b.length ≤ 100000000) (hK : refK b = 3) : Calls Tryz.prog 25 #[u] w (RPost w b) := by
 obtain ⟨A0, c0, rfl, hle0, hm0⟩ := hu.shape
 have hb1 := box_below w (.cells #[.int .i64 0, .int .i64 0] 24)
 have HU1 := Lib.hid (hu.below hb1)
 have HB1 := Lib.hid hb1
 have KQ1 := Lib.hid (Blk.new w 24 #[.int .i64 0, .int .i64 0])
 obtain ⟨q, hq⟩ : ∃ q, w.heap.size = q := ⟨_, rfl⟩
 have hz1 : (w.alloc (.cells #[.int .i64 0, .int .i64 0] 24)).heap.size = q + 1 := by rw [World.size_alloc, hq]
 have hlb : ((some b : Rd).getD []).length ≤ 100000000 := hl
 have HS := Lib.hid (fun (p : Nat) (v : Value) (w : World) (h : RrAt w p v (some b)) => rsmallc p 3 3 rfl v (some b) w h hlb (by decide))
 have hl1 := rdM_len (most := 3) _ hlb
 have hT : refT b = refVal (refK b) (refQ b).2.2 := rfl
 have hQ : refQ b = refBal (refK b) (rdM 3 (some b)).2 := rfl
 rw [hK] at hT hQ
 obtain ⟨⟨k, s1⟩, hk⟩ : ∃ x, rdM 3 (some b) = x := ⟨_, rfl⟩
 have hkK : k = 3 := by
  have e : refK b = k := by unfold refK; rw [hk]
  omega
 subst hkK
 rw [hk] at HS hl1 hQ
 have hl1 : (s1.getD []).length ≤ 100000000 := hl1
 have hQ2 : refQ b = (0, 0, s1) := hQ
 obtain ⟨⟨SL, a3⟩, hSL⟩ : ∃ x, rdM 4095 s1 = x := ⟨_, rfl⟩
 obtain ⟨⟨TX, s3⟩, hTX⟩ : ∃ x, rdT a3 = x := ⟨_, rfl⟩
 have hT2 : refT b = (SL, TX, s3) := by rw [hT, hQ2]; show ((rdM 4095 s1).1, (rdT (rdM 4095 s1).2).1, (rdT (rdM 4095 s1).2).2) = _; rw [hSL]; show (SL, (rdT a3).1, (rdT a3).2) = _; rw [hTX]
 have hl3 := rdM_len (most := 4095) _ hl1
 have HSM := Lib.hid (fun (p : Nat) (v : Value) (w : World) (h : RrAt w p v s1) => rsmallc p 4095 4095 rfl v s1 w h hl1 (by decide))
 rw [hSL] at HSM hl3
 have hl3 : (a3.getD []).length ≤ 100000000 := hl3
 have HTX := Lib.hid (fun (p : Nat) (v : Value) (w : World) (h : RrAt w p v a3) => rrtext p v a3 w h hl3)
 rw [hTX] at HTX
 clear hSL hTX
 have HKQT : Hid (refK b = 3 ∧ refQ b = (0, 0, s1) ∧ refT b = (SL, TX, s3)) := ⟨hK, hQ2, hT2⟩
 clear hT hQ hQ2 hT2 hK hk hb1 hu
 go_enter Tryz.func25, Tryz.ntmps25
 go_upto_region 4 with (first
  | (go_at_call 90; refine (rrread _ b _ HU1.out hl).mono ?_; rintro e w2 ⟨p, v2, rfl, hr, hlo, hb⟩; have HR2 := Lib.hid hr; have HB2 := Lib.hid (bchain HB1.out hb); have KQ2 := Lib.hid (KQ1.out.of_block (hb.block _ (by omega))); have hlo2 : q + 1 ≤ p := (by rw [hz1] at hlo; exact hlo); clear hr hb hlo)
  | (go_at_call 91; (with_reducible refine (HS.out _ _ _ HR2.out).mono ?_); rintro e w3 ⟨v3, rfl, hs⟩; have HR3 := Lib.hid hs; clear hs))
 have hp3 := HR3.out.at_.blk.lt
 have P4 : Hid (PrS w (w3.alloc (.cells #[.int .i64 0, .int .i64 0] 24)) w.heap.size w3.heap.size p v3 s1 0 0) := by
  have hbel := HB2.out.trans (HR3.out.fr.below HB2.out.size (fun i e => by have e : i = p := e; omega))
  have hbx := box_below w3 (.cells #[.int .i64 0, .int .i64 0] 24)
  have kq3 := KQ2.out.fr HR3.out.fr (fun e => by have e : w.heap.size = p := e; omega)
  exact ⟨HR3.out.at_.below hbx, kq3.of_block (hbx.block _ kq3.lt), Blk.new w3 _ _, hbel.trans (hbx.mono hbel.size), by omega, Nat.le_refl _, hbel.size, by omega, by omega, by have := kq3.lt; omega⟩
 rw [hq] at P4
 have hqb : q ≠ w3.heap.size := P4.out.n3
 clear HR2 HR3 HB2 KQ1 KQ2
 obtain ⟨qb, hqbe⟩ : ∃ qb, w3.heap.size = qb := ⟨_, rfl⟩
 rw [hqbe] at P4 ⊢
 rw [hqbe] at hqb
 generalize (w3.alloc (.cells #[.int .i64 0, .int .i64 0] 24)) = w4 at *
 have b40 := P4.out.kb.cell (i := 0) (v := .int .i64 0) rfl
 have b41 := P4.out.kb.cell (i := 1) (v := .int .i64 0) rfl
 have fb0 := P4.out.kb.frozen 0
 have fb1 := P4.out.kb.frozen 1
 go_upto_region 10 with (first
  | (go_at_call 91; (with_reducible refine (HSM.out _ _ _ P4.out.rd).mono ?_); rintro e w6 ⟨v6, rfl, hs⟩; have P6 := Lib.hid (P4.out.step hs); clear hs)
  | (go_at_call 93; (with_reducible refine (HTX.out _ _ _ P6.out.rd).mono ?_); rintro e w7 ⟨v7, rfl, hs⟩; have P7 := Lib.hid (P6.out.step hs); have d70 := P7.out.kb.cell (i := 0) (v := .int .i64 (0 : Int)) rfl; have d71 := P7.out.kb.cell (i := 1) (v := .int .i64 (0 : Int)) rfl; clear hs))
 have kz0 := P7.out.kq.cell (i := 0) (v := .int .i64 0) rfl
 have kz1 := P7.out.kq.cell (i := 1) (v := .int .i64 0) rfl
 have gz0 := P7.out.kq.frozen 0
 have gz1 := P7.out.kq.frozen 1
 by_cases hlong : 65536 < b.length
 case pos =>
  have dl : decide ((b.length : Int) > 65536) = true := decide_eq_true (by omega)
  go_wp2_with fail
  have KF := (P7.out.kq.set 0 (.int .i64 0)).set 1 (.int .i64 0)
  have y0 := KF.cell (i := 0) (v := .int .i64 0) rfl
  have y1 := KF.cell (i := 1) (v := .int .i64 0) rfl
  refine bodyPost_ret (v := .tuple #[.int .i64 0, balV 0 0, .int .i64 0, .string ⟨#[]⟩, .int .i64 10]) (by simp [results, Tryz.results25, go_sem, y0, y1]) rfl ?_
  refine RPost.no (parse_bad (by rw [HKQT.out.1, HKQT.out.2.1, HKQT.out.2.2]; exact .inl hlong)) (P7.out.bel.trans (Fr.below (S := S1 q) (((Fr.refl (S1 q) _).setCell (.inl (show S1 q q from rfl)) _).setCell (.inl (show S1 q q from rfl)) _) P7.out.bel.size (fun i e => by have e : i = q := e; have := P7.out.lq; omega)))
 case neg =>
 have dl : decide ((b.length : Int) > 65536) = false := decide_eq_false (by omega)
 by_cases he : endE s3 = 0
 case neg =>
  have he' : (endE s3 != 0) = true := by simpa using he
  go_wp2_with (first
  | (go_at_call 94; refine (rrend p _ s3 _ P7.out.rd).mono ?_; rintro e w9 ⟨rfl, rfl⟩))
  have KF := (P7.out.kq.set 0 (.int .i64 0)).set 1 (.int .i64 0)
  have y0 := KF.cell (i := 0) (v := .int .i64 0) rfl
  have y1 := KF.cell (i := 1) (v := .int .i64 0) rfl
  refine bodyPost_ret (v := .tuple #[.int .i64 0, balV 0 0, .int .i64 0, .string ⟨#[]⟩, .int .i64 10]) (by simp [results, Tryz.results25, go_sem, y0, y1]) rfl ?_
  refine RPost.no (parse_bad (by rw [HKQT.out.1, HKQT.out.2.1, HKQT.out.2.2]; exact .inr (.inr (.inr he)))) (P7.out.bel.trans (Fr.below (S := S1 q) (((Fr.refl (S1 q) _).setCell (.inl (show S1 q q from rfl)) _).setCell (.inl (show S1 q q from rfl)) _) P7.out.bel.size (fun i e => by have e : i = q := e; have := P7.out.lq; omega)))
 case pos =>
 have he' : (endE s3 != 0) = false := by simpa using he
 have HG2 := Lib.hid (parse_good (b := b) (by
  rw [HKQT.out.1, HKQT.out.2.1, HKQT.out.2.2]
  rintro (h | h | h | h)
  ·exact hlong h
  ·exact absurd h (by decide)
  ·exact absurd h.1 (by decide)
  ·exact h he))
 rw [HKQT.out.1, HKQT.out.2.1, HKQT.out.2.2] at HG2
 go_upto_region 12 with (first
  | (go_at_call 94; refine (rrend p _ s3 _ P7.out.rd).mono ?_; rintro e w9 ⟨rfl, rfl⟩))
 have u0 := P7.out.kb.cell (i := 0) (v := .int .i64 (0 : Int)) rfl
 have u1 := P7.out.kb.cell (i := 1) (v := .int .i64 (0 : Int)) rfl
 refine wp_region_held_drew (S := (fun W => W.cell? ⟨qb, 0, none⟩ = some (.int .i64 (0 : Int)) ∧ W.cell? ⟨qb, 1, none⟩ = some (.int .i64 (0 : Int)))) (by kernel_rfl) ?_ (fun hHeld => ?_)
 ·exact ⟨u0, u1⟩
 try dsimp only at hHeld
 refine hY 0 (some 57) hHeld ?_
 refine hY 1 (some 58) hHeld ?_
 refine hY 2 (some 59) hHeld ?_
 refine hY 3 (some 60) hHeld ?_
 refine hY 4 (some 2) hHeld ?_
 refine wpAnyH_ready (rs := [5]) (by kernel_rfl) (by simp) ?_
 refine (AllReadyH.cons rfl (fun K' hK' => ?_) AllReadyH.nil)
 go_simp
 refine hK'.out _ _ ?_ (fun hHeld => ?_)
 ·first | exact hHeld | exact ⟨cell_setB (cell_setB hHeld.1 hqb) hqb, cell_setB (cell_setB hHeld.2 hqb) hqb⟩
 clear hK' K'
 try dsimp only at hHeld
 try simp only [Act.put, List.setIfInBounds_toArray, List.set_cons_zero, List.set_cons_succ]
 refine hY 6 (some 4) hHeld ?_
 refine hY 7 (some 5) hHeld ?_
 refine hY 8 (some 6) hHeld ?_
 refine wpAnyH_done (by kernel_rfl) ?_ _
 go_wp2_with fail
 have KF := (P7.out.kq.set 0 (.int .i64 (0 : Int))).set 1 (.int .i64 (0 : Int))
 have y0 := KF.cell (i := 0) (v := .int .i64 (0 : Int)) rfl
 have y1 := KF.cell (i := 1) (v := .int .i64 (0 : Int)) rfl
 refine bodyPost_ret (v := .tuple #[.int .i64 3, balV (0 : Int) (0 : Int), .int .i64 (SL : Int), .string (sB TX), .int .i64 0]) (by simp [results, Tryz.results25, go_sem, y0, y1]) rfl ?_
 exact RPost.yes HG2.out (P7.out.bel.trans (Fr.below (S := S1 q) ((((Fr.refl (S1 q) _).setCell (.inl (show S1 q q from rfl)) _).setCell (.inl (show S1 q q from rfl)) _).drew) P7.out.bel.size (fun i e => by have e : i = q := e; have := P7.out.lq; omega)))
theorem rparse_any (u : Value) (b : List UInt8) (w : World) (hu : BsIn w u b) (hl : b.length ≤ 100000000) : Calls Tryz.prog 25 #[u] w (RPost w b) := by
 have h3 : refK b ≤ 3 := rdM_le 3 _
 rcases (show refK b = 0 ∨ refK b = 1 ∨ refK b = 2 ∨ refK b = 3 by omega) with h | h | h | h
 ·exact rparse0 u b w hu hl h
 ·exact rparse1 u b w hu hl h
 ·exact rparse2 u b w hu hl h
 ·exact rparse3 u b w hu hl h
end Go.Proofs.YtlfikhblmbidmaaGreatDoor