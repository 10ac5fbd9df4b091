import Derived.Test.YtlfikhblmbidmaaGreatDoorMrgI
import Derived.Test.YtlfikhblmbidmaaGreatDoorStbG
set_option linter.all false
namespace Go.Proofs.YtlfikhblmbidmaaGreatDoor
open Go.RowKit Go.Maps
set_option maxRecDepth 100000 in
set_option maxHeartbeats 2000000 in
theorem rwbytes (p : Nat) (v : Value) (bs : List UInt8) (w : World) (h : RwAt w p v bs) (h0 : 0 < bs.length) (hl : bs.length ≤ 100000000) :
  Calls Tryz.prog 174 #[.pointer (some ⟨p, 0, none⟩)] w fun e w' => ∃ vo, e = .returned vo ∧ w'.ownsRow w.heap.size 5 1 vo bs.length (bs.map u8V) ∧ Below w.heap.size w w' := by
 obtain ⟨i0, hi, hz0, hz1, hz2⟩ := info_parts info_u8
 have HI := Lib.hid hi
 have HZ0 := Lib.hid hz0
 have HZ1 := Lib.hid hz1
 have HZ2 := Lib.hid hz2
 clear hi hz0 hz1 hz2
 obtain ⟨a, c, rfl, hm⟩ := lrow_cells (LRow.of_row h.row) h0
 have c0 := h.blk.cell (i := 0) (v := .bool true) rfl
 have c1 := (h.blk.alloc (.cells #[] 5)).cell (i := 1) (v := .slice (some a) bs.length c) rfl
 have HM := Lib.hid hm
 have HFN := Lib.hid (show (bs.map u8V).length = bs.length * 1 by simp)
 clear hm h
 go_enter Tryz.func174, Tryz.ntmps174
 go_wp2_with (first
  | (go_at_call 213; refine (rwvalid p w c0).mono ?_; rintro e w' ⟨rfl, rfl⟩)
  | (at_builtin; refine wpList_append_own_at _ rfl _ _ 26 rfl w.heap.size 5 i0 (.int .u8 0) 1 1 Tryz.underlying26 HI.out HZ0.out HZ1.out HZ2.out rfl (by decide) _ 0 [] rfl (World.ownsRow_made w #[] 0 (Nat.le_refl _) (Nat.zero_le _) (by simp)) a bs.length c (bs.map u8V) rfl HFN.out (fun j u hu => Lib.cell?_alloc_some _ (HM.out j u hu)) (u8_one bs) (by unfold maxLen; omega) (by omega) (by simp) ?_; intro v9 w9 hown' hgrow _ hoa; have HOWN := Lib.hid hown'; have HGR := Lib.hid hgrow; clear hown' hgrow hoa))
 go_returns
 refine ⟨_, rfl, by simpa using HOWN.out, ?_⟩
 have f9 : Fr (S1 w.heap.size) (w.alloc (.cells #[] 5)) w9 := Fr.of_grown HGR.out (fun i e => by cases e; rfl)
 exact Fr.upB ((Below.refl _ w).alloc (Nat.le_refl _) _) f9 (fun i e => by have e : i = w.heap.size := e; omega)
theorem rwlen (p : Nat) (v : Value) (bs : List UInt8) (w : World) (h : RwAt w p v bs) (h0 : 0 < bs.length) (hl : bs.length ≤ 100000000) :
  Calls Tryz.prog 173 #[.pointer (some ⟨p, 0, none⟩)] w fun e w' => e = .returned (.int .i64 (bs.length : Int)) ∧ Below w.heap.size w w' := by
 have HB := Lib.hid (rwbytes p v bs w h h0 hl)
 clear h
 go_enter Tryz.func173, Tryz.ntmps173
 go_wp2_with (go_at_call 174; refine HB.out.mono ?_; rintro e w2 ⟨vo, rfl, ho, hb⟩; obtain ⟨a, c, rfl⟩ := row_len ho; have HB2 := Lib.hid hb; clear ho hb)
 go_returns
 exact ⟨rfl, HB2.out⟩
def outE (ok : Bool) (bs : List UInt8) : Int := if ok = true then (if 65536 < bs.length then 11 else 0) else 2
def outB (ok : Bool) (bs : List UInt8) : List UInt8 := if ok = true ∧ bs.length ≤ 65536 then bs else []
def PostB (w : World) (ok : Bool) (bs : List UInt8) (e : Ending) (w' : World) : Prop := ∃ vo, e = .returned (.tuple #[vo, .int .i64 (outE ok bs)]) ∧ LRow w' vo (outB ok bs) ∧ Below w.heap.size w w' ∧ ∀ i, vo.ownBlock = some i → w.heap.size ≤ i
theorem PostB.yes {w w' : World} {bs : List UInt8} {vo : Value} (hl : bs.length ≤ 65536) (ho : w'.ownsRow w.heap.size 5 1 vo bs.length (bs.map u8V)) (hb : Below w.heap.size w w') : PostB w true bs (.returned (.tuple #[vo, .int .i64 0])) w' :=
 ⟨vo, by simp [outE, if_neg (show ¬ 65536 < bs.length by omega)], by rw [outB, if_pos ⟨rfl, hl⟩]; exact LRow.of_row ho, hb, fun i e => (ho.lt i e).1⟩
theorem PostB.long {w w' : World} {bs : List UInt8} (hl : 65536 < bs.length) (hb : Below w.heap.size w w') : PostB w true bs (.returned (.tuple #[.slice none 0 0, .int .i64 11])) w' :=
 ⟨.slice none 0 0, by simp [outE, if_pos hl], by rw [outB, if_neg (by omega)]; exact LRow.nil w', hb, fun i e => by cases e⟩
theorem PostB.no {w w' : World} {bs : List UInt8} (hb : Below w.heap.size w w') : PostB w false bs (.returned (.tuple #[.slice none 0 0, .int .i64 2])) w' :=
 ⟨.slice none 0 0, by simp [outE], by rw [outB, if_neg (by simp)]; exact LRow.nil w', hb, fun i e => by cases e⟩
theorem rshort (p : Nat) (v : Value) (bs : List UInt8) (w : World) (h : RwAt w p v bs) (h0 : 0 < bs.length) (hl : bs.length ≤ 100000000) :
  Calls Tryz.prog 87 #[.pointer (some ⟨p, 0, none⟩)] w (PostB w true bs) := by
 have H := Lib.hid h
 clear h
 by_cases hlong : 65536 < bs.length
 ·have hd : decide ((bs.length : Int) > 65536) = true := by simp; omega
  go_enter Tryz.func87, Tryz.ntmps87
  go_wp2_with (go_at_call 173; refine (rwlen p v bs w H.out h0 hl).mono ?_; rintro e w2 ⟨rfl, hb⟩; have HB2 := Lib.hid hb; clear hb)
  go_returns
  exact PostB.long hlong HB2.out
 ·have hd : decide ((bs.length : Int) > 65536) = false := by simp; omega
  go_enter Tryz.func87, Tryz.ntmps87
  go_wp2_with (first
   | (go_at_call 173; refine (rwlen p v bs w H.out h0 hl).mono ?_; rintro e w2 ⟨rfl, hb⟩; have HB2 := Lib.hid hb; clear hb)
   | (go_at_call 174; refine (rwbytes p v bs _ (H.out.below HB2.out) h0 hl).mono ?_; rintro e w3 ⟨vo, rfl, ho, hb⟩; obtain ⟨a, c, rfl⟩ := row_len ho; have HO := Lib.hid ho; have HB3 := Lib.hid (bchain HB2.out hb); clear ho hb))
  go_returns
  exact PostB.yes (by omega) (World.ownsRow.mono HO.out HB2.out.size) HB3.out
theorem risSlot (k : Int) (w : World) : Calls Tryz.prog 88 #[.int .i64 k] w fun e w' => e = .returned (.bool (decide (0 ≤ k ∧ k < 4096))) ∧ w = w' := by
 by_cases h0 : 0 ≤ k
 ·by_cases h1 : k < 4096
  ·have d0 : decide (k ≥ 0) = true := by simpa using h0
   have d1 : decide (k < 4096) = true := by simpa using h1
   rw [decide_eq_true (⟨h0, h1⟩ : 0 ≤ k ∧ k < 4096)]
   clear h0 h1
   go_enter Tryz.func88, Tryz.ntmps88
   go_wp2_with fail
   go_returns
   exact ⟨rfl, rfl⟩
  ·have d0 : decide (k ≥ 0) = true := by simpa using h0
   have d1 : decide (k < 4096) = false := by simpa using h1
   rw [decide_eq_false (fun e : 0 ≤ k ∧ k < 4096 => h1 e.2)]
   clear h0 h1
   go_enter Tryz.func88, Tryz.ntmps88
   go_wp2_with fail
   go_returns
   exact ⟨rfl, rfl⟩
 ·have d0 : decide (k ≥ 0) = false := by simpa using h0
  rw [decide_eq_false (fun e : 0 ≤ k ∧ k < 4096 => h0 e.1)]
  clear h0
  go_enter Tryz.func88, Tryz.ntmps88
  go_wp2_with fail
  go_returns
  exact ⟨rfl, rfl⟩
def proB (r d : Int) : List UInt8 := uintsB [1, r.toNat, d.toNat]
def accB (r d k : Int) (v : ByteArray) : List UInt8 := valB [2, r.toNat, d.toNat, k.toNat] v
def choB (k : Int) (v : ByteArray) : List UInt8 := valB [3, k.toNat] v
def slB (k : Int) : Bool := decide (0 ≤ k ∧ k < 4096)
theorem proB_rec (r d : Nat) : (Rec.mk 1 r d 0 []).bytes = uintsB [1, r, d] := by simp [Rec.bytes, uintsB]
theorem proB_len (r d : Int) (h : okB r d = true) : (proB r d).length ≤ 100 := by
 have hk := (okB_iff r d).1 h
 have := uintsB_len [1, r.toNat, d.toNat] (by simp; omega)
 unfold proB
 simp at this
 omega
theorem prom_P (r d : Int) (w : World) : Calls Tryz.prog 11 #[balV r d] w (PostB w (okB r d) (proB r d)) := by
 cases h : okB r d
 ·refine (sprom_no r d w h).mono ?_
  rintro e w' ⟨rfl, hb⟩
  exact PostB.no hb
 ·have hk := (okB_iff r d).1 h
  have hl := proB_len r d h
  have hs := sprom_yes r.toNat d.toNat w (by rw [Int.toNat_of_nonneg (by omega), Int.toNat_of_nonneg hk.2.2.1]; exact h)
  rw [Int.toNat_of_nonneg (by omega), Int.toNat_of_nonneg hk.2.2.1, proB_rec] at hs
  refine hs.mono ?_
  rintro e w' ⟨vo, rfl, ho, hb⟩
  exact PostB.yes (by omega) ho hb
theorem acc_P (r d k : Int) (v : ByteArray) (w : World) (hv : v.size ≤ 1000000) : Calls Tryz.prog 12 #[balV r d, .int .i64 k, .string v] w (PostB w (okB r d && slB k) (accB r d k v)) := by
 by_cases hc : okB r d = true ∧ 0 ≤ k ∧ k < 4096
 case neg =>
  have e : (okB r d && slB k) = false := by
   rw [Bool.eq_false_iff]
   intro e
   rw [Bool.and_eq_true] at e
   exact hc ⟨e.1, of_decide_eq_true e.2⟩
  rw [e]
  refine (sacc_no r d k v w hc).mono ?_
  rintro e w' ⟨rfl, hb⟩
  exact PostB.no hb
 case pos =>
  obtain ⟨h, hk0, hk1⟩ := hc
  have hk := (okB_iff r d).1 h
  have e : (okB r d && slB k) = true := by rw [h]; exact decide_eq_true (⟨hk0, hk1⟩ : 0 ≤ k ∧ k < 4096)
  have e1 := Int.toNat_of_nonneg (show 0 ≤ r by omega)
  have e2 := Int.toNat_of_nonneg hk.2.2.1
  have e3 := Int.toNat_of_nonneg hk0
  rw [e]
  by_cases hl : (accB r d k v).length ≤ 65536
  ·have hs := sacc_yes r.toNat d.toNat k.toNat v w (by rw [e1, e2]; exact h) (by omega) hv hl
   rw [e1, e2, e3] at hs
   refine hs.mono ?_
   rintro e w' ⟨vo, rfl, ho, hb⟩
   exact PostB.yes hl ho hb
  ·have hs := sacc_long r.toNat d.toNat k.toNat v w (by rw [e1, e2]; exact h) (by omega) hv (by show 65536 < (accB r d k v).length; omega)
   rw [e1, e2, e3] at hs
   refine hs.mono ?_
   rintro e w' ⟨rfl, hb⟩
   exact PostB.long (by omega) hb
theorem cho_P (k : Int) (v : ByteArray) (w : World) (hv : v.size ≤ 1000000) : Calls Tryz.prog 13 #[.int .i64 k, .string v] w (PostB w (slB k) (choB k v)) := by
 by_cases hc : 0 ≤ k ∧ k < 4096
 case neg =>
  rw [show slB k = false from decide_eq_false hc]
  refine (choose_no k v w hc).mono ?_
  rintro e w' ⟨rfl, hb⟩
  exact PostB.no hb
 case pos =>
  have e3 := Int.toNat_of_nonneg hc.1
  rw [show slB k = true from decide_eq_true hc]
  by_cases hl : (choB k v).length ≤ 65536
  ·have hs := choose_yes k.toNat v w (by omega) hv hl
   rw [e3] at hs
   refine hs.mono ?_
   rintro e w' ⟨vo, rfl, ho, hb⟩
   exact PostB.yes hl ho hb
  ·have hs := choose_long k.toNat v w (by omega) hv (by show 65536 < (choB k v).length; omega)
   rw [e3] at hs
   refine hs.mono ?_
   rintro e w' ⟨rfl, hb⟩
   exact PostB.long (by omega) hb
theorem PostB.trans {w w2 w' : World} {ok : Bool} {bs : List UInt8} {e : Ending} (h : Below w.heap.size w w2) (k : PostB w2 ok bs e w') : PostB w ok bs e w' := by
 obtain ⟨vo, h1, h2, h3, h4⟩ := k
 exact ⟨vo, h1, h2, bchain h h3, fun i e => Nat.le_trans h.size (h4 i e)⟩
theorem rwuintc (p : Nat) (c : Int) (n : Nat) (hc : (n : Int) = c) (v : Value) (bs : List UInt8) (w : World) (h : RwAt w p v bs) (hn : n < 18446744073709551616) (hl : bs.length ≤ 100000000) :
  Calls Tryz.prog 86 #[.pointer (some ⟨p, 0, none⟩), .int .u64 c] w fun e w' => ∃ v', e = .returned (.tuple #[]) ∧ RwStep w p v w' v' (bs ++ uintB n) := hc ▸ rwuint p n v bs w h hn hl
structure RwB (w0 w : World) (p : Nat) (v : Value) (bs : List UInt8) : Prop where
 at_ : RwAt w p v bs
 bel : Below w0.heap.size w0 w
 lo : w0.heap.size ≤ p
theorem RwB.step {w0 w w' : World} {p : Nat} {v v' : Value} {bs bs' : List UInt8} (h : RwB w0 w p v bs) (k : RwStep w p v w' v' bs') : RwB w0 w' p v' bs' :=
 ⟨k.at_, h.bel.trans (k.fr.below h.bel.size (fun i e => by rcases e with e | e; have := h.lo; omega; have := (h.at_.row.lt i e).1; have := h.lo; omega)), h.lo⟩
theorem RwB.post {w0 w w' : World} {p : Nat} {v : Value} {bs : List UInt8} {ok : Bool} {e : Ending} (h : RwB w0 w p v bs) (k : PostB w ok bs e w') : PostB w0 ok bs e w' := by
 obtain ⟨vo, h1, h2, h3, h4⟩ := k
 exact ⟨vo, h1, h2, h.bel.trans (h3.mono h.bel.size), fun i e => Nat.le_trans h.bel.size (h4 i e)⟩
set_option maxRecDepth 100000 in
set_option maxHeartbeats 2000000 in
theorem rprom_P (r d : Int) (w : World) : Calls Tryz.prog 19 #[balV r d] w (PostB w (okB r d) (proB r d)) := by
 have hb0 := box_below w (.cells #[.int .i64 r, .int .i64 d] 24)
 have HB0 := Lib.hid hb0
 have KB := Lib.hid (Blk.new w 24 #[.int .i64 r, .int .i64 d])
 have HG := Lib.hid (rgood_any r d (w.alloc (.cells #[.int .i64 r, .int .i64 d] 24)))
 cases h : okB r d
 ·rw [h] at HG
  clear hb0
  go_enter Tryz.func19, Tryz.ntmps19
  go_wp2_with (go_at_call 84; refine HG.out.mono ?_; rintro e w2 ⟨rfl, hb⟩; have HB2 := Lib.hid (bchain HB0.out hb); clear hb)
  go_returns
  exact PostB.no HB2.out
 ·rw [h] at HG
  have hk := (okB_iff r d).1 h
  have hpl := proB_len r d h
  obtain ⟨R, rfl⟩ := Int.eq_ofNat_of_zero_le (show 0 ≤ r by omega)
  obtain ⟨D, rfl⟩ := Int.eq_ofNat_of_zero_le hk.2.2.1
  have hwr : IntKind.u64.wrap (R : Int) = (R : Int) := by rw [IntKind.wrap_u64]; omega
  have hwd : IntKind.u64.wrap (D : Int) = (D : Int) := by rw [IntKind.wrap_u64]; omega
  have HE : Hid (proB (R : Int) (D : Int) = (([] ++ uintB 1) ++ uintB R) ++ uintB D) := by show _ = _; simp [proB, uintsB]
  clear hb0
  go_enter Tryz.func19, Tryz.ntmps19
  go_wp2_with (first
   | (go_at_call 84; refine HG.out.mono ?_; rintro e w2 ⟨rfl, hb⟩; have HB2 := Lib.hid (bchain HB0.out hb); have K2 := Lib.hid (KB.out.of_block (hb.block _ KB.out.lt)); clear hb)
   | (go_at_call 85; refine (rwnew _).mono ?_; rintro e w3 ⟨p, rfl, hr, hlo, hb⟩; have W3 := Lib.hid (show RwB w2 w3 p _ _ from ⟨hr, hb, hlo⟩); clear hr hb hlo)
   | (go_at_call 86; (with_reducible refine (rwuintc p 1 1 rfl _ _ _ W3.out.at_ ?_ ?_).mono ?_); decide; (show 0 ≤ 100000000; omega); rintro e w4 ⟨v4, rfl, hs⟩; have W4 := Lib.hid (W3.out.step hs); have r4 := (K2.out.of_block (W4.out.bel.block _ K2.out.lt)).cell (i := 0) (v := .int .i64 (R : Int)) rfl; clear hs W3)
   | (go_at_call 86; (with_reducible refine (rwuint p R _ _ _ W4.out.at_ ?_ ?_).mono ?_); omega; (have := uintB_len10 (n := 1) (by decide); rw [List.length_append]; simp; omega); rintro e w5 ⟨v5, rfl, hs⟩; have W5 := Lib.hid (W4.out.step hs); have r5 := (K2.out.of_block (W5.out.bel.block _ K2.out.lt)).cell (i := 1) (v := .int .i64 (D : Int)) rfl; clear hs W4)
   | (go_at_call 86; (with_reducible refine (rwuint p D _ _ _ W5.out.at_ ?_ ?_).mono ?_); omega; (have := uintB_len10 (n := 1) (by decide); have := uintB_len10 (n := R) (by omega); rw [List.length_append, List.length_append]; simp; omega); rintro e w6 ⟨v6, rfl, hs⟩; have W6 := Lib.hid (W5.out.step hs); clear hs W5)
   | (go_at_call 87; (with_reducible refine (rshort p _ _ _ W6.out.at_ ?_ ?_).mono ?_); (have := uintB_pos D; rw [List.length_append]; omega); (rw [← HE.out]; omega); rintro e w7 hp; have hp := W6.out.post hp; rw [← HE.out] at hp; have HP := Lib.hid hp; obtain ⟨vo, rfl, _, _⟩ := hp; clear W6))
  go_returns
  exact HP.out.trans HB2.out
set_option maxRecDepth 100000 in
set_option maxHeartbeats 2000000 in
theorem racc_P (r d k : Int) (v : ByteArray) (w : World) (hv : v.size ≤ 1000000) : Calls Tryz.prog 20 #[balV r d, .int .i64 k, .string v] w (PostB w (okB r d && slB k) (accB r d k v)) := by
 have hb0 := box_below w (.cells #[.int .i64 r, .int .i64 d] 24)
 have HB0 := Lib.hid hb0
 have KB := Lib.hid (Blk.new w 24 #[.int .i64 r, .int .i64 d])
 have HG := Lib.hid (rgood_any r d (w.alloc (.cells #[.int .i64 r, .int .i64 d] 24)))
 cases h : okB r d
 ·rw [h] at HG
  clear hb0
  go_enter Tryz.func20, Tryz.ntmps20
  go_wp2_with (go_at_call 84; refine HG.out.mono ?_; rintro e w2 ⟨rfl, hb⟩; have HB2 := Lib.hid (bchain HB0.out hb); clear hb)
  go_returns
  exact PostB.no HB2.out
 ·rw [h] at HG
  cases hs : slB k
  ·have HSL : Hid (∀ w, Calls Tryz.prog 88 #[.int .i64 k] w fun e w' => e = .returned (.bool false) ∧ w = w') := fun w => by
    have := risSlot k w
    rwa [show decide (0 ≤ k ∧ k < 4096) = false from hs] at this
   clear hb0
   go_enter Tryz.func20, Tryz.ntmps20
   go_wp2_with (first
    | (go_at_call 84; refine HG.out.mono ?_; rintro e w2 ⟨rfl, hb⟩; have HB2 := Lib.hid (bchain HB0.out hb); clear hb)
    | (go_at_call 88; refine (HSL.out _).mono ?_; rintro e w3 ⟨rfl, rfl⟩))
   go_returns
   exact PostB.no HB2.out
  have hk := (okB_iff r d).1 h
  have hsl : 0 ≤ k ∧ k < 4096 := of_decide_eq_true hs
  have HSL : Hid (∀ w, Calls Tryz.prog 88 #[.int .i64 k] w fun e w' => e = .returned (.bool true) ∧ w = w') := fun w => by
   have := risSlot k w
   rwa [show decide (0 ≤ k ∧ k < 4096) = true from hs] at this
  obtain ⟨R, rfl⟩ := Int.eq_ofNat_of_zero_le (show 0 ≤ r by omega)
  obtain ⟨D, rfl⟩ := Int.eq_ofNat_of_zero_le hk.2.2.1
  obtain ⟨K, rfl⟩ := Int.eq_ofNat_of_zero_le hsl.1
  have hwr : IntKind.u64.wrap (R : Int) = (R : Int) := by rw [IntKind.wrap_u64]; omega
  have hwd : IntKind.u64.wrap (D : Int) = (D : Int) := by rw [IntKind.wrap_u64]; omega
  have hwk : IntKind.u64.wrap (K : Int) = (K : Int) := by rw [IntKind.wrap_u64]; omega
  have hvl : v.data.toList.length = v.size := by simp
  have hu10 := uintB_len10 (n := v.size) (by omega)
  have HE : Hid (accB (R : Int) (D : Int) (K : Int) v = (((([] ++ uintB 2) ++ uintB R) ++ uintB D) ++ uintB K) ++ textB v.data.toList) := by show _ = _; simp [accB, valB, uintsB]
  have HEL : Hid (0 < (accB (R : Int) (D : Int) (K : Int) v).length ∧ (accB (R : Int) (D : Int) (K : Int) v).length ≤ 100000000) := by
   rw [Hid, HE.out]
   have := uintB_len10 (n := 2) (by decide)
   have := uintB_len10 (n := R) (by omega)
   have := uintB_len10 (n := D) (by omega)
   have := uintB_len10 (n := K) (by omega)
   have := uintB_pos K
   simp only [List.length_append, textB, hvl, List.length_nil]
   omega
  clear hb0 hs h
  go_enter Tryz.func20, Tryz.ntmps20
  go_wp2_with (first
   | (go_at_call 84; refine HG.out.mono ?_; rintro e w2 ⟨rfl, hb⟩; have HB2 := Lib.hid (bchain HB0.out hb); have K2 := Lib.hid (KB.out.of_block (hb.block _ KB.out.lt)); clear hb)
   | (go_at_call 88; refine (HSL.out _).mono ?_; rintro e w3 ⟨rfl, rfl⟩)
   | (go_at_call 85; refine (rwnew _).mono ?_; rintro e w3 ⟨p, rfl, hr, hlo, hb⟩; have W3 := Lib.hid (show RwB w2 w3 p _ _ from ⟨hr, hb, hlo⟩); clear hr hb hlo)
   | (go_at_call 86; (with_reducible refine (rwuintc p 2 2 rfl _ _ _ W3.out.at_ ?_ ?_).mono ?_); decide; (show 0 ≤ 100000000; omega); rintro e w4 ⟨v4, rfl, hs⟩; have W4 := Lib.hid (W3.out.step hs); have r4 := (K2.out.of_block (W4.out.bel.block _ K2.out.lt)).cell (i := 0) (v := .int .i64 (R : Int)) rfl; clear hs W3)
   | (go_at_call 86; (with_reducible refine (rwuint p R _ _ _ W4.out.at_ ?_ ?_).mono ?_); omega; (have := uintB_len10 (n := 2) (by omega); rw [List.length_append]; simp; omega); rintro e w5 ⟨v5, rfl, hs⟩; have W5 := Lib.hid (W4.out.step hs); have r5 := (K2.out.of_block (W5.out.bel.block _ K2.out.lt)).cell (i := 1) (v := .int .i64 (D : Int)) rfl; clear hs W4)
   | (go_at_call 86; (with_reducible refine (rwuint p D _ _ _ W5.out.at_ ?_ ?_).mono ?_); omega; (have := uintB_len10 (n := 2) (by omega); have := uintB_len10 (n := R) (by omega); rw [List.length_append, List.length_append]; simp; omega); rintro e w6 ⟨v6, rfl, hs⟩; have W6 := Lib.hid (W5.out.step hs); clear hs W5)
   | (go_at_call 86; (with_reducible refine (rwuint p K _ _ _ W6.out.at_ ?_ ?_).mono ?_); omega; (have := uintB_len10 (n := 2) (by omega); have := uintB_len10 (n := R) (by omega); have := uintB_len10 (n := D) (by omega); rw [List.length_append, List.length_append, List.length_append]; simp; omega); rintro e w7 ⟨v7, rfl, hs⟩; have W7 := Lib.hid (W6.out.step hs); clear hs W6)
   | (go_at_call 89; (with_reducible refine (rwtext p _ _ v _ W7.out.at_ ?_ ?_).mono ?_); omega; (have := uintB_len10 (n := 2) (by decide); have := uintB_len10 (n := R) (by omega); have := uintB_len10 (n := D) (by omega); have := uintB_len10 (n := K) (by omega); rw [List.length_append, List.length_append, List.length_append, List.length_append]; simp; omega); rintro e w8 ⟨v8, rfl, hs⟩; have W8 := Lib.hid (W7.out.step hs); clear hs W7)
   | (go_at_call 87; (with_reducible refine (rshort p _ _ _ W8.out.at_ ?_ ?_).mono ?_); (rw [← HE.out]; exact HEL.out.1); (rw [← HE.out]; exact HEL.out.2); rintro e w9 hp; have hp := W8.out.post hp; rw [← HE.out] at hp; have HP := Lib.hid hp; obtain ⟨vo, rfl, _, _⟩ := hp; clear W8))
  go_returns
  exact HP.out.trans HB2.out
set_option maxRecDepth 100000 in
set_option maxHeartbeats 2000000 in
theorem rcho_P (k : Int) (v : ByteArray) (w : World) (hv : v.size ≤ 1000000) : Calls Tryz.prog 21 #[.int .i64 k, .string v] w (PostB w (slB k) (choB k v)) := by
 cases hs : slB k
 ·have HSL : Hid (∀ w, Calls Tryz.prog 88 #[.int .i64 k] w fun e w' => e = .returned (.bool false) ∧ w = w') := fun w => by
   have := risSlot k w
   rwa [show decide (0 ≤ k ∧ k < 4096) = false from hs] at this
  go_enter Tryz.func21, Tryz.ntmps21
  go_wp2_with (go_at_call 88; refine (HSL.out _).mono ?_; rintro e w3 ⟨rfl, rfl⟩)
  go_returns
  exact PostB.no (Below.refl _ _)
 have hsl : 0 ≤ k ∧ k < 4096 := of_decide_eq_true hs
 have HSL : Hid (∀ w, Calls Tryz.prog 88 #[.int .i64 k] w fun e w' => e = .returned (.bool true) ∧ w = w') := fun w => by
  have := risSlot k w
  rwa [show decide (0 ≤ k ∧ k < 4096) = true from hs] at this
 obtain ⟨K, rfl⟩ := Int.eq_ofNat_of_zero_le hsl.1
 have hwk : IntKind.u64.wrap (K : Int) = (K : Int) := by rw [IntKind.wrap_u64]; omega
 have hvl : v.data.toList.length = v.size := by simp
 have hu10 := uintB_len10 (n := v.size) (by omega)
 have HE : Hid (choB (K : Int) v = (([] ++ uintB 3) ++ uintB K) ++ textB v.data.toList) := by show _ = _; simp [choB, valB, uintsB]
 have HEL : Hid (0 < (choB (K : Int) v).length ∧ (choB (K : Int) v).length ≤ 100000000) := by
  rw [Hid, HE.out]
  have := uintB_len10 (n := 3) (by decide)
  have := uintB_len10 (n := K) (by omega)
  have := uintB_pos K
  simp only [List.length_append, textB, hvl, List.length_nil]
  omega
 clear hs
 go_enter Tryz.func21, Tryz.ntmps21
 go_wp2_with (first
  | (go_at_call 88; refine (HSL.out _).mono ?_; rintro e w3 ⟨rfl, rfl⟩)
  | (go_at_call 85; refine (rwnew _).mono ?_; rintro e w3 ⟨p, rfl, hr, hlo, hb⟩; have W3 := Lib.hid (show RwB w w3 p _ _ from ⟨hr, hb, hlo⟩); clear hr hb hlo)
  | (go_at_call 86; (with_reducible refine (rwuintc p 3 3 rfl _ _ _ W3.out.at_ ?_ ?_).mono ?_); decide; (show 0 ≤ 100000000; omega); rintro e w4 ⟨v4, rfl, hs⟩; have W4 := Lib.hid (W3.out.step hs); clear hs W3)
  | (go_at_call 86; (with_reducible refine (rwuint p K _ _ _ W4.out.at_ ?_ ?_).mono ?_); omega; (have := uintB_len10 (n := 3) (by omega); rw [List.length_append]; simp; omega); rintro e w5 ⟨v5, rfl, hs⟩; have W5 := Lib.hid (W4.out.step hs); clear hs W4)
  | (go_at_call 89; (with_reducible refine (rwtext p _ _ v _ W5.out.at_ ?_ ?_).mono ?_); omega; (have := uintB_len10 (n := 3) (by decide); have := uintB_len10 (n := K) (by omega); rw [List.length_append, List.length_append]; simp; omega); rintro e w8 ⟨v8, rfl, hs⟩; have W8 := Lib.hid (W5.out.step hs); clear hs W5)
  | (go_at_call 87; (with_reducible refine (rshort p _ _ _ W8.out.at_ ?_ ?_).mono ?_); (rw [← HE.out]; exact HEL.out.1); (rw [← HE.out]; exact HEL.out.2); rintro e w9 hp; have hp := W8.out.post hp; rw [← HE.out] at hp; have HP := Lib.hid hp; obtain ⟨vo, rfl, _, _⟩ := hp; clear W8))
 go_returns
 exact HP.out
end Go.Proofs.YtlfikhblmbidmaaGreatDoor